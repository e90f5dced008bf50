/- Lemmas of the proof, part 2: what the functions of the program do (contracts), and what follows. -/
import Derived.Test.YtjecflbbcnocdaaGreatDoorZ1
import Derived.Laws.IdiomStrings
import Derived.Recover
namespace Go.Lir

theorem SlR.turn {H H' : Heap} {es : Nat} {v : Value} {F G : Nat → Prop} {css : List (List Value)} (h : SlR H es v F css) (hs : ∀ b, F b → b < H.size → G b ∧ H'[b]? = H[b]?) : SlR H' es v G css := by
  obtain ⟨h0, a, cap, hv, hlc, hc | ⟨b, off, ha, hF, hb, hat⟩⟩ := h
  · exact ⟨h0, a, cap, hv, hlc, .inl hc⟩
  · obtain ⟨h1, h2⟩ := hs b hF hb
    refine ⟨h0, a, cap, hv, hlc, .inr ⟨b, off, ha, h1, ?_, fun m c hm => (hat m c hm).of_same h2⟩⟩
    rcases Nat.lt_or_ge b H'.size with h | h
    · exact h
    · rw [Array.getElem?_eq_none h, Array.getElem?_eq_getElem hb] at h2; cases h2

/-- A kind of data: what cells (that lie in K, and what they lead to) say. -/
structure Rep (α : Type) where
  es : Nat
  pos : 0 < es
  R : Heap → (Nat → Prop) → List Value → α → Prop
  len : ∀ {H : Heap} {K : Nat → Prop} {cs : List Value} {x : α}, R H K cs x → cs.length = es
  one : ∀ {H : Heap} {K : Nat → Prop} {cs : List Value} {x : α}, R H K cs x → ∀ u ∈ cs, oneC u = true
  turn : ∀ {H H' : Heap} {K K' : Nat → Prop} {cs : List Value} {x : α}, R H K cs x → (∀ b, K b → b < H.size → K' b ∧ H'[b]? = H[b]?) → R H' K' cs x

section
variable {α β : Type}
/-- Rows of cells that are the parts of a list. -/
def Rep.LR (r : Rep α) (H : Heap) (K : Nat → Prop) (css : List (List Value)) (l : List α) : Prop := css.length = l.length ∧ ∀ (m : Nat) (x : α), l[m]? = some x → ∃ d, css[m]? = some d ∧ r.R H K d x
/-- A slice that reads as the list. -/
def Rep.SR (r : Rep α) (H : Heap) (K : Nat → Prop) (v : Value) (l : List α) : Prop := ∃ css, SlR H r.es v K css ∧ r.LR H K css l ∧ l.length ≤ 140737488355328
theorem Rep.LR.turn {r : Rep α} {H H' : Heap} {K K' : Nat → Prop} {css : List (List Value)} {l : List α} (h : r.LR H K css l) (hs : ∀ b, K b → b < H.size → K' b ∧ H'[b]? = H[b]?) : r.LR H' K' css l :=
  ⟨h.1, fun m x hx => by obtain ⟨d, h1, h2⟩ := h.2 m x hx; exact ⟨d, h1, r.turn h2 hs⟩⟩
theorem Rep.SR.turn {r : Rep α} {H H' : Heap} {K K' : Nat → Prop} {v : Value} {l : List α} (h : r.SR H K v l) (hs : ∀ b, K b → b < H.size → K' b ∧ H'[b]? = H[b]?) : r.SR H' K' v l := by
  obtain ⟨css, h1, h2, h3⟩ := h
  exact ⟨css, h1.turn hs, h2.turn hs, h3⟩
theorem Rep.LR.nil (r : Rep α) (H : Heap) (K : Nat → Prop) : r.LR H K [] [] := ⟨rfl, by simp⟩
theorem Rep.LR.push {r : Rep α} {H : Heap} {K : Nat → Prop} {css : List (List Value)} {l : List α} {d : List Value} {x : α} (h : r.LR H K css l) (hd : r.R H K d x) : r.LR H K (css ++ [d]) (l ++ [x]) := by
  refine ⟨by simp [h.1], fun m y hy => ?_⟩
  rcases Nat.lt_or_ge m l.length with hm | hm
  · rw [List.getElem?_append_left hm] at hy
    rw [List.getElem?_append_left (by rw [h.1]; exact hm)]
    exact h.2 m y hy
  · rw [List.getElem?_append_right hm] at hy
    rw [List.getElem?_append_right (by rw [h.1]; exact hm), h.1]
    obtain ⟨i, hi⟩ : ∃ i, m - l.length = i := ⟨_, rfl⟩
    rw [hi] at hy ⊢
    cases i with
    | zero => simp only [List.getElem?_cons_zero, Option.some.injEq] at hy; subst hy; exact ⟨d, rfl, hd⟩
    | succ i => simp at hy
theorem Rep.LR.append {r : Rep α} {H : Heap} {K : Nat → Prop} {css css2 : List (List Value)} {l l2 : List α} (h : r.LR H K css l) (h2 : r.LR H K css2 l2) : r.LR H K (css ++ css2) (l ++ l2) := by
  refine ⟨by simp [h.1, h2.1], fun m y hy => ?_⟩
  rcases Nat.lt_or_ge m l.length with hm | hm
  · rw [List.getElem?_append_left hm] at hy
    rw [List.getElem?_append_left (by rw [h.1]; exact hm)]
    exact h.2 m y hy
  · rw [List.getElem?_append_right hm] at hy
    rw [List.getElem?_append_right (by rw [h.1]; exact hm), h.1]
    exact h2.2 _ y hy
theorem Rep.LR.set {r : Rep α} {H : Heap} {K : Nat → Prop} {css : List (List Value)} {l : List α} {d : List Value} {x : α} {i : Nat} (h : r.LR H K css l) (hd : r.R H K d x) : r.LR H K (css.set i d) (l.set i x) := by
  refine ⟨by simp [h.1], fun m y hy => ?_⟩
  rw [List.getElem?_set] at hy ⊢
  by_cases he : i = m
  · rw [if_pos he] at hy ⊢
    rw [h.1]
    split at hy
    · rename_i hm; rw [if_pos hm]; cases hy; exact ⟨d, rfl, hd⟩
    · cases hy
  · rw [if_neg he] at hy ⊢
    exact h.2 m y hy
theorem Rep.LR.sub {r : Rep α} {H : Heap} {K : Nat → Prop} {css : List (List Value)} {l : List α} (h : r.LR H K css l) (i j : Nat) : r.LR H K ((css.take j).drop i) ((l.take j).drop i) := by
  refine ⟨by simp [h.1], fun m y hy => ?_⟩
  rw [List.getElem?_drop] at hy ⊢
  have hlt := (List.getElem?_eq_some_iff.1 hy).1
  rw [List.length_take] at hlt
  rw [List.getElem?_take_of_lt (by omega)] at hy ⊢
  exact h.2 _ y hy
theorem Rep.LR.one {r : Rep α} {H : Heap} {K : Nat → Prop} {css : List (List Value)} {l : List α} (h : r.LR H K css l) : ∀ c ∈ css, ∀ u ∈ c, oneC u = true := by
  intro c hc
  obtain ⟨m, hm⟩ := List.mem_iff_getElem?.1 hc
  have hlt := (List.getElem?_eq_some_iff.1 hm).1
  obtain ⟨d, h1, h2⟩ := h.2 m _ (List.getElem?_eq_getElem (by rw [← h.1]; exact hlt))
  rw [hm] at h1; cases h1
  exact r.one h2
theorem Rep.SR.oneC {r : Rep α} {H : Heap} {K : Nat → Prop} {v : Value} {l : List α} (h : r.SR H K v l) : Go.Lir.oneC v = true := by
  obtain ⟨css, h1, _⟩ := h; exact SlR.oneC h1
theorem Rep.SR.nil (r : Rep α) (H : Heap) (K : Nat → Prop) : r.SR H K (.slice none 0 0) [] := ⟨[], ⟨by simp, none, 0, rfl, Nat.le_refl _, .inl rfl⟩, .nil r H K, by simp⟩
theorem Rep.SR.len {r : Rep α} {H : Heap} {K : Nat → Prop} {v : Value} {l : List α} (h : r.SR H K v l) : l.length ≤ 140737488355328 := by obtain ⟨_, _, _, h⟩ := h; exact h
theorem Rep.SR.shape {r : Rep α} {H : Heap} {K : Nat → Prop} {v : Value} {l : List α} (h : r.SR H K v l) : ∃ a c, v = .slice a l.length c := by
  obtain ⟨css, h1, h2, _⟩ := h
  obtain ⟨a, c, hv⟩ := SlR.shape h1
  exact ⟨a, c, by rw [← h2.1]; exact hv⟩

def Rep.lit (f : α → Value) (hf : ∀ x, oneC (f x) = true) : Rep α where
  es := 1
  pos := by decide
  R := fun _ _ cs x => cs = [f x]
  len := by rintro _ _ _ _ rfl; rfl
  one := by rintro _ _ _ x rfl u hu; simp at hu; subst hu; exact hf x
  turn := fun h _ => h
def intR : Rep Int := Rep.lit (fun n => .int .i64 n) (fun _ => rfl)
def strR : Rep ByteArray := Rep.lit (fun b => .string b) (fun _ => rfl)
def Rep.list (r : Rep α) : Rep (List α) where
  es := 1
  pos := by decide
  R := fun H K cs l => ∃ v, cs = [v] ∧ r.SR H K v l
  len := by rintro _ _ _ _ ⟨v, rfl, _⟩; rfl
  one := by rintro _ _ _ _ ⟨v, rfl, h⟩ u hu; simp at hu; subst hu; exact h.oneC
  turn := by rintro _ _ _ _ _ _ ⟨v, rfl, h⟩ hs; exact ⟨v, rfl, h.turn hs⟩
def Rep.and (r : Rep α) (p : α → Prop) : Rep α where
  es := r.es
  pos := r.pos
  R := fun H K cs x => r.R H K cs x ∧ p x
  len := fun h => r.len h.1
  one := fun h => r.one h.1
  turn := fun h hs => ⟨r.turn h.1 hs, h.2⟩
def tyR : Rep Ty where
  es := 3
  pos := by decide
  R := fun H K cs t => ∃ n, tyRd H K n cs t
  len := by rintro _ _ _ _ ⟨n, h⟩; exact h.len
  one := by
    rintro _ _ _ _ ⟨n, h⟩
    cases n with
    | zero => exact h.elim
    | succ n =>
      obtain ⟨v, css, rfl, h2, _⟩ := h
      intro u hu; simp at hu
      rcases hu with rfl | rfl | rfl
      · rfl
      · rfl
      · exact SlR.oneC h2
  turn := by rintro _ _ _ _ _ _ ⟨n, h⟩ hs; exact ⟨n, h.turn fun v css hv => hv.turn hs⟩
theorem Q1c {H : Heap} {K : Nat → Prop} {cs : List Value} {t : Ty} (h : tyR.R H K cs t) : ∃ v, cs = [.int .i64 t.kind, .int .i64 t.r, v] ∧ tyR.SR H K v t.l := by
  obtain ⟨n, h⟩ := h
  cases n with
  | zero => exact h.elim
  | succ n =>
    obtain ⟨v, css, h1, h2, h3, h4, h5⟩ := h
    exact ⟨v, h1, css, h2, ⟨h3, fun m x hx => by obtain ⟨d, h6, h7⟩ := h5 m x hx; exact ⟨d, h6, n, h7⟩⟩, h4⟩
theorem Q2q {H : Heap} {K : Nat → Prop} {k r : Int} {v : Value} {l : List Ty} (h : tyR.SR H K v l) : tyR.R H K [.int .i64 k, .int .i64 r, v] (.mk k r l) := by
  obtain ⟨css, h1, h2, h3⟩ := h
  obtain ⟨n, hn⟩ := QpW (xs := List.range l.length) (R := fun n m => ∀ x, l[m]? = some x → ∃ d, css[m]? = some d ∧ tyRd H K n d x) (fun n m i hnm hr x hx => by obtain ⟨d, h1, h2⟩ := hr x hx; exact ⟨d, h1, h2.more hnm⟩) (fun m hm => by
    have hlt := List.mem_range.1 hm
    obtain ⟨d, h4, n, h5⟩ := h2.2 m _ (List.getElem?_eq_getElem hlt)
    exact ⟨n, fun x hx => by rw [List.getElem?_eq_getElem hlt] at hx; cases hx; exact ⟨d, h4, h5⟩⟩)
  exact ⟨n + 1, v, css, rfl, h1, h2.1, h3, fun m x hx => hn m (List.mem_range.2 (List.getElem?_eq_some_iff.1 hx).1) x hx⟩

/-! what is only read -/
abbrev Rep.at (r : Rep α) (c : Cx) (cs : List Value) (x : α) : Prop := r.R c.H0 c.K cs x
abbrev Rep.sl (r : Rep α) (c : Cx) (v : Value) (l : List α) : Prop := r.SR c.H0 c.K v l
abbrev Rep.ls (r : Rep α) (c : Cx) (css : List (List Value)) (l : List α) : Prop := r.LR c.H0 c.K css l
theorem Cx.Le.turn {c c' : Cx} (h : c.Le c') : ∀ b, c.K b → b < c.H0.size → c'.K b ∧ c'.H0[b]? = c.H0[b]? := fun b hb _ => h.K b hb
theorem Rep.R.up {r : Rep α} {c c' : Cx} {cs : List Value} {x : α} (h : r.at c cs x) (hle : c.Le c') : r.at c' cs x := r.turn h hle.turn
theorem Rep.SR.up {r : Rep α} {c c' : Cx} {v : Value} {l : List α} (h : r.sl c v l) (hle : c.Le c') : r.sl c' v l := Rep.SR.turn h hle.turn
theorem Rep.LR.up {r : Rep α} {c c' : Cx} {v : List (List Value)} {l : List α} (h : r.ls c v l) (hle : c.Le c') : r.ls c' v l := Rep.LR.turn h hle.turn
/-- From here on an own list is only read. -/
theorem St.freezeL {r : Rep α} {c : Cx} {w : World} {L : List Res} {T : TypeId} {es : Nat} {v : Value} {css : List (List Value)} {l : List α} (h : St c w (sl T es v css :: L)) (hl : r.ls c css l) (hes : r.es = es) (hm : l.length ≤ 140737488355328) : ∃ c', c.Le c' ∧ St c' w L ∧ r.sl c' v l := by
  subst hes
  obtain ⟨c', h1, h2, h3⟩ := h.freezeS
  exact ⟨c', h1, h2, css, h3, hl.up h1, hm⟩
theorem Rep.SR.ints {c : Cx} {v : Value} {l : List Int} (h : intR.sl c v l) : FzS c 1 v (l.map icell) := by
  obtain ⟨css, h1, h2, h3⟩ := h
  have : css = l.map icell := by
    apply List.ext_getElem?
    intro m
    rw [List.getElem?_map]
    rcases Nat.lt_or_ge m l.length with hm | hm
    · obtain ⟨d, h4, h5⟩ := h2.2 m _ (List.getElem?_eq_getElem hm)
      have h5 : d = [_] := h5
      rw [h4, List.getElem?_eq_getElem hm, h5]; rfl
    · rw [List.getElem?_eq_none (by rw [h2.1]; exact hm), List.getElem?_eq_none hm]; rfl
  rw [this] at h1; exact h1
theorem FzS.ints {c : Cx} {v : Value} {l : List Int} (h : FzS c 1 v (l.map icell)) (hm : l.length ≤ 140737488355328) : intR.sl c v l :=
  ⟨_, h, ⟨by simp, fun m x hx => ⟨icell x, by rw [List.getElem?_map, hx]; rfl, rfl⟩⟩, hm⟩

section
variable {P : Program} {l : List GO} {Q : QT} {ρ : Env} {w : World} {c : Cx} {L : List Res} {r : Rep α} {xs : List α} {v : Value} {es : Nat}
theorem QN {d m : Nat} {x y : Operand} {k : IntKind} (hx : ρ.ev x = v) (hy : ρ.ev y = .int k (m : Int)) (hK : r.sl c v xs) (hes : r.es = es) (hn : m < xs.length)
    (h : ∀ b o cs a, AtK c b o cs → xs[m]? = some a → r.at c cs a → Q2 P l Q (upd ρ d (.pointer (some ⟨b, o, none⟩))) w) : Q2 P (⟨none, .idx d es x y⟩ :: l) Q ρ w := by
  subst hes
  obtain ⟨css, h1, h2, h3⟩ := hK
  obtain ⟨cs, h4, h5⟩ := h2.2 m _ (List.getElem?_eq_getElem hn)
  exact s_idxK (m := m) hx hy h1 h4 fun b o hb => h b o cs _ hb (List.getElem?_eq_getElem hn) h5
theorem Q4 {l : List α} {m : Nat} {x : α} (h : l[m]? = some x) : l.drop m = x :: l.drop (m + 1) := by
  obtain ⟨hm, rfl⟩ := List.getElem?_eq_some_iff.1 h
  exact List.drop_eq_getElem_cons hm
theorem QnV {l : List α} {m : Nat} {x : α} (h : l[m]? = some x) : l.take (m + 1) = l.take m ++ [x] := by
  rw [List.take_add_one, h]; rfl
theorem Qgk {cs : List Value} {n : Int} (h : intR.at c cs n) : cs = [.int .i64 n] := h
theorem QrY : ∀ {L : List Res} {i : Nat} {a a' : Res}, nth L i = some a → nth (L.set i a') i = some a'
  | [], _, _, _, h => by cases h
  | _ :: _, 0, _, _, _ => rfl
  | _ :: L, i + 1, _, _, h => QrY (L := L) (i := i) h
/-- append of one element that was just built. -/
theorem s_appR1 {T T' d Ts Ts2 Ty nb i k b : Nat} {z : List Value} {x y : Operand} {ds : List Value} {css : List (List Value)} {a : α} (hel : Q4x P Ts = some (T, es, nb, z))
    (hts : ∃ e2, P.underlying Ts2 = some (.slice e2)) (hS : St c w L) (hx : ρ.ev x = v) (hy : ρ.ev y = .slice (some ⟨b, 0, none⟩) 1 1) (hi : nth L i = some (Go.Lir.sl T es v css)) (hk : nth L k = some (blk b T' ds)) (hls : r.ls c css xs) (ha : r.at c ds a) (hes : r.es = es) (hb : (xs.length + 1) * nb ≤ 140737488355328)
    (h : ∀ v' w' css', r.ls c css' (xs ++ [a]) → oneC v' = true → St c w' (L.set i (Go.Lir.sl T es v' css')) → Q2 P l Q (upd ρ d v') w') : Q2 P (⟨none, .raw ⟨some d, .call ⟨.builtin .append, #[x, y], #[Ts, Ts2]⟩, Ty, "", #[], none⟩⟩ :: l) Q ρ w :=
  s_appE hel (.inl hts) hS hx hy hi (hS.srcB hk ((r.len ha).trans hes) (r.one ha)) (by rw [hls.1]; exact hb) fun v' w' hS' => h v' w' _ (hls.push ha) (hS'.oneC (QrY hi)) hS'
/-- A call of a function value, without and with what it holds. -/
theorem QtB {d : Nat} {x : Operand} {os : List Operand} {f : FuncId} {args : List Value} {S : Value → World → Prop} (hx : ρ.ev x = .func (.func f) #[] #[]) (hf : Q3B P f = true) (hxs : os.map ρ.ev = args) (hc : Rets P f args w S)
    (h : ∀ v w', S v w' → Q2 P l Q (upd ρ d v) w') : Q2 P (⟨none, .callv (some d) x os⟩ :: l) Q ρ w := by
  unfold Q3B at hf
  rw [Option.any_eq_true] at hf
  obtain ⟨fn, h1, h2⟩ := hf
  rw [Bool.and_eq_true, Bool.not_eq_true'] at h2
  refine QtJ (cap := []) hx h1 h2.1 h2.2 (by rw [hxs, List.append_nil]) hc ?_
  rintro e w' ⟨v, rfl, hv⟩
  exact h v w' hv
theorem Qox {d : Nat} {x : Operand} {b o : Nat} {cs : List Value} {u : Value} (hS : St c w L) (ha : AtK c b o cs) (hx : ρ.ev x = .pointer (some ⟨b, o, none⟩)) (hu : cs[0]? = some u) : gqv P ρ w ⟨none, .load1 d x⟩ u := Qmo (j := 0) hS ha hx hu
theorem Qlb {d n : Nat} {x : Operand} {b o : Nat} {cs us : List Value} (hS : St c w L) (ha : AtK c b o cs) (hx : ρ.ev x = .pointer (some ⟨b, o, none⟩)) (hu : cs.take n = us) (hl : us.length = n) : gqv P ρ w ⟨none, .loadn d n x⟩ (.agg ⟨us⟩) := Qha (j := 0) hS ha hx hu hl
/-- A whole block is written anew. -/
theorem Qtz {n i b T : Nat} {x y : Operand} {cs us : List Value} (hS : St c w L) (hx : ρ.ev x = .pointer (some ⟨b, 0, none⟩)) (hy : ρ.ev y = .agg ⟨us⟩) (hn : us.length = n) (hi : nth L i = some (blk b T cs)) (hc : cs.length = n) (h1 : ∀ u ∈ us, oneC u = true)
    (h : ∀ w', St c w' (L.set i (blk b T us)) → Q2 P l Q ρ w') : Q2 P (⟨none, .storen n x y⟩ :: l) Q ρ w :=
  Qo1 hS hx hy hn hi (by omega) h1 (by simp; omega) h
theorem Qbe : ∀ {a b : List GO} {Q : QT} {ρ : Env} {w : World}, Q2 P a (QA (Q2 P b Q) Q) ρ w → Q2 P (a ++ b) Q ρ w
  | [], _, _, _, _, h => h
  | ⟨none, o⟩ :: a, b, Q, ρ, w, h => by
    simp only [List.cons_append, Q2] at h ⊢
    exact QaO (fun ρ w h => Qbe h) (fun e ρ w hn h => by cases e <;> first | exact h | exact absurd rfl hn) h
  | ⟨some (s, b'), o⟩ :: a, b, Q, ρ, w, h => by
    simp only [List.cons_append, Q2] at h ⊢
    split
    · rename_i hw
      rw [if_pos hw] at h
      exact QaO (fun ρ w h => Qbe h) (fun e ρ w hn h => by cases e <;> first | exact h | exact absurd rfl hn) h
    · rename_i hw
      rw [if_neg hw] at h
      exact Qbe h
/-- An assertion between two parts of a row of operations. -/
theorem s_cut {l : List GO} (n : Nat) (J : Env → World → Prop) (ha : Q2 P (l.take n) (QA J Q) ρ w) (hb : ∀ ρ w, J ρ w → Q2 P (l.drop n) Q ρ w) : Q2 P l Q ρ w := by
  rw [← List.take_append_drop n l]
  exact Qbe (QcJ (Q80 hb fun _ _ _ h => h) ha)
theorem s_lenL {d : Nat} {x : Operand} (hx : ρ.ev x = v) (hK : r.sl c v xs) (h : Q2 P l Q (upd ρ d (.int .i64 xs.length)) w) : Q2 P (⟨none, .len d x⟩ :: l) Q ρ w := by
  obtain ⟨css, h1, h2, h3⟩ := hK
  exact s_lenKn hx h1 h2.1 h
theorem s_subL {d : Nat} {x : Operand} {lo hi mx : Option Operand} {l' h' : Nat} (hx : ρ.ev x = v) (hK : r.sl c v xs) (hes : r.es = es) (hmx : mx = none) (hh : bnd ρ xs.length hi h') (hl : bnd ρ 0 lo l') (h2 : h' ≤ xs.length) (h3 : l' ≤ h')
    (h : ∀ v', r.sl c v' ((xs.take h').drop l') → Q2 P l Q (upd ρ d v') w) : Q2 P (⟨none, .sub d es x lo hi mx⟩ :: l) Q ρ w := by
  subst hes
  obtain ⟨css, h1, g2, g3⟩ := hK
  exact s_subK hx h1 hmx (by rw [g2.1]; exact hh) hl (by rw [g2.1]; exact h2) h3 fun v' hv => h v' ⟨_, hv, g2.sub _ _, by simp; omega⟩
end
end

/-! ### data that came in -/
section
variable {P : Program} {T e : TypeId} {α β : Type}
/-- What a codec reads, seen as a kind of data. -/
def Cod.rep (c : Cod P T α) (r : Rep β) (hs : c.es = r.es) (h : ∀ (H : Heap) cs x, c.rd H cs x → ∃ y, r.R H (· < H.size) cs y) : Cod P T β where
  es := r.es
  rd := fun H cs y => r.R H (· < H.size) cs y
  size := by rw [← hs]; exact c.size
  len := fun _ _ _ h => r.len h
  stay := fun H H' cs x hx hH => r.turn hx fun b hb hlt => by
    have := hH b hlt
    refine ⟨?_, this⟩
    rcases Nat.lt_or_ge b H'.size with h | h
    · exact h
    · rw [Array.getElem?_eq_none h, Array.getElem?_eq_getElem hlt] at this; cases this
  open_ := fun enc w fuel cs y hy hfit => by
    obtain ⟨x, hx⟩ := c.open_ enc w fuel cs y hy hfit
    exact h _ _ _ hx
/-- A list of a kind of data. -/
theorem list_rd {r : Rep α} {n : Nat} {H : Heap} {cs : List Value} {xs : List α} (hn : r.es = n)
    (h : ∃ v css, cs = [v] ∧ SlR H n v (fun _ => True) css ∧ css.length = xs.length ∧ xs.length ≤ 140737488355328 ∧ ∀ (m : Nat) (x : α), xs[m]? = some x → ∃ d, css[m]? = some d ∧ r.R H (· < H.size) d x) : r.list.R H (· < H.size) cs xs := by
  obtain ⟨v, css, rfl, h1, h2, h3, h4⟩ := h
  subst hn
  exact ⟨v, rfl, css, SlR.mono h1 fun b hb _ => hb, ⟨h2, h4⟩, h3⟩
def Cod.listOf (c : Cod P e β) (r : Rep β) (hs : c.es = r.es) (h : ∀ (H : Heap) cs x, c.rd H cs x → r.R H (· < H.size) cs x) (ht : P.underlying T = some (.slice e)) (h1 : P.cellsOf T = 1) (hby : decide (0 < P.bytesOf e) = true) : Cod P T (List β) :=
  Cod.rep (Cod.slice c ht h1 (by rw [hs]; exact r.pos) hby) r.list rfl fun H cs x hx => ⟨x, list_rd hs.symm (by
    obtain ⟨v, css, g1, g2, g3, g4, g5⟩ := hx
    exact ⟨v, css, g1, g2, g3, g4, fun m y hy => by obtain ⟨d, g6, g7⟩ := g5 m y hy; exact ⟨d, g6, h _ _ _ g7⟩⟩)⟩
/-- A kind of data by itself: the codec's reading is the kind's. -/
structure Cod.Of (P : Program) (T : TypeId) {α : Type} (r : Rep α) where
  cod : Cod P T α
  es : cod.es = r.es
  rd : ∀ (H : Heap) cs x, cod.rd H cs x → r.R H (· < H.size) cs x
def Cod.of (c : Cod P T α) (r : Rep β) (hs : c.es = r.es) (h : ∀ (H : Heap) cs x, c.rd H cs x → ∃ y, r.R H (· < H.size) cs y) : Cod.Of P T r := ⟨Cod.rep c r hs h, rfl, fun _ _ _ h => h⟩
def Cod.Of.list {r : Rep α} (c : Cod.Of P e r) (ht : P.underlying T = some (.slice e)) (h1 : P.cellsOf T = 1) (hby : decide (0 < P.bytesOf e) = true) : Cod.Of P T r.list := ⟨Cod.listOf c.cod r c.es c.rd ht h1 hby, rfl, fun _ _ _ h => h⟩
def Cod.Of.int (ht : P.underlying T = some (.int .i64)) (hs : P.cellsOf T = 1) : Cod.Of P T intR := Cod.of (Cod.int .i64 ht hs) intR rfl fun _ _ x h => ⟨x, h.1⟩
def Cod.Of.ty {TL t0 t1 : TypeId} (h0 : fieldAt P T 0 = some (0, 1, t0)) (h1 : fieldAt P T 1 = some (1, 1, t1)) (h2 : fieldAt P T 2 = some (2, 1, TL)) (hi0 : P.underlying t0 = some (.int .i64)) (hi1 : P.underlying t1 = some (.int .i64)) (hT : P.cellsOf T = 3) (hTL : P.underlying TL = some (.slice T)) (hby : decide (0 < P.bytesOf T) = true) : Cod.Of P T tyR :=
  ⟨Cod.ty h0 h1 h2 hi0 hi1 hT hTL hby, rfl, fun _ _ _ h => h⟩
theorem Cod.Of.top {r : Rep α} (c : Cod.Of P T r) {w : World} {cs : List Value} {x : α} (h : c.cod.rd w.heap cs x) : r.at (Cx.top w) cs x := c.rd _ _ _ h
end
end Go.Lir
namespace Go.Lir
def QnU (b : UInt8) : List Value := [.int .u8 (b.toNat : Int)]
def u8R : Rep UInt8 := Rep.lit (fun b => .int .u8 (b.toNat : Int)) (fun _ => rfl)
theorem u8R_out {c : Cx} {cs : List Value} {b : UInt8} (h : u8R.at c cs b) : cs = [.int .u8 (b.toNat : Int)] := h
theorem u8R_ls {c : Cx} (l : List UInt8) : u8R.ls c (l.map QnU) l := ⟨by simp, fun m x hx => ⟨QnU x, by rw [List.getElem?_map, hx]; rfl, rfl⟩⟩
theorem Rep.LR.u8 {r : Rep UInt8} {H : Heap} {K : Nat → Prop} {css : List (List Value)} {l : List UInt8} (hr : r = u8R) (h : r.LR H K css l) : css = l.map QnU := by
  subst hr
  apply List.ext_getElem?
  intro m
  rw [List.getElem?_map]
  rcases Nat.lt_or_ge m l.length with hm | hm
  · obtain ⟨d, h4, h5⟩ := h.2 m _ (List.getElem?_eq_getElem hm)
    have h5 : d = [_] := h5
    rw [h4, List.getElem?_eq_getElem hm, h5]; rfl
  · rw [List.getElem?_eq_none (by rw [h.1]; exact hm), List.getElem?_eq_none hm]; rfl
section
variable {P : Program} {l : List GO} {Q : QT} {ρ : Env} {w : World} {c : Cx} {L : List Res} {v : Value}
theorem Qpw (s : List UInt8) : (s.map QnU).flatten = s.map fun b => Value.int .u8 (b.toNat : Int) := by
  induction s with
  | nil => rfl
  | cons b s ih => simp [QnU, ih]
/-- []byte(s) -/
theorem s_bytes {d src dst e Ty : Nat} {x : Operand} {s : ByteArray} (hs : P.underlying src = some .string) (hd : P.underlying dst = some (.slice e)) (he : P.underlying e = some (.int .u8)) (hS : St c w L) (hx : ρ.ev x = .string s)
    (h : ∀ v' w', St c w' (sl e 1 v' (s.data.toList.map QnU) :: L) → Q2 P l Q (upd ρ d v') w') : Q2 P (⟨none, .raw ⟨some d, .convert src dst x, Ty, "", #[], none⟩⟩ :: l) Q ρ w := by
  have hr := run_bytes_of_string (P := P) w src dst e s hs hd he
  have hge := grownCap_ge w s.size 0 e
  generalize hcap : grownCap w s.size 0 e = cap at hr hge
  refine Q14 (v := .slice (some ⟨w.heap.size, 0, none⟩) s.size cap) (w' := w.drew.alloc (.cells (bytesRow s cap) e ((bytesRow s cap).size, (bytesRow s cap).size + 1))) ?_ ?_
  · simp only [execOp, hx, Sem.run_bind, hr, Result.andThen_ok, Sem.run_pure]
  · have hsz : s.data.size = s.size := rfl
    have hrow : (bytesRow s cap).size = cap := by simp [bytesRow]; omega
    refine h _ _ (hS.new (F' := (· = w.heap.size)) ?_ (((Fr.refl NF w).drew').then0 (Qbk w.drew _)) fun b hb => by omega)
    refine ⟨by intro q hq; obtain ⟨b, _, rfl⟩ := List.mem_map.1 hq; rfl, .inr ⟨w.heap.size, 0, cap, (bytesRow s cap).toList, ?_, ?_, ?_, ?_, ?_, fun _ => Iff.rfl⟩⟩
    · have : (List.map QnU s.data.toList).length = s.size := by rw [List.length_map, Array.length_toList]; rfl
      rw [this]
    · have : (List.map QnU s.data.toList).length = s.size := by rw [List.length_map, Array.length_toList]; rfl
      rw [this]; exact hge
    · refine ⟨((bytesRow s cap).size, (bytesRow s cap).size + 1), ?_, ?_⟩
      · show (w.heap.push _)[w.heap.size]? = _
        rw [Array.getElem?_push_size]
      · refine ⟨fun i h1 h2 => ?_, by simp⟩
        simp only [Array.length_toList] at *; omega
    · simp [hrow]
    · intro i hi
      rw [Qpw]
      simp only [List.length_map, Array.length_toList, Nat.mul_one] at hi
      rw [Nat.zero_add, Array.getElem?_toList, bytesRow_at s cap i hi, List.getElem?_map, Array.getElem?_toList, Array.getElem?_eq_getElem hi]; rfl
/-- A part of an array that is a value. -/
theorem Qo4 {d T Ty e n : Nat} {x y : Operand} {k : IntKind} {m : Int} {cs : List Value} {u : Value} (hT : P.underlying T = some (.array n e)) (he : Q4h P e = true) (hsz : Q4P P e = some 1) (hx : ρ.ev x = .agg ⟨cs⟩) (hy : ρ.ev y = .int k m) (h0 : 0 ≤ m) (hm : m < n) (hu : cs[m.toNat]? = some u)
    (h : Q2 P l Q (upd ρ d u) w) : Q2 P (⟨none, .raw ⟨some d, .index T x y, Ty, "", #[], none⟩⟩ :: l) Q ρ w := by
  refine Q14 (v := u) (w' := w) ?_ h
  simp only [execOp, hx, hy, Instr.index, Sem.run_bind, asIntOf, Sem.run_pure, Result.andThen_ok, Qd P T _ w hT]
  rw [if_pos ⟨h0, hm⟩]
  simp only [Sem.run_bind, Q1d P e 1 w hsz, Result.andThen_ok, Nat.mul_one, QlV P e ⟨cs⟩ _ _ w he (by simpa using hu)]
end
end Go.Lir
namespace Go.Lir

/-! ### A call that returns, or panics with one value -/

def Fins (P : Program) (f : FuncId) (args : List Value) (w : World) (S T : Value → World → Prop) : Prop :=
  Calls P f ⟨args⟩ w fun e w' => (∃ v, e = .returned v ∧ S v w') ∨ (∃ v, e = .panicked [{ v := v, recovered := false }] ∧ T v w')

theorem Fins.mono {P : Program} {f : FuncId} {args : List Value} {w : World} {S S' T T' : Value → World → Prop} (h : Fins P f args w S T) (hs : ∀ v w', S v w' → S' v w') (ht : ∀ v w', T v w' → T' v w') : Fins P f args w S' T' :=
  Calls.mono h fun _ _ h => h.elim (fun ⟨v, he, hv⟩ => .inl ⟨v, he, hs _ _ hv⟩) (fun ⟨v, he, hv⟩ => .inr ⟨v, he, ht _ _ hv⟩)
theorem Rets.ends {P : Program} {f : FuncId} {args : List Value} {w : World} {S T : Value → World → Prop} (h : Rets P f args w S) : Fins P f args w S T :=
  Calls.mono h fun _ _ h => .inl h
section
variable {P : Program} {l : List GO} {Q : QT} {ρ : Env} {w : World}
theorem QrH {d : Nat} {f : FuncId} {xs : List Operand} {args : List Value} {S T : Value → World → Prop} (hxs : xs.map ρ.ev = args) (hc : Fins P f args w S T)
    (hp : ∀ v w', T v w' → Q (.panic [{ v := v, recovered := false }]) ρ w') (h : ∀ v w', S v w' → Q2 P l Q (upd ρ d v) w') : Q2 P (⟨none, .call (some d) f xs⟩ :: l) Q ρ w := by
  subst hxs
  refine Calls.mono hc fun e w' h' => ?_
  rcases h' with ⟨v, he, hs⟩ | ⟨v, he, hs⟩
  · subst he; exact h v w' hs
  · subst he; exact hp v w' hs
theorem s_mkb {d : Nat} {Ty : TypeId} {f : FuncId} {fs : Array Operand} {u : List Value} (hu : fs.toList.map ρ.ev = u) (h : Q2 P l Q (upd ρ d (.func (.func f) ⟨u⟩ #[])) w) : Q2 P (⟨none, .raw ⟨some d, .makeFunc (.func f) fs #[], Ty, "", #[], none⟩⟩ :: l) Q ρ w := by
  subst hu
  have e : (⟨fs.toList.map ρ.ev⟩ : Array Value) = fs.map ρ.ev := by apply Array.ext'; simp
  show Q6r P ⟨some d, .makeFunc (.func f) fs #[], Ty, "", #[], none⟩ ρ w (Q2 P l Q) Q
  refine Q14 (v := .func (.func f) ⟨fs.toList.map ρ.ev⟩ #[]) (w' := w) ?_ (by exact h)
  rw [e]
  simp [execOp, Instr.makeFunc]
/-- A function value, with what it is called with if nothing else is. -/
def FnV (fv : Value) (g : FuncId) (args : List Value) : Prop := ∃ a b, fv = .func (.func g) ⟨a⟩ ⟨b⟩ ∧ args = a ++ b
theorem QtI {d : Nat} {x : Operand} {fv : Value} {f : FuncId} {args : List Value} {S T : Value → World → Prop} (hx : ρ.ev x = fv) (hv : FnV fv f args) (hf : Q3B P f = true) (hc : Fins P f args w S T)
    (hp : ∀ v w', T v w' → Q (.panic [{ v := v, recovered := false }]) ρ w') (h : ∀ v w', S v w' → Q2 P l Q (upd ρ d v) w') : Q2 P (⟨none, .callv (some d) x []⟩ :: l) Q ρ w := by
  unfold Q3B at hf
  rw [Option.any_eq_true] at hf
  obtain ⟨fn, h1, h2⟩ := hf
  rw [Bool.and_eq_true, Bool.not_eq_true'] at h2
  obtain ⟨a, b, rfl, rfl⟩ := hv
  refine ⟨f, ⟨a⟩, ⟨b⟩, fn, hx, h1, h2.1, h2.2, ?_⟩
  have : (Array.mk a ++ Array.mk (List.map ρ.ev []) ++ Array.mk b : Array Value) = ⟨a ++ b⟩ := by simp
  rw [this]
  refine Calls.mono hc fun e w' h' => ?_
  rcases h' with ⟨v, rfl, hs⟩ | ⟨v, rfl, hs⟩
  · exact h v w' hs
  · exact hp v w' hs
theorem Qo {K : KT} {ch : List PanicEntry} (h : Q (.panic ch) ρ w) : QA K Q (.panic ch) ρ w := h
theorem Qp {id : Nat} {ch : List PanicEntry} (h : Q (.panic ch) ρ w) : QB id Q (.panic ch) ρ w := h
theorem QJ {rs : List ResultVar} {R : Ending → World → Prop} {ch : List PanicEntry} (h : R (.panicked ch) w) : retQ P rs R (.panic ch) ρ w := h
theorem QtC {d : Option Nat} {x : Operand} {Ty T : TypeId} {v : Value} (hx : ρ.ev x = .iface T v) (h : Q (.panic [{ v := .iface T v, recovered := false }]) ρ w) : Q2 P (⟨none, .raw ⟨d, .panic x, Ty, "", #[], none⟩⟩ :: l) Q ρ w := by
  refine (?_ : Q6r P _ ρ w _ Q)
  unfold Q6r
  have e : (execOp ρ.ev ⟨d, .panic x, Ty, "", #[], none⟩).run P w = .halt (.panic (.iface T v)) w := by
    simp [execOp, Instr.panic, hx, goPanic, Sem.run]
  rw [e]; exact h
theorem s_assert {d : Nat} {x : Operand} {Ty T xT : TypeId} {v : Value} {D : TypeDesc} (hd : P.underlying T = some D) (hi : ∀ m, D ≠ .interface m) (hx : ρ.ev x = .iface T v)
    (h : Q2 P l Q (upd ρ d (.tuple #[v, .bool true])) w) : Q2 P (⟨none, .raw ⟨some d, .typeAssert x xT T true, Ty, "", #[], none⟩⟩ :: l) Q ρ w := by
  refine Q14 (v := .tuple #[v, .bool true]) (w' := w) ?_ h
  simp only [execOp, Instr.typeAssert, hx, Sem.run_bind, Qd P T D w hd, Result.andThen_ok]
  cases D <;> first | (exact absurd rfl (hi _)) | simp
end

/-! ### Deferred calls: lowered code in which one is put off -/

inductive LSp where
  | dfr (d : Option Nat) (x : Operand)
  | rcv (d : Option Nat)

inductive LD where
  | pl (c : LC)
  | seq (a b : LD)
  | sp (l1 : List GO) (o : LSp) (l2 : List GO)

def spOf (o : Oper) : Option LSp := match o.guard, o.op with
  | none, .defer ⟨.value x, xs, _⟩ => if xs.size = 0 then some (.dfr o.dst x) else none
  | none, .call ⟨.builtin .recover, xs, _⟩ => if xs.size = 0 then some (.rcv o.dst) else none
  | _, _ => none
def hasSp : Code → Bool
  | .seq a b => hasSp a || hasSp b
  | .region _ ops _ => ops.toList.any fun o => (spOf o).isSome
  | _ => false
def QgO : List Oper → Option (List Oper × Oper × LSp × List Oper)
  | [] => none
  | o :: r => match spOf o with
    | some s => some ([], o, s, r)
    | none => (QgO r).map fun p => (o :: p.1, p.2)
def lowD (P : Program) (n : Nat) : Code → LD
  | .seq a b => if hasSp a || hasSp b then .seq (lowD P n a) (lowD P n b) else .pl (Q42 P n (.seq a b))
  | .region id ops false => match QgO ops.toList with
    | some (l1, o, s, l2) => if ops.toList.all (okG n ops) then .sp (l1.map (Q3o P ops)) s (l2.map (Q3o P ops)) else .pl .bad
    | none => .pl (Q42 P n (.region id ops false))
  | c => .pl (Q42 P n c)
def QsA (P : Program) (fn : Func) : Option LD := fn.body.map (lowD P fn.ntmps)

def LD.wpD (P : Program) : LD → (List Deferred → QT) → List Deferred → Env → World → Prop
  | .pl c, Q, ds, ρ, w => c.wp P (Q ds) ρ w
  | .seq a b, Q, ds, ρ, w => a.wpD P (fun ds' => QA (b.wpD P Q ds') (Q ds')) ds ρ w
  | .sp l1 (.dfr d x) l2, Q, ds, ρ, w => Q2 P l1 (QA (fun ρ w => ∃ f cap, ρ.ev x = .func (.func f) #[] cap ∧ Q2 P l2 (Q (⟨.fn (.func f) cap, #[]⟩ :: ds)) (updo ρ d undef) w) (Q ds)) ρ w
  | _, _, _, _, _ => False

theorem Q73 : ∀ {ops l1 l2 : List Oper} {o : Oper} {s : LSp}, QgO ops = some (l1, o, s, l2) → ops = l1 ++ o :: l2 ∧ spOf o = some s
  | [], _, _, _, _, h => by simp [QgO] at h
  | o' :: r, l1, l2, o, s, h => by
    rw [QgO] at h
    cases hs : spOf o' with
    | some s' =>
      simp only [hs, Option.some.injEq, Prod.mk.injEq] at h
      obtain ⟨rfl, rfl, rfl, rfl⟩ := h
      exact ⟨rfl, hs⟩
    | none =>
      simp only [hs, Option.map_eq_some_iff] at h
      obtain ⟨⟨a, b, c, d⟩, h1, h2⟩ := h
      simp only [Prod.mk.injEq] at h2
      obtain ⟨rfl, rfl, rfl, rfl⟩ := h2
      obtain ⟨h3, h4⟩ := Q73 h1
      exact ⟨by rw [h3]; rfl, h4⟩

theorem Qck {P : Program} {o : Oper} {a : Act} {K K' : Act → World → Prop} {Q Q' : Exit → Act → World → Prop} (hk : ∀ a w, K a w → K' a w) (hp : ∀ ch a w, Q (.panic ch) a w → Q' (.panic ch) a w) (ho : LetsOut Q → LetsOut Q') (r : Result Next) (h : o.upon P a K Q r) : o.upon P a K' Q' r := by
  cases r with
  | ok n w =>
    cases n <;> first | exact hk _ _ h | exact h | skip
    · refine Calls.mono h fun e w h => ?_
      cases e <;> first | exact hk _ _ h | exact hp _ _ _ h | exact ho h
    · exact Rows.mono h fun v w h => hk _ _ h
  | halt x w => cases x <;> first | exact hp _ _ _ h | exact h

theorem Q4s {P : Program} {ops : Array Oper} {Q : Exit → Act → World → Prop} {l2 : List Nat} : ∀ (l1 : List Nat) (a : Act) (w : World),
    wpOps P ops (Exit.then (wpOps P ops Q l2) Q) l1 a w → wpOps P ops Q (l1 ++ l2) a w
  | [], a, w, h => h
  | i :: l1, a, w, h => by
    simp only [List.cons_append, wpOps] at h ⊢
    cases ho : ops[i]? with
    | none => simp only [ho] at h ⊢; exact Q4s l1 a w h
    | some o =>
      simp only [ho] at h ⊢
      split
      · rename_i hw
        rw [if_pos hw] at h
        rcases h with h | ⟨h1, h2⟩
        · exact .inl (Qck (fun a w h => Q4s l1 a w h) (fun ch a w h => h) (fun h => h) _ h)
        · exact .inr ⟨h1, h2⟩
      · rename_i hw
        rw [if_neg hw] at h
        exact Q4s l1 _ w h
theorem Q4e {P : Program} {ops : Array Oper} {Q Q' : Exit → Act → World → Prop} (hq : ∀ e a w, Q e a w → Q' e a w) : ∀ (l : List Nat) (a : Act) (w : World), wpOps P ops Q l a w → wpOps P ops Q' l a w
  | [], a, w, h => hq _ _ _ h
  | i :: l, a, w, h => by
    simp only [wpOps] at h ⊢
    have ho' : LetsOut Q → LetsOut Q' := fun ⟨a, w, h⟩ => ⟨a, w, hq _ _ _ h⟩
    cases ho : ops[i]? with
    | none => simp only [ho] at h ⊢; exact Q4e hq l a w h
    | some o =>
      simp only [ho] at h ⊢
      split
      · rename_i hw
        rw [if_pos hw] at h
        rcases h with h | ⟨h1, h2⟩
        · exact .inl (Qck (fun a w h => Q4e hq l a w h) (fun ch a w h => hq _ _ _ h) ho' _ h)
        · exact .inr ⟨h1, ho' h2⟩
      · rename_i hw
        rw [if_neg hw] at h
        exact Q4e hq l _ w h

def liftD (n : Nat) (Q : List Deferred → QT) : Exit → Act → World → Prop := fun e a w => ∃ ds, Qor n ds (Q ds) e a w

theorem Qoa {α : Type} {ops l1 l2 : List α} {o : α} (h : ops = l1 ++ o :: l2) : List.range ops.length = List.range l1.length ++ l1.length :: (List.range l2.length).map (l1.length + 1 + ·) := by
  subst h
  apply List.ext_getElem
  · simp
  · intro i h1 h2
    rw [List.getElem_range]
    rcases Nat.lt_trichotomy i l1.length with h | h | h
    · rw [List.getElem_append_left (by simpa using h), List.getElem_range]
    · subst h; rw [List.getElem_append_right (by simp)]; simp
    · rw [List.getElem_append_right (by simpa using Nat.le_of_lt h)]
      simp only [List.length_range]
      rw [List.getElem_cons]
      rw [dif_neg (by omega), List.getElem_map, List.getElem_range]; omega
theorem Qtx {α β : Type} {ops l1 l2 : List α} {o : α} (g : α → β) (h : ops = l1 ++ o :: l2) : ((List.range l2.length).map (l1.length + 1 + ·)).filterMap (fun i => (ops[i]?).map g) = l2.map g := by
  subst h
  rw [List.filterMap_map]
  have : ∀ i, ((fun i => ((l1 ++ o :: l2)[i]?).map g) ∘ (l1.length + 1 + ·)) i = (l2[i]?).map g := by
    intro i
    simp only [Function.comp]
    rw [List.getElem?_append_right (by omega)]
    rw [show l1.length + 1 + i - l1.length = i + 1 by omega, List.getElem?_cons_succ]
  rw [Q3c (fun i _ => this i)]
  have := Q4i g l2 []
  simpa [List.range_eq_range'] using this
theorem QrE {α β : Type} {ops l1 l2 : List α} {o : α} (g : α → β) (h : ops = l1 ++ o :: l2) : (List.range l1.length).filterMap (fun i => (ops[i]?).map g) = l1.map g := by
  subst h
  have : ∀ i ∈ List.range l1.length, ((l1 ++ o :: l2)[i]?).map g = (l1[i]?).map g := by
    intro i hi
    rw [List.getElem?_append_left (by simpa using hi)]
  rw [Q3c this]
  have := Q4i g l1 []
  simpa [List.range_eq_range'] using this

theorem QsB {P : Program} {n : Nat} : ∀ (c : Code) (Q : List Deferred → QT) (ds : List Deferred) (ρ : Env) (a : Act) (w : World), Rel n ρ ds a → (lowD P n c).wpD P Q ds ρ w → c.wp P (liftD n Q) a w := by
  have hpl : ∀ (c : Code) (Q : List Deferred → QT) (ds : List Deferred) (ρ : Env) (a : Act) (w : World), Rel n ρ ds a → (Q42 P n c).wp P (Q ds) ρ w → c.wp P (liftD n Q) a w := fun c Q ds ρ a w hr h =>
    wp_mono (Q7M c _ ρ a w hr h) fun e a w h => ⟨ds, h⟩
  intro c
  induction c with
  | seq x y ihx ihy =>
    intro Q ds ρ a w hr h
    rw [lowD] at h
    split at h
    · refine wp_seq ?_
      refine wp_mono (ihx _ ds ρ a w hr h) ?_
      rintro e a w ⟨ds', ρ', hr', h'⟩
      cases e with
      | normal => exact ihy _ ds' ρ' a w hr' h'
      | _ => exact ⟨ds', ρ', hr', h'⟩
    · exact hpl _ Q ds ρ a w hr h
  | region id ops draw =>
    intro Q ds ρ a w hr h
    cases draw with
    | true => exact hpl _ Q ds ρ a w hr h
    | false =>
      rw [lowD] at h
      split at h
      · rename_i l1 o s l2 hs
        obtain ⟨hops, hsp⟩ := Q73 hs
        split at h
        · rename_i hall
          have hok : ∀ i o, ops[i]? = some o → okG n ops o = true := fun i o hi => List.all_eq_true.1 hall o (by rw [← Array.getElem?_toList] at hi; exact List.mem_of_getElem? hi)
          have hsz : ops.size = ops.toList.length := by simp
          have hgm : ∀ (l : List Nat), (l.filterMap fun i => (ops[i]?).map (Q3o P ops)) = l.filterMap fun i => (ops.toList[i]?).map (Q3o P ops) := fun l => by simp
          have hlen : ops.toList.length = l1.length + 1 + l2.length := by rw [hops]; simp; omega
          have hrange : ∀ (l : List Nat), (∀ i ∈ l, i < ops.size) → ∀ i ∈ l, ∃ o, ops[i]? = some o ∧ okG n ops o = true := fun l hl i hi => ⟨ops[i]'(hl i hi), by simp [hl i hi], hok i _ (by simp [hl i hi])⟩
          refine wp_region ?_
          rw [hsz, Qoa hops]
          refine Q4s _ _ _ ?_
          cases s with
          | rcv d => exact h.elim
          | dfr d x =>
            have h1 := Q86 (Q := QA (fun ρ w => ∃ f cap, ρ.ev x = .func (.func f) #[] cap ∧ Q2 P (l2.map (Q3o P ops)) (Q (⟨.fn (.func f) cap, #[]⟩ :: ds)) (updo ρ d undef) w) (Q ds)) (ds := ds) (List.range l1.length) ρ a w hr
              (hrange _ fun i hi => by rw [hsz, hlen]; have := List.mem_range.1 hi; omega) (by rw [hgm, QrE _ hops]; exact h)
            refine Q4e ?_ _ _ _ h1
            rintro e a w ⟨ρ', hr', h'⟩
            cases e with
            | normal =>
              obtain ⟨f, cap, hf, h'⟩ := h'
              have hoi : ops[l1.length]? = some o := by rw [← Array.getElem?_toList, hops]; simp
              refine (?_ : wpOps P ops _ (l1.length :: _) a w)
              simp only [wpOps, hoi]
              have hg : o.guard = none ∧ ∃ ts, ∃ xs : Array Operand, o.op = .defer ⟨.value x, xs, ts⟩ ∧ xs.size = 0 ∧ o.dst = d := by
                unfold spOf at hsp
                split at hsp
                · rename_i x' xs' ts' hg ho
                  split at hsp
                  · rename_i hx0
                    simp only [Option.some.injEq, LSp.dfr.injEq] at hsp
                    obtain ⟨g1, g2⟩ := hsp
                    subst g2
                    exact ⟨hg, ts', xs', ho, hx0, g1⟩
                  · cases hsp
                · split at hsp <;> cases hsp
                · cases hsp
              obtain ⟨hgd, ts, xs, hop, hxs, hd⟩ := hg
              have hxs' : xs = #[] := Array.eq_empty_of_size_eq_zero hxs
              subst hxs'
              rw [if_pos (by simp [Region.wanted, hgd])]
              refine .inl ?_
              unfold Oper.wp
              have e1 : (execOp a.eval o).run P w = .ok (.defer ⟨.fn (.func f) cap, #[]⟩) w := by
                simp [execOp, hop, resolve, hr'.ev, hf, Deferred.ofValue]
              rw [e1, Oper.upon_defer, hd]
              have hdn := QcK (hok _ o hoi)
              rw [hd] at hdn
              have hr2 : Rel n (updo ρ' d undef) (⟨.fn (.func f) cap, #[]⟩ :: ds) ({ a with defers := ⟨.fn (.func f) cap, #[]⟩ :: a.defers }.put d undef) := by
                have hr3 : Rel n ρ' (⟨.fn (.func f) cap, #[]⟩ :: ds) { a with defers := ⟨.fn (.func f) cap, #[]⟩ :: a.defers } := ⟨hr'.1, hr'.2.1, by simp [hr'.2.2]⟩
                exact hr3.put d undef hdn
              have h2 := Q86 (Q := Q (⟨.fn (.func f) cap, #[]⟩ :: ds)) (ds := ⟨.fn (.func f) cap, #[]⟩ :: ds) _ _ _ w hr2
                (hrange ((List.range l2.length).map (l1.length + 1 + ·)) fun i hi => by rw [hsz, hlen]; rw [List.mem_map] at hi; obtain ⟨j, hj, rfl⟩ := hi; have := List.mem_range.1 hj; omega) (by rw [hgm, Qtx _ hops]; exact h')
              exact Q4e (fun e a w h => ⟨_, h⟩) _ _ _ h2
            | _ => exact ⟨ds, ρ', hr', h'⟩
        · exact h.elim
      · exact hpl _ Q ds ρ a w hr h
  | _ => exact hpl _

/-- What becomes of a function's end, its deferred calls still to come. -/
def Q4V (P : Program) (rs : List ResultVar) (ρ : Env) (R : Ending → World → Prop) : List Deferred → FrameMode → World → Prop
  | [], .returning, w => Q1e P w ρ rs [] fun v => R (.returned v) w
  | [], .panicking chain, w => R (.panicked chain) w
  | [], .run, _ => False
  | d :: ds, u, w => u ≠ .run ∧ ∃ f cap, d = ⟨.fn (.func f) cap, #[]⟩ ∧ Q3B P f = true ∧ CallsD P f cap u w fun
      | .returned _, u', w' => Q4V P rs ρ R ds (settle u') w'
      | .panicked chain, u', w' => Q4V P rs ρ R ds (raised u' chain) w'
      | .outgrown, _, w' => R .outgrown w'
def retD (P : Program) (rs : List ResultVar) (R : Ending → World → Prop) (ds : List Deferred) : QT
  | .normal, ρ, w | .ret, ρ, w => Q4V P rs ρ R ds .returning w
  | .panic chain, ρ, w => Q4V P rs ρ R ds (.panicking chain) w
  | .outgrown, _, w => R .outgrown w
  | _, _, _ => False

theorem Q4m {P : Program} {fn : Func} {tmps : Array Value} {ρ : Env} {R : Ending → World → Prop} (ht : ∀ i, tmps.getD i undef = ρ i) : ∀ (ds : List Deferred) (u : FrameMode) (w : World),
    Q4V P fn.results.toList ρ R ds u w → Leaves P fn tmps R ds u w
  | [], .returning, w, h => by obtain ⟨v, h1, h2⟩ := Q3i ht h; exact ⟨v, h1, h2⟩
  | [], .panicking _, w, h => h
  | [], .run, w, h => h.elim
  | d :: ds, u, w, h => by
    obtain ⟨hu, f, cap, rfl, hf, hc⟩ := h
    unfold Q3B at hf
    rw [Option.any_eq_true] at hf
    obtain ⟨fn', h1, h2⟩ := hf
    rw [Bool.and_eq_true, Bool.not_eq_true'] at h2
    refine leaves_cons hu (f := f) (args := cap) ?_ ?_
    · simp only [invoke]
      rw [QeW _ h1 h2.1 h2.2]; simp
    · refine hc.mono ?_
      intro e u' w' h
      cases e with
      | returned v => exact Q4m ht ds _ _ h
      | panicked ch => exact Q4m ht ds _ _ h
      | outgrown => exact h

theorem QmN {P : Program} {f : FuncId} {fn : Func} {args : List Value} {w : World} {R : Ending → World → Prop} {ld : LD} {rs : List ResultVar}
    (hf : P.funcs[f]? = some fn) (hl : QsA P fn = some ld) (hrs : fn.results.toList = rs) (hn : Nat.ble args.length fn.ntmps = true)
    (h : ld.wpD P (retD P rs R) [] (Qh args) w) : Calls P f ⟨args⟩ w R := by
  unfold QsA at hl
  cases hb : fn.body with
  | none => simp [hb] at hl
  | some c =>
    simp only [hb, Option.map_some, Option.some.injEq] at hl
    subst hl hrs
    refine calls_of_wp_defers hf hb ?_
    have hn' : args.length ≤ fn.ntmps := Nat.le_of_ble_eq_true hn
    refine wp_mono (QsB c _ [] _ _ _ (Qdd ⟨args⟩ fn.ntmps hn' []) h) ?_
    rintro e a w ⟨ds, ρ, hr, h⟩
    have hd := hr.2.2
    cases e with
    | normal => exact (hd ▸ Q4m hr.2.1 ds _ _ h : Leaves P fn a.tmps R a.defers .returning w)
    | ret => exact (hd ▸ Q4m hr.2.1 ds _ _ h : Leaves P fn a.tmps R a.defers .returning w)
    | panic ch => exact (hd ▸ Q4m hr.2.1 ds _ _ h : Leaves P fn a.tmps R a.defers (.panicking ch) w)
    | outgrown => exact h
    | exit => exact h
    | goto => exact h

/-! ### The deferred function: lowered code that recovers -/

def recM : FrameMode → Value × FrameMode
  | .panicking ({ v := v, recovered := false, goexit := false } :: older) => (v, .panicking ({ v := v, recovered := true } :: older))
  | u => (.nilIface, u)

def LD.wpR (P : Program) : LD → (FrameMode → QT) → FrameMode → Env → World → Prop
  | .pl c, Q, u, ρ, w => c.wp P (Q u) ρ w
  | .seq a b, Q, u, ρ, w => a.wpR P (fun u' => QA (b.wpR P Q u') (Q u')) u ρ w
  | .sp l1 (.rcv d) l2, Q, u, ρ, w => Q2 P l1 (QA (fun ρ w => Q2 P l2 (Q (recM u).2) (updo ρ d (recM u).1) w) (Q u)) ρ w
  | _, _, _, _, _ => False

def liftR (n : Nat) (c₀ : Frame) (cs : List Frame) (Q : FrameMode → QT) : Exit → Act → List Frame → World → Prop :=
  fun e a cs' w => ∃ u, cs' = { c₀ with mode := u } :: cs ∧ Qor n [] (Q u) e a w

theorem QpE (c₀ : Frame) (cs : List Frame) (u : FrameMode) : (match recoverD ({ c₀ with mode := u } :: cs) with
    | some (v, cs') => (v, cs')
    | none => (.nilIface, { c₀ with mode := u } :: cs)) = ((recM u).1, { c₀ with mode := (recM u).2 } :: cs) := by
  unfold recoverD recM
  dsimp only
  split <;> rename_i h
  · split at h
    · rename_i hm
      simp only [Option.some.injEq, Prod.mk.injEq] at h
      obtain ⟨rfl, rfl⟩ := h
      rfl
    · cases h
  · split at h
    · cases h
    · rename_i hm
      split
      · rename_i hm'
        exact absurd rfl (hm _ _)
      · rfl

theorem Qh9 {P : Program} {n : Nat} {ops : Array Oper} {Q : QT} {QS : Exit → Act → List Frame → World → Prop} {cs : List Frame} {rest : List Nat} (hn : ∀ a w, Qor n [] Q .normal a w → wpOpsS P ops QS rest a cs w) (hq : ∀ e a w, e ≠ .normal → Qor n [] Q e a w → QS e a cs w) : ∀ (l : List Nat) (ρ : Env) (a : Act) (w : World), Rel n ρ [] a →
    (∀ i ∈ l, ∃ o, ops[i]? = some o ∧ okG n ops o = true) →
    Q2 P (l.filterMap fun i => (ops[i]?).map (Q3o P ops)) Q ρ w → wpOpsS P ops QS (l ++ rest) a cs w := by
  intro l
  induction l with
  | nil => intro ρ a w hr _ h; exact hn a w ⟨ρ, hr, h⟩
  | cons i l ih =>
    intro ρ a w hr hok h
    obtain ⟨o, ho, hg⟩ := hok i (by simp)
    have hok' : ∀ i ∈ l, ∃ o, ops[i]? = some o ∧ okG n ops o = true := fun i hi => hok i (by simp [hi])
    simp only [List.filterMap_cons, ho, Option.map_some] at h
    have h' := QeT hr hg _ Q w h
    simp only [List.cons_append, wpOpsS, ho]
    split
    · rename_i hw
      rw [if_pos hw] at h'
      have h1 := Qo9 (ds := []) hr (QcK hg) (Qh8 h')
      have h2 := Qck (Q' := fun e a' w' => QS e a' cs w') (K' := fun a' w' => wpOpsS P ops QS (l ++ rest) a' cs w') (fun a w ⟨ρ, hr, h⟩ => ih ρ a w hr hok' h) (fun ch a w h => hq _ a w (by simp) h) (fun ⟨a, w, h⟩ => ⟨a, w, hq _ a w (by simp) h⟩) _ h1
      split
      · rename_i w' hrun
        rw [hrun] at h2
        exact h2.elim
      · rename_i r hrun
        exact h2
    · rename_i hw
      rw [if_neg hw] at h'
      exact ih _ _ w (hr.put _ _ (QcK hg)) hok' h'

theorem Qsz {P : Program} {n : Nat} {c₀ : Frame} {cs : List Frame} : ∀ (c : Code) (Q : FrameMode → QT) (u : FrameMode) (ρ : Env) (a : Act) (w : World), Rel n ρ [] a → (lowD P n c).wpR P Q u ρ w → c.wpS P (liftR n c₀ cs Q) a ({ c₀ with mode := u } :: cs) w := by
  have hpl : ∀ (c : Code) (Q : FrameMode → QT) (u : FrameMode) (ρ : Env) (a : Act) (w : World), Rel n ρ [] a → (Q42 P n c).wp P (Q u) ρ w → c.wpS P (liftR n c₀ cs Q) a ({ c₀ with mode := u } :: cs) w := fun c Q u ρ a w hr h =>
    wpS_of_wp (wp_mono (Q7M c _ ρ a w hr h) fun e a w h => ⟨u, rfl, h⟩)
  intro c
  induction c with
  | seq x y ihx ihy =>
    intro Q u ρ a w hr h
    rw [lowD] at h
    split at h
    · refine wpS_seq ?_
      intro b k hb hro
      obtain ⟨e, a', cs', w', ⟨u', rfl, ρ', hr', h'⟩, harr⟩ := ihx _ u ρ a w hr h b k hb hro
      refine ⟨e, a', _, w', ?_, harr⟩
      cases e with
      | normal => exact ihy _ u' ρ' a' w' hr' h'
      | _ => exact ⟨u', rfl, ρ', hr', h'⟩
    · exact hpl _ Q u ρ a w hr h
  | region id ops draw =>
    intro Q u ρ a w hr h
    cases draw with
    | true => exact hpl _ Q u ρ a w hr h
    | false =>
      rw [lowD] at h
      split at h
      · rename_i l1 o s l2 hs
        obtain ⟨hops, hsp⟩ := Q73 hs
        split at h
        · rename_i hall
          have hok : ∀ i o, ops[i]? = some o → okG n ops o = true := fun i o hi => List.all_eq_true.1 hall o (by rw [← Array.getElem?_toList] at hi; exact List.mem_of_getElem? hi)
          have hsz : ops.size = ops.toList.length := by simp
          have hgm : ∀ (l : List Nat), (l.filterMap fun i => (ops[i]?).map (Q3o P ops)) = l.filterMap fun i => (ops.toList[i]?).map (Q3o P ops) := fun l => by simp
          have hlen : ops.toList.length = l1.length + 1 + l2.length := by rw [hops]; simp; omega
          have hrange : ∀ (l : List Nat), (∀ i ∈ l, i < ops.size) → ∀ i ∈ l, ∃ o, ops[i]? = some o ∧ okG n ops o = true := fun l hl i hi => ⟨ops[i]'(hl i hi), by simp [hl i hi], hok i _ (by simp [hl i hi])⟩
          refine wpS_region ?_
          rw [hsz, Qoa hops]
          cases s with
          | dfr d x => exact h.elim
          | rcv d =>
            refine Qh9 (Q := QA (fun ρ w => Q2 P (l2.map (Q3o P ops)) (Q (recM u).2) (updo ρ d (recM u).1) w) (Q u)) ?_ ?_ (List.range l1.length) ρ a w hr
              (hrange _ fun i hi => by rw [hsz, hlen]; have := List.mem_range.1 hi; omega) (by rw [hgm, QrE _ hops]; exact h)
            · rintro a w ⟨ρ', hr', h'⟩
              have hoi : ops[l1.length]? = some o := by rw [← Array.getElem?_toList, hops]; simp
              have hg : o.guard = none ∧ ∃ ts, ∃ xs : Array Operand, o.op = .call ⟨.builtin .recover, xs, ts⟩ ∧ xs.size = 0 ∧ o.dst = d := by
                unfold spOf at hsp
                split at hsp
                · split at hsp <;> cases hsp
                · rename_i xs' ts' hg ho
                  split at hsp
                  · rename_i hx0
                    simp only [Option.some.injEq, LSp.rcv.injEq] at hsp
                    exact ⟨hg, ts', xs', ho, hx0, hsp⟩
                  · cases hsp
                · cases hsp
              obtain ⟨hgd, ts, xs, hop, hxs, hd⟩ := hg
              have hxs' : xs = #[] := Array.eq_empty_of_size_eq_zero hxs
              subst hxs'
              refine (?_ : wpOpsS P ops _ (l1.length :: _) a _ w)
              simp only [wpOpsS, hoi]
              rw [if_pos (by simp [Region.wanted, hgd])]
              have e1 : (execOp a.eval o).run P w = .ok .recover w := by
                simp [execOp, hop, resolve, invoke, builtin]
              rw [e1]
              have hdn := QcK (hok _ o hoi)
              rw [hd] at hdn
              have hr2 : Rel n (updo ρ' d (recM u).1) [] (a.put d (recM u).1) := hr'.put d _ hdn
              have hrec := QpE c₀ cs u
              have key : wpOpsS P ops (liftR n c₀ cs Q) ((List.range l2.length).map (l1.length + 1 + ·)) (a.put o.dst (recM u).1) ({ c₀ with mode := (recM u).2 } :: cs) w := by
                rw [hd]
                have h2 := Qh9 (Q := Q (recM u).2) (QS := liftR n c₀ cs Q) (cs := { c₀ with mode := (recM u).2 } :: cs) (rest := []) (fun a w h => ⟨_, rfl, h⟩) (fun e a w _ h => ⟨_, rfl, h⟩) ((List.range l2.length).map (l1.length + 1 + ·)) _ _ w hr2
                  (hrange _ fun i hi => by rw [hsz, hlen]; rw [List.mem_map] at hi; obtain ⟨j, hj, rfl⟩ := hi; have := List.mem_range.1 hj; omega) (by rw [hgm, Qtx _ hops]; exact h')
                rwa [List.append_nil] at h2
              dsimp only
              split
              · rename_i v cs' hrd
                rw [hrd] at hrec
                simp only [Prod.mk.injEq] at hrec
                rw [hrec.1, hrec.2]; exact key
              · rename_i hrd
                rw [hrd] at hrec
                simp only [Prod.mk.injEq] at hrec
                have e3 : ({ c₀ with mode := u } :: cs : List Frame) = { c₀ with mode := (recM u).2 } :: cs := hrec.2
                rw [hrec.1, e3]; exact key
            · rintro e a w he ⟨ρ', hr', h'⟩
              refine ⟨u, rfl, ρ', hr', ?_⟩
              cases e <;> first | exact h' | exact absurd rfl he
        · exact h.elim
      · exact hpl _ Q u ρ a w hr h
  | _ => exact hpl _

def retR (P : Program) (rs : List ResultVar) (R : Ending → FrameMode → World → Prop) (u : FrameMode) : QT
  | .normal, ρ, w | .ret, ρ, w => Q1e P w ρ rs [] fun v => R (.returned v) u w
  | .panic chain, _, w => R (.panicked chain) u w
  | .outgrown, _, w => R .outgrown u w
  | _, _, _ => False

theorem QjL {P : Program} {f : FuncId} {fn : Func} {args : List Value} {u : FrameMode} {w : World} {R : Ending → FrameMode → World → Prop} {ld : LD} {rs : List ResultVar}
    (hf : P.funcs[f]? = some fn) (hl : QsA P fn = some ld) (hrs : fn.results.toList = rs) (hn : Nat.ble args.length fn.ntmps = true)
    (h : ld.wpR P (retR P rs R) u (Qh args) w) : CallsD P f ⟨args⟩ u w R := by
  unfold QsA at hl
  cases hb : fn.body with
  | none => simp [hb] at hl
  | some c =>
    simp only [hb, Option.map_some, Option.some.injEq] at hl
    subst hl hrs
    refine callsD_of_wpS hf hb ?_
    intro c₀ cs hu
    have hn' : args.length ≤ fn.ntmps := Nat.le_of_ble_eq_true hn
    have h1 := Qsz (c₀ := c₀) (cs := cs) c _ u _ _ w (Qdd ⟨args⟩ fn.ntmps hn' []) h
    have hc : ({ c₀ with mode := u } : Frame) = c₀ := by subst hu; rfl
    rw [hc] at h1
    intro b k hb hro
    obtain ⟨e, a, cs', w', ⟨u', rfl, ρ, hr, h2⟩, harr⟩ := h1 b k hb hro
    refine ⟨e, a, _, w', ?_, harr⟩
    cases e with
    | normal => obtain ⟨v, h3, h4⟩ := Q3i hr.2.1 h2; exact ⟨hr.2.2, u', rfl, v, h3, h4⟩
    | ret => obtain ⟨v, h3, h4⟩ := Q3i hr.2.1 h2; exact ⟨hr.2.2, u', rfl, v, h3, h4⟩
    | panic ch => exact ⟨hr.2.2, u', rfl, h2⟩
    | outgrown => exact ⟨u', h2⟩
    | exit => exact h2
    | goto => exact h2

/-! ### Steps -/
section
variable {P : Program} {ρ : Env} {w : World} {u : FrameMode} {ds : List Deferred}
theorem d_pl {c : LC} {Q : List Deferred → QT} (h : c.wp P (Q ds) ρ w) : (LD.pl c).wpD P Q ds ρ w := h
theorem Qq6 {a b : LD} {Q : List Deferred → QT} (h : a.wpD P (fun ds' => QA (b.wpD P Q ds') (Q ds')) ds ρ w) : (LD.seq a b).wpD P Q ds ρ w := h
theorem d_sp {l1 l2 : List GO} {d : Option Nat} {x : Operand} {Q : List Deferred → QT} (h : Q2 P l1 (QA (fun ρ w => ∃ f cap, ρ.ev x = .func (.func f) #[] cap ∧ Q2 P l2 (Q (⟨.fn (.func f) cap, #[]⟩ :: ds)) (updo ρ d undef) w) (Q ds)) ρ w) : (LD.sp l1 (.dfr d x) l2).wpD P Q ds ρ w := h
theorem r_pl {c : LC} {Q : FrameMode → QT} (h : c.wp P (Q u) ρ w) : (LD.pl c).wpR P Q u ρ w := h
theorem r_seq {a b : LD} {Q : FrameMode → QT} (h : a.wpR P (fun u' => QA (b.wpR P Q u') (Q u')) u ρ w) : (LD.seq a b).wpR P Q u ρ w := h
theorem r_sp {l1 l2 : List GO} {d : Option Nat} {Q : FrameMode → QT} (h : Q2 P l1 (QA (fun ρ w => Q2 P l2 (Q (recM u).2) (updo ρ d (recM u).1) w) (Q u)) ρ w) : (LD.sp l1 (.rcv d) l2).wpR P Q u ρ w := h
/-- A deferred function, called in a mode: it returns. -/
def Defs (P : Program) (f : FuncId) (args : List Value) (u : FrameMode) (w : World) (S : FrameMode → World → Prop) : Prop :=
  CallsD P f ⟨args⟩ u w fun e u' w' => (∃ v, e = .returned v) ∧ S u' w'
theorem Qbh {rs : List ResultVar} {R : Ending → World → Prop} {f : FuncId} {cap : List Value} {S : FrameMode → World → Prop} (hu : u ≠ .run) (hf : Q3B P f = true) (hc : Defs P f cap u w S)
    (h : ∀ u' w', S u' w' → Q4V P rs ρ R [] (settle u') w') : Q4V P rs ρ R [⟨.fn (.func f) ⟨cap⟩, #[]⟩] u w := by
  refine ⟨hu, f, ⟨cap⟩, rfl, hf, hc.mono ?_⟩
  rintro e u' w' ⟨⟨v, rfl⟩, hs⟩
  exact h u' w' hs
theorem QrO {rs : List ResultVar} {R : Ending → World → Prop} (h : Q4V P rs ρ R ds .returning w) : retD P rs R ds .ret ρ w := h
theorem q_panD {rs : List ResultVar} {R : Ending → World → Prop} {ch : List PanicEntry} (h : Q4V P rs ρ R ds (.panicking ch) w) : retD P rs R ds (.panic ch) ρ w := h
theorem Q4a {rs : List ResultVar} {R : Ending → World → Prop} (h : retQ P rs R .ret ρ w) : Q4V P rs ρ R [] .returning w := h
theorem q_endR {rs : List ResultVar} {R : Ending → FrameMode → World → Prop} (h : retQ P rs (fun e w => R e u w) .normal ρ w) : retR P rs R u .normal ρ w := h
end
end Go.Lir
namespace Go.Lir
section
variable {P : Program} {l : List GO} {Q : QT} {ρ : Env} {w : World} {f : FuncId} {S T : Value → World → Prop}

theorem s_ends_1 {d : Nat} {u0 : Value} {x0 : Operand} (h0 : ρ.ev x0 = u0) (hc : Fins P f [u0] w S T) (hp : ∀ v w', T v w' → Q (.panic [{ v := v, recovered := false }]) ρ w') (h : ∀ v w', S v w' → Q2 P l Q (upd ρ d v) w') : Q2 P (⟨none, .call (some d) f [x0]⟩ :: l) Q ρ w := by
  subst h0; exact QrH (by rfl) hc hp h
theorem s_ends_2 {d : Nat} {u0 u1 : Value} {x0 x1 : Operand} (h0 : ρ.ev x0 = u0) (h1 : ρ.ev x1 = u1) (hc : Fins P f [u0, u1] w S T) (hp : ∀ v w', T v w' → Q (.panic [{ v := v, recovered := false }]) ρ w') (h : ∀ v w', S v w' → Q2 P l Q (upd ρ d v) w') : Q2 P (⟨none, .call (some d) f [x0, x1]⟩ :: l) Q ρ w := by
  subst h0 h1; exact QrH (by rfl) hc hp h
theorem s_ends_3 {d : Nat} {u0 u1 u2 : Value} {x0 x1 x2 : Operand} (h0 : ρ.ev x0 = u0) (h1 : ρ.ev x1 = u1) (h2 : ρ.ev x2 = u2) (hc : Fins P f [u0, u1, u2] w S T) (hp : ∀ v w', T v w' → Q (.panic [{ v := v, recovered := false }]) ρ w') (h : ∀ v w', S v w' → Q2 P l Q (upd ρ d v) w') : Q2 P (⟨none, .call (some d) f [x0, x1, x2]⟩ :: l) Q ρ w := by
  subst h0 h1 h2; exact QrH (by rfl) hc hp h
theorem s_ends_4 {d : Nat} {u0 u1 u2 u3 : Value} {x0 x1 x2 x3 : Operand} (h0 : ρ.ev x0 = u0) (h1 : ρ.ev x1 = u1) (h2 : ρ.ev x2 = u2) (h3 : ρ.ev x3 = u3) (hc : Fins P f [u0, u1, u2, u3] w S T) (hp : ∀ v w', T v w' → Q (.panic [{ v := v, recovered := false }]) ρ w') (h : ∀ v w', S v w' → Q2 P l Q (upd ρ d v) w') : Q2 P (⟨none, .call (some d) f [x0, x1, x2, x3]⟩ :: l) Q ρ w := by
  subst h0 h1 h2 h3; exact QrH (by rfl) hc hp h
theorem Qf9 (k : Nat) {Ty : TypeId} {ms : Array (String × TypeId)} {w0 : World} (ht : P.underlying Ty = some (.interface ms)) : (Op.equalIn (k + 1) Ty .nilIface .nilIface).run P w0 = .ok true w0 := by
  simp only [Op.equalIn, Sem.run_bind, Qd P Ty _ w0 ht, Result.andThen_ok]
  simp [Sem.run_pure]
theorem Qjf {Ty : TypeId} {ms : Array (String × TypeId)} {w0 : World} (ht : P.underlying Ty = some (.interface ms)) : (Op.equal Ty .nilIface .nilIface).run P w0 = .ok true w0 := Qf9 9999 ht
theorem Qct (k : Nat) {Ty U : TypeId} {v : Value} {ms : Array (String × TypeId)} {w0 : World} (ht : P.underlying Ty = some (.interface ms)) : (Op.equalIn (k + 1) Ty (.iface U v) .nilIface).run P w0 = .ok false w0 := by
  simp only [Op.equalIn, Sem.run_bind, Qd P Ty _ w0 ht, Result.andThen_ok]
  simp [Sem.run_pure]
theorem QgV {Ty U : TypeId} {v : Value} {ms : Array (String × TypeId)} {w0 : World} (ht : P.underlying Ty = some (.interface ms)) : (Op.equal Ty (.iface U v) .nilIface).run P w0 = .ok false w0 := Qct 9999 ht
/-- e != nil -/
theorem QlT {d : Nat} {Ty : TypeId} {x : Operand} {ms : Array (String × TypeId)} (ht : P.underlying Ty = some (.interface ms)) (hx : ρ.ev x = .nilIface) (h : Q2 P l Q (upd ρ d (.bool false)) w) : Q2 P (⟨none, .bin d .neq Ty x (.const .nilIface)⟩ :: l) Q ρ w :=
  ⟨_, fun w0 => by rw [hx]; simp [Env.ev, eqGuard, binOp, Qjf ht], h⟩
theorem QlS {d : Nat} {Ty U : TypeId} {v : Value} {x : Operand} {ms : Array (String × TypeId)} (ht : P.underlying Ty = some (.interface ms)) (hx : ρ.ev x = .iface U v) (h : Q2 P l Q (upd ρ d (.bool true)) w) : Q2 P (⟨none, .bin d .neq Ty x (.const .nilIface)⟩ :: l) Q ρ w :=
  ⟨_, fun w0 => by rw [hx]; simp [Env.ev, eqGuard, binOp, QgV ht], h⟩
/-- Three things to the front. -/
theorem St.pick3 {c : Cx} {L L1 L2 L3 : List Res} {r1 r2 r3 : Res} (h : St c w L) (p1 : Pick L r1 L1) (p2 : Pick L1 r2 L2) (p3 : Pick L2 r3 L3) : St c w (r1 :: r2 :: r3 :: L3) :=
  h.perm (p1.perm.trans (List.Perm.cons _ (p2.perm.trans (List.Perm.cons _ p3.perm))))
end
end Go.Lir
namespace Go.Lir
set_option linter.unusedVariables false
/-- What is left to be shown, apart from what is known. -/
structure Bx (K : Prop) : Prop where
  o : K
section
variable {K G : Prop}
theorem zn (k : K) (h : Bx K → G := by
  intro K9
  refine Q5B ?_
  (repeat (first | refine Q2r ?_ | refine QaZ ?_))
  exact K9.o) : G := h ⟨k⟩
theorem zcn (k : K) (h : Bx K → G := by
  intro K9
  refine s_cnil ?_
  (repeat (first | refine Q2r ?_ | refine QaZ ?_))
  exact K9.o) : G := h ⟨k⟩
theorem zsk (k : K) (h : Bx K → G := by
  intro K9
  refine s_skip ?_
  (repeat (first | refine Q2r ?_ | refine QaZ ?_))
  exact K9.o) : G := h ⟨k⟩
theorem zex (k : K) (h : Bx K → G := by
  intro K9
  refine s_exit ?_
  (repeat (first | refine s_exitQ ?_ | refine s_exitT ?_ | refine s_exitB rfl ?_ | refine Q2r ?_ | refine QaZ ?_))
  exact K9.o) : G := h ⟨k⟩
theorem zr (k : K) (h : Bx K → G := by
  intro K9
  refine s_ret ?_
  (repeat (first | refine s_retT ?_ | refine s_retB ?_))
  exact K9.o) : G := h ⟨k⟩
theorem zy {A : Prop} (k : G) (h : A := by
  repeat (first
    | exact fun _ h => (List.not_mem_nil h).elim
    | refine List.forall_mem_cons.2 ⟨by first | exact Qs2 hS rfl (NthP.nth (by repeat constructor)) rfl | exact Qow hS rfl (NthP.nth (by repeat constructor)) rfl rfl | exact Qox hS (by assumption) rfl rfl | exact Qlb hS (by assumption) rfl rfl rfl | exact Qmo hS (by assumption) rfl rfl | exact Qha hS (by assumption) rfl rfl rfl | exact gq_skip rfl rfl | exact QcQ rfl (Qs2 hS rfl (NthP.nth (by repeat constructor)) rfl) | exact QcQ rfl (Qow hS rfl (NthP.nth (by repeat constructor)) rfl rfl) | exact QcQ rfl (Qox hS (by assumption) rfl rfl) | exact QcQ rfl (Qlb hS (by assumption) rfl rfl rfl) | exact QcQ rfl (Qmo hS (by assumption) rfl rfl) | exact QcQ rfl (Qha hS (by assumption) rfl rfl rfl), ?_⟩)) : A ∧ G := ⟨h, k⟩
end
section
variable {P : Program} {l : List GO} {Q : QT} {ρ : Env} {w : World} {c : Cx} {L : List Res} {i : Nat} {T es : Nat} {v : Value} {css : List (List Value)}
theorem zt {K : KT} (h : K ρ w) : Q2 P [] (QA K Q) ρ w := Q5B (Q2r h)
theorem St.ns {L' : List Res} (h : St c w L) (e : L = L' := by (conv => lhs; simp only [List.set_cons_zero, List.set_cons_succ]); first | done | exact rfl) : St c w L' := e ▸ h
theorem zgn {s : Nat} {b : Bool} {o : LO} {v : Value} (h : Q2 P l Q (updo ρ o.dst undef) w) (hg : ρ s = v := by exact rfl) (hw : QiM v b = false := by exact rfl) : Q2 P (⟨some (s, b), o⟩ :: l) Q ρ w := s_gn hg hw h
theorem zgy {s : Nat} {b : Bool} {o : LO} (h : Q2 P (⟨none, o⟩ :: l) Q ρ w) (hg : ρ s = .bool b := by exact rfl) : Q2 P (⟨some (s, b), o⟩ :: l) Q ρ w := s_gy hg h
theorem zct {c : Operand} {a b : LC} (h : a.wp P Q ρ w) (hc : ρ.ev c = .bool true := by exact rfl) : (LC.cond c a b).wp P Q ρ w := s_cond_t hc h
theorem zcf {c : Operand} {a b : LC} (h : b.wp P Q ρ w) (hc : ρ.ev c = .bool false := by exact rfl) : (LC.cond c a b).wp P Q ρ w := s_cond_f hc h
theorem zf0 {d : Nat} {x : Operand} {off b : Nat} (h : Q2 P l Q (upd ρ d (.pointer (some ⟨b, off, none⟩))) w) (hx : ρ.ev x = .pointer (some ⟨b, 0, none⟩) := by exact rfl) : Q2 P (⟨none, .fld d x off⟩ :: l) Q ρ w := s_fld0 hx h
theorem zfd {d : Nat} {x : Operand} {off b o : Nat} (h : Q2 P l Q (upd ρ d (.pointer (some ⟨b, o + off, none⟩))) w) (hx : ρ.ev x = .pointer (some ⟨b, o, none⟩) := by exact rfl) : Q2 P (⟨none, .fld d x off⟩ :: l) Q ρ w := s_fld hx h
theorem znc {d : Nat} {x : Operand} {a : Addr} (h : Q2 P l Q (upd ρ d (.pointer (some a))) w) (hx : ρ.ev x = .pointer (some a) := by exact rfl) : Q2 P (⟨none, .nilc d x⟩ :: l) Q ρ w := s_nilc hx h
theorem znt {d : Nat} {x : Operand} {b : Bool} (h : Q2 P l Q (upd ρ d (.bool (!b))) w) (hx : ρ.ev x = .bool b := by exact rfl) : Q2 P (⟨none, .un d .not x⟩ :: l) Q ρ w := s_not hx h
theorem zxt {d : Nat} {x : Operand} {i : Nat} {vs : List Value} {v : Value} (h : Q2 P l Q (upd ρ d v) w) (hx : ρ.ev x = .tuple ⟨vs⟩ := by exact rfl) (hv : vs[i]? = some v := by exact rfl) : Q2 P (⟨none, .ext d x i⟩ :: l) Q ρ w := s_ext hx hv h
theorem zm {d : Nat} {x : Operand} {v : Value} (h : Q2 P l Q (upd ρ d v) w) (hx : ρ.ev x = v := by (conv => lhs; whnf); first | done | exact rfl) : Q2 P (⟨none, .mov d x⟩ :: l) Q ρ w := s_mov hx h
theorem zpt {d : Nat} {c x y : Operand} {v : Value} (h : Q2 P l Q (upd ρ d v) w) (hc : ρ.ev c = .bool true := by exact rfl) (hx : ρ.ev x = v := by (conv => lhs; whnf); first | done | exact rfl) : Q2 P (⟨none, .pick d c x y⟩ :: l) Q ρ w := s_pick_t hc hx h
theorem zpf {d : Nat} {c x y : Operand} {v : Value} (h : Q2 P l Q (upd ρ d v) w) (hc : ρ.ev c = .bool false := by exact rfl) (hx : ρ.ev y = v := by (conv => lhs; whnf); first | done | exact rfl) : Q2 P (⟨none, .pick d c x y⟩ :: l) Q ρ w := s_pick_f hc hx h
theorem zki {d : Nat} {T : TypeId} {x : Operand} {v : Value} (h : Q2 P l Q (upd ρ d (.iface T v)) w) (hx : ρ.ev x = v := by (conv => lhs; whnf); first | done | exact rfl) : Q2 P (⟨none, .mki d T x⟩ :: l) Q ρ w := s_mki hx h
theorem zl {d : Nat} {x : Operand} {b o : Nat} {cs : List Value} {u : Value} (hS : St c w L) (h : Q2 P l Q (upd ρ d u) w) (hx : ρ.ev x = .pointer (some ⟨b, o, none⟩) := by exact rfl) (hi : nth L i = some (blk b T cs) := by exact NthP.nth (by repeat constructor)) (hu : cs[o]? = some u := by exact rfl) : Q2 P (⟨none, .load1 d x⟩ :: l) Q ρ w := s_loadB hS hx hi hu h
theorem zlk {d : Nat} {x : Operand} {b o : Nat} {cs : List Value} {u : Value} (hS : St c w L) (h : Q2 P l Q (upd ρ d u) w) (ha : AtK c b o cs := by assumption) (hx : ρ.ev x = .pointer (some ⟨b, o, none⟩) := by exact rfl) (hu : cs[0]? = some u := by exact rfl) : Q2 P (⟨none, .load1 d x⟩ :: l) Q ρ w := s_loadK hS ha hx hu h
theorem zlj {d : Nat} {x : Operand} {b o j : Nat} {cs : List Value} {u : Value} (hS : St c w L) (h : Q2 P l Q (upd ρ d u) w) (ha : AtK c b o cs := by assumption) (hx : ρ.ev x = .pointer (some ⟨b, o + j, none⟩) := by exact rfl) (hu : cs[j]? = some u := by exact rfl) : Q2 P (⟨none, .load1 d x⟩ :: l) Q ρ w := s_loadKj hS ha hx hu h
theorem zv {d n : Nat} {x : Operand} {b o : Nat} {cs us : List Value} (hS : St c w L) (h : Q2 P l Q (upd ρ d (.agg ⟨us⟩)) w) (hx : ρ.ev x = .pointer (some ⟨b, o, none⟩) := by exact rfl) (hi : nth L i = some (blk b T cs) := by exact NthP.nth (by repeat constructor)) (hu : (cs.drop o).take n = us := by exact rfl) (hl : us.length = n := by exact rfl) : Q2 P (⟨none, .loadn d n x⟩ :: l) Q ρ w := s_loadnB hS hx hi hu hl h
theorem zvk {d n : Nat} {x : Operand} {b o : Nat} {cs : List Value} (hS : St c w L) (h : Q2 P l Q (upd ρ d (.agg ⟨cs⟩)) w) (ha : AtK c b o cs := by assumption) (hx : ρ.ev x = .pointer (some ⟨b, o, none⟩) := by exact rfl) (hl : cs.length = n := by exact rfl) : Q2 P (⟨none, .loadn d n x⟩ :: l) Q ρ w := s_loadnK hS ha hx hl h
theorem zad {d : Nat} {T : TypeId} {x y : Operand} {a b : Int} (h : Q2 P l Q (upd ρ d (.int .i64 (a + b))) w) (hx : ρ.ev x = .int .i64 a := by exact rfl) (hy : ρ.ev y = .int .i64 b := by exact rfl) (h1 : -9223372036854775808 ≤ a + b := by omega) (h2 : a + b ≤ 9223372036854775807 := by omega) : Q2 P (⟨none, .bin d .add T x y⟩ :: l) Q ρ w := s_add hx hy h1 h2 h
theorem zsu {d : Nat} {T : TypeId} {x y : Operand} {a b : Int} (h : Q2 P l Q (upd ρ d (.int .i64 (a - b))) w) (hx : ρ.ev x = .int .i64 a := by exact rfl) (hy : ρ.ev y = .int .i64 b := by exact rfl) (h1 : -9223372036854775808 ≤ a - b := by omega) (h2 : a - b ≤ 9223372036854775807 := by omega) : Q2 P (⟨none, .bin d .sub T x y⟩ :: l) Q ρ w := s_subi hx hy h1 h2 h
theorem zmu {d : Nat} {T : TypeId} {x y : Operand} {a b : Int} (h : Q2 P l Q (upd ρ d (.int .i64 (a * b))) w) (hx : ρ.ev x = .int .i64 a := by exact rfl) (hy : ρ.ev y = .int .i64 b := by exact rfl) (h1 : -9223372036854775808 ≤ a * b := by omega) (h2 : a * b ≤ 9223372036854775807 := by omega) : Q2 P (⟨none, .bin d .mul T x y⟩ :: l) Q ρ w := s_mul hx hy h1 h2 h
theorem Q1b {d : Nat} {T : TypeId} {x y : Operand} {k : IntKind} {a b : Int} (h : Q2 P l Q (upd ρ d (.bool true)) w) (hx : ρ.ev x = .int k a := by exact rfl) (hy : ρ.ev y = .int k b := by exact rfl) (hp : a < b := by omega) : Q2 P (⟨none, .bin d .lss T x y⟩ :: l) Q ρ w := QlR hx hy hp h
theorem Q1z {d : Nat} {T : TypeId} {x y : Operand} {k : IntKind} {a b : Int} (h : Q2 P l Q (upd ρ d (.bool false)) w) (hx : ρ.ev x = .int k a := by exact rfl) (hy : ρ.ev y = .int k b := by exact rfl) (hp : ¬ (a < b) := by omega) : Q2 P (⟨none, .bin d .lss T x y⟩ :: l) Q ρ w := QpA hx hy hp h
theorem Qn {d : Nat} {T : TypeId} {x y : Operand} {k : IntKind} {a b : Int} (h : Q2 P l Q (upd ρ d (.bool true)) w) (hx : ρ.ev x = .int k a := by exact rfl) (hy : ρ.ev y = .int k b := by exact rfl) (hp : a = b := by omega) : Q2 P (⟨none, .bin d .eql T x y⟩ :: l) Q ρ w := Qa0 hx hy hp h
theorem Qq {d : Nat} {T : TypeId} {x y : Operand} {k : IntKind} {a b : Int} (h : Q2 P l Q (upd ρ d (.bool false)) w) (hx : ρ.ev x = .int k a := by exact rfl) (hy : ρ.ev y = .int k b := by exact rfl) (hp : ¬ (a = b) := by omega) : Q2 P (⟨none, .bin d .eql T x y⟩ :: l) Q ρ w := QgT hx hy hp h
theorem Q1h {d : Nat} {T : TypeId} {x y : Operand} {k : IntKind} {a b : Int} (h : Q2 P l Q (upd ρ d (.bool true)) w) (hx : ρ.ev x = .int k a := by exact rfl) (hy : ρ.ev y = .int k b := by exact rfl) (hp : a ≠ b := by omega) : Q2 P (⟨none, .bin d .neq T x y⟩ :: l) Q ρ w := s_neq_t hx hy hp h
theorem Q1j {d : Nat} {T : TypeId} {x y : Operand} {k : IntKind} {a b : Int} (h : Q2 P l Q (upd ρ d (.bool false)) w) (hx : ρ.ev x = .int k a := by exact rfl) (hy : ρ.ev y = .int k b := by exact rfl) (hp : ¬ (a ≠ b) := by omega) : Q2 P (⟨none, .bin d .neq T x y⟩ :: l) Q ρ w := s_neq_f hx hy hp h
theorem QD {d : Nat} {T : TypeId} {x y : Operand} {k : IntKind} {a b : Int} (h : Q2 P l Q (upd ρ d (.bool true)) w) (hx : ρ.ev x = .int k a := by exact rfl) (hy : ρ.ev y = .int k b := by exact rfl) (hp : b < a := by omega) : Q2 P (⟨none, .bin d .gtr T x y⟩ :: l) Q ρ w := Q5C hx hy hp h
theorem QR {d : Nat} {T : TypeId} {x y : Operand} {k : IntKind} {a b : Int} (h : Q2 P l Q (upd ρ d (.bool false)) w) (hx : ρ.ev x = .int k a := by exact rfl) (hy : ρ.ev y = .int k b := by exact rfl) (hp : ¬ (b < a) := by omega) : Q2 P (⟨none, .bin d .gtr T x y⟩ :: l) Q ρ w := Qcq hx hy hp h
theorem Q5Y {d : Nat} {T : TypeId} {x y : Operand} {k : IntKind} {a b : Int} (h : Q2 P l Q (upd ρ d (.bool true)) w) (hx : ρ.ev x = .int k a := by exact rfl) (hy : ρ.ev y = .int k b := by exact rfl) (hp : b ≤ a := by omega) : Q2 P (⟨none, .bin d .geq T x y⟩ :: l) Q ρ w := s_geq_t hx hy hp h
theorem Q6N {d : Nat} {T : TypeId} {x y : Operand} {k : IntKind} {a b : Int} (h : Q2 P l Q (upd ρ d (.bool false)) w) (hx : ρ.ev x = .int k a := by exact rfl) (hy : ρ.ev y = .int k b := by exact rfl) (hp : ¬ (b ≤ a) := by omega) : Q2 P (⟨none, .bin d .geq T x y⟩ :: l) Q ρ w := s_geq_f hx hy hp h
theorem Qtk {d : Nat} {T : TypeId} {x y : Operand} {k : IntKind} {a b : Int} (h : Q2 P l Q (upd ρ d (.bool true)) w) (hx : ρ.ev x = .int k a := by exact rfl) (hy : ρ.ev y = .int k b := by exact rfl) (hp : a ≤ b := by omega) : Q2 P (⟨none, .bin d .leq T x y⟩ :: l) Q ρ w := s_leq_t hx hy hp h
theorem Qtl {d : Nat} {T : TypeId} {x y : Operand} {k : IntKind} {a b : Int} (h : Q2 P l Q (upd ρ d (.bool false)) w) (hx : ρ.ev x = .int k a := by exact rfl) (hy : ρ.ev y = .int k b := by exact rfl) (hp : ¬ (a ≤ b) := by omega) : Q2 P (⟨none, .bin d .leq T x y⟩ :: l) Q ρ w := s_leq_f hx hy hp h
theorem zst {x y : Operand} {b o : Nat} {cs : List Value} {u : Value} (hS : St c w L) (h : ∀ w', St c w' (L.set i (blk b T (cs.set o u))) → Q2 P l Q ρ w') (hx : ρ.ev x = .pointer (some ⟨b, o, none⟩) := by exact rfl) (hy : ρ.ev y = u := by (conv => lhs; whnf); first | done | exact rfl) (hi : nth L i = some (blk b T cs) := by exact NthP.nth (by repeat constructor)) (ho : o < cs.length := by simp) (h1 : oneC u = true := by first | rfl | assumption | exact hS.oneC (NthP.nth (by repeat constructor)) | exact SlR.oneC (by assumption)) : Q2 P (⟨none, .store1 x y⟩ :: l) Q ρ w := s_storeB hS hx hy hi ho h1 h
theorem zb {d : Nat} {x : Operand} {cs : List Value} (hS : St c w L) (h : ∀ b w', St c w' (blk b T cs :: L) → Q2 P l Q (upd ρ d (.pointer (some ⟨b, 0, none⟩))) w') (hx : ρ.ev x = v := by (conv => lhs; whnf); first | done | exact rfl) (hc : v.cells = ⟨cs⟩ := by rfl) : Q2 P (⟨none, .box d T x⟩ :: l) Q ρ w := s_boxB hS hx hc h
theorem zsn {n i b T : Nat} {x y : Operand} {cs us : List Value} (hS : St c w L) (h : ∀ w', St c w' (L.set i (blk b T us)) → Q2 P l Q ρ w') (hx : ρ.ev x = .pointer (some ⟨b, 0, none⟩) := by exact rfl) (hy : ρ.ev y = .agg ⟨us⟩ := by exact rfl) (hn : us.length = n := by rfl) (hi : nth L i = some (blk b T cs) := by exact NthP.nth (by repeat constructor)) (hc : cs.length = n := by rfl) (h1 : ∀ u ∈ us, oneC u = true := by first | (simp [oneC]; done) | assumption | exact Rep.one _ (by assumption) | (simp only [List.take_succ_cons, List.take_zero, List.drop_zero, List.mem_cons, List.not_mem_nil, or_false, forall_eq_or_imp, forall_eq]; ((try refine And.intro ?_ ?_) <;> try refine And.intro ?_ ?_) <;> first | rfl | assumption)) : Q2 P (⟨none, .storen n x y⟩ :: l) Q ρ w := Qtz hS hx hy hn hi hc h1 h
theorem zsm {n : Nat} {x y : Operand} {b o : Nat} {cs us cs' : List Value} (hS : St c w L) (h : ∀ w', St c w' (L.set i (blk b T cs')) → Q2 P l Q ρ w') (hx : ρ.ev x = .pointer (some ⟨b, o, none⟩) := by exact rfl) (hy : ρ.ev y = .agg ⟨us⟩ := by exact rfl) (hn : us.length = n := by rfl) (hi : nth L i = some (blk b T cs) := by exact NthP.nth (by repeat constructor)) (ho : o + n ≤ cs.length := by simp) (h1 : ∀ u ∈ us, oneC u = true := by first | (simp [oneC]; done) | assumption | exact Rep.one _ (by assumption) | (simp only [List.take_succ_cons, List.take_zero, List.drop_zero, List.mem_cons, List.not_mem_nil, or_false, forall_eq_or_imp, forall_eq]; ((try refine And.intro ?_ ?_) <;> try refine And.intro ?_ ?_) <;> first | rfl | assumption)) (hc : cs.take o ++ (us ++ cs.drop (o + n)) = cs' := by (conv => lhs; simp only [List.take_succ_cons, List.take_zero, List.drop_succ_cons, List.drop_zero, List.cons_append, List.nil_append]); first | done | exact rfl) : Q2 P (⟨none, .storen n x y⟩ :: l) Q ρ w := Qo1 hS hx hy hn hi ho h1 hc h
theorem zf {t : Nat} {R : Ending → World → Prop} {v : Value} (h : R (.returned v) w) (hv : ρ t = v := by (conv => lhs; whnf); first | done | exact rfl) : retQ P [.tmp t] R .ret ρ w := q_ret1 hv h
theorem zf2 {t u : Nat} {R : Ending → World → Prop} {v v' : Value} (h : R (.returned (.tuple #[v, v'])) w) (hv : ρ t = v := by (conv => lhs; whnf); first | done | exact rfl) (hv' : ρ u = v' := by (conv => lhs; whnf); first | done | exact rfl) : retQ P [.tmp t, .tmp u] R .ret ρ w := q_ret2 hv hv' h
theorem zb0 {d : Nat} {z : List Value} (cs : List Value) (h : Q2 P l Q (upd ρ d (.agg ⟨cs⟩)) w) (hf : Q3T z [] = some cs := by rfl) : Q2 P (⟨none, .build d z []⟩ :: l) Q ρ w := s_build0  hf h
theorem zb1 {d : Nat} {z : List Value} {o0 n0 : Nat} {x0 : Operand} {v0 : Value} (cs : List Value) (h : Q2 P l Q (upd ρ d (.agg ⟨cs⟩)) w) (h0 : ρ.ev x0 = v0 := by (conv => lhs; whnf); first | done | exact rfl) (hf : Q3T z [(o0, n0, v0)] = some cs := by rfl) : Q2 P (⟨none, .build d z [(o0, n0, x0)]⟩ :: l) Q ρ w := s_build1 h0 hf h
theorem zB1 {d : Nat} {T : TypeId} {n : Nat} {z : List Value} {o0 n0 : Nat} {x0 : Operand} {v0 : Value} (hS : St c w L) (cs : List Value) (h : ∀ b w', St c w' (blk b T cs :: L) → Q2 P l Q (upd ρ d (.slice (some ⟨b, 0, none⟩) n n)) w') (h0 : ρ.ev x0 = v0 := by (conv => lhs; whnf); first | done | exact rfl) (hf : Q3T z [(o0, n0, v0)] = some cs := by rfl) : Q2 P (⟨none, .buildS d T n z [(o0, n0, x0)]⟩ :: l) Q ρ w := QtM h0 hf fun b w' hb hf1 _ hk => h b w' (hS.laid hb hf1 hk)
theorem zb2 {d : Nat} {z : List Value} {o0 n0 : Nat} {x0 : Operand} {v0 : Value} {o1 n1 : Nat} {x1 : Operand} {v1 : Value} (cs : List Value) (h : Q2 P l Q (upd ρ d (.agg ⟨cs⟩)) w) (h0 : ρ.ev x0 = v0 := by (conv => lhs; whnf); first | done | exact rfl) (h1 : ρ.ev x1 = v1 := by (conv => lhs; whnf); first | done | exact rfl) (hf : Q3T z [(o0, n0, v0), (o1, n1, v1)] = some cs := by rfl) : Q2 P (⟨none, .build d z [(o0, n0, x0), (o1, n1, x1)]⟩ :: l) Q ρ w := QrI h0 h1 hf h
theorem zb3 {d : Nat} {z : List Value} {o0 n0 : Nat} {x0 : Operand} {v0 : Value} {o1 n1 : Nat} {x1 : Operand} {v1 : Value} {o2 n2 : Nat} {x2 : Operand} {v2 : Value} (cs : List Value) (h : Q2 P l Q (upd ρ d (.agg ⟨cs⟩)) w) (h0 : ρ.ev x0 = v0 := by (conv => lhs; whnf); first | done | exact rfl) (h1 : ρ.ev x1 = v1 := by (conv => lhs; whnf); first | done | exact rfl) (h2 : ρ.ev x2 = v2 := by (conv => lhs; whnf); first | done | exact rfl) (hf : Q3T z [(o0, n0, v0), (o1, n1, v1), (o2, n2, v2)] = some cs := by rfl) : Q2 P (⟨none, .build d z [(o0, n0, x0), (o1, n1, x1), (o2, n2, x2)]⟩ :: l) Q ρ w := s_build3 h0 h1 h2 hf h
theorem zb4 {d : Nat} {z : List Value} {o0 n0 : Nat} {x0 : Operand} {v0 : Value} {o1 n1 : Nat} {x1 : Operand} {v1 : Value} {o2 n2 : Nat} {x2 : Operand} {v2 : Value} {o3 n3 : Nat} {x3 : Operand} {v3 : Value} (cs : List Value) (h : Q2 P l Q (upd ρ d (.agg ⟨cs⟩)) w) (h0 : ρ.ev x0 = v0 := by (conv => lhs; whnf); first | done | exact rfl) (h1 : ρ.ev x1 = v1 := by (conv => lhs; whnf); first | done | exact rfl) (h2 : ρ.ev x2 = v2 := by (conv => lhs; whnf); first | done | exact rfl) (h3 : ρ.ev x3 = v3 := by (conv => lhs; whnf); first | done | exact rfl) (hf : Q3T z [(o0, n0, v0), (o1, n1, v1), (o2, n2, v2), (o3, n3, v3)] = some cs := by rfl) : Q2 P (⟨none, .build d z [(o0, n0, x0), (o1, n1, x1), (o2, n2, x2), (o3, n3, x3)]⟩ :: l) Q ρ w := s_build4 h0 h1 h2 h3 hf h
theorem zb10 {d : Nat} {z : List Value} {o0 n0 : Nat} {x0 : Operand} {v0 : Value} {o1 n1 : Nat} {x1 : Operand} {v1 : Value} {o2 n2 : Nat} {x2 : Operand} {v2 : Value} {o3 n3 : Nat} {x3 : Operand} {v3 : Value} {o4 n4 : Nat} {x4 : Operand} {v4 : Value} {o5 n5 : Nat} {x5 : Operand} {v5 : Value} {o6 n6 : Nat} {x6 : Operand} {v6 : Value} {o7 n7 : Nat} {x7 : Operand} {v7 : Value} {o8 n8 : Nat} {x8 : Operand} {v8 : Value} {o9 n9 : Nat} {x9 : Operand} {v9 : Value} (cs : List Value) (h : Q2 P l Q (upd ρ d (.agg ⟨cs⟩)) w) (h0 : ρ.ev x0 = v0 := by (conv => lhs; whnf); first | done | exact rfl) (h1 : ρ.ev x1 = v1 := by (conv => lhs; whnf); first | done | exact rfl) (h2 : ρ.ev x2 = v2 := by (conv => lhs; whnf); first | done | exact rfl) (h3 : ρ.ev x3 = v3 := by (conv => lhs; whnf); first | done | exact rfl) (h4 : ρ.ev x4 = v4 := by (conv => lhs; whnf); first | done | exact rfl) (h5 : ρ.ev x5 = v5 := by (conv => lhs; whnf); first | done | exact rfl) (h6 : ρ.ev x6 = v6 := by (conv => lhs; whnf); first | done | exact rfl) (h7 : ρ.ev x7 = v7 := by (conv => lhs; whnf); first | done | exact rfl) (h8 : ρ.ev x8 = v8 := by (conv => lhs; whnf); first | done | exact rfl) (h9 : ρ.ev x9 = v9 := by (conv => lhs; whnf); first | done | exact rfl) (hf : Q3T z [(o0, n0, v0), (o1, n1, v1), (o2, n2, v2), (o3, n3, v3), (o4, n4, v4), (o5, n5, v5), (o6, n6, v6), (o7, n7, v7), (o8, n8, v8), (o9, n9, v9)] = some cs := by rfl) : Q2 P (⟨none, .build d z [(o0, n0, x0), (o1, n1, x1), (o2, n2, x2), (o3, n3, x3), (o4, n4, x4), (o5, n5, x5), (o6, n6, x6), (o7, n7, x7), (o8, n8, x8), (o9, n9, x9)]⟩ :: l) Q ρ w := QtN h0 h1 h2 h3 h4 h5 h6 h7 h8 h9 hf h
theorem zD {gs : List GO} {es : List (List Nat)} (C : List CI) (h : Q2 P (C.map fun c => gat gs c.1) Q ρ w.drew) (hok : Qf0 gs es C = true := by kernel_rfl) (hpl : (C.all fun c => match c.2 with | some (some _) => false | _ => true) = true := by kernel_rfl) : (LC.draw gs es).wp P Q ρ w := s_draw C hok hpl h
theorem zC {gs : List GO} {es : List (List Nat)} (C : List CI) (h : Q1W P gs C Q ρ w.drew) (hok : Qf0 gs es C = true := by kernel_rfl) : (LC.draw gs es).wp P Q ρ w := s_canon C hok h
theorem zR0 {d : Nat} {f : FuncId} {S : Value → World → Prop} (c : Rets P f [] w S) (h : ∀ v w', S v w' → Q2 P l Q (upd ρ d v) w') : Q2 P (⟨none, .call (some d) f []⟩ :: l) Q ρ w := s_rets_0  c h
theorem zR1 {d : Nat} {f : FuncId} {x0 : Operand} {u0 : Value} {S : Value → World → Prop} (h0 : ρ.ev x0 = u0 := by (conv => lhs; whnf); first | done | exact rfl) (c : Rets P f [u0] w S) (h : ∀ v w', S v w' → Q2 P l Q (upd ρ d v) w') : Q2 P (⟨none, .call (some d) f [x0]⟩ :: l) Q ρ w := s_rets_1 h0 c h
theorem zE1 {d : Nat} {f : FuncId} {x0 : Operand} {u0 : Value} {S T : Value → World → Prop} (h0 : ρ.ev x0 = u0 := by (conv => lhs; whnf); first | done | exact rfl) (c : Fins P f [u0] w S T) (p : ∀ v w', T v w' → Q (.panic [{ v := v, recovered := false }]) ρ w') (h : ∀ v w', S v w' → Q2 P l Q (upd ρ d v) w') : Q2 P (⟨none, .call (some d) f [x0]⟩ :: l) Q ρ w := s_ends_1 h0 c p h
theorem zR2 {d : Nat} {f : FuncId} {x0 x1 : Operand} {u0 u1 : Value} {S : Value → World → Prop} (h0 : ρ.ev x0 = u0 := by (conv => lhs; whnf); first | done | exact rfl) (h1 : ρ.ev x1 = u1 := by (conv => lhs; whnf); first | done | exact rfl) (c : Rets P f [u0, u1] w S) (h : ∀ v w', S v w' → Q2 P l Q (upd ρ d v) w') : Q2 P (⟨none, .call (some d) f [x0, x1]⟩ :: l) Q ρ w := s_rets_2 h0 h1 c h
theorem zE2 {d : Nat} {f : FuncId} {x0 x1 : Operand} {u0 u1 : Value} {S T : Value → World → Prop} (h0 : ρ.ev x0 = u0 := by (conv => lhs; whnf); first | done | exact rfl) (h1 : ρ.ev x1 = u1 := by (conv => lhs; whnf); first | done | exact rfl) (c : Fins P f [u0, u1] w S T) (p : ∀ v w', T v w' → Q (.panic [{ v := v, recovered := false }]) ρ w') (h : ∀ v w', S v w' → Q2 P l Q (upd ρ d v) w') : Q2 P (⟨none, .call (some d) f [x0, x1]⟩ :: l) Q ρ w := s_ends_2 h0 h1 c p h
theorem zR3 {d : Nat} {f : FuncId} {x0 x1 x2 : Operand} {u0 u1 u2 : Value} {S : Value → World → Prop} (h0 : ρ.ev x0 = u0 := by (conv => lhs; whnf); first | done | exact rfl) (h1 : ρ.ev x1 = u1 := by (conv => lhs; whnf); first | done | exact rfl) (h2 : ρ.ev x2 = u2 := by (conv => lhs; whnf); first | done | exact rfl) (c : Rets P f [u0, u1, u2] w S) (h : ∀ v w', S v w' → Q2 P l Q (upd ρ d v) w') : Q2 P (⟨none, .call (some d) f [x0, x1, x2]⟩ :: l) Q ρ w := s_rets_3 h0 h1 h2 c h
theorem zE3 {d : Nat} {f : FuncId} {x0 x1 x2 : Operand} {u0 u1 u2 : Value} {S T : Value → World → Prop} (h0 : ρ.ev x0 = u0 := by (conv => lhs; whnf); first | done | exact rfl) (h1 : ρ.ev x1 = u1 := by (conv => lhs; whnf); first | done | exact rfl) (h2 : ρ.ev x2 = u2 := by (conv => lhs; whnf); first | done | exact rfl) (c : Fins P f [u0, u1, u2] w S T) (p : ∀ v w', T v w' → Q (.panic [{ v := v, recovered := false }]) ρ w') (h : ∀ v w', S v w' → Q2 P l Q (upd ρ d v) w') : Q2 P (⟨none, .call (some d) f [x0, x1, x2]⟩ :: l) Q ρ w := s_ends_3 h0 h1 h2 c p h
theorem zR4 {d : Nat} {f : FuncId} {x0 x1 x2 x3 : Operand} {u0 u1 u2 u3 : Value} {S : Value → World → Prop} (h0 : ρ.ev x0 = u0 := by (conv => lhs; whnf); first | done | exact rfl) (h1 : ρ.ev x1 = u1 := by (conv => lhs; whnf); first | done | exact rfl) (h2 : ρ.ev x2 = u2 := by (conv => lhs; whnf); first | done | exact rfl) (h3 : ρ.ev x3 = u3 := by (conv => lhs; whnf); first | done | exact rfl) (c : Rets P f [u0, u1, u2, u3] w S) (h : ∀ v w', S v w' → Q2 P l Q (upd ρ d v) w') : Q2 P (⟨none, .call (some d) f [x0, x1, x2, x3]⟩ :: l) Q ρ w := s_rets_4 h0 h1 h2 h3 c h
theorem zE4 {d : Nat} {f : FuncId} {x0 x1 x2 x3 : Operand} {u0 u1 u2 u3 : Value} {S T : Value → World → Prop} (h0 : ρ.ev x0 = u0 := by (conv => lhs; whnf); first | done | exact rfl) (h1 : ρ.ev x1 = u1 := by (conv => lhs; whnf); first | done | exact rfl) (h2 : ρ.ev x2 = u2 := by (conv => lhs; whnf); first | done | exact rfl) (h3 : ρ.ev x3 = u3 := by (conv => lhs; whnf); first | done | exact rfl) (c : Fins P f [u0, u1, u2, u3] w S T) (p : ∀ v w', T v w' → Q (.panic [{ v := v, recovered := false }]) ρ w') (h : ∀ v w', S v w' → Q2 P l Q (upd ρ d v) w') : Q2 P (⟨none, .call (some d) f [x0, x1, x2, x3]⟩ :: l) Q ρ w := s_ends_4 h0 h1 h2 h3 c p h
variable {α : Type} {r : Rep α} {xs : List α}
theorem zL {d : Nat} {x : Operand} (h : Q2 P l Q (upd ρ d (.int .i64 xs.length)) w) (hx : ρ.ev x = v := by (conv => lhs; whnf); first | done | exact rfl) (hK : r.sl c v xs := by assumption) : Q2 P (⟨none, .len d x⟩ :: l) Q ρ w := s_lenL hx hK h
theorem zi {d m : Nat} {x y : Operand} {k : IntKind} (h : ∀ b o cs a, AtK c b o cs → xs[m]? = some a → r.at c cs a → Q2 P l Q (upd ρ d (.pointer (some ⟨b, o, none⟩))) w) (hx : ρ.ev x = v := by (conv => lhs; whnf); first | done | exact rfl) (hy : ρ.ev y = .int k (m : Int) := by exact rfl) (hK : r.sl c v xs := by assumption) (hes : r.es = es := by exact rfl) (hn : m < xs.length := by first | omega | (simp; omega)) : Q2 P (⟨none, .idx d es x y⟩ :: l) Q ρ w := QN hx hy hK hes hn h
theorem za {T T' d Ts Ts2 Ty nb i k b : Nat} {z : List Value} {x y : Operand} {ds : List Value} {css : List (List Value)} {a : α} (hel : Q4x P Ts = some (T, es, nb, z)) (hts : ∃ e2, P.underlying Ts2 = some (.slice e2)) (hS : St c w L) (h : ∀ v' w' css', r.ls c css' (xs ++ [a]) → oneC v' = true → St c w' (L.set i (Go.Lir.sl T es v' css')) → Q2 P l Q (upd ρ d v') w') (hx : ρ.ev x = v := by (conv => lhs; whnf); first | done | exact rfl) (hy : ρ.ev y = .slice (some ⟨b, 0, none⟩) 1 1 := by (conv => lhs; whnf); first | done | exact rfl) (hi : nth L i = some (Go.Lir.sl T es v css) := by exact NthP.nth (by repeat constructor)) (hk : nth L k = some (blk b T' ds) := by exact NthP.nth (by repeat constructor)) (hls : r.ls c css xs := by assumption) (ha : r.at c ds a := by first | assumption | exact rfl) (hes : r.es = es := by exact rfl) (hb : (xs.length + 1) * nb ≤ 140737488355328 := by first | omega | (simp only [List.length_take]; omega) | (simp; omega)) : Q2 P (⟨none, .raw ⟨some d, .call ⟨.builtin .append, #[x, y], #[Ts, Ts2]⟩, Ty, "", #[], none⟩⟩ :: l) Q ρ w := s_appR1 hel hts hS hx hy hi hk hls ha hes hb h
def evs (ρ : Env) (ts : List Nat) : List (Nat × Value) := ts.map fun t => (t, ρ t)
theorem QuG (ρ : Env) : evs ρ [] = [] := rfl
theorem QuH {t : Nat} {ts : List Nat} {u : Value} {A : List (Nat × Value)} (h : ρ t = u) (h2 : evs ρ ts = A) : evs ρ (t :: ts) = (t, u) :: A := by subst h h2; rfl
theorem zh {A : List (Nat × Value)} (h : Has ρ A := by repeat' (first | exact trivial | refine And.intro rfl ?_)) : Has ρ A := h
theorem env2 {A B : List (Nat × Value)} (h : Has ρ A) (h2 : Has ρ B) : ∃ ρ', ρ = updl (updl ρ' B) A := ⟨ρ, by rw [QnT h2, QnT h]⟩
theorem zo {a : LC} (ts : List Nat) {A : List (Nat × Value)} (I : List (Nat × Value) → Env → World → Prop) (μ : Env → World → Nat) (h0 : I A ρ w) (h : ∀ ρ w, I A ρ w → a.wp P (QA (fun ρ' w' => I A ρ' w' ∧ μ ρ' w' < μ ρ w) Q) ρ w) (hA : evs ρ ts = A := by (repeat (apply QuH; · ((conv => lhs; whnf); first | done | exact rfl))); exact QuG _) : (LC.loop a).wp P Q ρ w := s_loop (I A) μ h0 h
theorem zM {a b : LC} (ts : List Nat) {A : List (Nat × Value)} (I : List (Nat × Value) → Env → World → Prop) (ha : a.wp P (QA (I A) Q) ρ w) (hb : ∀ ρ w, I A ρ w → b.wp P Q ρ w) (hA : evs ρ ts = A := by (repeat (apply QuH; · ((conv => lhs; whnf); first | done | exact rfl))); exact QuG _) : (LC.seq a b).wp P Q ρ w := s_mid (I A) ha hb
theorem zoL {a : LC} (hS : St c w L) (ts : List Nat) {A : List (Nat × Value)} (I : List (Nat × Value) → List Res → Env → World → Prop) (μ : Env → World → Nat) (h0 : I A L ρ w) (h : ∀ ρ w, I A L ρ w → a.wp P (QA (fun ρ' w' => I A L ρ' w' ∧ μ ρ' w' < μ ρ w) Q) ρ w) (hA : evs ρ ts = A := by (repeat (apply QuH; · ((conv => lhs; whnf); first | done | exact rfl))); exact QuG _) : (LC.loop a).wp P Q ρ w := s_loop (I A L) μ h0 h
theorem zML {a b : LC} (hS : St c w L) (ts : List Nat) {A : List (Nat × Value)} (I : List (Nat × Value) → List Res → Env → World → Prop) (ha : a.wp P (QA (I A L) Q) ρ w) (hb : ∀ ρ w, I A L ρ w → b.wp P Q ρ w) (hA : evs ρ ts = A := by (repeat (apply QuH; · ((conv => lhs; whnf); first | done | exact rfl))); exact QuG _) : (LC.seq a b).wp P Q ρ w := s_mid (I A L) ha hb
theorem zKL {l : List GO} (hS : St c w L) (n : Nat) (ts : List Nat) {A : List (Nat × Value)} (I : List (Nat × Value) → List Res → Env → World → Prop) (ha : Q2 P (l.take n) (QA (I A L) Q) ρ w) (hb : ∀ ρ w, I A L ρ w → Q2 P (l.drop n) Q ρ w) (hA : evs ρ ts = A := by (repeat (apply QuH; · ((conv => lhs; whnf); first | done | exact rfl))); exact QuG _) : Q2 P l Q ρ w := s_cut n (I A L) ha hb
theorem St.sp {L' : List Res} (h : St c w L) (e : SubP L' L := by (repeat constructor); first | done | fail) : St c w L' := h.subP e
theorem fd {r' : Res} (h : NthP L i r' := by repeat constructor) : nth L i = some r' := h.nth
theorem vw {a b : Value} (h : a = b := by (conv => lhs; whnf); first | done | exact rfl) : a = b := h
theorem St.p3 {L1 L2 L3 : List Res} {r1 r2 r3 : Res} (h : St c w L) (p1 : Pick L r1 L1 := by repeat constructor) (p2 : Pick L1 r2 L2 := by repeat constructor) (p3 : Pick L2 r3 L3 := by repeat constructor) : St c w (r1 :: r2 :: r3 :: L3) := h.pick3 p1 p2 p3
end
end Go.Lir
namespace Go.Lir
@[reducible] def qm (d x : Nat) : GO := ⟨none, .mov d (.tmp x)⟩
@[reducible] def qk (d : Nat) (v : Value) : GO := ⟨none, .mov d (.const v)⟩
@[reducible] def qf (d x k : Nat) : GO := ⟨none, .fld d (.tmp x) k⟩
@[reducible] def ql (d x : Nat) : GO := ⟨none, .load1 d (.tmp x)⟩
@[reducible] def qV (d n x : Nat) : GO := ⟨none, .loadn d n (.tmp x)⟩
@[reducible] def qn (d x : Nat) : GO := ⟨none, .nilc d (.tmp x)⟩
@[reducible] def qL (d x : Nat) : GO := ⟨none, .len d (.tmp x)⟩
@[reducible] def qs (x y : Nat) : GO := ⟨none, .store1 (.tmp x) (.tmp y)⟩
@[reducible] def qw (n x y : Nat) : GO := ⟨none, .storen n (.tmp x) (.tmp y)⟩
@[reducible] def qi (d es x y : Nat) : GO := ⟨none, .idx d es (.tmp x) (.tmp y)⟩
@[reducible] def qx (d x k : Nat) : GO := ⟨none, .ext d (.tmp x) k⟩
@[reducible] def qb (d T x : Nat) : GO := ⟨none, .box d T (.tmp x)⟩
@[reducible] def qt (d : Nat) (o : BinOp) (T x y : Nat) : GO := ⟨none, .bin d o T (.tmp x) (.tmp y)⟩
@[reducible] def qj (d : Nat) (o : BinOp) (T x : Nat) (n : Int) : GO := ⟨none, .bin d o T (.tmp x) (.const (.int .i64 n))⟩
@[reducible] def qg (s : Nat) (b : Bool) (o : GO) : GO := ⟨some (s, b), o.2⟩
@[reducible] def vi (n : Int) : Value := .int .i64 n
@[reducible] def vn : Value := .slice none 0 0
end Go.Lir
