/- Lemmas of the proof, part 2: what the functions of the program do (contracts), and what follows. -/
import Derived.Test.YtjecflbbcnocdaaDoorZ1
import Derived.Laws.IdiomStrings
import Derived.Lib.Strings
import Derived.Test.YtjecflbbcnocdaaDoorProg
import Derived.Recover
import Derived.Lib.Join
import Derived.Lib.ItoaLen
namespace Go.Lir

theorem SlR.turn {H H' : Heap} {es : Nat} {v : Value} {F G : Nat → Prop} {css : List (List Value)} (h : SlR H es v F css) (hs : ∀ b, F b → b < H.size → G b ∧ H'[b]? = H[b]?) : SlR H' es v G css := by
  obtain ⟨h0, a, cap, hv, hlc, hc | ⟨b, off, ha, hF, hb, hat⟩⟩ := h
  · exact ⟨h0, a, cap, hv, hlc, .inl hc⟩
  · obtain ⟨h1, h2⟩ := hs b hF hb
    refine ⟨h0, a, cap, hv, hlc, .inr ⟨b, off, ha, h1, ?_, fun m c hm => (hat m c hm).of_same h2⟩⟩
    rcases Nat.lt_or_ge b H'.size with h | h
    · exact h
    · rw [Array.getElem?_eq_none h, Array.getElem?_eq_getElem hb] at h2; cases h2

/-- A kind of data: what cells (that lie in K, and what they lead to) say. -/
structure Rep (α : Type) where
  es : Nat
  pos : 0 < es
  R : Heap → (Nat → Prop) → List Value → α → Prop
  len : ∀ {H : Heap} {K : Nat → Prop} {cs : List Value} {x : α}, R H K cs x → cs.length = es
  one : ∀ {H : Heap} {K : Nat → Prop} {cs : List Value} {x : α}, R H K cs x → ∀ u ∈ cs, oneC u = true
  turn : ∀ {H H' : Heap} {K K' : Nat → Prop} {cs : List Value} {x : α}, R H K cs x → (∀ b, K b → b < H.size → K' b ∧ H'[b]? = H[b]?) → R H' K' cs x

section
variable {α β : Type}
/-- Rows of cells that are the parts of a list. -/
def Rep.LR (r : Rep α) (H : Heap) (K : Nat → Prop) (css : List (List Value)) (l : List α) : Prop := css.length = l.length ∧ ∀ (m : Nat) (x : α), l[m]? = some x → ∃ d, css[m]? = some d ∧ r.R H K d x
/-- A slice that reads as the list. -/
def Rep.SR (r : Rep α) (H : Heap) (K : Nat → Prop) (v : Value) (l : List α) : Prop := ∃ css, SlR H r.es v K css ∧ r.LR H K css l ∧ l.length ≤ 140737488355328
theorem Rep.LR.turn {r : Rep α} {H H' : Heap} {K K' : Nat → Prop} {css : List (List Value)} {l : List α} (h : r.LR H K css l) (hs : ∀ b, K b → b < H.size → K' b ∧ H'[b]? = H[b]?) : r.LR H' K' css l :=
  ⟨h.1, fun m x hx => by obtain ⟨d, h1, h2⟩ := h.2 m x hx; exact ⟨d, h1, r.turn h2 hs⟩⟩
theorem Rep.SR.turn {r : Rep α} {H H' : Heap} {K K' : Nat → Prop} {v : Value} {l : List α} (h : r.SR H K v l) (hs : ∀ b, K b → b < H.size → K' b ∧ H'[b]? = H[b]?) : r.SR H' K' v l := by
  obtain ⟨css, h1, h2, h3⟩ := h
  exact ⟨css, h1.turn hs, h2.turn hs, h3⟩
theorem Rep.LR.nil (r : Rep α) (H : Heap) (K : Nat → Prop) : r.LR H K [] [] := ⟨rfl, by simp⟩
theorem Rep.LR.push {r : Rep α} {H : Heap} {K : Nat → Prop} {css : List (List Value)} {l : List α} {d : List Value} {x : α} (h : r.LR H K css l) (hd : r.R H K d x) : r.LR H K (css ++ [d]) (l ++ [x]) := by
  refine ⟨by simp [h.1], fun m y hy => ?_⟩
  rcases Nat.lt_or_ge m l.length with hm | hm
  · rw [List.getElem?_append_left hm] at hy
    rw [List.getElem?_append_left (by rw [h.1]; exact hm)]
    exact h.2 m y hy
  · rw [List.getElem?_append_right hm] at hy
    rw [List.getElem?_append_right (by rw [h.1]; exact hm), h.1]
    obtain ⟨i, hi⟩ : ∃ i, m - l.length = i := ⟨_, rfl⟩
    rw [hi] at hy ⊢
    cases i with
    | zero => simp only [List.getElem?_cons_zero, Option.some.injEq] at hy; subst hy; exact ⟨d, rfl, hd⟩
    | succ i => simp at hy
theorem Rep.LR.append {r : Rep α} {H : Heap} {K : Nat → Prop} {css css2 : List (List Value)} {l l2 : List α} (h : r.LR H K css l) (h2 : r.LR H K css2 l2) : r.LR H K (css ++ css2) (l ++ l2) := by
  refine ⟨by simp [h.1, h2.1], fun m y hy => ?_⟩
  rcases Nat.lt_or_ge m l.length with hm | hm
  · rw [List.getElem?_append_left hm] at hy
    rw [List.getElem?_append_left (by rw [h.1]; exact hm)]
    exact h.2 m y hy
  · rw [List.getElem?_append_right hm] at hy
    rw [List.getElem?_append_right (by rw [h.1]; exact hm), h.1]
    exact h2.2 _ y hy
theorem Rep.LR.set {r : Rep α} {H : Heap} {K : Nat → Prop} {css : List (List Value)} {l : List α} {d : List Value} {x : α} {i : Nat} (h : r.LR H K css l) (hd : r.R H K d x) : r.LR H K (css.set i d) (l.set i x) := by
  refine ⟨by simp [h.1], fun m y hy => ?_⟩
  rw [List.getElem?_set] at hy ⊢
  by_cases he : i = m
  · rw [if_pos he] at hy ⊢
    rw [h.1]
    split at hy
    · rename_i hm; rw [if_pos hm]; cases hy; exact ⟨d, rfl, hd⟩
    · cases hy
  · rw [if_neg he] at hy ⊢
    exact h.2 m y hy
theorem Rep.LR.sub {r : Rep α} {H : Heap} {K : Nat → Prop} {css : List (List Value)} {l : List α} (h : r.LR H K css l) (i j : Nat) : r.LR H K ((css.take j).drop i) ((l.take j).drop i) := by
  refine ⟨by simp [h.1], fun m y hy => ?_⟩
  rw [List.getElem?_drop] at hy ⊢
  have hlt := (List.getElem?_eq_some_iff.1 hy).1
  rw [List.length_take] at hlt
  rw [List.getElem?_take_of_lt (by omega)] at hy ⊢
  exact h.2 _ y hy
theorem Rep.LR.one {r : Rep α} {H : Heap} {K : Nat → Prop} {css : List (List Value)} {l : List α} (h : r.LR H K css l) : ∀ c ∈ css, ∀ u ∈ c, oneC u = true := by
  intro c hc
  obtain ⟨m, hm⟩ := List.mem_iff_getElem?.1 hc
  have hlt := (List.getElem?_eq_some_iff.1 hm).1
  obtain ⟨d, h1, h2⟩ := h.2 m _ (List.getElem?_eq_getElem (by rw [← h.1]; exact hlt))
  rw [hm] at h1; cases h1
  exact r.one h2
theorem Rep.SR.oneC {r : Rep α} {H : Heap} {K : Nat → Prop} {v : Value} {l : List α} (h : r.SR H K v l) : Go.Lir.oneC v = true := by
  obtain ⟨css, h1, _⟩ := h; exact SlR.oneC h1
theorem Rep.SR.nil (r : Rep α) (H : Heap) (K : Nat → Prop) : r.SR H K (.slice none 0 0) [] := ⟨[], ⟨by simp, none, 0, rfl, Nat.le_refl _, .inl rfl⟩, .nil r H K, by simp⟩
theorem Rep.SR.len {r : Rep α} {H : Heap} {K : Nat → Prop} {v : Value} {l : List α} (h : r.SR H K v l) : l.length ≤ 140737488355328 := by obtain ⟨_, _, _, h⟩ := h; exact h
theorem Rep.SR.shape {r : Rep α} {H : Heap} {K : Nat → Prop} {v : Value} {l : List α} (h : r.SR H K v l) : ∃ a c, v = .slice a l.length c := by
  obtain ⟨css, h1, h2, _⟩ := h
  obtain ⟨a, c, hv⟩ := SlR.shape h1
  exact ⟨a, c, by rw [← h2.1]; exact hv⟩

def Rep.lit (f : α → Value) (hf : ∀ x, oneC (f x) = true) : Rep α where
  es := 1
  pos := by decide
  R := fun _ _ cs x => cs = [f x]
  len := by rintro _ _ _ _ rfl; rfl
  one := by rintro _ _ _ x rfl u hu; simp at hu; subst hu; exact hf x
  turn := fun h _ => h
def intR : Rep Int := Rep.lit (fun n => .int .i64 n) (fun _ => rfl)
def strR : Rep ByteArray := Rep.lit (fun b => .string b) (fun _ => rfl)
def Rep.list (r : Rep α) : Rep (List α) where
  es := 1
  pos := by decide
  R := fun H K cs l => ∃ v, cs = [v] ∧ r.SR H K v l
  len := by rintro _ _ _ _ ⟨v, rfl, _⟩; rfl
  one := by rintro _ _ _ _ ⟨v, rfl, h⟩ u hu; simp at hu; subst hu; exact h.oneC
  turn := by rintro _ _ _ _ _ _ ⟨v, rfl, h⟩ hs; exact ⟨v, rfl, h.turn hs⟩
def Rep.and (r : Rep α) (p : α → Prop) : Rep α where
  es := r.es
  pos := r.pos
  R := fun H K cs x => r.R H K cs x ∧ p x
  len := fun h => r.len h.1
  one := fun h => r.one h.1
  turn := fun h hs => ⟨r.turn h.1 hs, h.2⟩
def tyR : Rep Ty where
  es := 3
  pos := by decide
  R := fun H K cs t => ∃ n, tyRd H K n cs t
  len := by rintro _ _ _ _ ⟨n, h⟩; exact h.len
  one := by
    rintro _ _ _ _ ⟨n, h⟩
    cases n with
    | zero => exact h.elim
    | succ n =>
      obtain ⟨v, css, rfl, h2, _⟩ := h
      intro u hu; simp at hu
      rcases hu with rfl | rfl | rfl
      · rfl
      · rfl
      · exact SlR.oneC h2
  turn := by rintro _ _ _ _ _ _ ⟨n, h⟩ hs; exact ⟨n, h.turn fun v css hv => hv.turn hs⟩
theorem QS {H : Heap} {K : Nat → Prop} {cs : List Value} {t : Ty} (h : tyR.R H K cs t) : ∃ v, cs = [.int .i64 t.kind, .int .i64 t.r, v] ∧ tyR.SR H K v t.l := by
  obtain ⟨n, h⟩ := h
  cases n with
  | zero => exact h.elim
  | succ n =>
    obtain ⟨v, css, h1, h2, h3, h4, h5⟩ := h
    exact ⟨v, h1, css, h2, ⟨h3, fun m x hx => by obtain ⟨d, h6, h7⟩ := h5 m x hx; exact ⟨d, h6, n, h7⟩⟩, h4⟩
/-! what is only read -/
abbrev Rep.at (r : Rep α) (c : Cx) (cs : List Value) (x : α) : Prop := r.R c.H0 c.K cs x
abbrev Rep.sl (r : Rep α) (c : Cx) (v : Value) (l : List α) : Prop := r.SR c.H0 c.K v l
abbrev Rep.ls (r : Rep α) (c : Cx) (css : List (List Value)) (l : List α) : Prop := r.LR c.H0 c.K css l
theorem Cx.Le.turn {c c' : Cx} (h : c.Le c') : ∀ b, c.K b → b < c.H0.size → c'.K b ∧ c'.H0[b]? = c.H0[b]? := fun b hb _ => h.K b hb
theorem Rep.R.up {r : Rep α} {c c' : Cx} {cs : List Value} {x : α} (h : r.at c cs x) (hle : c.Le c') : r.at c' cs x := r.turn h hle.turn
theorem Rep.SR.up {r : Rep α} {c c' : Cx} {v : Value} {l : List α} (h : r.sl c v l) (hle : c.Le c') : r.sl c' v l := Rep.SR.turn h hle.turn
theorem Rep.LR.up {r : Rep α} {c c' : Cx} {v : List (List Value)} {l : List α} (h : r.ls c v l) (hle : c.Le c') : r.ls c' v l := Rep.LR.turn h hle.turn
/-- From here on an own list is only read. -/
theorem St.freezeL {r : Rep α} {c : Cx} {w : World} {L : List Res} {T : TypeId} {es : Nat} {v : Value} {css : List (List Value)} {l : List α} (h : St c w (sl T es v css :: L)) (hl : r.ls c css l) (hes : r.es = es) (hm : l.length ≤ 140737488355328) : ∃ c', c.Le c' ∧ St c' w L ∧ r.sl c' v l := by
  subst hes
  obtain ⟨c', h1, h2, h3⟩ := h.freezeS
  exact ⟨c', h1, h2, css, h3, hl.up h1, hm⟩
theorem Rep.SR.ints {c : Cx} {v : Value} {l : List Int} (h : intR.sl c v l) : FzS c 1 v (l.map Qfa) := by
  obtain ⟨css, h1, h2, h3⟩ := h
  have : css = l.map Qfa := by
    apply List.ext_getElem?
    intro m
    rw [List.getElem?_map]
    rcases Nat.lt_or_ge m l.length with hm | hm
    · obtain ⟨d, h4, h5⟩ := h2.2 m _ (List.getElem?_eq_getElem hm)
      have h5 : d = [_] := h5
      rw [h4, List.getElem?_eq_getElem hm, h5]; rfl
    · rw [List.getElem?_eq_none (by rw [h2.1]; exact hm), List.getElem?_eq_none hm]; rfl
  rw [this] at h1; exact h1
theorem FzS.ints {c : Cx} {v : Value} {l : List Int} (h : FzS c 1 v (l.map Qfa)) (hm : l.length ≤ 140737488355328) : intR.sl c v l :=
  ⟨_, h, ⟨by simp, fun m x hx => ⟨Qfa x, by rw [List.getElem?_map, hx]; rfl, rfl⟩⟩, hm⟩

section
variable {P : Program} {l : List GO} {Q : QT} {ρ : Env} {w : World} {c : Cx} {L : List Res} {r : Rep α} {xs : List α} {v : Value} {es : Nat}
theorem Qgy {d m : Nat} {x y : Operand} {k : IntKind} (hx : ρ.ev x = v) (hy : ρ.ev y = .int k (m : Int)) (hK : r.sl c v xs) (hes : r.es = es) (hn : m < xs.length)
    (h : ∀ b o cs a, AtK c b o cs → xs[m]? = some a → r.at c cs a → Q1 P l Q (upd ρ d (.pointer (some ⟨b, o, none⟩))) w) : Q1 P (⟨none, .idx d es x y⟩ :: l) Q ρ w := by
  subst hes
  obtain ⟨css, h1, h2, h3⟩ := hK
  obtain ⟨cs, h4, h5⟩ := h2.2 m _ (List.getElem?_eq_getElem hn)
  exact s_idxK (m := m) hx hy h1 h4 fun b o hb => h b o cs _ hb (List.getElem?_eq_getElem hn) h5
theorem Q4 {l : List α} {m : Nat} {x : α} (h : l[m]? = some x) : l.drop m = x :: l.drop (m + 1) := by
  obtain ⟨hm, rfl⟩ := List.getElem?_eq_some_iff.1 h
  exact List.drop_eq_getElem_cons hm
theorem Q37 {l : List α} {m : Nat} {x : α} (h : l[m]? = some x) : l.take (m + 1) = l.take m ++ [x] := by
  rw [List.take_add_one, h]; rfl
theorem Q5t {cs : List Value} {n : Int} (h : intR.at c cs n) : cs = [.int .i64 n] := h
theorem Q7V : ∀ {L : List Res} {i : Nat} {a a' : Res}, nth L i = some a → nth (L.set i a') i = some a'
  | [], _, _, _, h => by cases h
  | _ :: _, 0, _, _, _ => rfl
  | _ :: L, i + 1, _, _, h => Q7V (L := L) (i := i) h
/-- append of one element that was just built. -/
theorem s_appR1 {T T' d Ts Ts2 Ty nb i k b : Nat} {z : List Value} {x y : Operand} {ds : List Value} {css : List (List Value)} {a : α} (hel : Q2N P Ts = some (T, es, nb, z))
    (hts : ∃ e2, P.underlying Ts2 = some (.slice e2)) (hS : St c w L) (hx : ρ.ev x = v) (hy : ρ.ev y = .slice (some ⟨b, 0, none⟩) 1 1) (hi : nth L i = some (Go.Lir.sl T es v css)) (hk : nth L k = some (blk b T' ds)) (hls : r.ls c css xs) (ha : r.at c ds a) (hes : r.es = es) (hb : (xs.length + 1) * nb ≤ 140737488355328)
    (h : ∀ v' w' css', r.ls c css' (xs ++ [a]) → oneC v' = true → St c w' (L.set i (Go.Lir.sl T es v' css')) → Q1 P l Q (upd ρ d v') w') : Q1 P (⟨none, .raw ⟨some d, .call ⟨.builtin .append, #[x, y], #[Ts, Ts2]⟩, Ty, "", #[], none⟩⟩ :: l) Q ρ w :=
  Qfz hel (.inl hts) hS hx hy hi (hS.srcB hk ((r.len ha).trans hes) (r.one ha)) (by rw [hls.1]; exact hb) fun v' w' hS' => h v' w' _ (hls.push ha) (hS'.oneC (Q7V hi)) hS'
/-- append of a list that is read. -/
theorem s_appRK {T d Ts Ts2 Ty nb i : Nat} {z : List Value} {x y : Operand} {v2 : Value} {css : List (List Value)} {ys : List α} (hel : Q2N P Ts = some (T, es, nb, z))
    (hts : ∃ e2, P.underlying Ts2 = some (.slice e2)) (hS : St c w L) (hx : ρ.ev x = v) (hy : ρ.ev y = v2) (hi : nth L i = some (Go.Lir.sl T es v css)) (hls : r.ls c css xs) (hK : r.sl c v2 ys) (hes : r.es = es) (hb : (xs.length + ys.length) * nb ≤ 140737488355328)
    (h : ∀ v' w' css', r.ls c css' (xs ++ ys) → oneC v' = true → St c w' (L.set i (Go.Lir.sl T es v' css')) → Q1 P l Q (upd ρ d v') w') : Q1 P (⟨none, .raw ⟨some d, .call ⟨.builtin .append, #[x, y], #[Ts, Ts2]⟩, Ty, "", #[], none⟩⟩ :: l) Q ρ w := by
  subst hes
  obtain ⟨css2, h1, h2, h3⟩ := hK
  exact Qfz hel (.inl hts) hS hx hy hi (FzS.src h1 hS h2.one) (by rw [hls.1, h2.1]; exact hb) fun v' w' hS' => h v' w' _ (hls.append h2) (hS'.oneC (Q7V hi)) hS'
/-- append of an own list. -/
theorem s_appRS {T T2 d Ts Ts2 Ty nb i k : Nat} {z : List Value} {x y : Operand} {v2 : Value} {css css2 : List (List Value)} {ys : List α} (hel : Q2N P Ts = some (T, es, nb, z))
    (hts : ∃ e2, P.underlying Ts2 = some (.slice e2)) (hS : St c w L) (hx : ρ.ev x = v) (hy : ρ.ev y = v2) (hi : nth L i = some (Go.Lir.sl T es v css)) (hk : nth L k = some (Go.Lir.sl T2 es v2 css2)) (hls : r.ls c css xs) (hls2 : r.ls c css2 ys) (hb : (xs.length + ys.length) * nb ≤ 140737488355328)
    (h : ∀ v' w' css', r.ls c css' (xs ++ ys) → oneC v' = true → St c w' (L.set i (Go.Lir.sl T es v' css')) → Q1 P l Q (upd ρ d v') w') : Q1 P (⟨none, .raw ⟨some d, .call ⟨.builtin .append, #[x, y], #[Ts, Ts2]⟩, Ty, "", #[], none⟩⟩ :: l) Q ρ w :=
  Qfz hel (.inl hts) hS hx hy hi (hS.srcS hk hls2.one) (by rw [hls.1, hls2.1]; exact hb) fun v' w' hS' => h v' w' _ (hls.append hls2) (hS'.oneC (Q7V hi)) hS'
/-- A call of a function value, without and with what it holds. -/
theorem Qgw {d : Nat} {x : Operand} {os : List Operand} {f : FuncId} {args : List Value} {S : Value → World → Prop} (hx : ρ.ev x = .func (.func f) #[] #[]) (hf : Q5v P f = true) (hxs : os.map ρ.ev = args) (hc : Rets P f args w S)
    (h : ∀ v w', S v w' → Q1 P l Q (upd ρ d v) w') : Q1 P (⟨none, .callv (some d) x os⟩ :: l) Q ρ w := by
  unfold Q5v at hf
  rw [Option.any_eq_true] at hf
  obtain ⟨fn, h1, h2⟩ := hf
  rw [Bool.and_eq_true, Bool.not_eq_true'] at h2
  refine Qgz (cap := []) hx h1 h2.1 h2.2 (by rw [hxs, List.append_nil]) hc ?_
  rintro e w' ⟨v, rfl, hv⟩
  exact h v w' hv
theorem Q2o {d : Nat} {x : Operand} {os : List Operand} {f : FuncId} {args cap : List Value} {S : Value → World → Prop} (hx : ρ.ev x = .func (.func f) #[] ⟨cap⟩) (hf : Q5v P f = true) (hxs : os.map ρ.ev ++ cap = args) (hc : Rets P f args w S)
    (h : ∀ v w', S v w' → Q1 P l Q (upd ρ d v) w') : Q1 P (⟨none, .callv (some d) x os⟩ :: l) Q ρ w := by
  unfold Q5v at hf
  rw [Option.any_eq_true] at hf
  obtain ⟨fn, h1, h2⟩ := hf
  rw [Bool.and_eq_true, Bool.not_eq_true'] at h2
  refine Qgz hx h1 h2.1 h2.2 hxs hc ?_
  rintro e w' ⟨v, rfl, hv⟩
  exact h v w' hv
theorem Qeq {d : Nat} {x : Operand} {b o : Nat} {cs : List Value} {u : Value} (hS : St c w L) (ha : AtK c b o cs) (hx : ρ.ev x = .pointer (some ⟨b, o, none⟩)) (hu : cs[0]? = some u) : gqv P ρ w ⟨none, .load1 d x⟩ u := Qd8 (j := 0) hS ha hx hu
theorem QbG {d n : Nat} {x : Operand} {b o : Nat} {cs us : List Value} (hS : St c w L) (ha : AtK c b o cs) (hx : ρ.ev x = .pointer (some ⟨b, o, none⟩)) (hu : cs.take n = us) (hl : us.length = n) : gqv P ρ w ⟨none, .loadn d n x⟩ (.agg ⟨us⟩) := Q95 (j := 0) hS ha hx hu hl
/-- A whole block is written anew. -/
theorem Qgu {n i b T : Nat} {x y : Operand} {cs us : List Value} (hS : St c w L) (hx : ρ.ev x = .pointer (some ⟨b, 0, none⟩)) (hy : ρ.ev y = .agg ⟨us⟩) (hn : us.length = n) (hi : nth L i = some (blk b T cs)) (hc : cs.length = n) (h1 : ∀ u ∈ us, oneC u = true)
    (h : ∀ w', St c w' (L.set i (blk b T us)) → Q1 P l Q ρ w') : Q1 P (⟨none, .storen n x y⟩ :: l) Q ρ w :=
  Qe3 hS hx hy hn hi (by omega) h1 (by simp; omega) h
theorem Q5n : ∀ {a b : List GO} {Q : QT} {ρ : Env} {w : World}, Q1 P a (Qu (Q1 P b Q) Q) ρ w → Q1 P (a ++ b) Q ρ w
  | [], _, _, _, _, h => h
  | ⟨none, o⟩ :: a, b, Q, ρ, w, h => by
    simp only [List.cons_append, Q1] at h ⊢
    exact Q4V (fun ρ w h => Q5n h) (fun e ρ w hn h => by cases e <;> first | exact h | exact absurd rfl hn) h
  | ⟨some (s, b'), o⟩ :: a, b, Q, ρ, w, h => by
    simp only [List.cons_append, Q1] at h ⊢
    split
    · rename_i hw
      rw [if_pos hw] at h
      exact Q4V (fun ρ w h => Q5n h) (fun e ρ w hn h => by cases e <;> first | exact h | exact absurd rfl hn) h
    · rename_i hw
      rw [if_neg hw] at h
      exact Q5n h
/-- An assertion between two parts of a row of operations. -/
theorem s_cut {l : List GO} (n : Nat) (J : Env → World → Prop) (ha : Q1 P (l.take n) (Qu J Q) ρ w) (hb : ∀ ρ w, J ρ w → Q1 P (l.drop n) Q ρ w) : Q1 P l Q ρ w := by
  rw [← List.take_append_drop n l]
  exact Q5n (Q6p (Q42 hb fun _ _ _ h => h) ha)
theorem s_lenL {d : Nat} {x : Operand} (hx : ρ.ev x = v) (hK : r.sl c v xs) (h : Q1 P l Q (upd ρ d (.int .i64 xs.length)) w) : Q1 P (⟨none, .len d x⟩ :: l) Q ρ w := by
  obtain ⟨css, h1, h2, h3⟩ := hK
  exact s_lenKn hx h1 h2.1 h
end
end

/-! ### data that came in -/
section
variable {P : Program} {T e : TypeId} {α β : Type}
/-- What a codec reads, seen as a kind of data. -/
def Cod.rep (c : Cod P T α) (r : Rep β) (hs : c.es = r.es) (h : ∀ (H : Heap) cs x, c.rd H cs x → ∃ y, r.R H (· < H.size) cs y) : Cod P T β where
  es := r.es
  rd := fun H cs y => r.R H (· < H.size) cs y
  size := by rw [← hs]; exact c.size
  len := fun _ _ _ h => r.len h
  stay := fun H H' cs x hx hH => r.turn hx fun b hb hlt => by
    have := hH b hlt
    refine ⟨?_, this⟩
    rcases Nat.lt_or_ge b H'.size with h | h
    · exact h
    · rw [Array.getElem?_eq_none h, Array.getElem?_eq_getElem hlt] at this; cases this
  open_ := fun enc w fuel cs y hy hfit => by
    obtain ⟨x, hx⟩ := c.open_ enc w fuel cs y hy hfit
    exact h _ _ _ hx
/-- A list of a kind of data. -/
theorem list_rd {r : Rep α} {n : Nat} {H : Heap} {cs : List Value} {xs : List α} (hn : r.es = n)
    (h : ∃ v css, cs = [v] ∧ SlR H n v (fun _ => True) css ∧ css.length = xs.length ∧ xs.length ≤ 140737488355328 ∧ ∀ (m : Nat) (x : α), xs[m]? = some x → ∃ d, css[m]? = some d ∧ r.R H (· < H.size) d x) : r.list.R H (· < H.size) cs xs := by
  obtain ⟨v, css, rfl, h1, h2, h3, h4⟩ := h
  subst hn
  exact ⟨v, rfl, css, SlR.mono h1 fun b hb _ => hb, ⟨h2, h4⟩, h3⟩
def Cod.listOf (c : Cod P e β) (r : Rep β) (hs : c.es = r.es) (h : ∀ (H : Heap) cs x, c.rd H cs x → r.R H (· < H.size) cs x) (ht : P.underlying T = some (.slice e)) (h1 : P.cellsOf T = 1) (hby : decide (0 < P.bytesOf e) = true) : Cod P T (List β) :=
  Cod.rep (Cod.slice c ht h1 (by rw [hs]; exact r.pos) hby) r.list rfl fun H cs x hx => ⟨x, list_rd hs.symm (by
    obtain ⟨v, css, g1, g2, g3, g4, g5⟩ := hx
    exact ⟨v, css, g1, g2, g3, g4, fun m y hy => by obtain ⟨d, g6, g7⟩ := g5 m y hy; exact ⟨d, g6, h _ _ _ g7⟩⟩)⟩
/-- A kind of data by itself: the codec's reading is the kind's. -/
structure Cod.Of (P : Program) (T : TypeId) {α : Type} (r : Rep α) where
  cod : Cod P T α
  es : cod.es = r.es
  rd : ∀ (H : Heap) cs x, cod.rd H cs x → r.R H (· < H.size) cs x
def Cod.of (c : Cod P T α) (r : Rep β) (hs : c.es = r.es) (h : ∀ (H : Heap) cs x, c.rd H cs x → ∃ y, r.R H (· < H.size) cs y) : Cod.Of P T r := ⟨Cod.rep c r hs h, rfl, fun _ _ _ h => h⟩
def Cod.Of.list {r : Rep α} (c : Cod.Of P e r) (ht : P.underlying T = some (.slice e)) (h1 : P.cellsOf T = 1) (hby : decide (0 < P.bytesOf e) = true) : Cod.Of P T r.list := ⟨Cod.listOf c.cod r c.es c.rd ht h1 hby, rfl, fun _ _ _ h => h⟩
def Cod.Of.int (ht : P.underlying T = some (.int .i64)) (hs : P.cellsOf T = 1) : Cod.Of P T intR := Cod.of (Cod.int .i64 ht hs) intR rfl fun _ _ x h => ⟨x, h.1⟩
def Cod.Of.ty {TL t0 t1 : TypeId} (h0 : fieldAt P T 0 = some (0, 1, t0)) (h1 : fieldAt P T 1 = some (1, 1, t1)) (h2 : fieldAt P T 2 = some (2, 1, TL)) (hi0 : P.underlying t0 = some (.int .i64)) (hi1 : P.underlying t1 = some (.int .i64)) (hT : P.cellsOf T = 3) (hTL : P.underlying TL = some (.slice T)) (hby : decide (0 < P.bytesOf T) = true) : Cod.Of P T tyR :=
  ⟨Cod.ty h0 h1 h2 hi0 hi1 hT hTL hby, rfl, fun _ _ _ h => h⟩
theorem Cod.Of.top {r : Rep α} (c : Cod.Of P T r) {w : World} {cs : List Value} {x : α} (h : c.cod.rd w.heap cs x) : r.at (Cx.top w) cs x := c.rd _ _ _ h
end
end Go.Lir
namespace Go.Lir
def Q1Q (b : UInt8) : List Value := [.int .u8 (b.toNat : Int)]
def u8R : Rep UInt8 := Rep.lit (fun b => .int .u8 (b.toNat : Int)) (fun _ => rfl)
theorem u8R_out {c : Cx} {cs : List Value} {b : UInt8} (h : u8R.at c cs b) : cs = [.int .u8 (b.toNat : Int)] := h
theorem u8R_ls {c : Cx} (l : List UInt8) : u8R.ls c (l.map Q1Q) l := ⟨by simp, fun m x hx => ⟨Q1Q x, by rw [List.getElem?_map, hx]; rfl, rfl⟩⟩
theorem Rep.LR.u8 {r : Rep UInt8} {H : Heap} {K : Nat → Prop} {css : List (List Value)} {l : List UInt8} (hr : r = u8R) (h : r.LR H K css l) : css = l.map Q1Q := by
  subst hr
  apply List.ext_getElem?
  intro m
  rw [List.getElem?_map]
  rcases Nat.lt_or_ge m l.length with hm | hm
  · obtain ⟨d, h4, h5⟩ := h.2 m _ (List.getElem?_eq_getElem hm)
    have h5 : d = [_] := h5
    rw [h4, List.getElem?_eq_getElem hm, h5]; rfl
  · rw [List.getElem?_eq_none (by rw [h.1]; exact hm), List.getElem?_eq_none hm]; rfl
section
variable {P : Program} {l : List GO} {Q : QT} {ρ : Env} {w : World} {c : Cx} {L : List Res} {v : Value}
theorem QeM (s : List UInt8) : (s.map Q1Q).flatten = s.map fun b => Value.int .u8 (b.toNat : Int) := by
  induction s with
  | nil => rfl
  | cons b s ih => simp [Q1Q, ih]
/-- []byte(s) -/
theorem s_bytes {d src dst e Ty : Nat} {x : Operand} {s : ByteArray} (hs : P.underlying src = some .string) (hd : P.underlying dst = some (.slice e)) (he : P.underlying e = some (.int .u8)) (hS : St c w L) (hx : ρ.ev x = .string s)
    (h : ∀ v' w', St c w' (sl e 1 v' (s.data.toList.map Q1Q) :: L) → Q1 P l Q (upd ρ d v') w') : Q1 P (⟨none, .raw ⟨some d, .convert src dst x, Ty, "", #[], none⟩⟩ :: l) Q ρ w := by
  have hr := run_bytes_of_string (P := P) w src dst e s hs hd he
  have hge := grownCap_ge w s.size 0 e
  generalize hcap : grownCap w s.size 0 e = cap at hr hge
  refine Qn (v := .slice (some ⟨w.heap.size, 0, none⟩) s.size cap) (w' := w.drew.alloc (.cells (bytesRow s cap) e ((bytesRow s cap).size, (bytesRow s cap).size + 1))) ?_ ?_
  · simp only [execOp, hx, Sem.run_bind, hr, Result.andThen_ok, Sem.run_pure]
  · have hsz : s.data.size = s.size := rfl
    have hrow : (bytesRow s cap).size = cap := by simp [bytesRow]; omega
    refine h _ _ (hS.new (F' := (· = w.heap.size)) ?_ (((Fr.refl NF w).drew').then0 (Q5w w.drew _)) fun b hb => by omega)
    refine ⟨by intro q hq; obtain ⟨b, _, rfl⟩ := List.mem_map.1 hq; rfl, .inr ⟨w.heap.size, 0, cap, (bytesRow s cap).toList, ?_, ?_, ?_, ?_, ?_, fun _ => Iff.rfl⟩⟩
    · have : (List.map Q1Q s.data.toList).length = s.size := by rw [List.length_map, Array.length_toList]; rfl
      rw [this]
    · have : (List.map Q1Q s.data.toList).length = s.size := by rw [List.length_map, Array.length_toList]; rfl
      rw [this]; exact hge
    · refine ⟨((bytesRow s cap).size, (bytesRow s cap).size + 1), ?_, ?_⟩
      · show (w.heap.push _)[w.heap.size]? = _
        rw [Array.getElem?_push_size]
      · refine ⟨fun i h1 h2 => ?_, by simp⟩
        simp only [Array.length_toList] at *; omega
    · simp [hrow]
    · intro i hi
      rw [QeM]
      simp only [List.length_map, Array.length_toList, Nat.mul_one] at hi
      rw [Nat.zero_add, Array.getElem?_toList, bytesRow_at s cap i hi, List.getElem?_map, Array.getElem?_toList, Array.getElem?_eq_getElem hi]; rfl
/-- A part of an array that is a value. -/
theorem Qe5 {d T Ty e n : Nat} {x y : Operand} {k : IntKind} {m : Int} {cs : List Value} {u : Value} (hT : P.underlying T = some (.array n e)) (he : Q3D P e = true) (hsz : Q2e P e = some 1) (hx : ρ.ev x = .agg ⟨cs⟩) (hy : ρ.ev y = .int k m) (h0 : 0 ≤ m) (hm : m < n) (hu : cs[m.toNat]? = some u)
    (h : Q1 P l Q (upd ρ d u) w) : Q1 P (⟨none, .raw ⟨some d, .index T x y, Ty, "", #[], none⟩⟩ :: l) Q ρ w := by
  refine Qn (v := u) (w' := w) ?_ h
  simp only [execOp, hx, hy, Instr.index, Sem.run_bind, asIntOf, Sem.run_pure, Result.andThen_ok, Q6 P T _ w hT]
  rw [if_pos ⟨h0, hm⟩]
  simp only [Sem.run_bind, Qv P e 1 w hsz, Result.andThen_ok, Nat.mul_one, QfA P e ⟨cs⟩ _ _ w he (by simpa using hu)]
end
end Go.Lir
namespace Go.Lir
set_option linter.unusedVariables false
mutual
/-- typeSize -/
def Ty.size : Ty → Int → Int
  | .mk _ _ l, left => Tys.size l (left - 1)
def Tys.size : List Ty → Int → Int
  | [], left => left
  | x :: l, left => if 0 ≤ left then Tys.size l (x.size left) else left
end
theorem Tys.size_neg : ∀ (l : List Ty) {left : Int}, left < 0 → Tys.size l left = left
  | [], _, _ => by simp [Tys.size]
  | x :: l, left, h => by rw [Tys.size, if_neg (by omega)]
mutual
/-- deep -/
def Ty.deepB : Ty → Int → Bool
  | .mk _ _ l, left => if left < 0 then false else Tys.deepB l (left - 1)
def Tys.deepB : List Ty → Int → Bool
  | [], _ => true
  | x :: l, left => x.deepB left && Tys.deepB l left
end
mutual
/-- DeepOf -/
def Ty.depth : Ty → Int → Int
  | .mk _ _ l, most => Tys.depth l most 0
def Tys.depth : List Ty → Int → Int → Int
  | [], _, n => n
  | x :: l, most, n => if n ≤ most then (if most = 0 then 1 else Tys.depth l most (if n < 1 + x.depth (most - 1) then 1 + x.depth (most - 1) else n)) else n
end
mutual
theorem Ty.depth_iff : ∀ (t : Ty) {most : Int}, 0 ≤ most → (t.depth most ≤ most ↔ t.deepB most = true)
  | .mk _ _ l, most, h => by
    rw [Ty.depth, Ty.deepB, if_neg (by omega), Tys.depth_iff l h]
    exact ⟨fun h => h.2, fun h2 => ⟨h, h2⟩⟩
theorem Tys.depth_iff : ∀ (l : List Ty) {most n : Int}, 0 ≤ most → (Tys.depth l most n ≤ most ↔ n ≤ most ∧ Tys.deepB l (most - 1) = true)
  | [], most, n, h => by rw [Tys.depth, Tys.deepB]; simp
  | x :: l, most, n, h => by
    rw [Tys.depth, Tys.deepB]
    by_cases hn : n ≤ most
    · rw [if_pos hn]
      by_cases h0 : most = 0
      · rw [if_pos h0]
        have : x.deepB (most - 1) = false := by obtain ⟨k, r, l2⟩ := x; rw [Ty.deepB, if_pos (by omega)]
        rw [this]; simp; omega
      · rw [if_neg h0, Tys.depth_iff l h]
        have := Ty.depth_iff x (most := most - 1) (by omega)
        rw [Bool.and_eq_true, ← this]
        constructor
        · rintro ⟨h1, h2⟩; split at h1 <;> exact ⟨by omega, by omega, h2⟩
        · rintro ⟨h1, h2, h3⟩; refine ⟨?_, h3⟩; split <;> omega
    · rw [if_neg hn]
      exact ⟨fun h => absurd h hn, fun h => h.1⟩
end
mutual
/-- Same -/
def Ty.same : Ty → Ty → Bool
  | .mk k r l, .mk k2 r2 l2 => decide (k = k2) && decide (r = r2) && Tys.same l l2
def Tys.same : List Ty → List Ty → Bool
  | [], [] => true
  | x :: l, y :: m => x.same y && Tys.same l m
  | [], _ :: _ => false
  | _ :: _, [] => false
end
mutual
theorem Ty.same_iff : ∀ (t u : Ty), t.same u = true ↔ t = u
  | .mk k r l, .mk k2 r2 l2 => by
    rw [Ty.same, Bool.and_eq_true, Bool.and_eq_true, Tys.same_iff l l2]
    simp only [decide_eq_true_eq, Ty.mk.injEq, and_assoc]
theorem Tys.same_iff : ∀ (l m : List Ty), Tys.same l m = true ↔ l = m
  | [], [] => by simp [Tys.same]
  | x :: l, y :: m => by rw [Tys.same, Bool.and_eq_true, Ty.same_iff x y, Tys.same_iff l m]; simp
  | [], _ :: _ => by simp [Tys.same]
  | _ :: _, [] => by simp [Tys.same]
end
instance : DecidableEq Ty := fun t u => decidable_of_iff _ (Ty.same_iff t u)
mutual
/-- wrong, typeFault -/
def Ty.wrong (fields : Nat) : Ty → Int → Int
  | .mk k r l, regs =>
    if k < 1 ∨ 4 < k then 3 else if k = 1 ∧ r ≠ 0 ∨ k ≠ 3 ∧ 0 < l.length then 4 else if fields < l.length then 2 else if k ≠ 1 ∧ (r < 0 ∨ regs ≤ r) then 1 else Tys.wrong fields l regs
def Tys.wrong (fields : Nat) : List Ty → Int → Int
  | [], _ => 0
  | x :: l, regs => if x.wrong fields regs ≠ 0 then x.wrong fields regs else Tys.wrong fields l regs
end
mutual
/-- Rename -/
def Ty.ren : Ty → List Int → Option Ty
  | .mk k r l, to => if k ≠ 1 ∧ (r < 0 ∨ (to.length : Int) ≤ r ∨ to.getD r.toNat 0 < 0) then none else
    match Tys.ren l to with
    | none => none
    | some m => some (.mk k (if k ≠ 1 then to.getD r.toNat 0 else r) m)
def Tys.ren : List Ty → List Int → Option (List Ty)
  | [], _ => some []
  | x :: l, to => match x.ren to with
    | none => none
    | some y => match Tys.ren l to with
      | none => none
      | some m => some (y :: m)
end
mutual
/-- Two renamings one behind the other are one. -/
theorem Ty.ren_ren {f g h : List Int} (hfg : ∀ i : Nat, i < f.length → 0 ≤ f.getD i 0 ∧ f.getD i 0 < g.length ∧ 0 ≤ g.getD (f.getD i 0).toNat 0 ∧ i < h.length ∧ h.getD i 0 = g.getD (f.getD i 0).toNat 0) :
    ∀ (t u : Ty), t.ren f = some u → ∃ v, u.ren g = some v ∧ t.ren h = some v
  | .mk k r l, u, ht => by
    rw [Ty.ren] at ht
    split at ht
    · cases ht
    · rename_i hc
      cases hl : Tys.ren l f with
      | none => rw [hl] at ht; cases ht
      | some m =>
        rw [hl] at ht
        simp only [Option.some.injEq] at ht
        obtain ⟨m2, h1, h2⟩ := Tys.ren_ren hfg l m hl
        subst ht
        by_cases hk : k = 1
        · refine ⟨.mk k r m2, ?_, ?_⟩
          · rw [Ty.ren, if_neg (by omega), h1]; simp [hk]
          · rw [Ty.ren, if_neg (by omega), h2]; simp [hk]
        · have := hfg r.toNat (by omega)
          refine ⟨.mk k (g.getD (f.getD r.toNat 0).toNat 0) m2, ?_, ?_⟩
          · rw [Ty.ren, if_pos hk, if_neg (by omega), h1]; simp [hk]
          · rw [Ty.ren, if_neg (by omega), h2]; simp only [if_pos hk, this.2.2.2.2]
theorem Tys.ren_ren {f g h : List Int} (hfg : ∀ i : Nat, i < f.length → 0 ≤ f.getD i 0 ∧ f.getD i 0 < g.length ∧ 0 ≤ g.getD (f.getD i 0).toNat 0 ∧ i < h.length ∧ h.getD i 0 = g.getD (f.getD i 0).toNat 0) :
    ∀ (t u : List Ty), Tys.ren t f = some u → ∃ v, Tys.ren u g = some v ∧ Tys.ren t h = some v
  | [], u, ht => by rw [Tys.ren] at ht; cases ht; exact ⟨[], by rw [Tys.ren], by rw [Tys.ren]⟩
  | x :: l, u, ht => by
    rw [Tys.ren] at ht
    cases hx : x.ren f with
    | none => rw [hx] at ht; cases ht
    | some y =>
      rw [hx] at ht
      cases hl : Tys.ren l f with
      | none => rw [hl] at ht; cases ht
      | some m =>
        rw [hl] at ht
        simp only [Option.some.injEq] at ht
        subst ht
        obtain ⟨y2, a1, a2⟩ := Ty.ren_ren hfg x y hx
        obtain ⟨m2, b1, b2⟩ := Tys.ren_ren hfg l m hl
        exact ⟨y2 :: m2, by rw [Tys.ren, a1, b1], by rw [Tys.ren, a2, b2]⟩
end
mutual
/-- What is renamed is as right as it was, if the renaming stays below the number of regions. -/
theorem Ty.ren_wrong {fields : Nat} {f : List Int} (hf : ∀ i : Nat, i < f.length → 0 ≤ f.getD i 0 ∧ f.getD i 0 < f.length) : ∀ (t u : Ty), t.ren f = some u → u.wrong fields f.length = t.wrong fields f.length
  | .mk k r l, u, ht => by
    rw [Ty.ren] at ht
    split at ht
    · cases ht
    · rename_i hc
      cases hl : Tys.ren l f with
      | none => rw [hl] at ht; cases ht
      | some m =>
        rw [hl] at ht
        simp only [Option.some.injEq] at ht
        subst ht
        obtain ⟨h1, h2⟩ := Tys.ren_wrong (fields := fields) hf l m hl
        by_cases hk : k = 1
        · rw [Ty.wrong, Ty.wrong, h1, h2]; simp [hk]
        · have := hf r.toNat (by omega)
          rw [Ty.wrong, Ty.wrong, h1, h2]
          simp only [if_pos hk]
          rw [if_neg (show ¬ (k ≠ 1 ∧ (f.getD r.toNat 0 < 0 ∨ (f.length : Int) ≤ f.getD r.toNat 0)) by omega), if_neg (show ¬ (k ≠ 1 ∧ (r < 0 ∨ (f.length : Int) ≤ r)) by omega)]
          simp [hk]
theorem Tys.ren_wrong {fields : Nat} {f : List Int} (hf : ∀ i : Nat, i < f.length → 0 ≤ f.getD i 0 ∧ f.getD i 0 < f.length) : ∀ (t u : List Ty), Tys.ren t f = some u → u.length = t.length ∧ Tys.wrong fields u f.length = Tys.wrong fields t f.length
  | [], u, ht => by rw [Tys.ren] at ht; cases ht; exact ⟨rfl, rfl⟩
  | x :: l, u, ht => by
    rw [Tys.ren] at ht
    cases hx : x.ren f with
    | none => rw [hx] at ht; cases ht
    | some y =>
      rw [hx] at ht
      cases hl : Tys.ren l f with
      | none => rw [hl] at ht; cases ht
      | some m =>
        rw [hl] at ht
        simp only [Option.some.injEq] at ht
        subst ht
        obtain ⟨h1, h2⟩ := Tys.ren_wrong (fields := fields) hf l m hl
        exact ⟨by simp [h1], by rw [Tys.wrong, Tys.wrong, Ty.ren_wrong hf x y hx, h2]⟩
end
mutual
/-- What cannot be renamed is wrong. -/
theorem Ty.ren_none {fields : Nat} {f : List Int} (hf : ∀ i : Nat, i < f.length → 0 ≤ f.getD i 0) : ∀ (t : Ty), t.ren f = none → t.wrong fields f.length ≠ 0
  | .mk k r l, ht => by
    rw [Ty.wrong]
    rw [Ty.ren] at ht
    split
    · decide
    · split
      · decide
      · split
        · decide
        · split
          · decide
          · rename_i h1 h2 h3 h4
            have hc : ¬ (k ≠ 1 ∧ (r < 0 ∨ (f.length : Int) ≤ r ∨ f.getD r.toNat 0 < 0)) := by
              rintro ⟨a, b⟩
              have := hf r.toNat
              omega
            rw [if_neg hc] at ht
            cases hl : Tys.ren l f with
            | none => exact Tys.ren_none hf l hl
            | some m => rw [hl] at ht; cases ht
theorem Tys.ren_none {fields : Nat} {f : List Int} (hf : ∀ i : Nat, i < f.length → 0 ≤ f.getD i 0) : ∀ (t : List Ty), Tys.ren t f = none → Tys.wrong fields t f.length ≠ 0
  | [], ht => by rw [Tys.ren] at ht; cases ht
  | x :: l, ht => by
    rw [Tys.ren] at ht
    rw [Tys.wrong]
    split
    · rename_i h; exact h
    · rename_i h
      cases hx : x.ren f with
      | none => exact absurd hx (fun hx => h (Ty.ren_none hf x hx))
      | some y =>
        rw [hx] at ht
        cases hl : Tys.ren l f with
        | none => exact Tys.ren_none hf l hl
        | some m => rw [hl] at ht; cases ht
end
mutual
theorem Ty.ren_deep {f : List Int} : ∀ (t u : Ty) (left : Int), t.ren f = some u → u.deepB left = t.deepB left
  | .mk k r l, u, left, ht => by
    rw [Ty.ren] at ht
    split at ht
    · cases ht
    · cases hl : Tys.ren l f with
      | none => rw [hl] at ht; cases ht
      | some m =>
        rw [hl] at ht
        simp only [Option.some.injEq] at ht
        subst ht
        rw [Ty.deepB, Ty.deepB, Tys.ren_deep l m (left - 1) hl]
theorem Tys.ren_deep {f : List Int} : ∀ (t u : List Ty) (left : Int), Tys.ren t f = some u → Tys.deepB u left = Tys.deepB t left
  | [], u, _, ht => by rw [Tys.ren] at ht; cases ht; rfl
  | x :: l, u, left, ht => by
    rw [Tys.ren] at ht
    cases hx : x.ren f with
    | none => rw [hx] at ht; cases ht
    | some y =>
      rw [hx] at ht
      cases hl : Tys.ren l f with
      | none => rw [hl] at ht; cases ht
      | some m =>
        rw [hl] at ht
        simp only [Option.some.injEq] at ht
        subst ht
        rw [Tys.deepB, Tys.deepB, Ty.ren_deep x y left hx, Tys.ren_deep l m left hl]
end
mutual
/-- The renaming that leaves all as it is. -/
theorem Ty.ren_id {f : List Int} (hf : ∀ i : Nat, i < f.length → f.getD i 0 = i) : ∀ (t u : Ty), t.ren f = some u → u = t
  | .mk k r l, u, ht => by
    rw [Ty.ren] at ht
    split at ht
    · cases ht
    · rename_i hc
      cases hl : Tys.ren l f with
      | none => rw [hl] at ht; cases ht
      | some m =>
        rw [hl] at ht
        simp only [Option.some.injEq] at ht
        subst ht
        rw [Tys.ren_id hf l m hl]
        by_cases hk : k = 1
        · simp [hk]
        · have := hf r.toNat (by omega)
          rw [if_pos hk, this, Int.toNat_of_nonneg (by omega)]
theorem Tys.ren_id {f : List Int} (hf : ∀ i : Nat, i < f.length → f.getD i 0 = i) : ∀ (t u : List Ty), Tys.ren t f = some u → u = t
  | [], u, ht => by rw [Tys.ren] at ht; cases ht; rfl
  | x :: l, u, ht => by
    rw [Tys.ren] at ht
    cases hx : x.ren f with
    | none => rw [hx] at ht; cases ht
    | some y =>
      rw [hx] at ht
      cases hl : Tys.ren l f with
      | none => rw [hl] at ht; cases ht
      | some m =>
        rw [hl] at ht
        simp only [Option.some.injEq] at ht
        subst ht
        rw [Ty.ren_id hf x y hx, Tys.ren_id hf l m hl]
end
/-- By the parts. -/
theorem Ty.ind {p : Ty → Prop} (h : ∀ k r l, (∀ x ∈ l, p x) → p (.mk k r l)) : ∀ t, p t
  | .mk k r l => h k r l fun x hx => Ty.ind h x
termination_by t => SizeOf.sizeOf t
decreasing_by
  have := List.sizeOf_lt_of_mem hx
  simp only [Ty.mk.sizeOf_spec]
  omega
mutual
theorem Ty.size_rng : ∀ (t : Ty) {left : Int}, 0 ≤ left → -1 ≤ t.size left ∧ t.size left < left
  | .mk _ _ l, left, h => by
    rw [Ty.size]
    have := Tys.size_rng l (left := left - 1) (by omega)
    omega
theorem Tys.size_rng : ∀ (l : List Ty) {left : Int}, -1 ≤ left → -1 ≤ Tys.size l left ∧ Tys.size l left ≤ left
  | [], left, h => by rw [Tys.size]; omega
  | x :: l, left, h => by
    rw [Tys.size]
    split
    · rename_i h0
      have h1 := Ty.size_rng x h0
      have h2 := Tys.size_rng l (left := x.size left) h1.1
      omega
    · omega
end
mutual
theorem Ty.size_mono : ∀ (t : Ty) {a b : Int}, a ≤ b → -1 ≤ a → t.size a ≤ t.size b
  | .mk _ _ l, a, b, h, ha => by
    rw [Ty.size, Ty.size]
    by_cases h0 : 0 ≤ a
    · exact Tys.size_mono l (by omega) (by omega)
    · rw [Tys.size_neg l (by omega)]
      by_cases hb : 0 ≤ b
      · have := Tys.size_rng l (left := b - 1) (by omega); omega
      · rw [Tys.size_neg l (by omega)]; omega
theorem Tys.size_mono : ∀ (l : List Ty) {a b : Int}, a ≤ b → -1 ≤ a → Tys.size l a ≤ Tys.size l b
  | [], a, b, h, _ => by rw [Tys.size, Tys.size]; exact h
  | x :: l, a, b, h, ha => by
    by_cases h0 : 0 ≤ a
    · rw [Tys.size, Tys.size, if_pos h0, if_pos (by omega)]
      exact Tys.size_mono l (Ty.size_mono x h ha) (Ty.size_rng x h0).1
    · rw [Tys.size_neg _ (by omega)]
      have := Tys.size_rng (x :: l) (left := b) (by omega); omega
end
/-- What is not too great has few parts, and none of them is too great. -/
theorem Tys.size_len : ∀ (l : List Ty) {left : Int}, 0 ≤ Tys.size l left → -1 ≤ left → (l.length : Int) ≤ left ∧ ∀ x ∈ l, 0 ≤ x.size left
  | [], left, h, _ => by rw [Tys.size] at h; simp; exact h
  | x :: l, left, h, hl => by
    rw [Tys.size] at h
    split at h
    · rename_i h0
      have h1 := Ty.size_rng x h0
      have h2 := Tys.size_len l h h1.1
      have h3 := Tys.size_rng l (left := x.size left) h1.1
      refine ⟨by simp only [List.length_cons]; omega, fun y hy => ?_⟩
      rcases List.mem_cons.1 hy with rfl | hy
      · omega
      · exact Int.le_trans (h2.2 y hy) (Ty.size_mono y (by omega) h1.1)
    · omega
/-- Check, TypeFault -/
def Ty.fault (t : Ty) (regs : Int) : Int := if t.deepB 4 = false then 19 else t.wrong 8 regs
mutual
theorem Ty.depth_rng : ∀ (t : Ty) {most : Int}, 0 ≤ most → 0 ≤ t.depth most ∧ t.depth most ≤ most + 1
  | .mk _ _ l, most, h => by
    rw [Ty.depth]
    exact Tys.depth_rng l h (by omega) (by omega)
theorem Tys.depth_rng : ∀ (l : List Ty) {most n : Int}, 0 ≤ most → 0 ≤ n → n ≤ most + 1 → 0 ≤ Tys.depth l most n ∧ Tys.depth l most n ≤ most + 1
  | [], most, n, _, h1, h2 => by rw [Tys.depth]; omega
  | x :: l, most, n, h, h1, h2 => by
    rw [Tys.depth]
    split
    · split
      · omega
      · have := Ty.depth_rng x (most := most - 1) (by omega)
        exact Tys.depth_rng l h (by split <;> omega) (by split <;> omega)
    · omega
end
/-- No list of parts is long. -/
inductive Ty.Short : Ty → Prop where
  | mk {k r : Int} {l : List Ty} : l.length ≤ 100000 → (∀ x ∈ l, x.Short) → Ty.Short (.mk k r l)
theorem Ty.Short.parts {k r : Int} {l : List Ty} (h : (Ty.mk k r l).Short) : l.length ≤ 100000 ∧ ∀ x ∈ l, x.Short := by
  cases h with | mk h1 h2 => exact ⟨h1, h2⟩
theorem Ty.short_of_size : ∀ (t : Ty) {n : Int}, n ≤ 100000 → 0 ≤ n → 0 ≤ t.size n → t.Short := by
  intro t
  induction t using Ty.ind with
  | h k r l ih =>
    intro n h1 h0 h
    rw [Ty.size] at h
    obtain ⟨h2, h3⟩ := Tys.size_len l h (by omega)
    refine .mk (by omega) fun x hx => ?_
    have hp := h3 x hx
    have hl := List.length_pos_of_mem hx
    exact ih x hx (n := n - 1) (by omega) (by omega) hp
/-- GreatType, greatTypes -/
def Ty.great (t : Ty) : Bool := decide (t.size 2000 < 0)
def Tys.great (l : List Ty) : Bool := decide (200 < l.length) || l.any Ty.great
theorem Ty.short_of_great {t : Ty} (h : t.great = false) : t.Short := Ty.short_of_size t (n := 2000) (by omega) (by omega) (by unfold Ty.great at h; simp at h; exact h)
theorem Tys.short_of_great {l : List Ty} (h : Tys.great l = false) : l.length ≤ 200 ∧ ∀ x ∈ l, x.Short := by
  unfold Tys.great at h
  rw [Bool.or_eq_false_iff] at h
  refine ⟨by have := of_decide_eq_false h.1; omega, fun x hx => Ty.short_of_great ?_⟩
  cases hg : x.great with
  | false => rfl
  | true => have := List.any_eq_true.2 ⟨x, hx, hg⟩; rw [h.2] at this; cases this
end Go.Lir
namespace Go.Lir
structure Ins where
  op : Int
  a : Int
  b : Int
  c : Int
  k : Int
  n : Int
  regs : List Int
  args : List Int
structure To where
  block : Int
  regs : List Int
  args : List Int
structure Tail where
  op : Int
  a : Int
  yes : To
  no : To
  args : List Int
structure Block where
  regs : Int
  params : List Ty
  code : List Ins
  fin : Tail
deriving instance DecidableEq for Ins
deriving instance DecidableEq for To
deriving instance DecidableEq for Tail
deriving instance DecidableEq for Block
structure Fun where
  regs : Int
  params : List Ty
  results : List Ty
  blocks : List Block
structure Module where
  funcs : List Fun
deriving instance DecidableEq for Fun
deriving instance DecidableEq for Module

theorem Fun.eq_of {x y : Fun} (h1 : x.regs = y.regs) (h2 : x.params = y.params) (h3 : x.results = y.results) (h4 : x.blocks = y.blocks) : x = y := by
  cases x; cases y; simp_all
/-! ### no list is long -/
def Ins.Short (x : Ins) : Prop := x.regs.length ≤ 100000 ∧ x.args.length ≤ 100000
def To.Short (x : To) : Prop := x.regs.length ≤ 100000 ∧ x.args.length ≤ 100000
def Tail.Short (x : Tail) : Prop := x.yes.Short ∧ x.no.Short ∧ x.args.length ≤ 100000
def Tys.Short (l : List Ty) : Prop := l.length ≤ 100000 ∧ ∀ t ∈ l, t.Short
def Block.Short (x : Block) : Prop := Tys.Short x.params ∧ x.code.length ≤ 100000 ∧ (∀ i ∈ x.code, i.Short) ∧ x.fin.Short
def Fun.Short (x : Fun) : Prop := Tys.Short x.params ∧ Tys.Short x.results ∧ x.blocks.length ≤ 100000 ∧ ∀ b ∈ x.blocks, b.Short
def Module.Short (x : Module) : Prop := x.funcs.length ≤ 100000 ∧ ∀ f ∈ x.funcs, f.Short
theorem Tys.Short.of_great {l : List Ty} (h : Tys.great l = false) : Tys.Short l := by
  have := Tys.short_of_great h
  exact ⟨by omega, this.2⟩
theorem Q80 {α : Type} {l : List α} {p : α → Prop} {j : Nat} {x : α} (h : ∀ y ∈ l.take j, p y) (hx : l[j]? = some x) (hp : p x) : ∀ y ∈ l.take (j + 1), p y := by
  intro y hy
  rw [List.take_add_one, hx] at hy
  rcases List.mem_append.1 hy with hy | hy
  · exact h y hy
  · simp at hy; subst hy; exact hp
theorem Q7Z {α : Type} {l : List α} {p : α → Prop} {j : Nat} (h : ∀ y ∈ l.take j, p y) (hj : l.length ≤ j) : ∀ y ∈ l, p y := by
  rw [List.take_of_length_le hj] at h; exact h
def insR : Rep Ins where
  es := 8
  pos := by decide
  R := fun H K cs x => ∃ vr va, cs = [.int .i64 x.op, .int .i64 x.a, .int .i64 x.b, .int .i64 x.c, .int .i64 x.k, .int .i64 x.n, vr, va] ∧ intR.SR H K vr x.regs ∧ intR.SR H K va x.args
  len := by rintro _ _ _ _ ⟨vr, va, rfl, _⟩; rfl
  one := by
    rintro _ _ _ _ ⟨vr, va, rfl, h1, h2⟩ u hu
    simp at hu
    rcases hu with rfl | rfl | rfl | rfl | rfl | rfl | rfl | rfl <;> first | rfl | exact h1.oneC | exact h2.oneC
  turn := by rintro _ _ _ _ _ _ ⟨vr, va, rfl, h1, h2⟩ hs; exact ⟨vr, va, rfl, h1.turn hs, h2.turn hs⟩
def toR : Rep To where
  es := 3
  pos := by decide
  R := fun H K cs x => ∃ vr va, cs = [.int .i64 x.block, vr, va] ∧ intR.SR H K vr x.regs ∧ intR.SR H K va x.args
  len := by rintro _ _ _ _ ⟨vr, va, rfl, _⟩; rfl
  one := by
    rintro _ _ _ _ ⟨vr, va, rfl, h1, h2⟩ u hu
    simp at hu
    rcases hu with rfl | rfl | rfl <;> first | rfl | exact h1.oneC | exact h2.oneC
  turn := by rintro _ _ _ _ _ _ ⟨vr, va, rfl, h1, h2⟩ hs; exact ⟨vr, va, rfl, h1.turn hs, h2.turn hs⟩
def endR : Rep Tail where
  es := 9
  pos := by decide
  R := fun H K cs x => ∃ v1 v2 v3 v4 v5, cs = [.int .i64 x.op, .int .i64 x.a, .int .i64 x.yes.block, v1, v2, .int .i64 x.no.block, v3, v4, v5] ∧ intR.SR H K v1 x.yes.regs ∧ intR.SR H K v2 x.yes.args ∧ intR.SR H K v3 x.no.regs ∧ intR.SR H K v4 x.no.args ∧ intR.SR H K v5 x.args
  len := by rintro _ _ _ _ ⟨_, _, _, _, _, rfl, _⟩; rfl
  one := by
    rintro _ _ _ _ ⟨_, _, _, _, _, rfl, h1, h2, h3, h4, h5⟩ u hu
    simp at hu
    rcases hu with rfl | rfl | rfl | rfl | rfl | rfl | rfl | rfl | rfl <;> first | rfl | exact h1.oneC | exact h2.oneC | exact h3.oneC | exact h4.oneC | exact h5.oneC
  turn := by rintro _ _ _ _ _ _ ⟨_, _, _, _, _, rfl, h1, h2, h3, h4, h5⟩ hs; exact ⟨_, _, _, _, _, rfl, h1.turn hs, h2.turn hs, h3.turn hs, h4.turn hs, h5.turn hs⟩
def blockR : Rep Block where
  es := 12
  pos := by decide
  R := fun H K cs x => ∃ vp vc ce, cs = .int .i64 x.regs :: vp :: vc :: ce ∧ tyR.SR H K vp x.params ∧ insR.SR H K vc x.code ∧ endR.R H K ce x.fin
  len := by rintro _ _ _ _ ⟨_, _, ce, rfl, _, _, h⟩; have := endR.len h; simp [this, endR]
  one := by
    rintro _ _ _ _ ⟨_, _, ce, rfl, h1, h2, h3⟩ u hu
    simp at hu
    rcases hu with rfl | rfl | rfl | hu
    · rfl
    · exact h1.oneC
    · exact h2.oneC
    · exact endR.one h3 u hu
  turn := by rintro _ _ _ _ _ _ ⟨_, _, _, rfl, h1, h2, h3⟩ hs; exact ⟨_, _, _, rfl, h1.turn hs, h2.turn hs, endR.turn h3 hs⟩
def funcR : Rep Fun where
  es := 4
  pos := by decide
  R := fun H K cs x => ∃ vp vr vb, cs = [.int .i64 x.regs, vp, vr, vb] ∧ tyR.SR H K vp x.params ∧ tyR.SR H K vr x.results ∧ blockR.SR H K vb x.blocks
  len := by rintro _ _ _ _ ⟨_, _, _, rfl, _⟩; rfl
  one := by
    rintro _ _ _ _ ⟨_, _, _, rfl, h1, h2, h3⟩ u hu
    simp at hu
    rcases hu with rfl | rfl | rfl | rfl <;> first | rfl | exact h1.oneC | exact h2.oneC | exact h3.oneC
  turn := by rintro _ _ _ _ _ _ ⟨_, _, _, rfl, h1, h2, h3⟩ hs; exact ⟨_, _, _, rfl, h1.turn hs, h2.turn hs, h3.turn hs⟩
def modR : Rep Module where
  es := 1
  pos := by decide
  R := fun H K cs x => ∃ vf, cs = [vf] ∧ funcR.SR H K vf x.funcs
  len := by rintro _ _ _ _ ⟨_, rfl, _⟩; rfl
  one := by
    rintro _ _ _ _ ⟨_, rfl, h1⟩ u hu
    simp at hu; subst hu; exact h1.oneC
  turn := by rintro _ _ _ _ _ _ ⟨_, rfl, h1⟩ hs; exact ⟨_, rfl, h1.turn hs⟩

theorem Q1U {c : Cx} {cs : List Value} {x : Ins} (h : insR.at c cs x) : ∃ vr va, cs = [.int .i64 x.op, .int .i64 x.a, .int .i64 x.b, .int .i64 x.c, .int .i64 x.k, .int .i64 x.n, vr, va] ∧ intR.sl c vr x.regs ∧ intR.sl c va x.args := h
theorem Qcj {c : Cx} {cs : List Value} {x : To} (h : toR.at c cs x) : ∃ vr va, cs = [.int .i64 x.block, vr, va] ∧ intR.sl c vr x.regs ∧ intR.sl c va x.args := h
theorem QfM {c : Cx} {cs : List Value} {x : Tail} (h : endR.at c cs x) : ∃ v1 v2 v3 v4 v5, cs = [.int .i64 x.op, .int .i64 x.a, .int .i64 x.yes.block, v1, v2, .int .i64 x.no.block, v3, v4, v5] ∧ intR.sl c v1 x.yes.regs ∧ intR.sl c v2 x.yes.args ∧ intR.sl c v3 x.no.regs ∧ intR.sl c v4 x.no.args ∧ intR.sl c v5 x.args := h
theorem Q19 {c : Cx} {cs : List Value} {x : Block} (h : blockR.at c cs x) : ∃ vp vc v1 v2 v3 v4 v5, cs = [.int .i64 x.regs, vp, vc, .int .i64 x.fin.op, .int .i64 x.fin.a, .int .i64 x.fin.yes.block, v1, v2, .int .i64 x.fin.no.block, v3, v4, v5] ∧ tyR.sl c vp x.params ∧ insR.sl c vc x.code ∧ intR.sl c v1 x.fin.yes.regs ∧ intR.sl c v2 x.fin.yes.args ∧ intR.sl c v3 x.fin.no.regs ∧ intR.sl c v4 x.fin.no.args ∧ intR.sl c v5 x.fin.args := by
  obtain ⟨vp, vc, ce, rfl, h1, h2, v1, v2, v3, v4, v5, rfl, h3⟩ := h
  exact ⟨vp, vc, v1, v2, v3, v4, v5, rfl, h1, h2, h3⟩
theorem Qhl {c : Cx} {x : Block} {vp vc v1 v2 v3 v4 v5 : Value} (h1 : tyR.sl c vp x.params) (h2 : insR.sl c vc x.code) (h3 : intR.sl c v1 x.fin.yes.regs) (h4 : intR.sl c v2 x.fin.yes.args) (h5 : intR.sl c v3 x.fin.no.regs) (h6 : intR.sl c v4 x.fin.no.args) (h7 : intR.sl c v5 x.fin.args) :
    blockR.at c [.int .i64 x.regs, vp, vc, .int .i64 x.fin.op, .int .i64 x.fin.a, .int .i64 x.fin.yes.block, v1, v2, .int .i64 x.fin.no.block, v3, v4, v5] x := ⟨vp, vc, _, rfl, h1, h2, v1, v2, v3, v4, v5, rfl, h3, h4, h5, h6, h7⟩
theorem Q1l {c : Cx} {cs : List Value} {x : Fun} (h : funcR.at c cs x) : ∃ vp vr vb, cs = [.int .i64 x.regs, vp, vr, vb] ∧ tyR.sl c vp x.params ∧ tyR.sl c vr x.results ∧ blockR.sl c vb x.blocks := h
theorem Q2p {c : Cx} {cs : List Value} {x : Module} (h : modR.at c cs x) : ∃ vf, cs = [vf] ∧ funcR.sl c vf x.funcs := h

/-! ### codecs -/
section
variable {P : Program} {T : TypeId}
/-- A field as a kind of data. -/
theorem Cod.Of.part {α : Type} {r : Rep α} (c : Cod.Of P T r) {H : Heap} {cs : List Value} {x : α} (h : c.cod.rd H cs x) : r.R H (· < H.size) cs x := c.rd _ _ _ h
def Cod.Of.to {TI TL : TypeId} (ci : Cod.Of P TI intR) (cl : Cod.Of P TL intR.list) (h0 : fieldAt P T 0 = some (0, 1, TI)) (h1 : fieldAt P T 1 = some (1, 1, TL)) (h2 : fieldAt P T 2 = some (2, 1, TL)) (hT : P.cellsOf T = 3) : Cod.Of P T toR :=
  Cod.of (Fld.cod (Fld.more ci.cod h0 (Fld.more cl.cod h1 (Fld.more cl.cod h2 Fld.none))) h0 3 hT) toR rfl fun H cs x h => by
    obtain ⟨hl, g0, g1, g2, _⟩ := h
    match cs, hl with
    | [a, b, c], _ =>
      have e0 : [a] = [_] := ci.part g0
      obtain ⟨v1, e1, s1⟩ := cl.part g1
      obtain ⟨v2, e2, s2⟩ := cl.part g2
      replace e1 : [b] = [v1] := e1
      replace e2 : [c] = [v2] := e2
      simp only [List.cons.injEq, and_true] at e0 e1 e2
      subst e0 e1 e2
      exact ⟨⟨x.1, x.2.1, x.2.2.1⟩, b, c, rfl, s1, s2⟩
def Cod.Of.ins {TI TL TN : TypeId} (ci : Cod.Of P TI intR) (cn : Cod.Of P TN intR) (cl : Cod.Of P TL intR.list) (h0 : fieldAt P T 0 = some (0, 1, TI)) (h1 : fieldAt P T 1 = some (1, 1, TI)) (h2 : fieldAt P T 2 = some (2, 1, TI)) (h3 : fieldAt P T 3 = some (3, 1, TI)) (h4 : fieldAt P T 4 = some (4, 1, TI)) (h5 : fieldAt P T 5 = some (5, 1, TN)) (h6 : fieldAt P T 6 = some (6, 1, TL)) (h7 : fieldAt P T 7 = some (7, 1, TL)) (hT : P.cellsOf T = 8) : Cod.Of P T insR :=
  Cod.of (Fld.cod (Fld.more ci.cod h0 (Fld.more ci.cod h1 (Fld.more ci.cod h2 (Fld.more ci.cod h3 (Fld.more ci.cod h4 (Fld.more cn.cod h5 (Fld.more cl.cod h6 (Fld.more cl.cod h7 Fld.none)))))))) h0 8 hT) insR rfl fun H cs x h => by
    obtain ⟨hl, g0, g1, g2, g3, g4, g5, g6, g7, _⟩ := h
    match cs, hl with
    | [a0, a1, a2, a3, a4, a5, a6, a7], _ =>
      have e0 : [a0] = [_] := ci.part g0
      have e1 : [a1] = [_] := ci.part g1
      have e2 : [a2] = [_] := ci.part g2
      have e3 : [a3] = [_] := ci.part g3
      have e4 : [a4] = [_] := ci.part g4
      have e5 : [a5] = [_] := cn.part g5
      obtain ⟨v1, e6, s1⟩ := cl.part g6
      obtain ⟨v2, e7, s2⟩ := cl.part g7
      replace e6 : [a6] = [v1] := e6
      replace e7 : [a7] = [v2] := e7
      simp only [List.cons.injEq, and_true] at e0 e1 e2 e3 e4 e5 e6 e7
      subst e0 e1 e2 e3 e4 e5 e6 e7
      exact ⟨⟨x.1, x.2.1, x.2.2.1, x.2.2.2.1, x.2.2.2.2.1, x.2.2.2.2.2.1, x.2.2.2.2.2.2.1, x.2.2.2.2.2.2.2.1⟩, _, _, rfl, s1, s2⟩
def Cod.Of.block {TI TL TC TE : TypeId} (ci : Cod.Of P TI intR) (cl : Cod.Of P TL tyR.list) (cc : Cod.Of P TC insR.list) (ce : Cod.Of P TE endR) (h0 : fieldAt P T 0 = some (0, 1, TI)) (h1 : fieldAt P T 1 = some (1, 1, TL)) (h2 : fieldAt P T 2 = some (2, 1, TC)) (h3 : fieldAt P T 3 = some (3, 9, TE)) (hT : P.cellsOf T = 12) : Cod.Of P T blockR :=
  Cod.of (Fld.cod (Fld.more ci.cod h0 (Fld.more cl.cod h1 (Fld.more cc.cod h2 (Fld.more ce.cod h3 Fld.none)))) h0 12 hT) blockR rfl fun H cs x h => by
    obtain ⟨hl, g0, g1, g2, g3, _⟩ := h
    match cs, hl with
    | [a0, a1, a2, a3, a4, a5, a6, a7, a8, a9, a10, a11], _ =>
      have e0 : [a0] = [_] := ci.part g0
      obtain ⟨v1, e1, s1⟩ := cl.part g1
      obtain ⟨v2, e2, s2⟩ := cc.part g2
      have s3 := ce.part g3
      replace e1 : [a1] = _ := e1
      replace e2 : [a2] = _ := e2
      replace s3 : endR.R H (· < H.size) [a3, a4, a5, a6, a7, a8, a9, a10, a11] x.2.2.2.1 := s3
      simp only [List.cons.injEq, and_true] at e0 e1 e2
      subst e0 e1 e2
      exact ⟨⟨x.1, x.2.1, x.2.2.1, x.2.2.2.1⟩, _, _, _, rfl, s1, s2, s3⟩
def Cod.Of.func {TI TL TB : TypeId} (ci : Cod.Of P TI intR) (cl : Cod.Of P TL tyR.list) (cb : Cod.Of P TB blockR.list) (h0 : fieldAt P T 0 = some (0, 1, TI)) (h1 : fieldAt P T 1 = some (1, 1, TL)) (h2 : fieldAt P T 2 = some (2, 1, TL)) (h3 : fieldAt P T 3 = some (3, 1, TB)) (hT : P.cellsOf T = 4) : Cod.Of P T funcR :=
  Cod.of (Fld.cod (Fld.more ci.cod h0 (Fld.more cl.cod h1 (Fld.more cl.cod h2 (Fld.more cb.cod h3 Fld.none)))) h0 4 hT) funcR rfl fun H cs x h => by
    obtain ⟨hl, g0, g1, g2, g3, _⟩ := h
    match cs, hl with
    | [a0, a1, a2, a3], _ =>
      have e0 : [a0] = [_] := ci.part g0
      obtain ⟨v1, e1, s1⟩ := cl.part g1
      obtain ⟨v2, e2, s2⟩ := cl.part g2
      obtain ⟨v3, e3, s3⟩ := cb.part g3
      replace e1 : [a1] = _ := e1
      replace e2 : [a2] = _ := e2
      replace e3 : [a3] = _ := e3
      simp only [List.cons.injEq, and_true] at e0 e1 e2 e3
      subst e0 e1 e2 e3
      exact ⟨⟨x.1, x.2.1, x.2.2.1, x.2.2.2.1⟩, _, _, _, rfl, s1, s2, s3⟩
end
end Go.Lir
namespace Go.Lir
set_option linter.unusedVariables false
/-- What the program makes of a number ahead of writing it. -/
def zigI (n : Int) : Int := bitI .xor .u64 (IntKind.u64.wrap (IntKind.u64.wrap n * 2 ^ (min (1 : Int).toNat IntKind.u64.bits))) (IntKind.u64.wrap (n.fdiv (2 ^ (min (63 : Int).toNat IntKind.i64.bits))))
def zig (n : Int) : Nat := (zigI n).toNat
/-- The low bits first, seven at a time. -/
def leb : Nat → Nat → List UInt8
  | 0, _ => []
  | k + 1, u => if u < 128 then [UInt8.ofNat u] else UInt8.ofNat (u % 128 + 128) :: leb k (u / 128)
theorem QgY : ∀ (k u : Nat), (leb k u).length ≤ k
  | 0, _ => by simp [leb]
  | k + 1, u => by
    rw [leb]
    split
    · simp
    · have := QgY k (u / 128)
      simp only [List.length_cons]; omega
def Q3x (n : Int) : List UInt8 := leb 10 (zig n)
def QfD (l : List Int) : List UInt8 := l.flatMap Q3x
theorem Qs (n : Int) : (Q3x n).length ≤ 10 := QgY 10 _
theorem QbB : ∀ (l : List Int), (QfD l).length ≤ 10 * l.length
  | [] => by simp [QfD]
  | n :: l => by
    have h1 := Qs n
    have h2 := QbB l
    simp only [QfD, List.flatMap_cons, List.length_append, List.length_cons] at h2 ⊢
    omega
/-- A list of numbers, its length ahead of it. -/
def Qf8 (l : List Int) : List UInt8 := Q3x l.length ++ QfD l
mutual
def Ty.bts : Ty → List UInt8
  | .mk k r l => Q3x k ++ (if k ≠ 1 then Q3x r else []) ++ (if k = 3 then Q3x l.length ++ Tys.bts l else [])
def Tys.bts : List Ty → List UInt8
  | [] => []
  | x :: l => x.bts ++ Tys.bts l
end
/-- A list of types, its length ahead of it. -/
def tysB (l : List Ty) : List UInt8 := Q3x l.length ++ Tys.bts l
def To.bts (t : To) : List UInt8 := Q3x t.block ++ Qf8 t.regs ++ Qf8 t.args
def Tail.bts (e : Tail) : List UInt8 := Q3x e.op ++ (if e.op = 1 then e.yes.bts else if e.op = 2 then Q3x e.a ++ e.yes.bts ++ e.no.bts else if e.op = 3 then Qf8 e.args else [])
/-- Which parts an instruction has. -/
def Q99 (op : Int) : Nat := if op < 0 ∨ 14 < op then 0 else [0, 64, 11, 0, 1, 33, 9, 11, 3, 3, 7, 1, 0, 1, 56].getD op.toNat 0
def regsB (h : Nat) : Nat → List Int → List UInt8
  | _, [] => []
  | k, n :: l => (if h / 2 ^ k % 2 = 1 then Q3x n else []) ++ regsB h (k + 1) l
def Ins.bts (x : Ins) : List UInt8 := Q3x x.op ++ regsB (Q99 x.op) 0 [x.a, x.b, x.c, x.k] ++ (if Q99 x.op / 64 % 2 = 1 then Q3x x.n else []) ++ (if Q99 x.op / 16 % 2 = 1 then Qf8 x.regs else []) ++ (if Q99 x.op / 32 % 2 = 1 then Qf8 x.args else [])
end Go.Lir
namespace Go.Lir
set_option linter.unusedVariables false
mutual
def Ty.nodes : Ty → Nat
  | .mk _ _ l => 1 + Tys.nodes l
def Tys.nodes : List Ty → Nat
  | [] => 0
  | x :: l => x.nodes + Tys.nodes l
end
mutual
theorem Ty.size_nodes : ∀ (t : Ty) {n : Int}, 0 ≤ t.size n → t.size n = n - t.nodes
  | .mk k r l, n, h => by
    rw [Ty.size] at h ⊢
    rw [Tys.size_nodes l h, Ty.nodes]
    omega
theorem Tys.size_nodes : ∀ (l : List Ty) {n : Int}, 0 ≤ Tys.size l n → Tys.size l n = n - Tys.nodes l
  | [], n, h => by rw [Tys.size, Tys.nodes]; omega
  | x :: l, n, h => by
    rw [Tys.size] at h ⊢
    by_cases hn : 0 ≤ n
    · rw [if_pos hn] at h ⊢
      have hx : 0 ≤ x.size n := by
        rcases Int.lt_or_le (x.size n) 0 with h1 | h1
        · rw [Tys.size_neg l h1] at h; omega
        · exact h1
      rw [Tys.size_nodes l h, Ty.size_nodes x hx, Tys.nodes]
      omega
    · rw [if_neg hn] at h; omega
end
theorem Ty.nodes_of_great {t : Ty} (h : t.great = false) : t.nodes ≤ 2000 := by
  unfold Ty.great at h
  simp at h
  have := Ty.size_nodes t h
  omega
theorem Tys.nodes_mem : ∀ {l : List Ty} {x : Ty}, x ∈ l → x.nodes ≤ Tys.nodes l
  | y :: l, x, h => by
    rw [Tys.nodes]
    rcases List.mem_cons.1 h with rfl | h
    · omega
    · have := Tys.nodes_mem h; omega
theorem Ty.nodes_pos (t : Ty) : 1 ≤ t.nodes := by obtain ⟨k, r, l⟩ := t; rw [Ty.nodes]; omega
theorem Tys.nodes_len : ∀ (l : List Ty), l.length ≤ Tys.nodes l
  | [] => by simp
  | x :: l => by have := Tys.nodes_len l; have := x.nodes_pos; rw [Tys.nodes, List.length_cons]; omega
end Go.Lir
namespace Go.Lir
set_option linter.unusedVariables false
/-- One bit. -/
def crcStep (c : BitVec 32) : BitVec 32 := (c >>> 1) ^^^ (3988292384#32 &&& -(c &&& 1#32))
def crcN : Nat → BitVec 32 → BitVec 32
  | 0, c => c
  | k + 1, c => crcN k (crcStep c)
/-- One byte. -/
def crcByte (c : BitVec 32) (x : UInt8) : BitVec 32 := crcN 8 (c ^^^ BitVec.ofNat 32 x.toNat)
def crcOf (bs : List UInt8) : BitVec 32 := 4294967295#32 ^^^ bs.foldl crcByte 4294967295#32
section
variable {P : Program} {l : List GO} {Q : QT} {ρ : Env} {w : World}
end
end Go.Lir
namespace Go.Lir
set_option linter.unusedVariables false
def Block.bts (b : Block) : List UInt8 := Q3x b.regs ++ tysB b.params ++ Q3x b.code.length ++ b.code.flatMap Ins.bts ++ b.fin.bts
def Fun.bts (f : Fun) : List UInt8 := Q3x f.regs ++ tysB f.params ++ tysB f.results ++ Q3x f.blocks.length ++ f.blocks.flatMap Block.bts
def Module.body (m : Module) : List UInt8 := [67, 72, 1] ++ Q3x m.funcs.length ++ m.funcs.flatMap Fun.bts
def Ins.Few (x : Ins) : Prop := x.regs.length ≤ 300 ∧ x.args.length ≤ 300
def To.Few (x : To) : Prop := x.regs.length ≤ 300 ∧ x.args.length ≤ 300
def Tail.Few (x : Tail) : Prop := x.yes.Few ∧ x.no.Few ∧ x.args.length ≤ 300
def Block.Few (b : Block) : Prop := Tys.great b.params = false ∧ b.code.length ≤ 200 ∧ (∀ i ∈ b.code, i.Few) ∧ b.fin.Few
def Fun.Few (f : Fun) : Prop := Tys.great f.params = false ∧ Tys.great f.results = false ∧ f.blocks.length ≤ 30 ∧ ∀ b ∈ f.blocks, b.Few
def Module.Few (m : Module) : Prop := m.funcs.length ≤ 20 ∧ ∀ f ∈ m.funcs, f.Few
theorem QfL {α : Type} {f : α → List UInt8} {c : Nat} : ∀ {l : List α}, (∀ x ∈ l, (f x).length ≤ c) → (l.flatMap f).length ≤ l.length * c
  | [], _ => by simp
  | x :: l, h => by
    have h1 := h x (List.mem_cons_self ..)
    have h2 := QfL (l := l) fun y hy => h y (List.mem_cons_of_mem _ hy)
    rw [List.flatMap_cons, List.length_append, List.length_cons, Nat.succ_mul]
    omega
theorem Qer {α : Type} {f : α → List UInt8} {c n : Nat} {l : List α} (h : ∀ x ∈ l, (f x).length ≤ c) (hn : l.length ≤ n) : (l.flatMap f).length ≤ n * c :=
  Nat.le_trans (QfL h) (Nat.mul_le_mul_right c hn)
mutual
theorem Ty.bts_len : ∀ (t : Ty), t.bts.length ≤ 30 * t.nodes
  | .mk k r l => by
    have h1 := Tys.bts_len l
    have h2 := Qs k
    have h3 := Qs r
    have h4 := Qs l.length
    rw [Ty.bts, Ty.nodes]
    simp only [List.length_append]
    split <;> split <;> simp only [List.length_append, List.length_nil] <;> omega
theorem Tys.bts_len : ∀ (l : List Ty), (Tys.bts l).length ≤ 30 * Tys.nodes l
  | [] => by simp [Tys.bts]
  | x :: l => by
    have h1 := Ty.bts_len x
    have h2 := Tys.bts_len l
    rw [Tys.bts, Tys.nodes, List.length_append]
    omega
end
theorem Tys.nodes_few : ∀ {l : List Ty}, (∀ x ∈ l, x.nodes ≤ 2000) → Tys.nodes l ≤ 2000 * l.length
  | [], _ => by simp [Tys.nodes]
  | x :: l, h => by
    have h1 := h x (List.mem_cons_self ..)
    have h2 := Tys.nodes_few (l := l) fun y hy => h y (List.mem_cons_of_mem _ hy)
    rw [Tys.nodes, List.length_cons]
    omega
theorem QbT {l : List Ty} (h : Tys.great l = false) : (tysB l).length ≤ 12000010 := by
  unfold Tys.great at h
  rw [Bool.or_eq_false_iff] at h
  have hl : l.length ≤ 200 := by have := of_decide_eq_false h.1; omega
  have h1 := Tys.bts_len l
  have h2 := Tys.nodes_few (l := l) fun x hx => Ty.nodes_of_great (by have := List.any_eq_false.1 h.2 x hx; simpa using this)
  have h3 := Qs l.length
  unfold tysB
  rw [List.length_append]
  omega
theorem Q3Q {l : List Int} (h : l.length ≤ 300) : (Qf8 l).length ≤ 3010 := by
  have h1 := QbB l
  have h2 := Qs l.length
  unfold Qf8
  rw [List.length_append]
  omega
theorem To.bts_few {x : To} (h : x.Few) : x.bts.length ≤ 6030 := by
  have h1 := Q3Q h.1
  have h2 := Q3Q h.2
  have h3 := Qs x.block
  unfold To.bts
  simp only [List.length_append]
  omega
theorem Tail.bts_few {x : Tail} (h : x.Few) : x.bts.length ≤ 13000 := by
  have h1 := To.bts_few h.1
  have h2 := To.bts_few h.2.1
  have h3 := Q3Q h.2.2
  have h4 := Qs x.op
  have h5 := Qs x.a
  unfold Tail.bts
  rw [List.length_append]
  split
  · omega
  · split
    · simp only [List.length_append]; omega
    · split
      · omega
      · simp only [List.length_nil]; omega
theorem Ins.bts_few {x : Ins} (h : x.Few) : x.bts.length ≤ 6110 := by
  have h1 := Q3Q h.1
  have h2 := Q3Q h.2
  have h3 := Qs x.op
  have h4 := Qs x.n
  have ha := Qs x.a
  have hb := Qs x.b
  have hc := Qs x.c
  have hk := Qs x.k
  have h5 : (regsB (Q99 x.op) 0 [x.a, x.b, x.c, x.k]).length ≤ 40 := by
    simp only [regsB, List.length_append, List.length_nil]
    split <;> split <;> split <;> split <;> (try simp only [List.length_nil]) <;> omega
  unfold Ins.bts
  simp only [List.length_append]
  split <;> split <;> split <;> (try simp only [List.length_nil]) <;> omega
theorem Block.bts_few {b : Block} (h : b.Few) : b.bts.length ≤ 14000000 := by
  have h1 := QbT h.1
  have h2 := Qer (f := Ins.bts) (c := 6110) (fun x hx => Ins.bts_few (h.2.2.1 x hx)) h.2.1
  have h3 := Tail.bts_few h.2.2.2
  have h4 := Qs b.regs
  have h5 := Qs b.code.length
  unfold Block.bts
  simp only [List.length_append]
  omega
theorem Fun.bts_few {f : Fun} (h : f.Few) : f.bts.length ≤ 450000000 := by
  have h1 := QbT h.1
  have h2 := QbT h.2.1
  have h3 := Qer (f := Block.bts) (c := 14000000) (fun x hx => Block.bts_few (h.2.2.2 x hx)) h.2.2.1
  have h4 := Qs f.regs
  have h5 := Qs f.blocks.length
  unfold Fun.bts
  simp only [List.length_append]
  omega
end Go.Lir
namespace Go.Lir
set_option linter.unusedVariables false
abbrev Flt := Int × Int
/-- The first fault. -/
def orF (a b : Flt) : Flt := if a.1 = 0 ∧ b.1 ≠ 0 then b else a
def mkF (c at' : Int) : Flt := if c = 0 then (0, 0) else (c, at')
theorem Q2y (a b c : Flt) : orF (orF a b) c = orF a (orF b c) := by
  unfold orF
  by_cases h1 : a.1 = 0 <;> by_cases h2 : b.1 = 0 <;> by_cases h3 : c.1 = 0 <;> simp [h1, h2, h3]
theorem Qg7 {a b : Flt} (h : a.1 ≠ 0) : orF a b = a := by unfold orF; rw [if_neg (fun h' => h h'.1)]
theorem Qg6 {a b : Flt} (h : b.1 = 0) : orF a b = a := by unfold orF; rw [if_neg (fun h' => h'.2 h)]
theorem orF_0 {b : Flt} (h : b.1 = 0 → b = (0, 0)) : orF (0, 0) b = b := by
  unfold orF
  by_cases hb : b.1 = 0
  · rw [h hb]; rfl
  · rw [if_pos ⟨rfl, hb⟩]
theorem mkF_0 (at' : Int) : mkF 0 at' = (0, 0) := rfl
theorem mkF_c {c at' : Int} (h : c ≠ 0) : mkF c at' = (c, at') := if_neg h
theorem Q3O (c at' : Int) : (mkF c at').1 = c := by unfold mkF; split <;> simp_all
theorem mkF_z (c at' : Int) : (mkF c at').1 = 0 → mkF c at' = (0, 0) := by rw [Q3O]; rintro rfl; rfl
/-- Two codes at one place: the first that is not 0. -/
def orC (a b : Int) : Int := if a ≠ 0 then a else b
theorem Q1S {g : Flt} {a b at' : Int} : orF (orF g (mkF a at')) (mkF b at') = orF g (mkF (orC a b) at') := by
  rw [Q2y]
  congr 1
  unfold orC orF
  by_cases h : a = 0
  · subst h
    by_cases hb : b = 0
    · subst hb; rfl
    · simp [mkF, hb]
  · simp [mkF, h]

/-! which fields an instruction has -/
def fA (op : Int) : Bool := decide (op = 2 ∨ op = 4 ∨ op = 5 ∨ op = 6 ∨ op = 7 ∨ op = 8 ∨ op = 9 ∨ op = 10 ∨ op = 11 ∨ op = 13)
def fB (op : Int) : Bool := decide (op = 2 ∨ op = 7 ∨ op = 8 ∨ op = 9 ∨ op = 10)
def fC (op : Int) : Bool := decide (op = 10)
def fK (op : Int) : Bool := decide (op = 2 ∨ op = 6 ∨ op = 7 ∨ op = 14)
def fN (op : Int) : Bool := decide (op = 1)
def fG (op : Int) : Bool := decide (op = 14)
def fR (op : Int) : Bool := decide (op = 5 ∨ op = 14)
/-- A field that the kind has not is not 0. -/
def Ins.odd (x : Ins) : Prop := (fA x.op = false ∧ x.a ≠ 0) ∨ (fB x.op = false ∧ x.b ≠ 0) ∨ (fC x.op = false ∧ x.c ≠ 0) ∨ (fK x.op = false ∧ x.k ≠ 0) ∨ (fN x.op = false ∧ x.n ≠ 0) ∨ (fG x.op = false ∧ 0 < x.regs.length) ∨ (fR x.op = false ∧ 0 < x.args.length)
instance (x : Ins) : Decidable x.odd := by unfold Ins.odd; infer_instance
/-- What stands behind the form, kind by kind. -/
def Q1J (n : Nat) (x : Ins) : Int :=
  if x.op = 2 then (if x.k < 1 ∨ 9 < x.k then 1 else 0)
  else if x.op = 5 then (if 8 < x.args.length then 2 else 0)
  else if x.op = 6 ∨ x.op = 7 then (if x.k < 0 ∨ 8 ≤ x.k then 1 else 0)
  else if x.op = 14 then (if x.k < 0 ∨ (n : Int) ≤ x.k then 1 else if 6 < x.regs.length ∨ 8 < x.args.length then 2 else 0)
  else 0
def Q1c (n : Nat) (x : Ins) : Int := if x.op < 1 ∨ 14 < x.op then 3 else if x.odd then 4 else Q1J n x
def Q18 (n : Nat) (t : To) (is : Bool) : Int :=
  if is = false then (if t.block ≠ 0 ∨ 0 < t.regs.length ∨ 0 < t.args.length then 4 else 0)
  else if t.block < 0 ∨ (n : Int) ≤ t.block then 1 else if 16 < t.regs.length ∨ 8 < t.args.length then 2 else 0
def Q1L (n : Nat) (e : Tail) : Int :=
  if e.op < 1 ∨ 3 < e.op then 3
  else if e.op ≠ 2 ∧ e.a ≠ 0 ∨ e.op ≠ 3 ∧ 0 < e.args.length then 4
  else if 8 < e.args.length then 2
  else orC (Q18 n e.yes (decide (e.op ≠ 3))) (Q18 n e.no (decide (e.op = 2)))
def Q3j (regs : Int) : List Ty → Int
  | [] => 0
  | t :: l => orC (t.fault regs) (Q3j regs l)
def Qj (l : List Ty) (regs : Int) : Int := if 8 < l.length then 2 else Q3j regs l
def Q2B (f : Nat) : Int := f * 10000 + 9999
def Q35 (f b : Nat) : Int := f * 10000 + b * 100 + 90
def Qfi (f b : Nat) : Int := f * 10000 + b * 100 + 91
def Qho (f b i : Nat) : Int := f * 10000 + b * 100 + i
/-- The instructions from the i-th on. -/
def Q2b (n f b : Nat) : Nat → List Ins → Flt
  | _, [] => (0, 0)
  | i, x :: l => orF (mkF (Q1c n x) (Qho f b i)) (Q2b n f b (i + 1) l)
def Q1X (x : Fun) (b : Nat) (y : Block) : Int :=
  if y.regs < x.regs ∨ 16 < y.regs then 1
  else if Qj y.params y.regs ≠ 0 then Qj y.params y.regs
  else if b = 0 ∧ (y.regs ≠ x.regs ∨ y.params ≠ x.params) then 9
  else if 40 < y.code.length then 2 else 0
def Q3g (n f : Nat) (x : Fun) (b : Nat) (y : Block) : Flt := orF (mkF (Q1X x b y) (Q35 f b)) (orF (Q2b n f b 0 y.code) (mkF (Q1L x.blocks.length y.fin) (Qfi f b)))
def Q1m (n f : Nat) (x : Fun) : Nat → List Block → Flt
  | _, [] => (0, 0)
  | b, y :: l => orF (Q3g n f x b y) (Q1m n f x (b + 1) l)
def Q3q (f : Nat) (x : Fun) : Int :=
  if x.regs < 0 ∨ 6 < x.regs then 1
  else if Qj x.params x.regs ≠ 0 then Qj x.params x.regs
  else if Qj x.results x.regs ≠ 0 then Qj x.results x.regs
  else if x.blocks.length < 1 ∨ 12 < x.blocks.length then 2
  else if f = 0 ∧ (0 < x.regs ∨ 0 < x.params.length ∨ ∃ t ∈ x.results, t.kind ≠ 1) then 18 else 0
def Q7X (n f : Nat) (x : Fun) : Flt := orF (mkF (Q3q f x) (Q2B f)) (Q1m n f x 0 x.blocks)
def Q2z (n : Nat) : Nat → List Fun → Flt
  | _, [] => (0, 0)
  | f, x :: l => orF (Q7X n f x) (Q2z n (f + 1) l)
def Module.fault (m : Module) : Flt := orF (mkF (if m.funcs.length < 1 ∨ 8 < m.funcs.length then 2 else 0) (-1)) (Q2z m.funcs.length 0 m.funcs)
/-! has -/
def hasTab : List ByteArray := [⟨#[]⟩, ⟨#[110]⟩, ⟨#[97, 98, 107]⟩, ⟨#[]⟩, ⟨#[97]⟩, ⟨#[97, 114]⟩, ⟨#[97, 107]⟩, ⟨#[97, 98, 107]⟩, ⟨#[97, 98]⟩, ⟨#[97, 98]⟩, ⟨#[97, 98, 99]⟩, ⟨#[97]⟩, ⟨#[]⟩, ⟨#[97]⟩, ⟨#[107, 103, 114]⟩]
def hasF (op : Int) : ByteArray := if op < 1 ∨ 14 < op then ⟨#[]⟩ else hasTab.getD op.toNat ⟨#[]⟩
def QN (s : ByteArray) (c : Nat) : Bool := s.data.toList.any fun b => decide (b.toNat = c)
theorem op_cases {op : Int} (h1 : ¬ op < 1) (h2 : ¬ 14 < op) : op = 1 ∨ op = 2 ∨ op = 3 ∨ op = 4 ∨ op = 5 ∨ op = 6 ∨ op = 7 ∨ op = 8 ∨ op = 9 ∨ op = 10 ∨ op = 11 ∨ op = 12 ∨ op = 13 ∨ op = 14 := by omega
theorem with_all (op : Int) (h : ¬ (op < 1 ∨ 14 < op)) : QN (hasF op) 97 = fA op ∧ QN (hasF op) 98 = fB op ∧ QN (hasF op) 99 = fC op ∧ QN (hasF op) 107 = fK op ∧ QN (hasF op) 110 = fN op ∧ QN (hasF op) 103 = fG op ∧ QN (hasF op) 114 = fR op := by
  rcases op_cases (op := op) (by omega) (by omega) with rfl | rfl | rfl | rfl | rfl | rfl | rfl | rfl | rfl | rfl | rfl | rfl | rfl | rfl <;> decide
end Go.Lir
namespace Go.Lir
set_option linter.unusedVariables false
abbrev Got (α : Type) := Except Flt (α × List UInt8)
/-! ### What is read was written so -/
end Go.Lir
namespace Go.Lir
section
variable {P : Program} {l : List GO} {Q : QT} {ρ : Env} {w : World}
end
end Go.Lir
namespace Go.Lir
def crc4 (c : BitVec 32) : List UInt8 := [UInt8.ofNat c.toNat, UInt8.ofNat (c >>> 8).toNat, UInt8.ofNat (c >>> 16).toNat, UInt8.ofNat (c >>> 24).toNat]
def Module.enc (m : Module) : List UInt8 := m.body ++ crc4 (crcOf m.body)
end Go.Lir
namespace Go.Lir
section
variable {bs : List UInt8} {at0 i u : Nat} {x : UInt8} {X : Got Nat}
end
end Go.Lir
namespace Go.Lir
section
variable {α : Type}
variable {f : List UInt8 → Got α} {N k n0 : Nat} {n : Int} {xs : List α} {r r1 r2 r3 : List UInt8} {a : α} {e : Flt} {X : Got (List α)}
end
end Go.Lir
namespace Go.Lir
section
variable {bs r : List UInt8} {N : Nat} {e : Flt} {l : List Fun}
end
end Go.Lir
namespace Go.Lir
set_option linter.unusedVariables false
section
variable {α β : Type} {M n : Nat}
def Goodp (M : Nat) (f : List UInt8 → Got α) (p : α → Prop) : Prop := ∀ r x r', r.length ≤ M → f r = .ok (x, r') → p x ∧ r'.length ≤ r.length
theorem Goodp.weak {f : List UInt8 → Got α} {p q : α → Prop} (h : Goodp M f p) (hq : ∀ x, p x → q x) : Goodp M f q := fun r x r' h1 h2 => ⟨hq x (h r x r' h1 h2).1, (h r x r' h1 h2).2⟩
end
end Go.Lir
namespace Go.Lir
section
variable {n : Nat} {r r1 r2 r3 r4 : List UInt8} {e : Flt} {op a : Int} {yes no : To} {l : List Int}
variable {h j : Nat} {x : Int × Int × Int × Int} {y : Int} {X : Got (Int × Int × Int × Int)}
end
end Go.Lir
namespace Go.Lir
set_option linter.unusedVariables false
section
variable {α : Type} {n : Nat}
def InI (x : Int) : Prop := -9223372036854775808 ≤ x ∧ x ≤ 9223372036854775807
end
end Go.Lir
namespace Go.Lir
set_option linter.unusedVariables false
def hasB (l : List Bool) (r : Int) : Bool := decide (0 ≤ r) && decide (r < l.length) && l.getD r.toNat false

/-! ### What both answer is the same -/

end Go.Lir
namespace Go.Lir
set_option linter.unusedVariables false
/-- Which regions are held, which values there are. -/
structure JS where
  h : List Bool
  l : List Ty
deriving instance DecidableEq for JS
def ebind {α β : Type} (x : Except Int α) (f : α → Except Int β) : Except Int β := match x with
  | .error e => .error e
  | .ok a => f a
def jput (s : JS) (t : Ty) : Except Int JS := if s.l.length = 80 then .error 2 else .ok ⟨s.h, s.l ++ [t]⟩
def number : Ty := .mk 1 0 []
/-! ### What is true of it -/
theorem jput_ok {s s' : JS} {t : Ty} (h : jput s t = .ok s') : s.l.length ≠ 80 ∧ s'.h = s.h ∧ s'.l = s.l ++ [t] := by
  unfold jput at h
  split at h
  · cases h
  · rename_i hk; cases h; exact ⟨hk, rfl, rfl⟩
/-- How an instruction that is let by changes what is known. -/
structure JStep (x : Ins) (s s' : JS) : Prop where
  len : s.l.length ≤ 80 → s'.l.length ≤ 80
  pre : ∃ more, s'.l = s.l ++ more ∧ (x.op ≠ 14 → more.length ≤ 1) ∧ (x.op = 3 → more.length = 1) ∧ (x.op = 4 → more = [])
  new : x.op = 3 → s'.h = s.h ++ [true] ∧ s.h.length ≠ 16
  free : x.op = 4 → ∃ t, 0 ≤ x.a ∧ s.l[x.a.toNat]? = some t ∧ t.kind = 2 ∧ hasB s.h t.r = true ∧ s'.h = s.h.set t.r.toNat false
  else_ : x.op ≠ 3 → x.op ≠ 4 → s'.h = s.h
section
variable {s : JS} {regs l : List Int} {want : List Ty} {k : Nat} {x c : Int} {u u' t : Ty}
end
section
variable {m : Module} {f : Fun} {s : JS} {x : Ins}
end
section
variable {f : Fun} {s : JS} {t : To} {b : Block} {e : Tail}
end
/-! ### A code that is told is not 0 -/
def NZ {α : Type} (x : Except Int α) : Prop := ∀ c, x = .error c → c ≠ 0
theorem NZ.e {α : Type} {c : Int} (h : c ≠ 0) : NZ (.error c : Except Int α) := fun _ h' => by cases h'; exact h
theorem NZ.o {α : Type} (a : α) : NZ (.ok a : Except Int α) := fun _ h' => by cases h'
theorem NZ.bind {α β : Type} {x : Except Int α} {f : α → Except Int β} (h1 : NZ x) (h2 : ∀ a, x = .ok a → NZ (f a)) : NZ (ebind x f) := by
  cases x with
  | error e => exact fun c h => by cases h; exact h1 _ rfl
  | ok a => exact h2 a rfl
end Go.Lir
namespace Go.Lir
set_option linter.unusedVariables false
/-! ### A module of the right form -/
theorem Q5m {a b : Flt} (h : (orF a b).1 = 0) : a.1 = 0 ∧ b.1 = 0 := by
  unfold orF at h
  split at h
  · rename_i hc; exact absurd h hc.2
  · rename_i hc
    refine ⟨h, ?_⟩
    exact Classical.byContradiction fun hb => hc ⟨h, hb⟩
theorem Q5R {n f b : Nat} : ∀ {l : List Ins} {i : Nat}, (Q2b n f b i l).1 = 0 → ∀ x ∈ l, Q1c n x = 0
  | [], _, _, x, hx => by cases hx
  | y :: l, i, h, x, hx => by
    rw [Q2b] at h
    obtain ⟨h1, h2⟩ := Q5m h
    rw [Q3O] at h1
    rcases List.mem_cons.1 hx with rfl | hx
    · exact h1
    · exact Q5R h2 x hx
theorem Q3Y {n f : Nat} {x : Fun} : ∀ {l : List Block} {b0 : Nat}, (Q1m n f x b0 l).1 = 0 → ∀ (b : Nat) (y : Block), l[b]? = some y → (Q3g n f x (b0 + b) y).1 = 0
  | [], _, _, b, y, hy => by cases hy
  | z :: l, b0, h, b, y, hy => by
    rw [Q1m] at h
    obtain ⟨h1, h2⟩ := Q5m h
    cases b with
    | zero => rw [List.getElem?_cons_zero] at hy; cases hy; exact h1
    | succ b => rw [List.getElem?_cons_succ] at hy; rw [show b0 + (b + 1) = b0 + 1 + b by omega]; exact Q3Y h2 b y hy
theorem Q3p {n : Nat} : ∀ {l : List Fun} {f0 : Nat}, (Q2z n f0 l).1 = 0 → ∀ (f : Nat) (x : Fun), l[f]? = some x → (Q7X n (f0 + f) x).1 = 0
  | [], _, _, b, y, hy => by cases hy
  | z :: l, b0, h, b, y, hy => by
    rw [Q2z] at h
    obtain ⟨h1, h2⟩ := Q5m h
    cases b with
    | zero => rw [List.getElem?_cons_zero] at hy; cases hy; exact h1
    | succ b => rw [List.getElem?_cons_succ] at hy; rw [show b0 + (b + 1) = b0 + 1 + b by omega]; exact Q3p h2 b y hy
theorem Qes {m : Module} (h : m.fault.1 = 0) {f : Nat} {x : Fun} (hx : m.funcs[f]? = some x) : Q3q f x = 0 := by
  have h1 := Q3p (Q5m h).2 f x hx
  rw [Nat.zero_add] at h1
  have h2 := (Q5m h1).1
  rwa [Q3O] at h2
theorem Q9b {m : Module} (h : m.fault.1 = 0) {f b : Nat} {x : Fun} {y : Block} (hx : m.funcs[f]? = some x) (hy : x.blocks[b]? = some y) : Q1X x b y = 0 ∧ (∀ i ∈ y.code, Q1c m.funcs.length i = 0) ∧ Q1L x.blocks.length y.fin = 0 := by
  have h1 := Q3p (Q5m h).2 f x hx
  have h2 := Q3Y (Q5m h1).2 b y hy
  obtain ⟨h3, h4⟩ := Q5m h2
  obtain ⟨h5, h6⟩ := Q5m h4
  rw [Q3O] at h3 h6
  rw [Nat.zero_add] at h3
  exact ⟨h3, Q5R h5, h6⟩
theorem Q9s {x : Fun} {b : Nat} {y : Block} (h : Q1X x b y = 0) : x.regs ≤ y.regs ∧ y.regs ≤ 16 ∧ Qj y.params y.regs = 0 ∧ (b = 0 → y.regs = x.regs ∧ y.params = x.params) ∧ y.code.length ≤ 40 := by
  unfold Q1X at h
  split at h
  · cases h
  · rename_i h1
    split at h
    · rename_i h2; exact absurd h h2
    · rename_i h2
      split at h
      · cases h
      · rename_i h3
        split at h
        · cases h
        · refine ⟨by omega, by omega, Classical.not_not.1 h2, fun hb => ?_, by omega⟩
          refine ⟨Classical.byContradiction fun hr => h3 ⟨hb, .inl hr⟩, Classical.byContradiction fun hr => h3 ⟨hb, .inr hr⟩⟩
theorem Q9a {f : Nat} {x : Fun} (h : Q3q f x = 0) : 0 ≤ x.regs ∧ x.regs ≤ 6 ∧ Qj x.params x.regs = 0 ∧ Qj x.results x.regs = 0 ∧ 1 ≤ x.blocks.length ∧ x.blocks.length ≤ 12 := by
  unfold Q3q at h
  split at h
  · cases h
  · rename_i h1
    split at h
    · rename_i h2; exact absurd h h2
    · rename_i h2
      split at h
      · rename_i h3; exact absurd h h3
      · rename_i h3
        split at h
        · cases h
        · exact ⟨by omega, by omega, Classical.not_not.1 h2, Classical.not_not.1 h3, by omega, by omega⟩
theorem orC_z {a b : Int} (h : orC a b = 0) : a = 0 ∧ b = 0 := by
  unfold orC at h
  split at h
  · rename_i h1; exact absurd h h1
  · rename_i h1; exact ⟨Classical.not_not.1 h1, h⟩
theorem Q4u {r : Int} : ∀ {l : List Ty}, Q3j r l = 0 → ∀ t ∈ l, t.fault r = 0
  | [], _, t, ht => by cases ht
  | x :: l, h, t, ht => by
    rw [Q3j] at h
    obtain ⟨h1, h2⟩ := orC_z h
    rcases List.mem_cons.1 ht with rfl | ht
    · exact h1
    · exact Q4u h2 t ht
/-! ### What is renamed is short -/
theorem Ty.Short.part {t : Ty} (h : t.Short) : ∀ u ∈ t.l, u.Short := by
  obtain ⟨k, r, l⟩ := t
  exact h.parts.2
/-! ### What stays so -/
structure JGood (s : JS) : Prop where
  n : s.l.length ≤ 80
  h : s.h.length ≤ 16
  s : ∀ t ∈ s.l, t.Short
theorem JGood.put {s s' : JS} {t : Ty} (hg : JGood s) (ht : t.Short) (h : jput s t = .ok s') : JGood s' := by
  obtain ⟨h1, h2, h3⟩ := jput_ok h
  refine ⟨by rw [h3, List.length_append]; have := hg.n; simp only [List.length_cons, List.length_nil]; omega, by rw [h2]; exact hg.h, fun u hu => ?_⟩
  rw [h3] at hu
  rcases List.mem_append.1 hu with hu | hu
  · exact hg.s u hu
  · simp at hu; subst hu; exact ht
/-! ### What was freed -/
/-! ### What is held, as a list -/
end Go.Lir
namespace Go.Lir
set_option linter.unusedVariables false
variable {α : Type}
/-- A kind of data of which more is known. -/
def Rep.an (r : Rep α) (p : α → Prop) : Rep α where
  es := r.es
  pos := r.pos
  R := fun H K cs x => r.R H K cs x ∧ p x
  len := fun h => r.len h.1
  one := fun h => r.one h.1
  turn := fun h hs => ⟨r.turn h.1 hs, h.2⟩
theorem Rep.an_SR {r : Rep α} {p : α → Prop} {H : Heap} {K : Nat → Prop} {v : Value} {l : List α} (h : (r.an p).SR H K v l) : r.SR H K v l ∧ ∀ x ∈ l, p x := by
  obtain ⟨css, h1, ⟨h2, h3⟩, h4⟩ := h
  refine ⟨⟨css, h1, ⟨h2, fun m x hx => ?_⟩, h4⟩, fun x hx => ?_⟩
  · obtain ⟨d, e1, e2⟩ := h3 m x hx; exact ⟨d, e1, e2.1⟩
  · obtain ⟨m, hm⟩ := List.mem_iff_getElem?.1 hx
    obtain ⟨d, e1, e2⟩ := h3 m x hm; exact e2.2
def To.InR (t : To) : Prop := InI t.block ∧ (∀ n ∈ t.regs, InI n) ∧ ∀ n ∈ t.args, InI n
def Ins.InR (x : Ins) : Prop := (InI x.op ∧ InI x.a ∧ InI x.b ∧ InI x.c ∧ InI x.k ∧ InI x.n) ∧ (∀ n ∈ x.regs, InI n) ∧ ∀ n ∈ x.args, InI n
def Tail.InR (x : Tail) : Prop := InI x.op ∧ InI x.a ∧ x.yes.InR ∧ x.no.InR ∧ ∀ n ∈ x.args, InI n
def Block.InR (x : Block) : Prop := InI x.regs ∧ (∀ t ∈ x.params, t.InR) ∧ (∀ i ∈ x.code, i.InR) ∧ x.fin.InR
def Fun.InR (x : Fun) : Prop := InI x.regs ∧ (∀ t ∈ x.params, t.InR) ∧ (∀ t ∈ x.results, t.InR) ∧ ∀ b ∈ x.blocks, b.InR
def Module.InR (m : Module) : Prop := ∀ f ∈ m.funcs, f.InR
section
variable {P : Program} {T e : TypeId}
def Cod.Of.intI (ht : P.underlying T = some (.int .i64)) (hs : P.cellsOf T = 1) : Cod.Of P T (intR.an InI) := Cod.of (Cod.int .i64 ht hs) (intR.an InI) rfl fun _ _ x h => ⟨x, h.1, Qgi h.2⟩
def Cod.Of.tyI {TL t0 t1 : TypeId} (h0 : fieldAt P T 0 = some (0, 1, t0)) (h1 : fieldAt P T 1 = some (1, 1, t1)) (h2 : fieldAt P T 2 = some (2, 1, TL)) (hi0 : P.underlying t0 = some (.int .i64)) (hi1 : P.underlying t1 = some (.int .i64)) (hT : P.cellsOf T = 3) (hTL : P.underlying TL = some (.slice T)) (hby : decide (0 < P.bytesOf T) = true) : Cod.Of P T (tyR.an Ty.InR) :=
  ⟨Cod.tyInt h0 h1 h2 hi0 hi1 hT hTL hby, rfl, fun _ _ _ h => h⟩
def Cod.Of.toI {TI TL : TypeId} (ci : Cod.Of P TI (intR.an InI)) (cl : Cod.Of P TL (intR.an InI).list) (h0 : fieldAt P T 0 = some (0, 1, TI)) (h1 : fieldAt P T 1 = some (1, 1, TL)) (h2 : fieldAt P T 2 = some (2, 1, TL)) (hT : P.cellsOf T = 3) : Cod.Of P T (toR.an To.InR) :=
  Cod.of (Fld.cod (Fld.more ci.cod h0 (Fld.more cl.cod h1 (Fld.more cl.cod h2 Fld.none))) h0 3 hT) (toR.an To.InR) rfl fun H cs x h => by
    obtain ⟨hl, g0, g1, g2, _⟩ := h
    match cs, hl with
    | [a, b, c], _ =>
      obtain ⟨e0, n0⟩ : [a] = [_] ∧ InI _ := ci.part g0
      obtain ⟨v1, e1, s1⟩ := cl.part g1; obtain ⟨s1, q1⟩ := Rep.an_SR s1
      obtain ⟨v2, e2, s2⟩ := cl.part g2; obtain ⟨s2, q2⟩ := Rep.an_SR s2
      replace e1 : [b] = [v1] := e1
      replace e2 : [c] = [v2] := e2
      simp only [List.cons.injEq, and_true] at e0 e1 e2
      subst e0 e1 e2
      exact ⟨⟨x.1, x.2.1, x.2.2.1⟩, ⟨b, c, rfl, s1, s2⟩, n0, q1, q2⟩
def Cod.Of.insI {TI TL TN : TypeId} (ci : Cod.Of P TI (intR.an InI)) (cn : Cod.Of P TN (intR.an InI)) (cl : Cod.Of P TL (intR.an InI).list) (h0 : fieldAt P T 0 = some (0, 1, TI)) (h1 : fieldAt P T 1 = some (1, 1, TI)) (h2 : fieldAt P T 2 = some (2, 1, TI)) (h3 : fieldAt P T 3 = some (3, 1, TI)) (h4 : fieldAt P T 4 = some (4, 1, TI)) (h5 : fieldAt P T 5 = some (5, 1, TN)) (h6 : fieldAt P T 6 = some (6, 1, TL)) (h7 : fieldAt P T 7 = some (7, 1, TL)) (hT : P.cellsOf T = 8) : Cod.Of P T (insR.an Ins.InR) :=
  Cod.of (Fld.cod (Fld.more ci.cod h0 (Fld.more ci.cod h1 (Fld.more ci.cod h2 (Fld.more ci.cod h3 (Fld.more ci.cod h4 (Fld.more cn.cod h5 (Fld.more cl.cod h6 (Fld.more cl.cod h7 Fld.none)))))))) h0 8 hT) (insR.an Ins.InR) rfl fun H cs x h => by
    obtain ⟨hl, g0, g1, g2, g3, g4, g5, g6, g7, _⟩ := h
    match cs, hl with
    | [a0, a1, a2, a3, a4, a5, a6, a7], _ =>
      obtain ⟨e0, n0⟩ : [a0] = [_] ∧ InI _ := ci.part g0
      obtain ⟨e1, n1⟩ : [a1] = [_] ∧ InI _ := ci.part g1
      obtain ⟨e2, n2⟩ : [a2] = [_] ∧ InI _ := ci.part g2
      obtain ⟨e3, n3⟩ : [a3] = [_] ∧ InI _ := ci.part g3
      obtain ⟨e4, n4⟩ : [a4] = [_] ∧ InI _ := ci.part g4
      obtain ⟨e5, n5⟩ : [a5] = [_] ∧ InI _ := cn.part g5
      obtain ⟨v1, e6, s1⟩ := cl.part g6; obtain ⟨s1, q1⟩ := Rep.an_SR s1
      obtain ⟨v2, e7, s2⟩ := cl.part g7; obtain ⟨s2, q2⟩ := Rep.an_SR s2
      replace e6 : [a6] = [v1] := e6
      replace e7 : [a7] = [v2] := e7
      simp only [List.cons.injEq, and_true] at e0 e1 e2 e3 e4 e5 e6 e7
      subst e0 e1 e2 e3 e4 e5 e6 e7
      exact ⟨⟨x.1, x.2.1, x.2.2.1, x.2.2.2.1, x.2.2.2.2.1, x.2.2.2.2.2.1, x.2.2.2.2.2.2.1, x.2.2.2.2.2.2.2.1⟩, ⟨_, _, rfl, s1, s2⟩, ⟨n0, n1, n2, n3, n4, n5⟩, q1, q2⟩
def Cod.Of.endpI {TI TL TT : TypeId} (ci : Cod.Of P TI (intR.an InI)) (cl : Cod.Of P TL (intR.an InI).list) (ct : Cod.Of P TT (toR.an To.InR)) (h0 : fieldAt P T 0 = some (0, 1, TI)) (h1 : fieldAt P T 1 = some (1, 1, TI)) (h2 : fieldAt P T 2 = some (2, 3, TT)) (h3 : fieldAt P T 3 = some (5, 3, TT)) (h4 : fieldAt P T 4 = some (8, 1, TL)) (hT : P.cellsOf T = 9) : Cod.Of P T (endR.an Tail.InR) :=
  Cod.of (Fld.cod (Fld.more ci.cod h0 (Fld.more ci.cod h1 (Fld.more ct.cod h2 (Fld.more ct.cod h3 (Fld.more cl.cod h4 Fld.none))))) h0 9 hT) (endR.an Tail.InR) rfl fun H cs x h => by
    obtain ⟨hl, g0, g1, g2, g3, g4, _⟩ := h
    match cs, hl with
    | [a0, a1, a2, a3, a4, a5, a6, a7, a8], _ =>
      obtain ⟨e0, n0⟩ : [a0] = [_] ∧ InI _ := ci.part g0
      obtain ⟨e1, n1⟩ : [a1] = [_] ∧ InI _ := ci.part g1
      obtain ⟨⟨v1, v2, e2, s1, s2⟩, n2⟩ := ct.part g2
      obtain ⟨⟨v3, v4, e3, s3, s4⟩, n3⟩ := ct.part g3
      obtain ⟨v5, e4, s5⟩ := cl.part g4; obtain ⟨s5, q5⟩ := Rep.an_SR s5
      replace e2 : [a2, a3, a4] = _ := e2
      replace e3 : [a5, a6, a7] = _ := e3
      replace e4 : [a8] = _ := e4
      simp only [List.cons.injEq, and_true] at e0 e1 e2 e3 e4
      obtain ⟨q2, q3, q4⟩ := e2
      obtain ⟨q5, q6, q7⟩ := e3
      subst e0 e1 q2 q3 q4 q5 q6 q7 e4
      exact ⟨⟨x.1, x.2.1, x.2.2.1, x.2.2.2.1, x.2.2.2.2.1⟩, ⟨_, _, _, _, _, rfl, s1, s2, s3, s4, s5⟩, n0, n1, n2, n3, q5⟩
def Cod.Of.blockI {TI TL TC TE : TypeId} (ci : Cod.Of P TI (intR.an InI)) (cl : Cod.Of P TL (tyR.an Ty.InR).list) (cc : Cod.Of P TC (insR.an Ins.InR).list) (ce : Cod.Of P TE (endR.an Tail.InR)) (h0 : fieldAt P T 0 = some (0, 1, TI)) (h1 : fieldAt P T 1 = some (1, 1, TL)) (h2 : fieldAt P T 2 = some (2, 1, TC)) (h3 : fieldAt P T 3 = some (3, 9, TE)) (hT : P.cellsOf T = 12) : Cod.Of P T (blockR.an Block.InR) :=
  Cod.of (Fld.cod (Fld.more ci.cod h0 (Fld.more cl.cod h1 (Fld.more cc.cod h2 (Fld.more ce.cod h3 Fld.none)))) h0 12 hT) (blockR.an Block.InR) rfl fun H cs x h => by
    obtain ⟨hl, g0, g1, g2, g3, _⟩ := h
    match cs, hl with
    | [a0, a1, a2, a3, a4, a5, a6, a7, a8, a9, a10, a11], _ =>
      obtain ⟨e0, n0⟩ : [a0] = [_] ∧ InI _ := ci.part g0
      obtain ⟨v1, e1, s1⟩ := cl.part g1; obtain ⟨s1, q1⟩ := Rep.an_SR s1
      obtain ⟨v2, e2, s2⟩ := cc.part g2; obtain ⟨s2, q2⟩ := Rep.an_SR s2
      obtain ⟨s3, n3⟩ := ce.part g3
      replace e1 : [a1] = _ := e1
      replace e2 : [a2] = _ := e2
      replace s3 : endR.R H (· < H.size) [a3, a4, a5, a6, a7, a8, a9, a10, a11] x.2.2.2.1 := s3
      simp only [List.cons.injEq, and_true] at e0 e1 e2
      subst e0 e1 e2
      exact ⟨⟨x.1, x.2.1, x.2.2.1, x.2.2.2.1⟩, ⟨_, _, _, rfl, s1, s2, s3⟩, n0, q1, q2, n3⟩
def Cod.Of.funcI {TI TL TB : TypeId} (ci : Cod.Of P TI (intR.an InI)) (cl : Cod.Of P TL (tyR.an Ty.InR).list) (cb : Cod.Of P TB (blockR.an Block.InR).list) (h0 : fieldAt P T 0 = some (0, 1, TI)) (h1 : fieldAt P T 1 = some (1, 1, TL)) (h2 : fieldAt P T 2 = some (2, 1, TL)) (h3 : fieldAt P T 3 = some (3, 1, TB)) (hT : P.cellsOf T = 4) : Cod.Of P T (funcR.an Fun.InR) :=
  Cod.of (Fld.cod (Fld.more ci.cod h0 (Fld.more cl.cod h1 (Fld.more cl.cod h2 (Fld.more cb.cod h3 Fld.none)))) h0 4 hT) (funcR.an Fun.InR) rfl fun H cs x h => by
    obtain ⟨hl, g0, g1, g2, g3, _⟩ := h
    match cs, hl with
    | [a0, a1, a2, a3], _ =>
      obtain ⟨e0, n0⟩ : [a0] = [_] ∧ InI _ := ci.part g0
      obtain ⟨v1, e1, s1⟩ := cl.part g1; obtain ⟨s1, q1⟩ := Rep.an_SR s1
      obtain ⟨v2, e2, s2⟩ := cl.part g2; obtain ⟨s2, q2⟩ := Rep.an_SR s2
      obtain ⟨v3, e3, s3⟩ := cb.part g3; obtain ⟨s3, q3⟩ := Rep.an_SR s3
      replace e1 : [a1] = _ := e1
      replace e2 : [a2] = _ := e2
      replace e3 : [a3] = _ := e3
      simp only [List.cons.injEq, and_true] at e0 e1 e2 e3
      subst e0 e1 e2 e3
      exact ⟨⟨x.1, x.2.1, x.2.2.1, x.2.2.2.1⟩, ⟨_, _, _, rfl, s1, s2, s3⟩, n0, q1, q2, q3⟩
def Cod.Of.modI {TF : TypeId} (cf : Cod.Of P TF (funcR.an Fun.InR).list) (h0 : fieldAt P T 0 = some (0, 1, TF)) (hT : P.cellsOf T = 1) : Cod.Of P T (modR.an Module.InR) :=
  Cod.of (Fld.cod (Fld.more cf.cod h0 Fld.none) h0 1 hT) (modR.an Module.InR) rfl fun H cs x h => by
    obtain ⟨hl, g0, _⟩ := h
    match cs, hl with
    | [a0], _ =>
      obtain ⟨v1, e1, s1⟩ := cf.part g0; obtain ⟨s1, q1⟩ := Rep.an_SR s1
      replace e1 : [a0] = _ := e1
      simp only [List.cons.injEq, and_true] at e1
      subst e1
      exact ⟨⟨x.1⟩, ⟨_, rfl, s1⟩, q1⟩
end
/-! ### of the right form: read as written -/
theorem Q73 {fields : Nat} {n : Int} : ∀ {l : List Ty}, Tys.wrong fields l n = 0 → ∀ t ∈ l, t.wrong fields n = 0
  | [], _, t, ht => by cases ht
  | x :: l, h, t, ht => by
    rw [Tys.wrong] at h
    split at h
    · rename_i h0; exact absurd h h0
    · rename_i h0
      rcases List.mem_cons.1 ht with rfl | ht
      · exact Classical.not_not.1 h0
      · exact Q73 h t ht
theorem Ty.wrong_parts {k r n : Int} {l : List Ty} {fields : Nat} (h : (Ty.mk k r l).wrong fields n = 0) : (1 ≤ k ∧ k ≤ 4) ∧ (k = 1 → r = 0) ∧ (k ≠ 3 → l.length = 0) ∧ l.length ≤ fields ∧ ∀ t ∈ l, t.wrong fields n = 0 := by
  rw [Ty.wrong] at h
  split at h; · cases h
  split at h; · cases h
  split at h; · cases h
  split at h; · cases h
  exact ⟨by omega, by omega, by omega, by omega, Q73 h⟩
theorem Qdc : ∀ {l : List Ty} {left : Int}, Tys.deepB l left = true → ∀ t ∈ l, t.deepB left = true
  | [], _, _, t, ht => by cases ht
  | x :: l, left, h, t, ht => by
    rw [Tys.deepB, Bool.and_eq_true] at h
    rcases List.mem_cons.1 ht with rfl | ht
    · exact h.1
    · exact Qdc h.2 t ht
/-! ### few parts are short lists -/
end Go.Lir
namespace Go.Proofs.YtjecflbbcnocdaaDoor
open Go.Lir
def Qgf : Cod.Of Tryd.prog 3 (intR.an InI) := Cod.Of.intI (by kernel_rfl) (by kernel_rfl)
def cLongI : Cod.Of Tryd.prog 2 (intR.an InI) := Cod.Of.intI (by kernel_rfl) (by kernel_rfl)
def Qhh : Cod.Of Tryd.prog 59 (intR.an InI).list := Cod.Of.list Qgf (by kernel_rfl) (by kernel_rfl) (by kernel_rfl)
def cTyI : Cod.Of Tryd.prog 83 (tyR.an Ty.InR) := Cod.Of.tyI (TL := 53) (t0 := 3) (t1 := 3) (by kernel_rfl) (by kernel_rfl) (by kernel_rfl) (by kernel_rfl) (by kernel_rfl) (by kernel_rfl) (by kernel_rfl) (by kernel_rfl)
def cTysI : Cod.Of Tryd.prog 53 (tyR.an Ty.InR).list := Cod.Of.list cTyI (by kernel_rfl) (by kernel_rfl) (by kernel_rfl)
def cInsI : Cod.Of Tryd.prog 67 (insR.an Ins.InR) := Cod.Of.insI Qgf cLongI Qhh (by kernel_rfl) (by kernel_rfl) (by kernel_rfl) (by kernel_rfl) (by kernel_rfl) (by kernel_rfl) (by kernel_rfl) (by kernel_rfl) (by kernel_rfl)
def cInssI : Cod.Of Tryd.prog 58 (insR.an Ins.InR).list := Cod.Of.list cInsI (by kernel_rfl) (by kernel_rfl) (by kernel_rfl)
def cToI : Cod.Of Tryd.prog 61 (toR.an To.InR) := Cod.Of.toI Qgf Qhh (by kernel_rfl) (by kernel_rfl) (by kernel_rfl) (by kernel_rfl)
def cEndI : Cod.Of Tryd.prog 63 (endR.an Tail.InR) := Cod.Of.endpI Qgf Qhh cToI (by kernel_rfl) (by kernel_rfl) (by kernel_rfl) (by kernel_rfl) (by kernel_rfl) (by kernel_rfl)
def cBlockI : Cod.Of Tryd.prog 65 (blockR.an Block.InR) := Cod.Of.blockI Qgf cTysI cInssI cEndI (by kernel_rfl) (by kernel_rfl) (by kernel_rfl) (by kernel_rfl) (by kernel_rfl)
def cBlocksI : Cod.Of Tryd.prog 54 (blockR.an Block.InR).list := Cod.Of.list cBlockI (by kernel_rfl) (by kernel_rfl) (by kernel_rfl)
def cFuncI : Cod.Of Tryd.prog 56 (funcR.an Fun.InR) := Cod.Of.funcI Qgf cTysI cBlocksI (by kernel_rfl) (by kernel_rfl) (by kernel_rfl) (by kernel_rfl) (by kernel_rfl)
def cFuncsI : Cod.Of Tryd.prog 35 (funcR.an Fun.InR).list := Cod.Of.list cFuncI (by kernel_rfl) (by kernel_rfl) (by kernel_rfl)
def cModI : Cod.Of Tryd.prog 37 (modR.an Module.InR) := Cod.Of.modI cFuncsI (by kernel_rfl) (by kernel_rfl)
end Go.Proofs.YtjecflbbcnocdaaDoor
namespace Go.Lir

/-! ### A call that returns, or panics with one value -/

def Fins (P : Program) (f : FuncId) (args : List Value) (w : World) (S T : Value → World → Prop) : Prop :=
  Calls P f ⟨args⟩ w fun e w' => (∃ v, e = .returned v ∧ S v w') ∨ (∃ v, e = .panicked [{ v := v, recovered := false }] ∧ T v w')

theorem Fins.mono {P : Program} {f : FuncId} {args : List Value} {w : World} {S S' T T' : Value → World → Prop} (h : Fins P f args w S T) (hs : ∀ v w', S v w' → S' v w') (ht : ∀ v w', T v w' → T' v w') : Fins P f args w S' T' :=
  Calls.mono h fun _ _ h => h.elim (fun ⟨v, he, hv⟩ => .inl ⟨v, he, hs _ _ hv⟩) (fun ⟨v, he, hv⟩ => .inr ⟨v, he, ht _ _ hv⟩)
theorem Rets.ends {P : Program} {f : FuncId} {args : List Value} {w : World} {S T : Value → World → Prop} (h : Rets P f args w S) : Fins P f args w S T :=
  Calls.mono h fun _ _ h => .inl h
section
variable {P : Program} {l : List GO} {Q : QT} {ρ : Env} {w : World}
end

/-! ### Deferred calls: lowered code in which one is put off -/

inductive LSp where
  | dfr (d : Option Nat) (x : Operand)
  | rcv (d : Option Nat)

inductive LD where
  | pl (c : LC)
  | seq (a b : LD)
  | sp (l1 : List GO) (o : LSp) (l2 : List GO)

/-! ### The deferred function: lowered code that recovers -/

/-! ### Steps -/
section
variable {P : Program} {ρ : Env} {w : World} {u : FrameMode} {ds : List Deferred}
end
end Go.Lir
namespace Go.Lir
section
variable {P : Program} {l : List GO} {Q : QT} {ρ : Env} {w : World} {f : FuncId} {S T : Value → World → Prop}

/-- Three things to the front. -/
theorem St.pick3 {c : Cx} {L L1 L2 L3 : List Res} {r1 r2 r3 : Res} (h : St c w L) (p1 : Pick L r1 L1) (p2 : Pick L1 r2 L2) (p3 : Pick L2 r3 L3) : St c w (r1 :: r2 :: r3 :: L3) :=
  h.perm (p1.perm.trans (List.Perm.cons _ (p2.perm.trans (List.Perm.cons _ p3.perm))))
end
end Go.Lir
namespace Go.Lir
set_option linter.unusedVariables false
/-- What is left to be shown, apart from what is known. -/
structure Bx (K : Prop) : Prop where
  o : K
section
variable {K G : Prop}
theorem zn (k : K) (h : Bx K → G := by
  intro K9
  refine Q8n ?_
  (repeat (first | refine Q2I ?_ | refine Q7T ?_))
  exact K9.o) : G := h ⟨k⟩
theorem zcn (k : K) (h : Bx K → G := by
  intro K9
  refine s_cnil ?_
  (repeat (first | refine Q2I ?_ | refine Q7T ?_))
  exact K9.o) : G := h ⟨k⟩
theorem zsk (k : K) (h : Bx K → G := by
  intro K9
  refine s_skip ?_
  (repeat (first | refine Q2I ?_ | refine Q7T ?_))
  exact K9.o) : G := h ⟨k⟩
theorem zex (k : K) (h : Bx K → G := by
  intro K9
  refine s_exit ?_
  (repeat (first | refine s_exitQ ?_ | refine s_exitT ?_ | refine s_exitB rfl ?_ | refine Q2I ?_ | refine Q7T ?_))
  exact K9.o) : G := h ⟨k⟩
theorem zr (k : K) (h : Bx K → G := by
  intro K9
  refine s_ret ?_
  (repeat (first | refine s_retT ?_ | refine s_retB ?_))
  exact K9.o) : G := h ⟨k⟩
theorem zy {A : Prop} (k : G) (h : A := by
  repeat (first
    | exact fun _ h => (List.not_mem_nil h).elim
    | refine List.forall_mem_cons.2 ⟨by first | exact QfH hS rfl (NthP.nth (by repeat constructor)) rfl | exact Qep hS rfl (NthP.nth (by repeat constructor)) rfl rfl | exact Qeq hS (by assumption) rfl rfl | exact QbG hS (by assumption) rfl rfl rfl | exact Qd8 hS (by assumption) rfl rfl | exact Q95 hS (by assumption) rfl rfl rfl | exact gq_skip rfl rfl | exact Q6s rfl (QfH hS rfl (NthP.nth (by repeat constructor)) rfl) | exact Q6s rfl (Qep hS rfl (NthP.nth (by repeat constructor)) rfl rfl) | exact Q6s rfl (Qeq hS (by assumption) rfl rfl) | exact Q6s rfl (QbG hS (by assumption) rfl rfl rfl) | exact Q6s rfl (Qd8 hS (by assumption) rfl rfl) | exact Q6s rfl (Q95 hS (by assumption) rfl rfl rfl), ?_⟩)) : A ∧ G := ⟨h, k⟩
end
section
variable {P : Program} {l : List GO} {Q : QT} {ρ : Env} {w : World} {c : Cx} {L : List Res} {i : Nat} {T es : Nat} {v : Value} {css : List (List Value)}
theorem zt {K : KT} (h : K ρ w) : Q1 P [] (Qu K Q) ρ w := Q8n (Q2I h)
theorem St.ns {L' : List Res} (h : St c w L) (e : L = L' := by (conv => lhs; simp only [List.set_cons_zero, List.set_cons_succ]); first | done | exact rfl) : St c w L' := e ▸ h
theorem zgn {s : Nat} {b : Bool} {o : LO} {v : Value} (h : Q1 P l Q (updo ρ o.dst undef) w) (hg : ρ s = v := by exact rfl) (hw : Q9U v b = false := by exact rfl) : Q1 P (⟨some (s, b), o⟩ :: l) Q ρ w := s_gn hg hw h
theorem zgy {s : Nat} {b : Bool} {o : LO} (h : Q1 P (⟨none, o⟩ :: l) Q ρ w) (hg : ρ s = .bool b := by exact rfl) : Q1 P (⟨some (s, b), o⟩ :: l) Q ρ w := s_gy hg h
theorem zct {c : Operand} {a b : LC} (h : a.wp P Q ρ w) (hc : ρ.ev c = .bool true := by exact rfl) : (LC.cond c a b).wp P Q ρ w := s_cond_t hc h
theorem zcf {c : Operand} {a b : LC} (h : b.wp P Q ρ w) (hc : ρ.ev c = .bool false := by exact rfl) : (LC.cond c a b).wp P Q ρ w := s_cond_f hc h
theorem zf0 {d : Nat} {x : Operand} {off b : Nat} (h : Q1 P l Q (upd ρ d (.pointer (some ⟨b, off, none⟩))) w) (hx : ρ.ev x = .pointer (some ⟨b, 0, none⟩) := by exact rfl) : Q1 P (⟨none, .fld d x off⟩ :: l) Q ρ w := s_fld0 hx h
theorem zfd {d : Nat} {x : Operand} {off b o : Nat} (h : Q1 P l Q (upd ρ d (.pointer (some ⟨b, o + off, none⟩))) w) (hx : ρ.ev x = .pointer (some ⟨b, o, none⟩) := by exact rfl) : Q1 P (⟨none, .fld d x off⟩ :: l) Q ρ w := s_fld hx h
theorem znc {d : Nat} {x : Operand} {a : Addr} (h : Q1 P l Q (upd ρ d (.pointer (some a))) w) (hx : ρ.ev x = .pointer (some a) := by exact rfl) : Q1 P (⟨none, .nilc d x⟩ :: l) Q ρ w := s_nilc hx h
theorem znt {d : Nat} {x : Operand} {b : Bool} (h : Q1 P l Q (upd ρ d (.bool (!b))) w) (hx : ρ.ev x = .bool b := by exact rfl) : Q1 P (⟨none, .un d .not x⟩ :: l) Q ρ w := s_not hx h
theorem zxt {d : Nat} {x : Operand} {i : Nat} {vs : List Value} {v : Value} (h : Q1 P l Q (upd ρ d v) w) (hx : ρ.ev x = .tuple ⟨vs⟩ := by exact rfl) (hv : vs[i]? = some v := by exact rfl) : Q1 P (⟨none, .ext d x i⟩ :: l) Q ρ w := s_ext hx hv h
theorem zm {d : Nat} {x : Operand} {v : Value} (h : Q1 P l Q (upd ρ d v) w) (hx : ρ.ev x = v := by (conv => lhs; whnf); first | done | exact rfl) : Q1 P (⟨none, .mov d x⟩ :: l) Q ρ w := s_mov hx h
theorem zpt {d : Nat} {c x y : Operand} {v : Value} (h : Q1 P l Q (upd ρ d v) w) (hc : ρ.ev c = .bool true := by exact rfl) (hx : ρ.ev x = v := by (conv => lhs; whnf); first | done | exact rfl) : Q1 P (⟨none, .pick d c x y⟩ :: l) Q ρ w := s_pick_t hc hx h
theorem zpf {d : Nat} {c x y : Operand} {v : Value} (h : Q1 P l Q (upd ρ d v) w) (hc : ρ.ev c = .bool false := by exact rfl) (hx : ρ.ev y = v := by (conv => lhs; whnf); first | done | exact rfl) : Q1 P (⟨none, .pick d c x y⟩ :: l) Q ρ w := s_pick_f hc hx h
theorem zl {d : Nat} {x : Operand} {b o : Nat} {cs : List Value} {u : Value} (hS : St c w L) (h : Q1 P l Q (upd ρ d u) w) (hx : ρ.ev x = .pointer (some ⟨b, o, none⟩) := by exact rfl) (hi : nth L i = some (blk b T cs) := by exact NthP.nth (by repeat constructor)) (hu : cs[o]? = some u := by exact rfl) : Q1 P (⟨none, .load1 d x⟩ :: l) Q ρ w := s_loadB hS hx hi hu h
theorem zlk {d : Nat} {x : Operand} {b o : Nat} {cs : List Value} {u : Value} (hS : St c w L) (h : Q1 P l Q (upd ρ d u) w) (ha : AtK c b o cs := by assumption) (hx : ρ.ev x = .pointer (some ⟨b, o, none⟩) := by exact rfl) (hu : cs[0]? = some u := by exact rfl) : Q1 P (⟨none, .load1 d x⟩ :: l) Q ρ w := s_loadK hS ha hx hu h
theorem zlj {d : Nat} {x : Operand} {b o j : Nat} {cs : List Value} {u : Value} (hS : St c w L) (h : Q1 P l Q (upd ρ d u) w) (ha : AtK c b o cs := by assumption) (hx : ρ.ev x = .pointer (some ⟨b, o + j, none⟩) := by exact rfl) (hu : cs[j]? = some u := by exact rfl) : Q1 P (⟨none, .load1 d x⟩ :: l) Q ρ w := s_loadKj hS ha hx hu h
theorem zv {d n : Nat} {x : Operand} {b o : Nat} {cs us : List Value} (hS : St c w L) (h : Q1 P l Q (upd ρ d (.agg ⟨us⟩)) w) (hx : ρ.ev x = .pointer (some ⟨b, o, none⟩) := by exact rfl) (hi : nth L i = some (blk b T cs) := by exact NthP.nth (by repeat constructor)) (hu : (cs.drop o).take n = us := by exact rfl) (hl : us.length = n := by exact rfl) : Q1 P (⟨none, .loadn d n x⟩ :: l) Q ρ w := s_loadnB hS hx hi hu hl h
theorem zvk {d n : Nat} {x : Operand} {b o : Nat} {cs : List Value} (hS : St c w L) (h : Q1 P l Q (upd ρ d (.agg ⟨cs⟩)) w) (ha : AtK c b o cs := by assumption) (hx : ρ.ev x = .pointer (some ⟨b, o, none⟩) := by exact rfl) (hl : cs.length = n := by exact rfl) : Q1 P (⟨none, .loadn d n x⟩ :: l) Q ρ w := s_loadnK hS ha hx hl h
theorem zLe {d n : Nat} {x : Operand} (hS : St c w L) (h : Q1 P l Q (upd ρ d (.int .i64 n)) w) (hx : ρ.ev x = v := by (conv => lhs; whnf); first | done | exact rfl) (hi : nth L i = some (sl T es v css) := by exact NthP.nth (by repeat constructor)) (hn : css.length = n := by first | exact List.length_map _ | rfl) : Q1 P (⟨none, .len d x⟩ :: l) Q ρ w := s_lenEn hS hx hi hn h
theorem zad {d : Nat} {T : TypeId} {x y : Operand} {a b : Int} (h : Q1 P l Q (upd ρ d (.int .i64 (a + b))) w) (hx : ρ.ev x = .int .i64 a := by exact rfl) (hy : ρ.ev y = .int .i64 b := by exact rfl) (h1 : -9223372036854775808 ≤ a + b := by omega) (h2 : a + b ≤ 9223372036854775807 := by omega) : Q1 P (⟨none, .bin d .add T x y⟩ :: l) Q ρ w := s_add hx hy h1 h2 h
theorem zsu {d : Nat} {T : TypeId} {x y : Operand} {a b : Int} (h : Q1 P l Q (upd ρ d (.int .i64 (a - b))) w) (hx : ρ.ev x = .int .i64 a := by exact rfl) (hy : ρ.ev y = .int .i64 b := by exact rfl) (h1 : -9223372036854775808 ≤ a - b := by omega) (h2 : a - b ≤ 9223372036854775807 := by omega) : Q1 P (⟨none, .bin d .sub T x y⟩ :: l) Q ρ w := s_subi hx hy h1 h2 h
theorem zmu {d : Nat} {T : TypeId} {x y : Operand} {a b : Int} (h : Q1 P l Q (upd ρ d (.int .i64 (a * b))) w) (hx : ρ.ev x = .int .i64 a := by exact rfl) (hy : ρ.ev y = .int .i64 b := by exact rfl) (h1 : -9223372036854775808 ≤ a * b := by omega) (h2 : a * b ≤ 9223372036854775807 := by omega) : Q1 P (⟨none, .bin d .mul T x y⟩ :: l) Q ρ w := s_mul hx hy h1 h2 h
theorem Q2D {d : Nat} {T : TypeId} {x y : Operand} {k : IntKind} {a b : Int} (h : Q1 P l Q (upd ρ d (.bool true)) w) (hx : ρ.ev x = .int k a := by exact rfl) (hy : ρ.ev y = .int k b := by exact rfl) (hp : a < b := by omega) : Q1 P (⟨none, .bin d .lss T x y⟩ :: l) Q ρ w := s_lss_t hx hy hp h
theorem Q2E {d : Nat} {T : TypeId} {x y : Operand} {k : IntKind} {a b : Int} (h : Q1 P l Q (upd ρ d (.bool false)) w) (hx : ρ.ev x = .int k a := by exact rfl) (hy : ρ.ev y = .int k b := by exact rfl) (hp : ¬ (a < b) := by omega) : Q1 P (⟨none, .bin d .lss T x y⟩ :: l) Q ρ w := s_lss_f hx hy hp h
theorem QM {d : Nat} {T : TypeId} {x y : Operand} {k : IntKind} {a b : Int} (h : Q1 P l Q (upd ρ d (.bool true)) w) (hx : ρ.ev x = .int k a := by exact rfl) (hy : ρ.ev y = .int k b := by exact rfl) (hp : a = b := by omega) : Q1 P (⟨none, .bin d .eql T x y⟩ :: l) Q ρ w := s_eql_t hx hy hp h
theorem QR {d : Nat} {T : TypeId} {x y : Operand} {k : IntKind} {a b : Int} (h : Q1 P l Q (upd ρ d (.bool false)) w) (hx : ρ.ev x = .int k a := by exact rfl) (hy : ρ.ev y = .int k b := by exact rfl) (hp : ¬ (a = b) := by omega) : Q1 P (⟨none, .bin d .eql T x y⟩ :: l) Q ρ w := s_eql_f hx hy hp h
theorem Q22 {d : Nat} {T : TypeId} {x y : Operand} {k : IntKind} {a b : Int} (h : Q1 P l Q (upd ρ d (.bool true)) w) (hx : ρ.ev x = .int k a := by exact rfl) (hy : ρ.ev y = .int k b := by exact rfl) (hp : a ≠ b := by omega) : Q1 P (⟨none, .bin d .neq T x y⟩ :: l) Q ρ w := s_neq_t hx hy hp h
theorem Q23 {d : Nat} {T : TypeId} {x y : Operand} {k : IntKind} {a b : Int} (h : Q1 P l Q (upd ρ d (.bool false)) w) (hx : ρ.ev x = .int k a := by exact rfl) (hy : ρ.ev y = .int k b := by exact rfl) (hp : ¬ (a ≠ b) := by omega) : Q1 P (⟨none, .bin d .neq T x y⟩ :: l) Q ρ w := s_neq_f hx hy hp h
theorem Q10 {d : Nat} {T : TypeId} {x y : Operand} {k : IntKind} {a b : Int} (h : Q1 P l Q (upd ρ d (.bool true)) w) (hx : ρ.ev x = .int k a := by exact rfl) (hy : ρ.ev y = .int k b := by exact rfl) (hp : b < a := by omega) : Q1 P (⟨none, .bin d .gtr T x y⟩ :: l) Q ρ w := s_gtr_t hx hy hp h
theorem Q14 {d : Nat} {T : TypeId} {x y : Operand} {k : IntKind} {a b : Int} (h : Q1 P l Q (upd ρ d (.bool false)) w) (hx : ρ.ev x = .int k a := by exact rfl) (hy : ρ.ev y = .int k b := by exact rfl) (hp : ¬ (b < a) := by omega) : Q1 P (⟨none, .bin d .gtr T x y⟩ :: l) Q ρ w := s_gtr_f hx hy hp h
theorem QdU {d : Nat} {T : TypeId} {x y : Operand} {k : IntKind} {a b : Int} (h : Q1 P l Q (upd ρ d (.bool true)) w) (hx : ρ.ev x = .int k a := by exact rfl) (hy : ρ.ev y = .int k b := by exact rfl) (hp : b ≤ a := by omega) : Q1 P (⟨none, .bin d .geq T x y⟩ :: l) Q ρ w := s_geq_t hx hy hp h
theorem QdV {d : Nat} {T : TypeId} {x y : Operand} {k : IntKind} {a b : Int} (h : Q1 P l Q (upd ρ d (.bool false)) w) (hx : ρ.ev x = .int k a := by exact rfl) (hy : ρ.ev y = .int k b := by exact rfl) (hp : ¬ (b ≤ a) := by omega) : Q1 P (⟨none, .bin d .geq T x y⟩ :: l) Q ρ w := s_geq_f hx hy hp h
theorem zleqt {d : Nat} {T : TypeId} {x y : Operand} {k : IntKind} {a b : Int} (h : Q1 P l Q (upd ρ d (.bool true)) w) (hx : ρ.ev x = .int k a := by exact rfl) (hy : ρ.ev y = .int k b := by exact rfl) (hp : a ≤ b := by omega) : Q1 P (⟨none, .bin d .leq T x y⟩ :: l) Q ρ w := s_leq_t hx hy hp h
theorem zleqf {d : Nat} {T : TypeId} {x y : Operand} {k : IntKind} {a b : Int} (h : Q1 P l Q (upd ρ d (.bool false)) w) (hx : ρ.ev x = .int k a := by exact rfl) (hy : ρ.ev y = .int k b := by exact rfl) (hp : ¬ (a ≤ b) := by omega) : Q1 P (⟨none, .bin d .leq T x y⟩ :: l) Q ρ w := s_leq_f hx hy hp h
theorem zst {x y : Operand} {b o : Nat} {cs : List Value} {u : Value} (hS : St c w L) (h : ∀ w', St c w' (L.set i (blk b T (cs.set o u))) → Q1 P l Q ρ w') (hx : ρ.ev x = .pointer (some ⟨b, o, none⟩) := by exact rfl) (hy : ρ.ev y = u := by (conv => lhs; whnf); first | done | exact rfl) (hi : nth L i = some (blk b T cs) := by exact NthP.nth (by repeat constructor)) (ho : o < cs.length := by simp) (h1 : oneC u = true := by first | rfl | assumption | exact hS.oneC (NthP.nth (by repeat constructor)) | exact SlR.oneC (by assumption)) : Q1 P (⟨none, .store1 x y⟩ :: l) Q ρ w := s_storeB hS hx hy hi ho h1 h
theorem zb {d : Nat} {x : Operand} {cs : List Value} (hS : St c w L) (h : ∀ b w', St c w' (blk b T cs :: L) → Q1 P l Q (upd ρ d (.pointer (some ⟨b, 0, none⟩))) w') (hx : ρ.ev x = v := by (conv => lhs; whnf); first | done | exact rfl) (hc : v.cells = ⟨cs⟩ := by rfl) : Q1 P (⟨none, .box d T x⟩ :: l) Q ρ w := s_boxB hS hx hc h
theorem zsn {n i b T : Nat} {x y : Operand} {cs us : List Value} (hS : St c w L) (h : ∀ w', St c w' (L.set i (blk b T us)) → Q1 P l Q ρ w') (hx : ρ.ev x = .pointer (some ⟨b, 0, none⟩) := by exact rfl) (hy : ρ.ev y = .agg ⟨us⟩ := by exact rfl) (hn : us.length = n := by rfl) (hi : nth L i = some (blk b T cs) := by exact NthP.nth (by repeat constructor)) (hc : cs.length = n := by rfl) (h1 : ∀ u ∈ us, oneC u = true := by first | (simp [oneC]; done) | assumption | exact Rep.one _ (by assumption) | (simp only [List.take_succ_cons, List.take_zero, List.drop_zero, List.mem_cons, List.not_mem_nil, or_false, forall_eq_or_imp, forall_eq]; ((try refine And.intro ?_ ?_) <;> try refine And.intro ?_ ?_) <;> first | rfl | assumption)) : Q1 P (⟨none, .storen n x y⟩ :: l) Q ρ w := Qgu hS hx hy hn hi hc h1 h
theorem zsm {n : Nat} {x y : Operand} {b o : Nat} {cs us cs' : List Value} (hS : St c w L) (h : ∀ w', St c w' (L.set i (blk b T cs')) → Q1 P l Q ρ w') (hx : ρ.ev x = .pointer (some ⟨b, o, none⟩) := by exact rfl) (hy : ρ.ev y = .agg ⟨us⟩ := by exact rfl) (hn : us.length = n := by rfl) (hi : nth L i = some (blk b T cs) := by exact NthP.nth (by repeat constructor)) (ho : o + n ≤ cs.length := by simp) (h1 : ∀ u ∈ us, oneC u = true := by first | (simp [oneC]; done) | assumption | exact Rep.one _ (by assumption) | (simp only [List.take_succ_cons, List.take_zero, List.drop_zero, List.mem_cons, List.not_mem_nil, or_false, forall_eq_or_imp, forall_eq]; ((try refine And.intro ?_ ?_) <;> try refine And.intro ?_ ?_) <;> first | rfl | assumption)) (hc : cs.take o ++ (us ++ cs.drop (o + n)) = cs' := by (conv => lhs; simp only [List.take_succ_cons, List.take_zero, List.drop_succ_cons, List.drop_zero, List.cons_append, List.nil_append]); first | done | exact rfl) : Q1 P (⟨none, .storen n x y⟩ :: l) Q ρ w := Qe3 hS hx hy hn hi ho h1 hc h
theorem zf {t : Nat} {R : Ending → World → Prop} {v : Value} (h : R (.returned v) w) (hv : ρ t = v := by (conv => lhs; whnf); first | done | exact rfl) : retQ P [.tmp t] R .ret ρ w := q_ret1 hv h
theorem zf2 {t u : Nat} {R : Ending → World → Prop} {v v' : Value} (h : R (.returned (.tuple #[v, v'])) w) (hv : ρ t = v := by (conv => lhs; whnf); first | done | exact rfl) (hv' : ρ u = v' := by (conv => lhs; whnf); first | done | exact rfl) : retQ P [.tmp t, .tmp u] R .ret ρ w := q_ret2 hv hv' h
theorem zb0 {d : Nat} {z : List Value} (cs : List Value) (h : Q1 P l Q (upd ρ d (.agg ⟨cs⟩)) w) (hf : Q2a z [] = some cs := by rfl) : Q1 P (⟨none, .build d z []⟩ :: l) Q ρ w := s_build0  hf h
theorem zb1 {d : Nat} {z : List Value} {o0 n0 : Nat} {x0 : Operand} {v0 : Value} (cs : List Value) (h : Q1 P l Q (upd ρ d (.agg ⟨cs⟩)) w) (h0 : ρ.ev x0 = v0 := by (conv => lhs; whnf); first | done | exact rfl) (hf : Q2a z [(o0, n0, v0)] = some cs := by rfl) : Q1 P (⟨none, .build d z [(o0, n0, x0)]⟩ :: l) Q ρ w := s_build1 h0 hf h
theorem zB1 {d : Nat} {T : TypeId} {n : Nat} {z : List Value} {o0 n0 : Nat} {x0 : Operand} {v0 : Value} (hS : St c w L) (cs : List Value) (h : ∀ b w', St c w' (blk b T cs :: L) → Q1 P l Q (upd ρ d (.slice (some ⟨b, 0, none⟩) n n)) w') (h0 : ρ.ev x0 = v0 := by (conv => lhs; whnf); first | done | exact rfl) (hf : Q2a z [(o0, n0, v0)] = some cs := by rfl) : Q1 P (⟨none, .buildS d T n z [(o0, n0, x0)]⟩ :: l) Q ρ w := Q8o h0 hf fun b w' hb hf1 _ hk => h b w' (hS.laid hb hf1 hk)
theorem zb2 {d : Nat} {z : List Value} {o0 n0 : Nat} {x0 : Operand} {v0 : Value} {o1 n1 : Nat} {x1 : Operand} {v1 : Value} (cs : List Value) (h : Q1 P l Q (upd ρ d (.agg ⟨cs⟩)) w) (h0 : ρ.ev x0 = v0 := by (conv => lhs; whnf); first | done | exact rfl) (h1 : ρ.ev x1 = v1 := by (conv => lhs; whnf); first | done | exact rfl) (hf : Q2a z [(o0, n0, v0), (o1, n1, v1)] = some cs := by rfl) : Q1 P (⟨none, .build d z [(o0, n0, x0), (o1, n1, x1)]⟩ :: l) Q ρ w := Qfy h0 h1 hf h
theorem zB2 {d : Nat} {T : TypeId} {n : Nat} {z : List Value} {o0 n0 : Nat} {x0 : Operand} {v0 : Value} {o1 n1 : Nat} {x1 : Operand} {v1 : Value} (hS : St c w L) (cs : List Value) (h : ∀ b w', St c w' (blk b T cs :: L) → Q1 P l Q (upd ρ d (.slice (some ⟨b, 0, none⟩) n n)) w') (h0 : ρ.ev x0 = v0 := by (conv => lhs; whnf); first | done | exact rfl) (h1 : ρ.ev x1 = v1 := by (conv => lhs; whnf); first | done | exact rfl) (hf : Q2a z [(o0, n0, v0), (o1, n1, v1)] = some cs := by rfl) : Q1 P (⟨none, .buildS d T n z [(o0, n0, x0), (o1, n1, x1)]⟩ :: l) Q ρ w := Qe6 h0 h1 hf fun b w' hb hf1 _ hk => h b w' (hS.laid hb hf1 hk)
theorem zB3 {d : Nat} {T : TypeId} {n : Nat} {z : List Value} {o0 n0 : Nat} {x0 : Operand} {v0 : Value} {o1 n1 : Nat} {x1 : Operand} {v1 : Value} {o2 n2 : Nat} {x2 : Operand} {v2 : Value} (hS : St c w L) (cs : List Value) (h : ∀ b w', St c w' (blk b T cs :: L) → Q1 P l Q (upd ρ d (.slice (some ⟨b, 0, none⟩) n n)) w') (h0 : ρ.ev x0 = v0 := by (conv => lhs; whnf); first | done | exact rfl) (h1 : ρ.ev x1 = v1 := by (conv => lhs; whnf); first | done | exact rfl) (h2 : ρ.ev x2 = v2 := by (conv => lhs; whnf); first | done | exact rfl) (hf : Q2a z [(o0, n0, v0), (o1, n1, v1), (o2, n2, v2)] = some cs := by rfl) : Q1 P (⟨none, .buildS d T n z [(o0, n0, x0), (o1, n1, x1), (o2, n2, x2)]⟩ :: l) Q ρ w := QgB h0 h1 h2 hf fun b w' hb hf1 _ hk => h b w' (hS.laid hb hf1 hk)
theorem zB4 {d : Nat} {T : TypeId} {n : Nat} {z : List Value} {o0 n0 : Nat} {x0 : Operand} {v0 : Value} {o1 n1 : Nat} {x1 : Operand} {v1 : Value} {o2 n2 : Nat} {x2 : Operand} {v2 : Value} {o3 n3 : Nat} {x3 : Operand} {v3 : Value} (hS : St c w L) (cs : List Value) (h : ∀ b w', St c w' (blk b T cs :: L) → Q1 P l Q (upd ρ d (.slice (some ⟨b, 0, none⟩) n n)) w') (h0 : ρ.ev x0 = v0 := by (conv => lhs; whnf); first | done | exact rfl) (h1 : ρ.ev x1 = v1 := by (conv => lhs; whnf); first | done | exact rfl) (h2 : ρ.ev x2 = v2 := by (conv => lhs; whnf); first | done | exact rfl) (h3 : ρ.ev x3 = v3 := by (conv => lhs; whnf); first | done | exact rfl) (hf : Q2a z [(o0, n0, v0), (o1, n1, v1), (o2, n2, v2), (o3, n3, v3)] = some cs := by rfl) : Q1 P (⟨none, .buildS d T n z [(o0, n0, x0), (o1, n1, x1), (o2, n2, x2), (o3, n3, x3)]⟩ :: l) Q ρ w := QgA h0 h1 h2 h3 hf fun b w' hb hf1 _ hk => h b w' (hS.laid hb hf1 hk)
theorem zb10 {d : Nat} {z : List Value} {o0 n0 : Nat} {x0 : Operand} {v0 : Value} {o1 n1 : Nat} {x1 : Operand} {v1 : Value} {o2 n2 : Nat} {x2 : Operand} {v2 : Value} {o3 n3 : Nat} {x3 : Operand} {v3 : Value} {o4 n4 : Nat} {x4 : Operand} {v4 : Value} {o5 n5 : Nat} {x5 : Operand} {v5 : Value} {o6 n6 : Nat} {x6 : Operand} {v6 : Value} {o7 n7 : Nat} {x7 : Operand} {v7 : Value} {o8 n8 : Nat} {x8 : Operand} {v8 : Value} {o9 n9 : Nat} {x9 : Operand} {v9 : Value} (cs : List Value) (h : Q1 P l Q (upd ρ d (.agg ⟨cs⟩)) w) (h0 : ρ.ev x0 = v0 := by (conv => lhs; whnf); first | done | exact rfl) (h1 : ρ.ev x1 = v1 := by (conv => lhs; whnf); first | done | exact rfl) (h2 : ρ.ev x2 = v2 := by (conv => lhs; whnf); first | done | exact rfl) (h3 : ρ.ev x3 = v3 := by (conv => lhs; whnf); first | done | exact rfl) (h4 : ρ.ev x4 = v4 := by (conv => lhs; whnf); first | done | exact rfl) (h5 : ρ.ev x5 = v5 := by (conv => lhs; whnf); first | done | exact rfl) (h6 : ρ.ev x6 = v6 := by (conv => lhs; whnf); first | done | exact rfl) (h7 : ρ.ev x7 = v7 := by (conv => lhs; whnf); first | done | exact rfl) (h8 : ρ.ev x8 = v8 := by (conv => lhs; whnf); first | done | exact rfl) (h9 : ρ.ev x9 = v9 := by (conv => lhs; whnf); first | done | exact rfl) (hf : Q2a z [(o0, n0, v0), (o1, n1, v1), (o2, n2, v2), (o3, n3, v3), (o4, n4, v4), (o5, n5, v5), (o6, n6, v6), (o7, n7, v7), (o8, n8, v8), (o9, n9, v9)] = some cs := by rfl) : Q1 P (⟨none, .build d z [(o0, n0, x0), (o1, n1, x1), (o2, n2, x2), (o3, n3, x3), (o4, n4, x4), (o5, n5, x5), (o6, n6, x6), (o7, n7, x7), (o8, n8, x8), (o9, n9, x9)]⟩ :: l) Q ρ w := QgC h0 h1 h2 h3 h4 h5 h6 h7 h8 h9 hf h
theorem zD {gs : List GO} {es : List (List Nat)} (C : List CI) (h : Q1 P (C.map fun c => gat gs c.1) Q ρ w.drew) (hok : Q9e gs es C = true := by kernel_rfl) (hpl : (C.all fun c => match c.2 with | some (some _) => false | _ => true) = true := by kernel_rfl) : (LC.draw gs es).wp P Q ρ w := s_draw C hok hpl h
theorem zC {gs : List GO} {es : List (List Nat)} (C : List CI) (h : Q15 P gs C Q ρ w.drew) (hok : Q9e gs es C = true := by kernel_rfl) : (LC.draw gs es).wp P Q ρ w := s_canon C hok h
theorem zR0 {d : Nat} {f : FuncId} {S : Value → World → Prop} (c : Rets P f [] w S) (h : ∀ v w', S v w' → Q1 P l Q (upd ρ d v) w') : Q1 P (⟨none, .call (some d) f []⟩ :: l) Q ρ w := s_rets_0  c h
theorem zR1 {d : Nat} {f : FuncId} {x0 : Operand} {u0 : Value} {S : Value → World → Prop} (h0 : ρ.ev x0 = u0 := by (conv => lhs; whnf); first | done | exact rfl) (c : Rets P f [u0] w S) (h : ∀ v w', S v w' → Q1 P l Q (upd ρ d v) w') : Q1 P (⟨none, .call (some d) f [x0]⟩ :: l) Q ρ w := s_rets_1 h0 c h
theorem zR2 {d : Nat} {f : FuncId} {x0 x1 : Operand} {u0 u1 : Value} {S : Value → World → Prop} (h0 : ρ.ev x0 = u0 := by (conv => lhs; whnf); first | done | exact rfl) (h1 : ρ.ev x1 = u1 := by (conv => lhs; whnf); first | done | exact rfl) (c : Rets P f [u0, u1] w S) (h : ∀ v w', S v w' → Q1 P l Q (upd ρ d v) w') : Q1 P (⟨none, .call (some d) f [x0, x1]⟩ :: l) Q ρ w := s_rets_2 h0 h1 c h
theorem zR3 {d : Nat} {f : FuncId} {x0 x1 x2 : Operand} {u0 u1 u2 : Value} {S : Value → World → Prop} (h0 : ρ.ev x0 = u0 := by (conv => lhs; whnf); first | done | exact rfl) (h1 : ρ.ev x1 = u1 := by (conv => lhs; whnf); first | done | exact rfl) (h2 : ρ.ev x2 = u2 := by (conv => lhs; whnf); first | done | exact rfl) (c : Rets P f [u0, u1, u2] w S) (h : ∀ v w', S v w' → Q1 P l Q (upd ρ d v) w') : Q1 P (⟨none, .call (some d) f [x0, x1, x2]⟩ :: l) Q ρ w := s_rets_3 h0 h1 h2 c h
theorem zR4 {d : Nat} {f : FuncId} {x0 x1 x2 x3 : Operand} {u0 u1 u2 u3 : Value} {S : Value → World → Prop} (h0 : ρ.ev x0 = u0 := by (conv => lhs; whnf); first | done | exact rfl) (h1 : ρ.ev x1 = u1 := by (conv => lhs; whnf); first | done | exact rfl) (h2 : ρ.ev x2 = u2 := by (conv => lhs; whnf); first | done | exact rfl) (h3 : ρ.ev x3 = u3 := by (conv => lhs; whnf); first | done | exact rfl) (c : Rets P f [u0, u1, u2, u3] w S) (h : ∀ v w', S v w' → Q1 P l Q (upd ρ d v) w') : Q1 P (⟨none, .call (some d) f [x0, x1, x2, x3]⟩ :: l) Q ρ w := s_rets_4 h0 h1 h2 h3 c h
variable {α : Type} {r : Rep α} {xs : List α}
theorem zL {d : Nat} {x : Operand} (h : Q1 P l Q (upd ρ d (.int .i64 xs.length)) w) (hx : ρ.ev x = v := by (conv => lhs; whnf); first | done | exact rfl) (hK : r.sl c v xs := by assumption) : Q1 P (⟨none, .len d x⟩ :: l) Q ρ w := s_lenL hx hK h
theorem zi {d m : Nat} {x y : Operand} {k : IntKind} (h : ∀ b o cs a, AtK c b o cs → xs[m]? = some a → r.at c cs a → Q1 P l Q (upd ρ d (.pointer (some ⟨b, o, none⟩))) w) (hx : ρ.ev x = v := by (conv => lhs; whnf); first | done | exact rfl) (hy : ρ.ev y = .int k (m : Int) := by exact rfl) (hK : r.sl c v xs := by assumption) (hes : r.es = es := by exact rfl) (hn : m < xs.length := by first | omega | (simp; omega)) : Q1 P (⟨none, .idx d es x y⟩ :: l) Q ρ w := Qgy hx hy hK hes hn h
theorem za {T T' d Ts Ts2 Ty nb i k b : Nat} {z : List Value} {x y : Operand} {ds : List Value} {css : List (List Value)} {a : α} (hel : Q2N P Ts = some (T, es, nb, z)) (hts : ∃ e2, P.underlying Ts2 = some (.slice e2)) (hS : St c w L) (h : ∀ v' w' css', r.ls c css' (xs ++ [a]) → oneC v' = true → St c w' (L.set i (Go.Lir.sl T es v' css')) → Q1 P l Q (upd ρ d v') w') (hx : ρ.ev x = v := by (conv => lhs; whnf); first | done | exact rfl) (hy : ρ.ev y = .slice (some ⟨b, 0, none⟩) 1 1 := by (conv => lhs; whnf); first | done | exact rfl) (hi : nth L i = some (Go.Lir.sl T es v css) := by exact NthP.nth (by repeat constructor)) (hk : nth L k = some (blk b T' ds) := by exact NthP.nth (by repeat constructor)) (hls : r.ls c css xs := by assumption) (ha : r.at c ds a := by first | assumption | exact rfl) (hes : r.es = es := by exact rfl) (hb : (xs.length + 1) * nb ≤ 140737488355328 := by first | omega | (simp only [List.length_take]; omega) | (simp; omega)) : Q1 P (⟨none, .raw ⟨some d, .call ⟨.builtin .append, #[x, y], #[Ts, Ts2]⟩, Ty, "", #[], none⟩⟩ :: l) Q ρ w := s_appR1 hel hts hS hx hy hi hk hls ha hes hb h
theorem zak {T d Ts Ts2 Ty nb i : Nat} {z : List Value} {x y : Operand} {v2 : Value} {css : List (List Value)} {ys : List α} (hel : Q2N P Ts = some (T, es, nb, z)) (hts : ∃ e2, P.underlying Ts2 = some (.slice e2)) (hS : St c w L) (h : ∀ v' w' css', r.ls c css' (xs ++ ys) → oneC v' = true → St c w' (L.set i (Go.Lir.sl T es v' css')) → Q1 P l Q (upd ρ d v') w') (hx : ρ.ev x = v := by (conv => lhs; whnf); first | done | exact rfl) (hy : ρ.ev y = v2 := by (conv => lhs; whnf); first | done | exact rfl) (hi : nth L i = some (Go.Lir.sl T es v css) := by exact NthP.nth (by repeat constructor)) (hls : r.ls c css xs := by assumption) (hK : r.sl c v2 ys := by assumption) (hes : r.es = es := by exact rfl) (hb : (xs.length + ys.length) * nb ≤ 140737488355328 := by first | omega | (simp only [List.length_take]; omega) | (simp; omega)) : Q1 P (⟨none, .raw ⟨some d, .call ⟨.builtin .append, #[x, y], #[Ts, Ts2]⟩, Ty, "", #[], none⟩⟩ :: l) Q ρ w := s_appRK hel hts hS hx hy hi hls hK hes hb h
theorem zas {T T2 d Ts Ts2 Ty nb i k : Nat} {z : List Value} {x y : Operand} {v2 : Value} {css css2 : List (List Value)} {ys : List α} (hel : Q2N P Ts = some (T, es, nb, z)) (hts : ∃ e2, P.underlying Ts2 = some (.slice e2)) (hS : St c w L) (h : ∀ v' w' css', r.ls c css' (xs ++ ys) → oneC v' = true → St c w' (L.set i (Go.Lir.sl T es v' css')) → Q1 P l Q (upd ρ d v') w') (hx : ρ.ev x = v := by (conv => lhs; whnf); first | done | exact rfl) (hy : ρ.ev y = v2 := by (conv => lhs; whnf); first | done | exact rfl) (hi : nth L i = some (Go.Lir.sl T es v css) := by exact NthP.nth (by repeat constructor)) (hk : nth L k = some (Go.Lir.sl T2 es v2 css2) := by exact NthP.nth (by repeat constructor)) (hls : r.ls c css xs := by assumption) (hls2 : r.ls c css2 ys := by assumption) (hb : (xs.length + ys.length) * nb ≤ 140737488355328 := by first | omega | (simp only [List.length_take]; omega) | (simp; omega)) : Q1 P (⟨none, .raw ⟨some d, .call ⟨.builtin .append, #[x, y], #[Ts, Ts2]⟩, Ty, "", #[], none⟩⟩ :: l) Q ρ w := s_appRS hel hts hS hx hy hi hk hls hls2 hb h
def evs (ρ : Env) (ts : List Nat) : List (Nat × Value) := ts.map fun t => (t, ρ t)
theorem Qhc (ρ : Env) : evs ρ [] = [] := rfl
theorem Qhd {t : Nat} {ts : List Nat} {u : Value} {A : List (Nat × Value)} (h : ρ t = u) (h2 : evs ρ ts = A) : evs ρ (t :: ts) = (t, u) :: A := by subst h h2; rfl
theorem zh {A : List (Nat × Value)} (h : Has ρ A := by repeat' (first | exact trivial | refine And.intro rfl ?_)) : Has ρ A := h
theorem env2 {A B : List (Nat × Value)} (h : Has ρ A) (h2 : Has ρ B) : ∃ ρ', ρ = updl (updl ρ' B) A := ⟨ρ, by rw [QdY h2, QdY h]⟩
theorem zo {a : LC} (ts : List Nat) {A : List (Nat × Value)} (I : List (Nat × Value) → Env → World → Prop) (μ : Env → World → Nat) (h0 : I A ρ w) (h : ∀ ρ w, I A ρ w → a.wp P (Qu (fun ρ' w' => I A ρ' w' ∧ μ ρ' w' < μ ρ w) Q) ρ w) (hA : evs ρ ts = A := by (repeat (apply Qhd; · ((conv => lhs; whnf); first | done | exact rfl))); exact Qhc _) : (LC.loop a).wp P Q ρ w := s_loop (I A) μ h0 h
theorem zM {a b : LC} (ts : List Nat) {A : List (Nat × Value)} (I : List (Nat × Value) → Env → World → Prop) (ha : a.wp P (Qu (I A) Q) ρ w) (hb : ∀ ρ w, I A ρ w → b.wp P Q ρ w) (hA : evs ρ ts = A := by (repeat (apply Qhd; · ((conv => lhs; whnf); first | done | exact rfl))); exact Qhc _) : (LC.seq a b).wp P Q ρ w := s_mid (I A) ha hb
theorem zoL {a : LC} (hS : St c w L) (ts : List Nat) {A : List (Nat × Value)} (I : List (Nat × Value) → List Res → Env → World → Prop) (μ : Env → World → Nat) (h0 : I A L ρ w) (h : ∀ ρ w, I A L ρ w → a.wp P (Qu (fun ρ' w' => I A L ρ' w' ∧ μ ρ' w' < μ ρ w) Q) ρ w) (hA : evs ρ ts = A := by (repeat (apply Qhd; · ((conv => lhs; whnf); first | done | exact rfl))); exact Qhc _) : (LC.loop a).wp P Q ρ w := s_loop (I A L) μ h0 h
theorem zML {a b : LC} (hS : St c w L) (ts : List Nat) {A : List (Nat × Value)} (I : List (Nat × Value) → List Res → Env → World → Prop) (ha : a.wp P (Qu (I A L) Q) ρ w) (hb : ∀ ρ w, I A L ρ w → b.wp P Q ρ w) (hA : evs ρ ts = A := by (repeat (apply Qhd; · ((conv => lhs; whnf); first | done | exact rfl))); exact Qhc _) : (LC.seq a b).wp P Q ρ w := s_mid (I A L) ha hb
theorem zKL {l : List GO} (hS : St c w L) (n : Nat) (ts : List Nat) {A : List (Nat × Value)} (I : List (Nat × Value) → List Res → Env → World → Prop) (ha : Q1 P (l.take n) (Qu (I A L) Q) ρ w) (hb : ∀ ρ w, I A L ρ w → Q1 P (l.drop n) Q ρ w) (hA : evs ρ ts = A := by (repeat (apply Qhd; · ((conv => lhs; whnf); first | done | exact rfl))); exact Qhc _) : Q1 P l Q ρ w := s_cut n (I A L) ha hb
theorem St.sp {L' : List Res} (h : St c w L) (e : SubP L' L := by (repeat constructor); first | done | fail) : St c w L' := h.subP e
theorem fd {r' : Res} (h : NthP L i r' := by repeat constructor) : nth L i = some r' := h.nth
theorem vw {a b : Value} (h : a = b := by (conv => lhs; whnf); first | done | exact rfl) : a = b := h
theorem St.p3 {L1 L2 L3 : List Res} {r1 r2 r3 : Res} (h : St c w L) (p1 : Pick L r1 L1 := by repeat constructor) (p2 : Pick L1 r2 L2 := by repeat constructor) (p3 : Pick L2 r3 L3 := by repeat constructor) : St c w (r1 :: r2 :: r3 :: L3) := h.pick3 p1 p2 p3
end
end Go.Lir
namespace Go.Lir
@[reducible] def qm (d x : Nat) : GO := ⟨none, .mov d (.tmp x)⟩
@[reducible] def qk (d : Nat) (v : Value) : GO := ⟨none, .mov d (.const v)⟩
@[reducible] def qf (d x k : Nat) : GO := ⟨none, .fld d (.tmp x) k⟩
@[reducible] def ql (d x : Nat) : GO := ⟨none, .load1 d (.tmp x)⟩
@[reducible] def qV (d n x : Nat) : GO := ⟨none, .loadn d n (.tmp x)⟩
@[reducible] def qn (d x : Nat) : GO := ⟨none, .nilc d (.tmp x)⟩
@[reducible] def qL (d x : Nat) : GO := ⟨none, .len d (.tmp x)⟩
@[reducible] def qs (x y : Nat) : GO := ⟨none, .store1 (.tmp x) (.tmp y)⟩
@[reducible] def qw (n x y : Nat) : GO := ⟨none, .storen n (.tmp x) (.tmp y)⟩
@[reducible] def qi (d es x y : Nat) : GO := ⟨none, .idx d es (.tmp x) (.tmp y)⟩
@[reducible] def qx (d x k : Nat) : GO := ⟨none, .ext d (.tmp x) k⟩
@[reducible] def qb (d T x : Nat) : GO := ⟨none, .box d T (.tmp x)⟩
@[reducible] def qt (d : Nat) (o : BinOp) (T x y : Nat) : GO := ⟨none, .bin d o T (.tmp x) (.tmp y)⟩
@[reducible] def qj (d : Nat) (o : BinOp) (T x : Nat) (n : Int) : GO := ⟨none, .bin d o T (.tmp x) (.const (.int .i64 n))⟩
@[reducible] def qg (s : Nat) (b : Bool) (o : GO) : GO := ⟨some (s, b), o.2⟩
@[reducible] def vi (n : Int) : Value := .int .i64 n
@[reducible] def vn : Value := .slice none 0 0
end Go.Lir
namespace Go.Proofs.YtjecflbbcnocdaaDoor
open Go.Lir
set_option maxRecDepth 100000

/- 3 -/
/- 4 -/
/- 5 -/
def Q69 : List GO := [qb 2 37 0, qb 3 37 1, qk 4 (.bool false)]
def Q68 : List GO := [⟨none, .call (some 9) 9 []⟩, ⟨none, .un 10 .not (.tmp 9)⟩]
def Q67 : List GO := [qk 4 (.bool false)]
def Q66 : List GO := [qV 11 1 2, ⟨none, .call (some 12) 10 [(.tmp 11)]⟩, qm 13 12, qg 13 false (qV 14 1 3), ⟨some (13, false), .call (some 15) 10 [(.tmp 14)]⟩, ⟨none, .pick 16 (.tmp 13) (.const (.bool true)) (.tmp 15)⟩]
def Q65 : List GO := [qk 4 (.bool true)]
def Q64 : List GO := [qV 18 1 2, ⟨none, .call (some 19) 11 [(.tmp 18)]⟩, qm 17 19, qx 20 17 0, qx 21 17 1, ⟨none, .alloc 6 25 [(vi 0), (vi 0)]⟩, qm 5 20, qw 2 6 21]
def Q63 : List GO := [qV 23 1 3, ⟨none, .call (some 24) 11 [(.tmp 23)]⟩, qm 22 24, qx 25 22 0, qx 26 22 1, ⟨none, .alloc 8 25 [(vi 0), (vi 0)]⟩, qm 7 25, qw 2 8 26]
def Q62 : List GO := [qf 27 6 0, ql 28 27, qj 29 .neq 3 28 0, qm 30 29, qg 30 false (qf 31 8 0), qg 30 false (ql 32 31), qg 30 false (qj 33 .neq 3 32 0), ⟨none, .pick 34 (.tmp 30) (.const (.bool true)) (.tmp 33)⟩, qm 35 34, qg 35 false (qm 36 5), qg 35 false (qm 37 7), qg 35 false (qt 38 .eql 9 36 37), qg 35 false (qV 39 1 2), qg 35 false (qV 40 1 3), ⟨some (35, false), .call (some 41) 12 [(.tmp 39), (.tmp 40)]⟩, qg 35 false (qt 42 .eql 4 38 41), ⟨none, .pick 43 (.tmp 35) (.const (.bool true)) (.tmp 42)⟩, qm 4 43]
def Law_RenderApart_lc : LC := (.seq (.ops Q69) (.seq (.seq (.ops Q68) (.cond (.tmp 10) (.seq (.ops Q67) .ret) .skip)) (.seq (.seq (.ops Q66) (.cond (.tmp 16) (.seq (.ops Q65) .ret) .skip)) (.seq (.ops Q64) (.seq (.ops Q63) (.seq (.ops Q62) .ret))))))
@[reducible] def QX : FuncId := 5
theorem Q4U : lowF Tryd.prog Tryd.f5 = some Law_RenderApart_lc := by kernel_rfl
theorem Q6a {a0 a1 : Value} {w : World} {R : Ending → World → Prop} (h : Law_RenderApart_lc.wp Tryd.prog (retQ Tryd.prog [.tmp 4] R) (Qc [a0, a1]) w) : Calls Tryd.prog QX ⟨[a0, a1]⟩ w R :=
  Q3 Tryd.func5 Q4U (by kernel_rfl) (by kernel_rfl) h

/- 6 -/
/- 7 -/
/- 8 -/
/- 9 -/
def Q60 : List GO := [qk 0 (.bool false)]
def Q5Z : List GO := [⟨none, .call (some 4) 21 []⟩, ⟨none, .call (some 5) 11 [(.tmp 4)]⟩, qm 3 5, qx 6 3 0, qx 7 3 1, ⟨none, .alloc 2 25 [(vi 0), (vi 0)]⟩, qm 1 6, qw 2 2 7]
def Q5Y : List GO := [qf 8 2 0, ql 9 8, qj 10 .eql 3 9 0, qm 11 10, qg 11 true (qm 12 1), ⟨some (11, true), .bin 13 .eql 9 (.tmp 12) (.const (.string ⟨#[102, 117, 110, 99, 32, 48, 32, 40, 41, 32, 45, 62, 32, 40, 41, 32, 123, 10, 98, 108, 111, 99, 107, 32, 48, 32, 40, 41, 32, 123, 10, 9, 114, 101, 116, 32, 40, 41, 59, 10, 125, 10, 125, 10]⟩))⟩, ⟨none, .pick 14 (.tmp 11) (.tmp 13) (.const (.bool false))⟩, qm 0 14]
def Law_renderBegun_lc : LC := (.seq (.ops Q60) (.seq (.ops Q5Z) (.seq (.ops Q5Y) .ret)))
@[reducible] def Q41 : FuncId := 9
theorem Q4T : lowF Tryd.prog Tryd.f9 = some Law_renderBegun_lc := by kernel_rfl
theorem Q61 {w : World} {R : Ending → World → Prop} (h : Law_renderBegun_lc.wp Tryd.prog (retQ Tryd.prog [.tmp 0] R) (Qc []) w) : Calls Tryd.prog Q41 ⟨[]⟩ w R :=
  Q3 Tryd.func9 Q4T (by kernel_rfl) (by kernel_rfl) h

/- 10 -/
def Q7Q : List GO := [qb 1 37 0, qk 2 (.bool false)]
def Q7P : List GO := [qf 8 1 0, ql 9 8, qL 10 9, qj 11 .gtr 3 10 20]
def Q7O : List GO := [qk 2 (.bool true)]
def Q7N : List GO := [qk 3 (vi 0)]
def Q7M : List GO := [qm 12 3, qf 13 1 0, ql 14 13, qL 15 14, qt 16 .lss 3 12 15]
def Q7L : List GO := [qf 19 1 0, ql 20 19, qm 21 3, qi 22 4 20 21, qV 23 4 22, ⟨none, .alloc 4 56 [(vi 0), vn, vn, vn]⟩, qw 4 4 23]
def Q7K : List GO := [qf 24 4 3, ql 25 24, qL 26 25, qj 27 .gtr 3 26 30, qm 28 27, qg 28 false (qf 29 4 1), qg 28 false (ql 30 29), ⟨some (28, false), .call (some 31) 22 [(.tmp 30)]⟩, ⟨none, .pick 32 (.tmp 28) (.const (.bool true)) (.tmp 31)⟩, qm 33 32, qg 33 false (qf 34 4 2), qg 33 false (ql 35 34), ⟨some (33, false), .call (some 36) 22 [(.tmp 35)]⟩, ⟨none, .pick 37 (.tmp 33) (.const (.bool true)) (.tmp 36)⟩]
def Q7J : List GO := [qk 2 (.bool true)]
def Q7I : List GO := [qk 5 (vi 0)]
def Q7H : List GO := [qm 38 5, qf 39 4 3, ql 40 39, qL 41 40, qt 42 .lss 3 38 41]
def Q71 : List GO := [qf 45 4 3, ql 46 45, qm 47 5, qi 48 12 46 47, qV 49 12 48, ⟨none, .alloc 6 65 [(vi 0), vn, vn, (vi 0), (vi 0), (vi 0), vn, vn, (vi 0), vn, vn, vn]⟩, qw 12 6 49]
def Q70 : List GO := [qf 50 6 2, ql 51 50, qL 52 51, qj 53 .gtr 3 52 200, qm 54 53, qg 54 false (qf 55 6 1), qg 54 false (ql 56 55), ⟨some (54, false), .call (some 57) 22 [(.tmp 56)]⟩, ⟨none, .pick 58 (.tmp 54) (.const (.bool true)) (.tmp 57)⟩, qm 59 58, qg 59 false (qf 60 6 3), qg 59 false (qf 61 60 8), qg 59 false (ql 62 61), qg 59 false (qL 63 62), qg 59 false (qj 64 .gtr 3 63 300), ⟨none, .pick 65 (.tmp 59) (.const (.bool true)) (.tmp 64)⟩, qm 66 65, qg 66 false (qf 67 6 3), qg 66 false (qf 68 67 2), qg 66 false (qf 69 68 1), qg 66 false (ql 70 69), qg 66 false (qL 71 70), qg 66 false (qj 72 .gtr 3 71 300), ⟨none, .pick 73 (.tmp 66) (.const (.bool true)) (.tmp 72)⟩, qm 74 73, qg 74 false (qf 75 6 3), qg 74 false (qf 76 75 2), qg 74 false (qf 77 76 2), qg 74 false (ql 78 77), qg 74 false (qL 79 78), qg 74 false (qj 80 .gtr 3 79 300), ⟨none, .pick 81 (.tmp 74) (.const (.bool true)) (.tmp 80)⟩, qm 82 81, qg 82 false (qf 83 6 3), qg 82 false (qf 84 83 5), qg 82 false (qf 85 84 1), qg 82 false (ql 86 85), qg 82 false (qL 87 86), qg 82 false (qj 88 .gtr 3 87 300), ⟨none, .pick 89 (.tmp 82) (.const (.bool true)) (.tmp 88)⟩, qm 90 89, qg 90 false (qf 91 6 3), qg 90 false (qf 92 91 5), qg 90 false (qf 93 92 2), qg 90 false (ql 94 93), qg 90 false (qL 95 94), qg 90 false (qj 96 .gtr 3 95 300), ⟨none, .pick 97 (.tmp 90) (.const (.bool true)) (.tmp 96)⟩]
def Q6Z : List GO := [qk 2 (.bool true)]
def Q6Y : List GO := [qk 7 (vi 0)]
def Q6X : List GO := [qm 98 7, qf 99 6 2, ql 100 99, qL 101 100, qt 102 .lss 3 98 101]
def Q6W : List GO := [qf 105 6 2, ql 106 105, qm 107 7, qi 108 8 106 107, qf 109 108 6, ql 110 109, qL 111 110, qj 112 .gtr 3 111 300, qm 113 112, qg 113 false (qf 114 6 2), qg 113 false (ql 115 114), qg 113 false (qm 116 7), qg 113 false (qi 117 8 115 116), qg 113 false (qf 118 117 7), qg 113 false (ql 119 118), qg 113 false (qL 120 119), qg 113 false (qj 121 .gtr 3 120 300), ⟨none, .pick 122 (.tmp 113) (.const (.bool true)) (.tmp 121)⟩]
def Q6V : List GO := [qk 2 (.bool true)]
def Q6U : List GO := [qm 103 7, qj 104 .add 3 103 1, qm 7 104]
def Q3i : LC := (.seq (.seq (.ops Q6X) (.cond (.tmp 102) .skip (.exit 4))) (.seq (.block 5 (.seq (.ops Q6W) (.cond (.tmp 122) (.seq (.ops Q6V) .ret) .skip))) (.ops Q6U)))
def Q6T : List GO := [qm 43 5, qj 44 .add 3 43 1, qm 5 44]
def Q3v : LC := (.seq (.seq (.ops Q7H) (.cond (.tmp 42) .skip (.exit 2))) (.seq (.block 3 (.seq (.ops Q71) (.seq (.seq (.ops Q70) (.cond (.tmp 97) (.seq (.ops Q6Z) .ret) .skip)) (.seq (.ops Q6Y) (.block 4 (.loop Q3i)))))) (.ops Q6T)))
def Q6S : List GO := [qm 17 3, qj 18 .add 3 17 1, qm 3 18]
def Q3w : LC := (.seq (.seq (.ops Q7M) (.cond (.tmp 16) .skip (.exit 0))) (.seq (.block 1 (.seq (.ops Q7L) (.seq (.seq (.ops Q7K) (.cond (.tmp 37) (.seq (.ops Q7J) .ret) .skip)) (.seq (.ops Q7I) (.block 2 (.loop Q3v)))))) (.ops Q6S)))
def Q6R : List GO := [qk 2 (.bool false)]
def R_GreatModule_lc : LC := (.seq (.ops Q7Q) (.seq (.seq (.ops Q7P) (.cond (.tmp 11) (.seq (.ops Q7O) .ret) .skip)) (.seq (.seq (.ops Q7N) (.block 0 (.loop Q3w))) (.seq (.ops Q6R) .ret))))
@[reducible] def Qy : FuncId := 10
theorem Q72 : lowF Tryd.prog Tryd.f10 = some R_GreatModule_lc := by kernel_rfl
theorem Q7R {a0 : Value} {w : World} {R : Ending → World → Prop} (h : R_GreatModule_lc.wp Tryd.prog (retQ Tryd.prog [.tmp 2] R) (Qc [a0]) w) : Calls Tryd.prog Qy ⟨[a0]⟩ w R :=
  Q3 Tryd.func10 Q72 (by kernel_rfl) (by kernel_rfl) h

/- 11 -/
def Q8X : List GO := [qb 1 37 0, qk 2 (.string ⟨#[]⟩), ⟨none, .alloc 3 25 [(vi 0), (vi 0)]⟩]
def Q8W : List GO := [qV 6 1 1, ⟨none, .call (some 7) 23 [(.tmp 6)]⟩, ⟨none, .alloc 4 25 [(vi 0), (vi 0)]⟩, qw 2 4 7]
def Q8V : List GO := [qf 8 4 0, ql 9 8, qj 10 .neq 3 9 0]
def Q8U : List GO := [qV 11 2 4, qk 2 (.string ⟨#[]⟩), qw 2 3 11]
def Q8Z : List (List Nat) := [[],[],[0,1,0,1]]
def Q8T : List GO := [qV 12 1 1, ⟨none, .call (some 13) 24 [(.tmp 12)]⟩, ⟨none, .un 14 .not (.tmp 13)⟩]
def Q8S : List GO := [⟨none, .build 15 [(vi 0), (vi 0)] [(0, (1, (.const (vi 8)))), (1, (1, (.const (vi (-1)))))]⟩, qk 2 (.string ⟨#[]⟩), qw 2 3 15]
def Q8R : List GO := [qV 16 1 1, ⟨none, .call (some 17) 25 [(.tmp 16)]⟩, qm 5 17]
def Q8Q : List GO := [qm 18 5, ⟨none, .slen 19 (.tmp 18)⟩, qj 20 .gtr 3 19 40000]
def Q8P : List GO := [⟨none, .build 21 [(vi 0), (vi 0)] [(0, (1, (.const (vi 2)))), (1, (1, (.const (vi (-1)))))]⟩, qk 2 (.string ⟨#[]⟩), qw 2 3 21]
def Q8O : List GO := [qm 22 5, ⟨none, .build 23 [(vi 0), (vi 0)] []⟩, qm 2 22, qw 2 3 23]
def render_Print_lc : LC := (.seq (.ops Q8X) (.seq (.seq (.ops Q8W) (.seq (.ops Q8V) (.cond (.tmp 10) (.seq (.draw Q8U Q8Z) .ret) .skip))) (.seq (.seq (.ops Q8T) (.cond (.tmp 14) (.seq (.ops Q8S) .ret) .skip)) (.seq (.ops Q8R) (.seq (.seq (.ops Q8Q) (.cond (.tmp 20) (.seq (.ops Q8P) .ret) .skip)) (.seq (.ops Q8O) .ret))))))
@[reducible] def Q12 : FuncId := 11
theorem Q7q : lowF Tryd.prog Tryd.f11 = some render_Print_lc := by kernel_rfl
theorem Q8Y {a0 : Value} {w : World} {R : Ending → World → Prop} (h : render_Print_lc.wp Tryd.prog (retQ Tryd.prog [.tmp 2, .cell 3 25] R) (Qc [a0]) w) : Calls Tryd.prog Q12 ⟨[a0]⟩ w R :=
  Q3 Tryd.func11 Q7q (by kernel_rfl) (by kernel_rfl) h

/- 12 -/
def Q9O : List GO := [qb 2 37 0, qb 3 37 1, qk 4 (.bool false)]
def Q9N : List GO := [qf 9 2 0, ql 10 9, qL 11 10, qf 12 3 0, ql 13 12, qL 14 13, qt 15 .neq 3 11 14]
def Q9M : List GO := [qk 4 (.bool false)]
def Q9L : List GO := [qk 5 (vi 0)]
def Q9K : List GO := [qm 16 5, qf 17 2 0, ql 18 17, qL 19 18, qt 20 .lss 3 16 19]
def Q9J : List GO := [qf 23 2 0, ql 24 23, qm 25 5, qi 26 4 24 25, qV 27 4 26, qf 28 3 0, ql 29 28, qm 30 5, qi 31 4 29 30, qV 32 4 31, ⟨none, .alloc 6 56 [(vi 0), vn, vn, vn]⟩, ⟨none, .alloc 7 56 [(vi 0), vn, vn, vn]⟩, qw 4 6 27, qw 4 7 32]
def Q9Q : List (List Nat) := [[],[0],[],[1,2],[3],[],[5],[],[6,7],[8],[],[],[10,4,0,1,2,3,4,10,11],[11,9,12,0,1,2,3,4,5,6,7,8,9,10,11,12]]
def Q9I : List GO := [qf 33 6 0, ql 34 33, qf 35 7 0, ql 36 35, qt 37 .neq 3 34 36, qm 38 37, qg 38 false (qf 39 6 1), qg 38 false (ql 40 39), qg 38 false (qf 41 7 1), qg 38 false (ql 42 41), ⟨some (38, false), .call (some 43) 26 [(.tmp 40), (.tmp 42)]⟩, ⟨some (38, false), .un 44 .not (.tmp 43)⟩, ⟨none, .pick 45 (.tmp 38) (.const (.bool true)) (.tmp 44)⟩, qm 46 45, qg 46 false (qf 47 6 2), qg 46 false (ql 48 47), qg 46 false (qf 49 7 2), qg 46 false (ql 50 49), ⟨some (46, false), .call (some 51) 26 [(.tmp 48), (.tmp 50)]⟩, ⟨some (46, false), .un 52 .not (.tmp 51)⟩, ⟨none, .pick 53 (.tmp 46) (.const (.bool true)) (.tmp 52)⟩, qm 54 53, qg 54 false (qf 55 6 3), qg 54 false (ql 56 55), qg 54 false (qL 57 56), qg 54 false (qf 58 7 3), qg 54 false (ql 59 58), qg 54 false (qL 60 59), qg 54 false (qt 61 .neq 3 57 60), ⟨none, .pick 62 (.tmp 54) (.const (.bool true)) (.tmp 61)⟩]
def Q9H : List GO := [qk 4 (.bool false)]
def Q9G : List GO := [qk 8 (vi 0)]
def Q9F : List GO := [qm 63 8, qf 64 6 3, ql 65 64, qL 66 65, qt 67 .lss 3 63 66]
def Q7E : List GO := [qf 70 6 3, ql 71 70, qm 72 8, qi 73 12 71 72, qV 74 12 73, qf 75 7 3, ql 76 75, qm 77 8, qi 78 12 76 77, qV 79 12 78, ⟨none, .call (some 80) 27 [(.tmp 74), (.tmp 79)]⟩, ⟨none, .un 81 .not (.tmp 80)⟩]
def Q7G : List (List Nat) := [[],[0],[],[1,2],[3],[],[5],[],[6,7],[8],[4,9],[10]]
def Q7D : List GO := [qk 4 (.bool false)]
def Q7C : List GO := [qm 68 8, qj 69 .add 3 68 1, qm 8 69]
def Q2C : LC := (.seq (.seq (.ops Q9F) (.cond (.tmp 67) .skip (.exit 2))) (.seq (.block 3 (.seq (.draw Q7E Q7G) (.cond (.tmp 81) (.seq (.ops Q7D) .ret) .skip))) (.ops Q7C)))
def Q7B : List GO := [qm 21 5, qj 22 .add 3 21 1, qm 5 22]
def Q40 : LC := (.seq (.seq (.ops Q9K) (.cond (.tmp 20) .skip (.exit 0))) (.seq (.block 1 (.seq (.draw Q9J Q9Q) (.seq (.seq (.ops Q9I) (.cond (.tmp 62) (.seq (.ops Q9H) .ret) .skip)) (.seq (.ops Q9G) (.block 2 (.loop Q2C)))))) (.ops Q7B)))
def Q7A : List GO := [qk 4 (.bool true)]
def R_SameModule_lc : LC := (.seq (.ops Q9O) (.seq (.seq (.ops Q9N) (.cond (.tmp 15) (.seq (.ops Q9M) .ret) .skip)) (.seq (.seq (.ops Q9L) (.block 0 (.loop Q40))) (.seq (.ops Q7A) .ret))))
@[reducible] def Qt : FuncId := 12
theorem Q7F : lowF Tryd.prog Tryd.f12 = some R_SameModule_lc := by kernel_rfl
theorem Q9P {a0 a1 : Value} {w : World} {R : Ending → World → Prop} (h : R_SameModule_lc.wp Tryd.prog (retQ Tryd.prog [.tmp 4] R) (Qc [a0, a1]) w) : Calls Tryd.prog Qt ⟨[a0, a1]⟩ w R :=
  Q3 Tryd.func12 Q7F (by kernel_rfl) (by kernel_rfl) h

/- 13 -/
/- 14 -/
/- 15 -/
/- 16 -/
/- 17 -/
/- 18 -/
/- 19 -/
/- 20 -/
/- 21 -/
def QeI : List GO := [⟨none, .alloc 0 37 [vn]⟩]
def QeH : List GO := [⟨none, .build 1 [(vi 0), (vi 0), (vi 0), vn, vn, (vi 0), vn, vn, vn] [(0, (1, (.const (vi 3))))]⟩, ⟨none, .build 2 [(vi 0), vn, vn, (vi 0), (vi 0), (vi 0), vn, vn, (vi 0), vn, vn, vn] [(3, (9, (.tmp 1)))]⟩, ⟨none, .buildS 3 65 1 [(vi 0), vn, vn, (vi 0), (vi 0), (vi 0), vn, vn, (vi 0), vn, vn, vn] [(0, (12, (.tmp 2)))]⟩, ⟨none, .build 4 [(vi 0), vn, vn, vn] [(3, (1, (.tmp 3)))]⟩, ⟨none, .buildS 5 56 1 [(vi 0), vn, vn, vn] [(0, (4, (.tmp 4)))]⟩, ⟨none, .build 6 [vn] [(0, (1, (.tmp 5)))]⟩, qw 1 0 6]
def Law_least_lc : LC := (.seq (.ops QeI) (.seq (.ops QeH) .ret))
@[reducible] def QeK : FuncId := 21
theorem QdT : lowF Tryd.prog Tryd.f21 = some Law_least_lc := by kernel_rfl
theorem QeJ {w : World} {R : Ending → World → Prop} (h : Law_least_lc.wp Tryd.prog (retQ Tryd.prog [.cell 0 37] R) (Qc []) w) : Calls Tryd.prog QeK ⟨[]⟩ w R :=
  Q3 Tryd.func21 QdT (by kernel_rfl) (by kernel_rfl) h

/- 22 -/
def Q9C : List GO := [qk 2 (.bool false)]
def Q9B : List GO := [qm 4 0, qL 5 4, qj 6 .gtr 3 5 200]
def Q9A : List GO := [qk 2 (.bool true)]
def Q9z : List GO := [qk 3 (vi 0)]
def Q9y : List GO := [qm 7 3, qm 8 0, qL 9 8, qt 10 .lss 3 7 9]
def Q9x : List GO := [qm 13 0, qm 14 3, qi 15 3 13 14, qV 16 3 15, ⟨none, .call (some 17) 36 [(.tmp 16)]⟩]
def Q9w : List GO := [qk 2 (.bool true)]
def Q9v : List GO := [qm 11 3, qj 12 .add 3 11 1, qm 3 12]
def Q3Z : LC := (.seq (.seq (.ops Q9y) (.cond (.tmp 10) .skip (.exit 0))) (.seq (.block 1 (.seq (.ops Q9x) (.cond (.tmp 17) (.seq (.ops Q9w) .ret) .skip))) (.ops Q9v)))
def Q9u : List GO := [qk 2 (.bool false)]
def R_greatTypes_lc : LC := (.seq (.ops Q9C) (.seq (.seq (.ops Q9B) (.cond (.tmp 6) (.seq (.ops Q9A) .ret) .skip)) (.seq (.seq (.ops Q9z) (.block 0 (.loop Q3Z))) (.seq (.ops Q9u) .ret))))
@[reducible] def Q1P : FuncId := 22
theorem Q7z : lowF Tryd.prog Tryd.f22 = some R_greatTypes_lc := by kernel_rfl
theorem Q9D {a0 : Value} {w : World} {R : Ending → World → Prop} (h : R_greatTypes_lc.wp Tryd.prog (retQ Tryd.prog [.tmp 2] R) (Qc [a0]) w) : Calls Tryd.prog Q1P ⟨[a0]⟩ w R :=
  Q3 Tryd.func22 Q7z (by kernel_rfl) (by kernel_rfl) h

/- 23 -/
def Qdt : List GO := [qb 1 37 0, ⟨none, .alloc 2 25 [(vi 0), (vi 0)]⟩]
def Qds : List GO := [qV 7 1 1, ⟨none, .build 8 [vn, (vi 0), (vi 0), (vi 0)] [(0, (1, (.tmp 7))), (3, (1, (.const (vi (-1)))))]⟩, qb 9 86 8, qm 3 9]
def Qdr : List GO := [qm 10 3, qf 11 1 0, ql 12 11, qL 13 12, qj 14 .eql 3 13 0, qm 15 14, qg 15 false (qf 16 1 0), qg 15 false (ql 17 16), qg 15 false (qL 18 17), qg 15 false (qj 19 .gtr 3 18 8), ⟨none, .pick 20 (.tmp 15) (.const (.bool true)) (.tmp 19)⟩, ⟨none, .call (some 21) 37 [(.tmp 10), (.tmp 20), (.const (vi 2))]⟩]
def Qdq : List GO := [qk 4 (vi 0)]
def Qdp : List GO := [qm 22 4, qf 23 1 0, ql 24 23, qL 25 24, qt 26 .lss 3 22 25, qm 27 26, qg 27 true (qm 28 3), qg 27 true (qn 29 28), qg 27 true (qf 30 29 1), qg 27 true (qf 31 30 0), qg 27 true (ql 32 31), qg 27 true (qj 33 .eql 3 32 0), ⟨none, .pick 34 (.tmp 27) (.tmp 33) (.const (.bool false))⟩]
def Qdo : List GO := [qf 37 1 0, ql 38 37, qm 39 4, qi 40 4 38 39, qV 41 4 40, ⟨none, .alloc 5 56 [(vi 0), vn, vn, vn]⟩, qw 4 5 41]
def Qdn : List GO := [qm 42 3, qm 43 4, ⟨none, .call (some 44) 38 [(.tmp 43)]⟩, qn 45 42, qf 46 45 3, qs 46 44]
def Qdm : List GO := [qm 47 3, qf 48 5 0, ql 49 48, qj 50 .lss 3 49 0, qm 51 50, qg 51 false (qf 52 5 0), qg 51 false (ql 53 52), qg 51 false (qj 54 .gtr 3 53 6), ⟨none, .pick 55 (.tmp 51) (.const (.bool true)) (.tmp 54)⟩, ⟨none, .call (some 56) 37 [(.tmp 47), (.tmp 55), (.const (vi 1))]⟩]
def Qdl : List GO := [qm 57 3, qf 58 5 1, ql 59 58, qf 60 5 0, ql 61 60, ⟨none, .call (some 62) 39 [(.tmp 57), (.tmp 59), (.tmp 61)]⟩]
def Qdk : List GO := [qm 63 3, qf 64 5 2, ql 65 64, qf 66 5 0, ql 67 66, ⟨none, .call (some 68) 39 [(.tmp 63), (.tmp 65), (.tmp 67)]⟩]
def QaY : List GO := [qm 69 3, qf 70 5 3, ql 71 70, qL 72 71, qj 73 .eql 3 72 0, qm 74 73, qg 74 false (qf 75 5 3), qg 74 false (ql 76 75), qg 74 false (qL 77 76), qg 74 false (qj 78 .gtr 3 77 12), ⟨none, .pick 79 (.tmp 74) (.const (.bool true)) (.tmp 78)⟩, ⟨none, .call (some 80) 37 [(.tmp 69), (.tmp 79), (.const (vi 2))]⟩]
def QaX : List GO := [qm 81 3, qm 82 4, qj 83 .eql 3 82 0, qm 84 83, qg 84 true (qf 85 5 0), qg 84 true (ql 86 85), qg 84 true (qj 87 .gtr 3 86 0), qg 84 true (qm 88 87), qg 88 false (qf 89 5 1), qg 88 false (ql 90 89), qg 88 false (qL 91 90), qg 88 false (qj 92 .gtr 3 91 0), ⟨some (84, true), .pick 93 (.tmp 88) (.const (.bool true)) (.tmp 92)⟩, qg 84 true (qm 94 93), qg 94 false (qf 95 5 2), qg 94 false (ql 96 95), ⟨some (94, false), .call (some 97) 40 [(.tmp 96), (.func 41)]⟩, ⟨some (84, true), .pick 98 (.tmp 94) (.const (.bool true)) (.tmp 97)⟩, ⟨none, .pick 99 (.tmp 84) (.tmp 98) (.const (.bool false))⟩, ⟨none, .call (some 100) 37 [(.tmp 81), (.tmp 99), (.const (vi 18))]⟩]
def QaW : List GO := [qk 6 (vi 0)]
def QaV : List GO := [qm 101 6, qf 102 5 3, ql 103 102, qL 104 103, qt 105 .lss 3 101 104, qm 106 105, qg 106 true (qm 107 3), qg 106 true (qn 108 107), qg 106 true (qf 109 108 1), qg 106 true (qf 110 109 0), qg 106 true (ql 111 110), qg 106 true (qj 112 .eql 3 111 0), ⟨none, .pick 113 (.tmp 106) (.tmp 112) (.const (.bool false))⟩]
def QaU : List GO := [qm 116 3, qm 117 4, qm 118 6, ⟨none, .call (some 119) 42 [(.tmp 116), (.tmp 117), (.tmp 118)]⟩]
def QaT : List GO := [qm 114 6, qj 115 .add 3 114 1, qm 6 115]
def Q4q : LC := (.seq (.seq (.ops QaV) (.cond (.tmp 113) .skip (.exit 2))) (.seq (.block 3 (.ops QaU)) (.ops QaT)))
def QaS : List GO := [qm 35 4, qj 36 .add 3 35 1, qm 4 36]
def Q5Q : LC := (.seq (.seq (.ops Qdp) (.cond (.tmp 34) .skip (.exit 0))) (.seq (.block 1 (.seq (.ops Qdo) (.seq (.ops Qdn) (.seq (.ops Qdm) (.seq (.ops Qdl) (.seq (.ops Qdk) (.seq (.ops QaY) (.seq (.ops QaX) (.seq (.ops QaW) (.block 2 (.loop Q4q))))))))))) (.ops QaS)))
def QaR : List GO := [qm 120 3, qn 121 120, qf 122 121 1, qV 123 2 122, qw 2 2 123]
def code_Check_lc : LC := (.seq (.ops Qdt) (.seq (.ops Qds) (.seq (.ops Qdr) (.seq (.seq (.ops Qdq) (.block 0 (.loop Q5Q))) (.seq (.ops QaR) .ret)))))
@[reducible] def Q2t : FuncId := 23
theorem QaZ : lowF Tryd.prog Tryd.f23 = some code_Check_lc := by kernel_rfl
theorem Qdu {a0 : Value} {w : World} {R : Ending → World → Prop} (h : code_Check_lc.wp Tryd.prog (retQ Tryd.prog [.cell 2 25] R) (Qc [a0]) w) : Calls Tryd.prog Q2t ⟨[a0]⟩ w R :=
  Q3 Tryd.func23 QaZ (by kernel_rfl) (by kernel_rfl) h

/- 24 -/
def Q6m : List GO := [qb 1 37 0, qk 2 (.bool false)]
def Q6l : List GO := [⟨none, .alloc 3 4 [(.bool false)]⟩, ⟨none, .store1 (.tmp 3) (.const (.bool true))⟩]
def Q6k : List GO := [⟨none, .mkfn 13 43 [(.tmp 3)]⟩, qm 4 13]
def Q6j : List GO := [qf 14 1 0, ql 15 14, qL 16 15, qk 17 (vi 0)]
def Q6i : List GO := [qt 18 .lss 3 17 16]
def Q6h : List GO := [qi 19 4 15 17, qV 20 4 19, ⟨none, .alloc 6 56 [(vi 0), vn, vn, vn]⟩, qw 4 6 20]
def Q6g : List GO := [qf 21 6 3, ql 22 21, qL 23 22, qk 24 (vi 0)]
def Q6f : List GO := [qt 25 .lss 3 24 23]
def Q6e : List GO := [qi 26 12 22 24, qV 27 12 26, ⟨none, .alloc 8 65 [(vi 0), vn, vn, (vi 0), (vi 0), (vi 0), vn, vn, (vi 0), vn, vn, vn]⟩, qw 12 8 27]
def Q6d : List GO := [qf 28 8 2, ql 29 28, qL 30 29, qk 31 (vi 0)]
def Q5i : List GO := [qt 32 .lss 3 31 30]
def Q5h : List GO := [qi 33 8 29 31, qV 34 8 33, ⟨none, .alloc 10 67 [(vi 0), (vi 0), (vi 0), (vi 0), (vi 0), (vi 0), vn, vn]⟩, qw 8 10 34]
def Q5g : List GO := [qm 35 4, qf 36 10 1, ql 37 36, qf 38 10 2, ql 39 38, qf 40 10 3, ql 41 40, qf 42 10 4, ql 43 42, ⟨none, .buildS 44 3 4 [(vi 0), (vi 0), (vi 0), (vi 0)] [(0, (1, (.tmp 37))), (1, (1, (.tmp 39))), (2, (1, (.tmp 41))), (3, (1, (.tmp 43)))]⟩, ⟨none, .callv (some 45) (.tmp 35) [(.tmp 44)]⟩]
def Q5f : List GO := [qm 46 4, qf 47 10 6, ql 48 47, ⟨none, .callv (some 49) (.tmp 46) [(.tmp 48)]⟩]
def Q5e : List GO := [qm 50 4, qf 51 10 7, ql 52 51, ⟨none, .callv (some 53) (.tmp 50) [(.tmp 52)]⟩]
def Q5d : List GO := [qj 54 .add 3 31 1, qm 31 54]
def Q2L : LC := (.seq (.ops Q5i) (.seq (.cond (.tmp 32) .skip (.exit 4)) (.seq (.block 5 (.seq (.ops Q5h) (.seq (.ops Q5g) (.seq (.ops Q5f) (.ops Q5e))))) (.ops Q5d))))
def Q5c : List GO := [qm 55 4, qf 56 8 3, qf 57 56 1, ql 58 57, ⟨none, .buildS 59 3 1 [(vi 0)] [(0, (1, (.tmp 58)))]⟩, ⟨none, .callv (some 60) (.tmp 55) [(.tmp 59)]⟩]
def Q5b : List GO := [qm 61 4, qf 62 8 3, qf 63 62 8, ql 64 63, ⟨none, .callv (some 65) (.tmp 61) [(.tmp 64)]⟩]
def Q5a : List GO := [qf 66 8 3, qf 67 66 2, qV 68 3 67, qf 69 8 3, qf 70 69 5, qV 71 3 70, ⟨none, .buildS 72 61 2 [(vi 0), vn, vn, (vi 0), vn, vn] [(0, (3, (.tmp 68))), (3, (3, (.tmp 71)))]⟩, qL 73 72, qk 74 (vi 0)]
def Q59 : List GO := [qt 75 .lss 3 74 73]
def Q58 : List GO := [qi 76 3 72 74, qV 77 3 76, ⟨none, .alloc 12 61 [(vi 0), vn, vn]⟩, qw 3 12 77]
def Q57 : List GO := [qm 78 4, qf 79 12 1, ql 80 79, ⟨none, .callv (some 81) (.tmp 78) [(.tmp 80)]⟩]
def Q56 : List GO := [qm 82 4, qf 83 12 2, ql 84 83, ⟨none, .callv (some 85) (.tmp 82) [(.tmp 84)]⟩]
def Q55 : List GO := [qj 86 .add 3 74 1, qm 74 86]
def Q2K : LC := (.seq (.ops Q59) (.seq (.cond (.tmp 75) .skip (.exit 6)) (.seq (.block 7 (.seq (.ops Q58) (.seq (.ops Q57) (.ops Q56)))) (.ops Q55))))
def Q54 : List GO := [qj 87 .add 3 24 1, qm 24 87]
def Q3a : LC := (.seq (.ops Q6f) (.seq (.cond (.tmp 25) .skip (.exit 2)) (.seq (.block 3 (.seq (.ops Q6e) (.seq (.seq (.ops Q6d) (.block 4 (.loop Q2L))) (.seq (.ops Q5c) (.seq (.ops Q5b) (.seq (.ops Q5a) (.block 6 (.loop Q2K)))))))) (.ops Q54))))
def Q53 : List GO := [qj 88 .add 3 17 1, qm 17 88]
def Q3b : LC := (.seq (.ops Q6i) (.seq (.cond (.tmp 18) .skip (.exit 0)) (.seq (.block 1 (.seq (.ops Q6h) (.seq (.ops Q6g) (.block 2 (.loop Q3a))))) (.ops Q53))))
def Q52 : List GO := [ql 89 3, qm 2 89]
def render_numbers_lc : LC := (.seq (.ops Q6m) (.seq (.ops Q6l) (.seq (.ops Q6k) (.seq (.seq (.ops Q6j) (.block 0 (.loop Q3b))) (.seq (.ops Q52) .ret)))))
@[reducible] def Q4l : FuncId := 24
theorem Q5j : lowF Tryd.prog Tryd.f24 = some render_numbers_lc := by kernel_rfl
theorem Q6n {a0 : Value} {w : World} {R : Ending → World → Prop} (h : render_numbers_lc.wp Tryd.prog (retQ Tryd.prog [.tmp 2] R) (Qc [a0]) w) : Calls Tryd.prog Q4l ⟨[a0]⟩ w R :=
  Q3 Tryd.func24 Q5j (by kernel_rfl) (by kernel_rfl) h

/- 25 -/
def Q8B : List GO := [qb 1 37 0, qk 2 (.string ⟨#[]⟩)]
def Q8A : List GO := [⟨none, .alloc 3 97 [(.pointer none), vn]⟩]
def Q8z : List GO := [qf 10 1 0, ql 11 10, qL 12 11, qk 13 (vi 0)]
def Q8y : List GO := [qt 14 .lss 3 13 12]
def Q8x : List GO := [qi 15 4 11 13, qV 16 4 15, ⟨none, .alloc 5 56 [(vi 0), vn, vn, vn]⟩, qw 4 5 16]
def Q8w : List GO := [qf 17 5 0, ql 18 17, ⟨none, .call (some 19) 45 [(.tmp 18)]⟩, ⟨none, .bin 20 .add 9 (.const (.string ⟨#[102, 117, 110, 99, 32]⟩)) (.tmp 19)⟩, ⟨none, .bin 21 .add 9 (.tmp 20) (.const (.string ⟨#[32]⟩))⟩, qf 22 5 1, ql 23 22, ⟨none, .call (some 24) 46 [(.tmp 23)]⟩, qt 25 .add 9 21 24, ⟨none, .bin 26 .add 9 (.tmp 25) (.const (.string ⟨#[32, 45, 62, 32]⟩))⟩, qf 27 5 2, ql 28 27, ⟨none, .call (some 29) 46 [(.tmp 28)]⟩, qt 30 .add 9 26 29, ⟨none, .bin 31 .add 9 (.tmp 30) (.const (.string ⟨#[32, 123, 10]⟩))⟩, ⟨none, .call (some 32) 44 [(.tmp 3), (.tmp 31)]⟩]
def Q8E : List (List Nat) := [[],[0],[1],[2],[3],[],[5],[6,2],[4,7],[8],[],[10],[11,7],[9,12],[13],[14,12]]
def Q8v : List GO := [qf 33 5 3, ql 34 33, qL 35 34, qk 36 (vi 0)]
def Q8u : List GO := [qt 37 .lss 3 36 35]
def Q8t : List GO := [qi 38 12 34 36, qV 39 12 38, ⟨none, .alloc 7 65 [(vi 0), vn, vn, (vi 0), (vi 0), (vi 0), vn, vn, (vi 0), vn, vn, vn]⟩, qw 12 7 39]
def Q8s : List GO := [qf 40 7 0, ql 41 40, ⟨none, .call (some 42) 45 [(.tmp 41)]⟩, ⟨none, .bin 43 .add 9 (.const (.string ⟨#[98, 108, 111, 99, 107, 32]⟩)) (.tmp 42)⟩, ⟨none, .bin 44 .add 9 (.tmp 43) (.const (.string ⟨#[32]⟩))⟩, qf 45 7 1, ql 46 45, ⟨none, .call (some 47) 46 [(.tmp 46)]⟩, qt 48 .add 9 44 47, ⟨none, .bin 49 .add 9 (.tmp 48) (.const (.string ⟨#[32, 123, 10]⟩))⟩, ⟨none, .call (some 50) 44 [(.tmp 3), (.tmp 49)]⟩]
def Q8D : List (List Nat) := [[],[0],[1],[2],[3],[],[5],[6,2],[4,7],[8],[9,7]]
def Q7n : List GO := [qf 51 7 2, ql 52 51, qL 53 52, qk 54 (vi 0)]
def Q7m : List GO := [qt 55 .lss 3 54 53]
def Q7l : List GO := [qi 56 8 52 54, qV 57 8 56, ⟨none, .alloc 9 67 [(vi 0), (vi 0), (vi 0), (vi 0), (vi 0), (vi 0), vn, vn]⟩, qw 8 9 57]
def Q7k : List GO := [qV 58 8 9, ⟨none, .call (some 59) 47 [(.tmp 58)]⟩, ⟨none, .bin 60 .add 9 (.const (.string ⟨#[9]⟩)) (.tmp 59)⟩, ⟨none, .bin 61 .add 9 (.tmp 60) (.const (.string ⟨#[10]⟩))⟩, ⟨none, .call (some 62) 44 [(.tmp 3), (.tmp 61)]⟩]
def Q7j : List GO := [qj 63 .add 3 54 1, qm 54 63]
def Q3t : LC := (.seq (.ops Q7m) (.seq (.cond (.tmp 55) .skip (.exit 4)) (.seq (.block 5 (.seq (.ops Q7l) (.ops Q7k))) (.ops Q7j))))
def Q7i : List GO := [qf 64 7 3, qV 65 9 64, ⟨none, .call (some 66) 48 [(.tmp 65)]⟩, ⟨none, .bin 67 .add 9 (.const (.string ⟨#[9]⟩)) (.tmp 66)⟩, ⟨none, .bin 68 .add 9 (.tmp 67) (.const (.string ⟨#[10, 125, 10]⟩))⟩, ⟨none, .call (some 69) 44 [(.tmp 3), (.tmp 68)]⟩]
def Q7h : List GO := [qj 70 .add 3 36 1, qm 36 70]
def Q3G : LC := (.seq (.ops Q8u) (.seq (.cond (.tmp 37) .skip (.exit 2)) (.seq (.block 3 (.seq (.ops Q8t) (.seq (.draw Q8s Q8D) (.seq (.seq (.ops Q7n) (.block 4 (.loop Q3t))) (.ops Q7i))))) (.ops Q7h))))
def Q7g : List GO := [⟨none, .call (some 71) 44 [(.tmp 3), (.const (.string ⟨#[125, 10]⟩))]⟩]
def Q7f : List GO := [qj 72 .add 3 13 1, qm 13 72]
def Q3H : LC := (.seq (.ops Q8y) (.seq (.cond (.tmp 14) .skip (.exit 0)) (.seq (.block 1 (.seq (.ops Q8x) (.seq (.draw Q8w Q8E) (.seq (.seq (.ops Q8v) (.block 2 (.loop Q3G))) (.ops Q7g))))) (.ops Q7f))))
def Q7e : List GO := [⟨none, .call (some 73) 49 [(.tmp 3)]⟩, qm 2 73]
def render_whole_lc : LC := (.seq (.ops Q8B) (.seq (.ops Q8A) (.seq (.seq (.ops Q8z) (.block 0 (.loop Q3H))) (.seq (.ops Q7e) .ret))))
@[reducible] def Q74 : FuncId := 25
theorem Q7o : lowF Tryd.prog Tryd.f25 = some render_whole_lc := by kernel_rfl
theorem Q8C {a0 : Value} {w : World} {R : Ending → World → Prop} (h : render_whole_lc.wp Tryd.prog (retQ Tryd.prog [.tmp 2] R) (Qc [a0]) w) : Calls Tryd.prog Q74 ⟨[a0]⟩ w R :=
  Q3 Tryd.func25 Q7o (by kernel_rfl) (by kernel_rfl) h

/- 26 -/
def Qbl : List GO := [qk 4 (.bool false)]
def Qbk : List GO := [qm 6 0, qL 7 6, qm 8 1, qL 9 8, qt 10 .neq 3 7 9]
def Qbj : List GO := [qk 4 (.bool false)]
def Qbi : List GO := [qk 5 (vi 0)]
def Qbh : List GO := [qm 11 5, qm 12 0, qL 13 12, qt 14 .lss 3 11 13]
def Qbg : List GO := [qm 17 0, qm 18 5, qi 19 3 17 18, qV 20 3 19, qm 21 1, qm 22 5, qi 23 3 21 22, qV 24 3 23, ⟨none, .call (some 25) 50 [(.tmp 20), (.tmp 24)]⟩, ⟨none, .un 26 .not (.tmp 25)⟩]
def Qbn : List (List Nat) := [[],[],[0,1],[2],[],[],[4,5],[6],[3,7],[8]]
def Qbf : List GO := [qk 4 (.bool false)]
def Qbe : List GO := [qm 15 5, qj 16 .add 3 15 1, qm 5 16]
def Q4s : LC := (.seq (.seq (.ops Qbh) (.cond (.tmp 14) .skip (.exit 0))) (.seq (.block 1 (.seq (.draw Qbg Qbn) (.cond (.tmp 26) (.seq (.ops Qbf) .ret) .skip))) (.ops Qbe)))
def Qbd : List GO := [qk 4 (.bool true)]
def R_SameTypes_lc : LC := (.seq (.ops Qbl) (.seq (.seq (.ops Qbk) (.cond (.tmp 10) (.seq (.ops Qbj) .ret) .skip)) (.seq (.seq (.ops Qbi) (.block 0 (.loop Q4s))) (.seq (.ops Qbd) .ret))))
@[reducible] def Q1M : FuncId := 26
theorem Q9E : lowF Tryd.prog Tryd.f26 = some R_SameTypes_lc := by kernel_rfl
theorem Qbm {a0 a1 : Value} {w : World} {R : Ending → World → Prop} (h : R_SameTypes_lc.wp Tryd.prog (retQ Tryd.prog [.tmp 4] R) (Qc [a0, a1]) w) : Calls Tryd.prog Q1M ⟨[a0, a1]⟩ w R :=
  Q3 Tryd.func26 Q9E (by kernel_rfl) (by kernel_rfl) h

/- 27 -/
def Qba : List GO := [qb 2 65 0, qb 3 65 1, qk 4 (.bool false)]
def Qb9 : List GO := [qf 6 2 0, ql 7 6, qf 8 3 0, ql 9 8, qt 10 .neq 3 7 9, qm 11 10, qg 11 false (qf 12 2 1), qg 11 false (ql 13 12), qg 11 false (qf 14 3 1), qg 11 false (ql 15 14), ⟨some (11, false), .call (some 16) 26 [(.tmp 13), (.tmp 15)]⟩, ⟨some (11, false), .un 17 .not (.tmp 16)⟩, ⟨none, .pick 18 (.tmp 11) (.const (.bool true)) (.tmp 17)⟩, qm 19 18, qg 19 false (qf 20 2 2), qg 19 false (ql 21 20), qg 19 false (qL 22 21), qg 19 false (qf 23 3 2), qg 19 false (ql 24 23), qg 19 false (qL 25 24), qg 19 false (qt 26 .neq 3 22 25), ⟨none, .pick 27 (.tmp 19) (.const (.bool true)) (.tmp 26)⟩]
def Qb8 : List GO := [qk 4 (.bool false)]
def Qb7 : List GO := [qk 5 (vi 0)]
def Qb6 : List GO := [qm 28 5, qf 29 2 2, ql 30 29, qL 31 30, qt 32 .lss 3 28 31]
def Qb5 : List GO := [qf 35 2 2, ql 36 35, qm 37 5, qi 38 8 36 37, qV 39 8 38, qf 40 3 2, ql 41 40, qm 42 5, qi 43 8 41 42, qV 44 8 43, ⟨none, .call (some 45) 51 [(.tmp 39), (.tmp 44)]⟩, ⟨none, .un 46 .not (.tmp 45)⟩]
def Qbc : List (List Nat) := [[],[0],[],[1,2],[3],[],[5],[],[6,7],[8],[4,9],[10]]
def Qb4 : List GO := [qk 4 (.bool false)]
def Qb3 : List GO := [qm 33 5, qj 34 .add 3 33 1, qm 5 34]
def Q4r : LC := (.seq (.seq (.ops Qb6) (.cond (.tmp 32) .skip (.exit 0))) (.seq (.block 1 (.seq (.draw Qb5 Qbc) (.cond (.tmp 46) (.seq (.ops Qb4) .ret) .skip))) (.ops Qb3)))
def Qb2 : List GO := [qf 47 2 3, qf 48 47 0, ql 49 48, qf 50 3 3, qf 51 50 0, ql 52 51, qt 53 .eql 3 49 52, qm 54 53, qg 54 true (qf 55 2 3), qg 54 true (qf 56 55 1), qg 54 true (ql 57 56), qg 54 true (qf 58 3 3), qg 54 true (qf 59 58 1), qg 54 true (ql 60 59), qg 54 true (qt 61 .eql 3 57 60), ⟨none, .pick 62 (.tmp 54) (.tmp 61) (.const (.bool false))⟩, qm 63 62, qg 63 true (qf 64 2 3), qg 63 true (qf 65 64 2), qg 63 true (qV 66 3 65), qg 63 true (qf 67 3 3), qg 63 true (qf 68 67 2), qg 63 true (qV 69 3 68), ⟨some (63, true), .call (some 70) 52 [(.tmp 66), (.tmp 69)]⟩, ⟨none, .pick 71 (.tmp 63) (.tmp 70) (.const (.bool false))⟩, qm 72 71, qg 72 true (qf 73 2 3), qg 72 true (qf 74 73 5), qg 72 true (qV 75 3 74), qg 72 true (qf 76 3 3), qg 72 true (qf 77 76 5), qg 72 true (qV 78 3 77), ⟨some (72, true), .call (some 79) 52 [(.tmp 75), (.tmp 78)]⟩, ⟨none, .pick 80 (.tmp 72) (.tmp 79) (.const (.bool false))⟩, qm 81 80, qg 81 true (qf 82 2 3), qg 81 true (qf 83 82 8), qg 81 true (ql 84 83), qg 81 true (qf 85 3 3), qg 81 true (qf 86 85 8), qg 81 true (ql 87 86), ⟨some (81, true), .call (some 88) 53 [(.tmp 84), (.tmp 87)]⟩, ⟨none, .pick 89 (.tmp 81) (.tmp 88) (.const (.bool false))⟩, qm 4 89]
def R_sameBlock_lc : LC := (.seq (.ops Qba) (.seq (.seq (.ops Qb9) (.cond (.tmp 27) (.seq (.ops Qb8) .ret) .skip)) (.seq (.seq (.ops Qb7) (.block 0 (.loop Q4r))) (.seq (.ops Qb2) .ret))))
@[reducible] def Q20 : FuncId := 27
theorem Q9t : lowF Tryd.prog Tryd.f27 = some R_sameBlock_lc := by kernel_rfl
theorem Qbb {a0 a1 : Value} {w : World} {R : Ending → World → Prop} (h : R_sameBlock_lc.wp Tryd.prog (retQ Tryd.prog [.tmp 4] R) (Qc [a0, a1]) w) : Calls Tryd.prog Q20 ⟨[a0, a1]⟩ w R :=
  Q3 Tryd.func27 Q9t (by kernel_rfl) (by kernel_rfl) h

/- 28 -/
/- 29 -/
/- 30 -/
/- 31 -/
/- 32 -/
/- 33 -/
@[reducible] def strings_IndexByte : FuncId := 33
/- 34 -/
/- 35 -/
def Q47 : List GO := [qk 4 (.string ⟨#[]⟩)]
def Q46 : List GO := [qm 5 0, qm 6 1, ⟨none, .call (some 7) 58 [(.tmp 5), (.tmp 6)]⟩, qm 4 7]
def strconv_FormatInt_lc : LC := (.seq (.ops Q47) (.seq (.ops Q46) .ret))
@[reducible] def Q6b : FuncId := 35
theorem Q3A : lowF Tryd.prog Tryd.f35 = some strconv_FormatInt_lc := by kernel_rfl
theorem Q48 {a0 a1 : Value} {w : World} {R : Ending → World → Prop} (h : strconv_FormatInt_lc.wp Tryd.prog (retQ Tryd.prog [.tmp 4] R) (Qc [a0, a1]) w) : Calls Tryd.prog Q6b ⟨[a0, a1]⟩ w R :=
  Q3 Tryd.func35 Q3A (by kernel_rfl) (by kernel_rfl) h

/- 36 -/
def Qbr : List GO := [qb 1 83 0, qk 2 (.bool false)]
def Qbq : List GO := [qV 3 3 1, ⟨none, .call (some 4) 59 [(.tmp 3), (.const (vi 2000))]⟩, qj 5 .lss 3 4 0, qm 2 5]
def R_GreatType_lc : LC := (.seq (.ops Qbr) (.seq (.ops Qbq) .ret))
@[reducible] def Q9S : FuncId := 36
theorem Q9R : lowF Tryd.prog Tryd.f36 = some R_GreatType_lc := by kernel_rfl
theorem Qbs {a0 : Value} {w : World} {R : Ending → World → Prop} (h : R_GreatType_lc.wp Tryd.prog (retQ Tryd.prog [.tmp 2] R) (Qc [a0]) w) : Calls Tryd.prog Q9S ⟨[a0]⟩ w R :=
  Q3 Tryd.func36 Q9R (by kernel_rfl) (by kernel_rfl) h

/- 37 -/
def Q5O : List GO := [qm 6 1, qm 7 6, qg 7 true (qm 8 0), qg 7 true (qn 9 8), qg 7 true (qf 10 9 1), qg 7 true (qf 11 10 0), qg 7 true (ql 12 11), qg 7 true (qj 13 .eql 3 12 0), ⟨none, .pick 14 (.tmp 7) (.tmp 13) (.const (.bool false))⟩]
def Q5N : List GO := [qm 15 0, qm 16 2, qm 17 0, qn 18 17, qf 19 18 3, ql 20 19, ⟨none, .build 21 [(vi 0), (vi 0)] [(0, (1, (.tmp 16))), (1, (1, (.tmp 20)))]⟩, qn 22 15, qf 23 22 1, qw 2 23 21]
def code_judge_fail_lc : LC := (.seq (.ops Q5O) (.cond (.tmp 14) (.ops Q5N) .skip))
@[reducible] def Q1W : FuncId := 37
theorem Q4H : lowF Tryd.prog Tryd.f37 = some code_judge_fail_lc := by kernel_rfl
theorem Q1V {a0 a1 a2 : Value} {w : World} {R : Ending → World → Prop} (h : code_judge_fail_lc.wp Tryd.prog (retQ Tryd.prog [] R) (Qc [a0, a1, a2]) w) : Calls Tryd.prog Q1W ⟨[a0, a1, a2]⟩ w R :=
  Q3 Tryd.func37 Q4H (by kernel_rfl) (by kernel_rfl) h

/- 38 -/
def QaO : List GO := [qk 2 (vi 0)]
def QaN : List GO := [qm 3 0, qj 4 .mul 3 3 10000, qj 5 .add 3 4 9999, qm 2 5]
def code_FuncAt_lc : LC := (.seq (.ops QaO) (.seq (.ops QaN) .ret))
@[reducible] def Q9i : FuncId := 38
theorem Q9h : lowF Tryd.prog Tryd.f38 = some code_FuncAt_lc := by kernel_rfl
theorem QaP {a0 : Value} {w : World} {R : Ending → World → Prop} (h : code_FuncAt_lc.wp Tryd.prog (retQ Tryd.prog [.tmp 2] R) (Qc [a0]) w) : Calls Tryd.prog Q9i ⟨[a0]⟩ w R :=
  Q3 Tryd.func38 Q9h (by kernel_rfl) (by kernel_rfl) h

/- 39 -/
def Q5E : List GO := [qm 9 0, qm 10 1, qL 11 10, qj 12 .gtr 3 11 8, ⟨none, .call (some 13) 37 [(.tmp 9), (.tmp 12), (.const (vi 2))]⟩]
def Q5D : List GO := [qm 14 1, qL 15 14, qk 16 (vi 0)]
def Q5C : List GO := [qt 17 .lss 3 16 15]
def Q5B : List GO := [qi 18 3 14 16, qV 19 3 18, ⟨none, .alloc 7 83 [(vi 0), (vi 0), vn]⟩, qw 3 7 19]
def Q5A : List GO := [qV 20 3 7, qm 21 2, ⟨none, .call (some 22) 60 [(.tmp 20), (.tmp 21)]⟩, qm 8 22]
def Q5z : List GO := [qm 23 0, qm 24 8, qj 25 .neq 3 24 0, qm 26 8, ⟨none, .call (some 27) 37 [(.tmp 23), (.tmp 25), (.tmp 26)]⟩]
def Q5y : List GO := [qj 28 .add 3 16 1, qm 16 28]
def Q2O : LC := (.seq (.ops Q5C) (.seq (.cond (.tmp 17) .skip (.exit 0)) (.seq (.block 1 (.seq (.ops Q5B) (.seq (.ops Q5A) (.ops Q5z)))) (.ops Q5y))))
def code_judge_list_lc : LC := (.seq (.ops Q5E) (.seq (.ops Q5D) (.block 0 (.loop Q2O))))
@[reducible] def Q3U : FuncId := 39
theorem Q4G : lowF Tryd.prog Tryd.f39 = some code_judge_list_lc := by kernel_rfl
theorem Q5F {a0 a1 a2 : Value} {w : World} {R : Ending → World → Prop} (h : code_judge_list_lc.wp Tryd.prog (retQ Tryd.prog [] R) (Qc [a0, a1, a2]) w) : Calls Tryd.prog Q3U ⟨[a0, a1, a2]⟩ w R :=
  Q3 Tryd.func39 Q4G (by kernel_rfl) (by kernel_rfl) h

/- 40 -/
def Q1g : List GO := [qk 4 (.bool false)]
def Q1f : List GO := [qm 5 0, qm 6 1, ⟨none, .call (some 7) 61 [(.tmp 5), (.tmp 6)]⟩, qj 8 .geq 3 7 0, qm 4 8]
def slices_ContainsFunc_api_Type_api_Type_lc : LC := (.seq (.ops Q1g) (.seq (.ops Q1f) .ret))
@[reducible] def QP : FuncId := 40
theorem Q1a : lowF Tryd.prog Tryd.f40 = some slices_ContainsFunc_api_Type_api_Type_lc := by kernel_rfl
theorem Q1h {a0 a1 : Value} {w : World} {R : Ending → World → Prop} (h : slices_ContainsFunc_api_Type_api_Type_lc.wp Tryd.prog (retQ Tryd.prog [.tmp 4] R) (Qc [a0, a1]) w) : Calls Tryd.prog QP ⟨[a0, a1]⟩ w R :=
  Q3 Tryd.func40 Q1a (by kernel_rfl) (by kernel_rfl) h

/- 41 -/
def Q9k : List GO := [qb 1 83 0, qk 2 (.bool false)]
def Q9j : List GO := [qf 3 1 0, ql 4 3, qj 5 .neq 3 4 1, qm 2 5]
def code_Check_1_lc : LC := (.seq (.ops Q9k) (.seq (.ops Q9j) .ret))
@[reducible] def Q2P : FuncId := 41
theorem Q7x : lowF Tryd.prog Tryd.f41 = some code_Check_1_lc := by kernel_rfl
theorem Q9l {a0 : Value} {w : World} {R : Ending → World → Prop} (h : code_Check_1_lc.wp Tryd.prog (retQ Tryd.prog [.tmp 2] R) (Qc [a0]) w) : Calls Tryd.prog Q2P ⟨[a0]⟩ w R :=
  Q3 Tryd.func41 Q7x (by kernel_rfl) (by kernel_rfl) h

/- 42 -/
def Q4R : List GO := [qm 9 0, qn 10 9, qf 11 10 0, qf 12 11 0, ql 13 12, qm 14 1, qi 15 4 13 14, qV 16 4 15, ⟨none, .alloc 6 56 [(vi 0), vn, vn, vn]⟩, qw 4 6 16]
def Q4Q : List GO := [qf 17 6 3, ql 18 17, qm 19 2, qi 20 12 18 19, qV 21 12 20, ⟨none, .alloc 7 65 [(vi 0), vn, vn, (vi 0), (vi 0), (vi 0), vn, vn, (vi 0), vn, vn, vn]⟩, qw 12 7 21]
def Q4P : List GO := [qm 22 0, qm 23 1, qm 24 2, ⟨none, .call (some 25) 62 [(.tmp 23), (.tmp 24)]⟩, qn 26 22, qf 27 26 3, qs 27 25]
def Q4O : List GO := [qm 28 0, qf 29 7 0, ql 30 29, qf 31 6 0, ql 32 31, qt 33 .lss 3 30 32, qm 34 33, qg 34 false (qf 35 7 0), qg 34 false (ql 36 35), qg 34 false (qj 37 .gtr 3 36 16), ⟨none, .pick 38 (.tmp 34) (.const (.bool true)) (.tmp 37)⟩, ⟨none, .call (some 39) 37 [(.tmp 28), (.tmp 38), (.const (vi 1))]⟩]
def Q4N : List GO := [qm 40 0, qf 41 7 1, ql 42 41, qf 43 7 0, ql 44 43, ⟨none, .call (some 45) 39 [(.tmp 40), (.tmp 42), (.tmp 44)]⟩]
def Q4M : List GO := [qm 46 0, qm 47 2, qj 48 .eql 3 47 0, qm 49 48, qg 49 true (qf 50 7 0), qg 49 true (ql 51 50), qg 49 true (qf 52 6 0), qg 49 true (ql 53 52), qg 49 true (qt 54 .neq 3 51 53), qg 49 true (qm 55 54), qg 55 false (qf 56 7 1), qg 55 false (ql 57 56), qg 55 false (qf 58 6 1), qg 55 false (ql 59 58), ⟨some (55, false), .call (some 60) 63 [(.tmp 57), (.tmp 59), (.func 64)]⟩, ⟨some (55, false), .un 61 .not (.tmp 60)⟩, ⟨some (49, true), .pick 62 (.tmp 55) (.const (.bool true)) (.tmp 61)⟩, ⟨none, .pick 63 (.tmp 49) (.tmp 62) (.const (.bool false))⟩, ⟨none, .call (some 64) 37 [(.tmp 46), (.tmp 63), (.const (vi 9))]⟩]
def Q4L : List GO := [qm 65 0, qf 66 7 2, ql 67 66, qL 68 67, qj 69 .gtr 3 68 40, ⟨none, .call (some 70) 37 [(.tmp 65), (.tmp 69), (.const (vi 2))]⟩]
def Q4K : List GO := [qk 8 (vi 0)]
def Q4J : List GO := [qm 71 8, qf 72 7 2, ql 73 72, qL 74 73, qt 75 .lss 3 71 74, qm 76 75, qg 76 true (qm 77 0), qg 76 true (qn 78 77), qg 76 true (qf 79 78 1), qg 76 true (qf 80 79 0), qg 76 true (ql 81 80), qg 76 true (qj 82 .eql 3 81 0), ⟨none, .pick 83 (.tmp 76) (.tmp 82) (.const (.bool false))⟩]
def Q4I : List GO := [qm 86 0, qm 87 1, qm 88 2, qm 89 8, ⟨none, .call (some 90) 65 [(.tmp 87), (.tmp 88), (.tmp 89)]⟩, qn 91 86, qf 92 91 3, qs 92 90]
def Q4e : List GO := [qm 93 0, qf 94 7 2, ql 95 94, qm 96 8, qi 97 8 95 96, qV 98 8 97, ⟨none, .call (some 99) 66 [(.tmp 93), (.tmp 98)]⟩]
def Q4d : List GO := [qm 84 8, qj 85 .add 3 84 1, qm 8 85]
def Q2A : LC := (.seq (.seq (.ops Q4J) (.cond (.tmp 83) .skip (.exit 0))) (.seq (.block 1 (.seq (.ops Q4I) (.ops Q4e))) (.ops Q4d)))
def Q4c : List GO := [qm 100 0, qm 101 1, qm 102 2, ⟨none, .call (some 103) 67 [(.tmp 101), (.tmp 102)]⟩, qn 104 100, qf 105 104 3, qs 105 103]
def Q4b : List GO := [qm 106 0, qV 107 4 6, qf 108 7 3, qV 109 9 108, ⟨none, .call (some 110) 68 [(.tmp 106), (.tmp 107), (.tmp 109)]⟩]
def code_judge_block_lc : LC := (.seq (.ops Q4R) (.seq (.ops Q4Q) (.seq (.ops Q4P) (.seq (.ops Q4O) (.seq (.ops Q4N) (.seq (.ops Q4M) (.seq (.ops Q4L) (.seq (.seq (.ops Q4K) (.block 0 (.loop Q2A))) (.seq (.ops Q4c) (.ops Q4b))))))))))
@[reducible] def Q1H : FuncId := 42
theorem Q4f : lowF Tryd.prog Tryd.f42 = some code_judge_block_lc := by kernel_rfl
theorem Q4S {a0 a1 a2 : Value} {w : World} {R : Ending → World → Prop} (h : code_judge_block_lc.wp Tryd.prog (retQ Tryd.prog [] R) (Qc [a0, a1, a2]) w) : Calls Tryd.prog Q1H ⟨[a0, a1, a2]⟩ w R :=
  Q3 Tryd.func42 Q4f (by kernel_rfl) (by kernel_rfl) h

/- 43 -/
def Q4z : List GO := [qm 5 0, qL 6 5, qk 7 (vi 0)]
def Q4y : List GO := [qt 8 .lss 3 7 6]
def Q4x : List GO := [qi 9 1 5 7, ql 10 9, qm 4 10]
def Q4w : List GO := [ql 11 1, qm 12 11, qg 12 true (qm 13 4), qg 12 true (qj 14 .geq 3 13 0), ⟨none, .pick 15 (.tmp 12) (.tmp 14) (.const (.bool false))⟩, qm 16 15, qg 16 true (qm 17 4), qg 16 true (qj 18 .leq 3 17 1000000), ⟨none, .pick 19 (.tmp 16) (.tmp 18) (.const (.bool false))⟩, qs 1 19]
def Q4v : List GO := [qj 20 .add 3 7 1, qm 7 20]
def Q2w : LC := (.seq (.ops Q4y) (.seq (.cond (.tmp 8) .skip (.exit 0)) (.seq (.block 1 (.seq (.ops Q4x) (.ops Q4w))) (.ops Q4v))))
def render_numbers_1_lc : LC := (.seq (.ops Q4z) (.block 0 (.loop Q2w)))
@[reducible] def Q1G : FuncId := 43
theorem Q49 : lowF Tryd.prog Tryd.f43 = some render_numbers_1_lc := by kernel_rfl
theorem Q4A {a0 a1 : Value} {w : World} {R : Ending → World → Prop} (h : render_numbers_1_lc.wp Tryd.prog (retQ Tryd.prog [] R) (Qc [a0, a1]) w) : Calls Tryd.prog Q1G ⟨[a0, a1]⟩ w R :=
  Q3 Tryd.func43 Q49 (by kernel_rfl) (by kernel_rfl) h

/- 44 -/
def Q28 : List GO := [qk 4 (vi 0), qk 5 .nilIface]
def Q27 : List GO := [qm 6 0, ⟨none, .call (some 7) 69 [(.tmp 6)]⟩]
def Q26 : List GO := [qm 8 0, qm 9 0, qn 10 9, qf 11 10 1, ql 12 11, qm 13 1, ⟨none, .raw ⟨(some 14), (.call ⟨(.builtin .append), #[(.tmp 12), (.tmp 13)], #[95, 9]⟩), 95, "", #[], none⟩⟩, qn 15 8, qf 16 15 1, qs 16 14]
def Q25 : List GO := [qm 17 1, ⟨none, .slen 18 (.tmp 17)⟩, qm 4 18, qk 5 .nilIface]
def strings_Builder_WriteString_lc : LC := (.seq (.ops Q28) (.seq (.ops Q27) (.seq (.ops Q26) (.seq (.ops Q25) .ret))))
@[reducible] def QU : FuncId := 44
theorem Q1Z : lowF Tryd.prog Tryd.f44 = some strings_Builder_WriteString_lc := by kernel_rfl
theorem Q29 {a0 a1 : Value} {w : World} {R : Ending → World → Prop} (h : strings_Builder_WriteString_lc.wp Tryd.prog (retQ Tryd.prog [.tmp 4, .tmp 5] R) (Qc [a0, a1]) w) : Calls Tryd.prog QU ⟨[a0, a1]⟩ w R :=
  Q3 Tryd.func44 Q1Z (by kernel_rfl) (by kernel_rfl) h

/- 45 -/
def Qcy : List GO := [qk 2 (.string ⟨#[]⟩)]
def Qcx : List GO := [qm 3 0, ⟨none, .call (some 4) 70 [(.tmp 3)]⟩, qm 2 4]
def render_num_lc : LC := (.seq (.ops Qcy) (.seq (.ops Qcx) .ret))
@[reducible] def Qbx : FuncId := 45
theorem Qan : lowF Tryd.prog Tryd.f45 = some render_num_lc := by kernel_rfl
theorem Qcz {a0 : Value} {w : World} {R : Ending → World → Prop} (h : render_num_lc.wp Tryd.prog (retQ Tryd.prog [.tmp 2] R) (Qc [a0]) w) : Calls Tryd.prog Qbx ⟨[a0]⟩ w R :=
  Q3 Tryd.func45 Qan (by kernel_rfl) (by kernel_rfl) h

/- 46 -/
def Q8M : List GO := [qk 2 (.string ⟨#[]⟩)]
def Q8L : List GO := [qk 3 vn]
def Q8K : List GO := [qm 6 0, qL 7 6, qk 8 (vi 0)]
def Q8J : List GO := [qt 9 .lss 3 8 7]
def Q8I : List GO := [qi 10 3 6 8, qV 11 3 10, ⟨none, .alloc 5 83 [(vi 0), (vi 0), vn]⟩, qw 3 5 11]
def Q8H : List GO := [qm 12 3, qV 13 3 5, ⟨none, .call (some 14) 71 [(.tmp 13)]⟩, ⟨none, .buildS 15 9 1 [(.string ⟨#[]⟩)] [(0, (1, (.tmp 14)))]⟩, ⟨none, .raw ⟨(some 16), (.call ⟨(.builtin .append), #[(.tmp 12), (.tmp 15)], #[117, 117]⟩), 117, "", #[], none⟩⟩, qm 3 16]
def Q8G : List GO := [qj 17 .add 3 8 1, qm 8 17]
def Q3I : LC := (.seq (.ops Q8J) (.seq (.cond (.tmp 9) .skip (.exit 0)) (.seq (.block 1 (.seq (.ops Q8I) (.ops Q8H))) (.ops Q8G))))
def Q8F : List GO := [qm 18 3, ⟨none, .call (some 19) 72 [(.tmp 18), (.const (.string ⟨#[44, 32]⟩))]⟩, ⟨none, .bin 20 .add 9 (.const (.string ⟨#[40]⟩)) (.tmp 19)⟩, ⟨none, .bin 21 .add 9 (.tmp 20) (.const (.string ⟨#[41]⟩))⟩, qm 2 21]
def render_typed_lc : LC := (.seq (.ops Q8M) (.seq (.ops Q8L) (.seq (.seq (.ops Q8K) (.block 0 (.loop Q3I))) (.seq (.ops Q8F) .ret))))
@[reducible] def Q75 : FuncId := 46
theorem Q7p : lowF Tryd.prog Tryd.f46 = some render_typed_lc := by kernel_rfl
theorem Q8N {a0 : Value} {w : World} {R : Ending → World → Prop} (h : render_typed_lc.wp Tryd.prog (retQ Tryd.prog [.tmp 2] R) (Qc [a0]) w) : Calls Tryd.prog Q75 ⟨[a0]⟩ w R :=
  Q3 Tryd.func46 Q7p (by kernel_rfl) (by kernel_rfl) h

/- 47 -/
def QcJ : List GO := [qb 1 67 0, qk 2 (.string ⟨#[]⟩)]
def QcI : List GO := [qf 4 1 0, ql 5 4, ⟨none, .call (some 6) 73 [(.tmp 5)]⟩, ⟨none, .buildS 7 9 1 [(.string ⟨#[]⟩)] [(0, (1, (.tmp 6)))]⟩, qm 3 7]
def QcH : List GO := [qf 8 1 0, ql 9 8]
def QcG : List GO := [qj 11 .eql 3 9 1, qm 10 11]
def QcF : List GO := [qm 12 3, qf 13 1 5, ql 14 13, ⟨none, .call (some 15) 35 [(.tmp 14), (.const (vi 10))]⟩, ⟨none, .buildS 16 9 1 [(.string ⟨#[]⟩)] [(0, (1, (.tmp 15)))]⟩, ⟨none, .raw ⟨(some 17), (.call ⟨(.builtin .append), #[(.tmp 12), (.tmp 16)], #[117, 117]⟩), 117, "", #[], none⟩⟩, qm 3 17]
def QcE : List GO := [qj 19 .eql 3 9 2, qm 18 19]
def QcD : List GO := [qm 20 3, qf 21 1 4, ql 22 21, ⟨none, .call (some 23) 74 [(.tmp 22)]⟩, qf 24 1 1, ql 25 24, ⟨none, .call (some 26) 45 [(.tmp 25)]⟩, qf 27 1 2, ql 28 27, ⟨none, .call (some 29) 45 [(.tmp 28)]⟩, ⟨none, .buildS 30 9 3 [(.string ⟨#[]⟩), (.string ⟨#[]⟩), (.string ⟨#[]⟩)] [(0, (1, (.tmp 23))), (1, (1, (.tmp 26))), (2, (1, (.tmp 29)))]⟩, ⟨none, .raw ⟨(some 31), (.call ⟨(.builtin .append), #[(.tmp 20), (.tmp 30)], #[117, 117]⟩), 117, "", #[], none⟩⟩, qm 3 31]
def QcL : List (List Nat) := [[],[],[1],[2],[],[4],[5,3],[],[7],[8,6],[3,6,9],[0,10,9],[11,11,0,1,2,3,4,5,6,7,8,9,10,11]]
def QcC : List GO := [qj 33 .eql 3 9 4, qm 32 33]
def QcB : List GO := [qj 34 .eql 3 9 11, qm 32 34]
def QcA : List GO := [qj 35 .eql 3 9 13, qm 32 35]
def QaC : List GO := [qm 36 3, qf 37 1 1, ql 38 37, ⟨none, .call (some 39) 45 [(.tmp 38)]⟩, ⟨none, .buildS 40 9 1 [(.string ⟨#[]⟩)] [(0, (1, (.tmp 39)))]⟩, ⟨none, .raw ⟨(some 41), (.call ⟨(.builtin .append), #[(.tmp 36), (.tmp 40)], #[117, 117]⟩), 117, "", #[], none⟩⟩, qm 3 41]
def QaB : List GO := [qj 43 .eql 3 9 5, qm 42 43]
def QaA : List GO := [qm 44 3, qf 45 1 1, ql 46 45, ⟨none, .call (some 47) 45 [(.tmp 46)]⟩, qf 48 1 7, ql 49 48, ⟨none, .call (some 50) 75 [(.const (.string ⟨#[40]⟩)), (.tmp 49), (.const (.string ⟨#[41]⟩))]⟩, ⟨none, .buildS 51 9 2 [(.string ⟨#[]⟩), (.string ⟨#[]⟩)] [(0, (1, (.tmp 47))), (1, (1, (.tmp 50)))]⟩, ⟨none, .raw ⟨(some 52), (.call ⟨(.builtin .append), #[(.tmp 44), (.tmp 51)], #[117, 117]⟩), 117, "", #[], none⟩⟩, qm 3 52]
def QaJ : List (List Nat) := [[],[],[1],[2],[],[4],[5,3],[3,6],[0,7,6],[8,8,0,1,2,3,4,5,6,7,8]]
def Qaz : List GO := [qj 54 .eql 3 9 6, qm 53 54]
def Qay : List GO := [qm 55 3, qf 56 1 1, ql 57 56, ⟨none, .call (some 58) 45 [(.tmp 57)]⟩, qf 59 1 4, ql 60 59, ⟨none, .call (some 61) 45 [(.tmp 60)]⟩, ⟨none, .buildS 62 9 2 [(.string ⟨#[]⟩), (.string ⟨#[]⟩)] [(0, (1, (.tmp 58))), (1, (1, (.tmp 61)))]⟩, ⟨none, .raw ⟨(some 63), (.call ⟨(.builtin .append), #[(.tmp 55), (.tmp 62)], #[117, 117]⟩), 117, "", #[], none⟩⟩, qm 3 63]
def QaI : List (List Nat) := [[],[],[1],[2],[],[4],[5,3],[3,6],[0,7,6],[8,8,0,1,2,3,4,5,6,7,8]]
def Qax : List GO := [qj 65 .eql 3 9 7, qm 64 65]
def Qaw : List GO := [qm 66 3, qf 67 1 1, ql 68 67, ⟨none, .call (some 69) 45 [(.tmp 68)]⟩, qf 70 1 4, ql 71 70, ⟨none, .call (some 72) 45 [(.tmp 71)]⟩, qf 73 1 2, ql 74 73, ⟨none, .call (some 75) 45 [(.tmp 74)]⟩, ⟨none, .buildS 76 9 3 [(.string ⟨#[]⟩), (.string ⟨#[]⟩), (.string ⟨#[]⟩)] [(0, (1, (.tmp 69))), (1, (1, (.tmp 72))), (2, (1, (.tmp 75)))]⟩, ⟨none, .raw ⟨(some 77), (.call ⟨(.builtin .append), #[(.tmp 66), (.tmp 76)], #[117, 117]⟩), 117, "", #[], none⟩⟩, qm 3 77]
def QaH : List (List Nat) := [[],[],[1],[2],[],[4],[5,3],[],[7],[8,6],[3,6,9],[0,10,9],[11,11,0,1,2,3,4,5,6,7,8,9,10,11]]
def Qav : List GO := [qj 79 .eql 3 9 8, qm 78 79]
def Qau : List GO := [qj 80 .eql 3 9 9, qm 78 80]
def Qat : List GO := [qm 81 3, qf 82 1 1, ql 83 82, ⟨none, .call (some 84) 45 [(.tmp 83)]⟩, qf 85 1 2, ql 86 85, ⟨none, .call (some 87) 45 [(.tmp 86)]⟩, ⟨none, .buildS 88 9 2 [(.string ⟨#[]⟩), (.string ⟨#[]⟩)] [(0, (1, (.tmp 84))), (1, (1, (.tmp 87)))]⟩, ⟨none, .raw ⟨(some 89), (.call ⟨(.builtin .append), #[(.tmp 81), (.tmp 88)], #[117, 117]⟩), 117, "", #[], none⟩⟩, qm 3 89]
def QaG : List (List Nat) := [[],[],[1],[2],[],[4],[5,3],[3,6],[0,7,6],[8,8,0,1,2,3,4,5,6,7,8]]
def Qas : List GO := [qj 91 .eql 3 9 10, qm 90 91]
def Qar : List GO := [qm 92 3, qf 93 1 1, ql 94 93, ⟨none, .call (some 95) 45 [(.tmp 94)]⟩, qf 96 1 2, ql 97 96, ⟨none, .call (some 98) 45 [(.tmp 97)]⟩, qf 99 1 3, ql 100 99, ⟨none, .call (some 101) 45 [(.tmp 100)]⟩, ⟨none, .buildS 102 9 3 [(.string ⟨#[]⟩), (.string ⟨#[]⟩), (.string ⟨#[]⟩)] [(0, (1, (.tmp 95))), (1, (1, (.tmp 98))), (2, (1, (.tmp 101)))]⟩, ⟨none, .raw ⟨(some 103), (.call ⟨(.builtin .append), #[(.tmp 92), (.tmp 102)], #[117, 117]⟩), 117, "", #[], none⟩⟩, qm 3 103]
def QaF : List (List Nat) := [[],[],[1],[2],[],[4],[5,3],[],[7],[8,6],[3,6,9],[0,10,9],[11,11,0,1,2,3,4,5,6,7,8,9,10,11]]
def Qaq : List GO := [qj 105 .eql 3 9 14, qm 104 105]
def Qap : List GO := [qm 106 3, qf 107 1 4, ql 108 107, ⟨none, .call (some 109) 45 [(.tmp 108)]⟩, qf 110 1 6, ql 111 110, ⟨none, .call (some 112) 75 [(.const (.string ⟨#[60]⟩)), (.tmp 111), (.const (.string ⟨#[62]⟩))]⟩, qf 113 1 7, ql 114 113, ⟨none, .call (some 115) 75 [(.const (.string ⟨#[40]⟩)), (.tmp 114), (.const (.string ⟨#[41]⟩))]⟩, ⟨none, .buildS 116 9 3 [(.string ⟨#[]⟩), (.string ⟨#[]⟩), (.string ⟨#[]⟩)] [(0, (1, (.tmp 109))), (1, (1, (.tmp 112))), (2, (1, (.tmp 115)))]⟩, ⟨none, .raw ⟨(some 117), (.call ⟨(.builtin .append), #[(.tmp 106), (.tmp 116)], #[117, 117]⟩), 117, "", #[], none⟩⟩, qm 3 117]
def QaE : List (List Nat) := [[],[],[1],[2],[],[4],[5,3],[],[7],[8,6],[3,6,9],[0,10,9],[11,11,0,1,2,3,4,5,6,7,8,9,10,11]]
def Qao : List GO := [qm 118 3, ⟨none, .call (some 119) 72 [(.tmp 118), (.const (.string ⟨#[32]⟩))]⟩, ⟨none, .bin 120 .add 9 (.tmp 119) (.const (.string ⟨#[59]⟩))⟩, qm 2 120]
def render_ins_lc : LC := (.seq (.ops QcJ) (.seq (.ops QcI) (.seq (.seq (.ops QcH) (.block 0 (.seq (.ops QcG) (.cond (.tmp 10) (.ops QcF) (.seq (.ops QcE) (.cond (.tmp 18) (.draw QcD QcL) (.seq (.seq (.ops QcC) (.cond (.tmp 32) .skip (.seq (.ops QcB) (.cond (.tmp 32) .skip (.ops QcA))))) (.cond (.tmp 32) (.ops QaC) (.seq (.ops QaB) (.cond (.tmp 42) (.draw QaA QaJ) (.seq (.ops Qaz) (.cond (.tmp 53) (.draw Qay QaI) (.seq (.ops Qax) (.cond (.tmp 64) (.draw Qaw QaH) (.seq (.seq (.ops Qav) (.cond (.tmp 78) .skip (.ops Qau))) (.cond (.tmp 78) (.draw Qat QaG) (.seq (.ops Qas) (.cond (.tmp 90) (.draw Qar QaF) (.seq (.ops Qaq) (.cond (.tmp 104) (.draw Qap QaE) .skip)))))))))))))))))))) (.seq (.ops Qao) .ret))))
@[reducible] def Qa : FuncId := 47
theorem QaD : lowF Tryd.prog Tryd.f47 = some render_ins_lc := by kernel_rfl
theorem QcK {a0 : Value} {w : World} {R : Ending → World → Prop} (h : render_ins_lc.wp Tryd.prog (retQ Tryd.prog [.tmp 2] R) (Qc [a0]) w) : Calls Tryd.prog Qa ⟨[a0]⟩ w R :=
  Q3 Tryd.func47 QaD (by kernel_rfl) (by kernel_rfl) h

/- 48 -/
def QcS : List GO := [qb 1 63 0, qk 2 (.string ⟨#[]⟩)]
def QcR : List GO := [qf 3 1 0, ql 4 3]
def QcQ : List GO := [qj 6 .eql 3 4 1, qm 5 6]
def QcP : List GO := [qf 7 1 2, qV 8 3 7, ⟨none, .call (some 9) 76 [(.tmp 8)]⟩, ⟨none, .bin 10 .add 9 (.const (.string ⟨#[106, 117, 109, 112, 32]⟩)) (.tmp 9)⟩, ⟨none, .bin 11 .add 9 (.tmp 10) (.const (.string ⟨#[59]⟩))⟩, qm 2 11]
def QcO : List GO := [qj 13 .eql 3 4 2, qm 12 13]
def QcN : List GO := [qf 14 1 1, ql 15 14, ⟨none, .call (some 16) 45 [(.tmp 15)]⟩, ⟨none, .bin 17 .add 9 (.const (.string ⟨#[105, 102, 32]⟩)) (.tmp 16)⟩, ⟨none, .bin 18 .add 9 (.tmp 17) (.const (.string ⟨#[32, 116, 111, 32]⟩))⟩, qf 19 1 2, qV 20 3 19, ⟨none, .call (some 21) 76 [(.tmp 20)]⟩, qt 22 .add 9 18 21, ⟨none, .bin 23 .add 9 (.tmp 22) (.const (.string ⟨#[32, 101, 108, 115, 101, 32]⟩))⟩, qf 24 1 5, qV 25 3 24, ⟨none, .call (some 26) 76 [(.tmp 25)]⟩, qt 27 .add 9 23 26, ⟨none, .bin 28 .add 9 (.tmp 27) (.const (.string ⟨#[59]⟩))⟩, qm 2 28]
def QcU : List (List Nat) := [[],[0],[1],[2],[3],[],[5],[6,2],[4,7],[8],[],[10],[11,7],[9,12],[13],[14,12,0,1,2,3,4,5,6,7,8,9,10,11,12,13,14]]
def QcM : List GO := [qf 29 1 8, ql 30 29, ⟨none, .call (some 31) 75 [(.const (.string ⟨#[40]⟩)), (.tmp 30), (.const (.string ⟨#[41]⟩))]⟩, ⟨none, .bin 32 .add 9 (.const (.string ⟨#[114, 101, 116, 32]⟩)) (.tmp 31)⟩, ⟨none, .bin 33 .add 9 (.tmp 32) (.const (.string ⟨#[59]⟩))⟩, qm 2 33]
def render_end_lc : LC := (.seq (.ops QcS) (.seq (.seq (.ops QcR) (.block 0 (.seq (.ops QcQ) (.cond (.tmp 5) (.seq (.ops QcP) .ret) (.seq (.ops QcO) (.cond (.tmp 12) (.seq (.draw QcN QcU) .ret) .skip)))))) (.seq (.ops QcM) .ret)))
@[reducible] def Q2s : FuncId := 48
theorem QaK : lowF Tryd.prog Tryd.f48 = some render_end_lc := by kernel_rfl
theorem QcT {a0 : Value} {w : World} {R : Ending → World → Prop} (h : render_end_lc.wp Tryd.prog (retQ Tryd.prog [.tmp 2] R) (Qc [a0]) w) : Calls Tryd.prog Q2s ⟨[a0]⟩ w R :=
  Q3 Tryd.func48 QaK (by kernel_rfl) (by kernel_rfl) h

/- 49 -/
def Q2S : List GO := [qk 2 (.string ⟨#[]⟩)]
def Q2R : List GO := [qm 3 0, qn 4 3, qf 5 4 1, ql 6 5, ⟨none, .raw ⟨(some 7), (.call ⟨(.builtin .unsafeSliceData), #[(.tmp 6)], #[95]⟩), 122, "", #[], none⟩⟩, qm 8 0, qn 9 8, qf 10 9 1, ql 11 10, qL 12 11, ⟨none, .raw ⟨(some 13), (.call ⟨(.builtin .unsafeString), #[(.tmp 7), (.tmp 12)], #[122, 3]⟩), 9, "", #[], none⟩⟩, qm 2 13]
def Q2U : List (List Nat) := [[],[0],[1],[2],[3],[],[5],[6],[7],[8],[4,9],[10,0,1,2,3,4,5,6,7,8,9,10]]
def strings_Builder_String_lc : LC := (.seq (.ops Q2S) (.seq (.draw Q2R Q2U) .ret))
@[reducible] def Q1Y : FuncId := 49
theorem Q2F : lowF Tryd.prog Tryd.f49 = some strings_Builder_String_lc := by kernel_rfl
theorem Q2T {a0 : Value} {w : World} {R : Ending → World → Prop} (h : strings_Builder_String_lc.wp Tryd.prog (retQ Tryd.prog [.tmp 2] R) (Qc [a0]) w) : Calls Tryd.prog Q1Y ⟨[a0]⟩ w R :=
  Q3 Tryd.func49 Q2F (by kernel_rfl) (by kernel_rfl) h

/- 50 -/
def QdG : List GO := [qb 2 83 0, qb 3 83 1, qk 4 (.bool false)]
def QdF : List GO := [qf 5 2 0, ql 6 5, qf 7 3 0, ql 8 7, qt 9 .eql 3 6 8, qm 10 9, qg 10 true (qf 11 2 1), qg 10 true (ql 12 11), qg 10 true (qf 13 3 1), qg 10 true (ql 14 13), qg 10 true (qt 15 .eql 3 12 14), ⟨none, .pick 16 (.tmp 10) (.tmp 15) (.const (.bool false))⟩, qm 17 16, qg 17 true (qf 18 2 2), qg 17 true (ql 19 18), qg 17 true (qf 20 3 2), qg 17 true (ql 21 20), ⟨some (17, true), .call (some 22) 26 [(.tmp 19), (.tmp 21)]⟩, ⟨none, .pick 23 (.tmp 17) (.tmp 22) (.const (.bool false))⟩, qm 4 23]
def R_SameType_lc : LC := (.seq (.ops QdG) (.seq (.ops QdF) .ret))
@[reducible] def Q6Q : FuncId := 50
theorem Qbo : lowF Tryd.prog Tryd.f50 = some R_SameType_lc := by kernel_rfl
theorem QdH {a0 a1 : Value} {w : World} {R : Ending → World → Prop} (h : R_SameType_lc.wp Tryd.prog (retQ Tryd.prog [.tmp 4] R) (Qc [a0, a1]) w) : Calls Tryd.prog Q6Q ⟨[a0, a1]⟩ w R :=
  Q3 Tryd.func50 Qbo (by kernel_rfl) (by kernel_rfl) h

/- 51 -/
def QeE : List GO := [qb 2 67 0, qb 3 67 1, qk 4 (.bool false)]
def QeD : List GO := [qf 5 2 0, ql 6 5, qf 7 3 0, ql 8 7, qt 9 .eql 3 6 8, qm 10 9, qg 10 true (qf 11 2 1), qg 10 true (ql 12 11), qg 10 true (qf 13 3 1), qg 10 true (ql 14 13), qg 10 true (qt 15 .eql 3 12 14), ⟨none, .pick 16 (.tmp 10) (.tmp 15) (.const (.bool false))⟩, qm 17 16, qg 17 true (qf 18 2 2), qg 17 true (ql 19 18), qg 17 true (qf 20 3 2), qg 17 true (ql 21 20), qg 17 true (qt 22 .eql 3 19 21), ⟨none, .pick 23 (.tmp 17) (.tmp 22) (.const (.bool false))⟩, qm 24 23, qg 24 true (qf 25 2 3), qg 24 true (ql 26 25), qg 24 true (qf 27 3 3), qg 24 true (ql 28 27), qg 24 true (qt 29 .eql 3 26 28), ⟨none, .pick 30 (.tmp 24) (.tmp 29) (.const (.bool false))⟩, qm 31 30, qg 31 true (qf 32 2 4), qg 31 true (ql 33 32), qg 31 true (qf 34 3 4), qg 31 true (ql 35 34), qg 31 true (qt 36 .eql 3 33 35), ⟨none, .pick 37 (.tmp 31) (.tmp 36) (.const (.bool false))⟩, qm 38 37, qg 38 true (qf 39 2 5), qg 38 true (ql 40 39), qg 38 true (qf 41 3 5), qg 38 true (ql 42 41), qg 38 true (qt 43 .eql 2 40 42), ⟨none, .pick 44 (.tmp 38) (.tmp 43) (.const (.bool false))⟩, qm 45 44, qg 45 true (qf 46 2 6), qg 45 true (ql 47 46), qg 45 true (qf 48 3 6), qg 45 true (ql 49 48), ⟨some (45, true), .call (some 50) 53 [(.tmp 47), (.tmp 49)]⟩, ⟨none, .pick 51 (.tmp 45) (.tmp 50) (.const (.bool false))⟩, qm 52 51, qg 52 true (qf 53 2 7), qg 52 true (ql 54 53), qg 52 true (qf 55 3 7), qg 52 true (ql 56 55), ⟨some (52, true), .call (some 57) 53 [(.tmp 54), (.tmp 56)]⟩, ⟨none, .pick 58 (.tmp 52) (.tmp 57) (.const (.bool false))⟩, qm 4 58]
def R_sameIns_lc : LC := (.seq (.ops QeE) (.seq (.ops QeD) .ret))
@[reducible] def QeG : FuncId := 51
theorem QdE : lowF Tryd.prog Tryd.f51 = some R_sameIns_lc := by kernel_rfl
theorem QeF {a0 a1 : Value} {w : World} {R : Ending → World → Prop} (h : R_sameIns_lc.wp Tryd.prog (retQ Tryd.prog [.tmp 4] R) (Qc [a0, a1]) w) : Calls Tryd.prog QeG ⟨[a0, a1]⟩ w R :=
  Q3 Tryd.func51 QdE (by kernel_rfl) (by kernel_rfl) h

/- 52 -/
def Qfk : List GO := [qb 2 61 0, qb 3 61 1, qk 4 (.bool false)]
def Qfj : List GO := [qf 5 2 0, ql 6 5, qf 7 3 0, ql 8 7, qt 9 .eql 3 6 8, qm 10 9, qg 10 true (qf 11 2 1), qg 10 true (ql 12 11), qg 10 true (qf 13 3 1), qg 10 true (ql 14 13), ⟨some (10, true), .call (some 15) 53 [(.tmp 12), (.tmp 14)]⟩, ⟨none, .pick 16 (.tmp 10) (.tmp 15) (.const (.bool false))⟩, qm 17 16, qg 17 true (qf 18 2 2), qg 17 true (ql 19 18), qg 17 true (qf 20 3 2), qg 17 true (ql 21 20), ⟨some (17, true), .call (some 22) 53 [(.tmp 19), (.tmp 21)]⟩, ⟨none, .pick 23 (.tmp 17) (.tmp 22) (.const (.bool false))⟩, qm 4 23]
def R_sameTo_lc : LC := (.seq (.ops Qfk) (.seq (.ops Qfj) .ret))
@[reducible] def QfS : FuncId := 52
theorem QeC : lowF Tryd.prog Tryd.f52 = some R_sameTo_lc := by kernel_rfl
theorem Qfl {a0 a1 : Value} {w : World} {R : Ending → World → Prop} (h : R_sameTo_lc.wp Tryd.prog (retQ Tryd.prog [.tmp 4] R) (Qc [a0, a1]) w) : Calls Tryd.prog QfS ⟨[a0, a1]⟩ w R :=
  Q3 Tryd.func52 QeC (by kernel_rfl) (by kernel_rfl) h

/- 53 -/
def QdQ : List GO := [qk 4 (.bool false)]
def QdP : List GO := [qm 6 0, qL 7 6, qm 8 1, qL 9 8, qt 10 .neq 3 7 9]
def QdO : List GO := [qk 4 (.bool false)]
def QdN : List GO := [qk 5 (vi 0)]
def QdM : List GO := [qm 11 5, qm 12 0, qL 13 12, qt 14 .lss 3 11 13]
def QdL : List GO := [qm 17 0, qm 18 5, qi 19 1 17 18, ql 20 19, qm 21 1, qm 22 5, qi 23 1 21 22, ql 24 23, qt 25 .neq 3 20 24]
def QdS : List (List Nat) := [[],[],[0,1],[2],[],[],[4,5],[6],[3,7]]
def QdK : List GO := [qk 4 (.bool false)]
def QdJ : List GO := [qm 15 5, qj 16 .add 3 15 1, qm 5 16]
def Q5X : LC := (.seq (.seq (.ops QdM) (.cond (.tmp 14) .skip (.exit 0))) (.seq (.block 1 (.seq (.draw QdL QdS) (.cond (.tmp 25) (.seq (.ops QdK) .ret) .skip))) (.ops QdJ)))
def QdI : List GO := [qk 4 (.bool true)]
def R_SameInts_lc : LC := (.seq (.ops QdQ) (.seq (.seq (.ops QdP) (.cond (.tmp 10) (.seq (.ops QdO) .ret) .skip)) (.seq (.seq (.ops QdN) (.block 0 (.loop Q5X))) (.seq (.ops QdI) .ret))))
@[reducible] def Q2u : FuncId := 53
theorem Qbp : lowF Tryd.prog Tryd.f53 = some R_SameInts_lc := by kernel_rfl
theorem QdR {a0 a1 : Value} {w : World} {R : Ending → World → Prop} (h : R_SameInts_lc.wp Tryd.prog (retQ Tryd.prog [.tmp 4] R) (Qc [a0, a1]) w) : Calls Tryd.prog Q2u ⟨[a0, a1]⟩ w R :=
  Q3 Tryd.func53 Qbp (by kernel_rfl) (by kernel_rfl) h

/- 54 -/
/- 55 -/
/- 56 -/
/- 57 -/
/- 58 -/
/- 59 -/
def QdC : List GO := [qb 2 83 0, qk 4 (vi 0)]
def QdB : List GO := [qm 6 1, qj 7 .sub 3 6 1, qm 1 7]
def QdA : List GO := [qk 5 (vi 0)]
def Qdz : List GO := [qm 8 5, qf 9 2 2, ql 10 9, qL 11 10, qt 12 .lss 3 8 11, qm 13 12, qg 13 true (qm 14 1), qg 13 true (qj 15 .geq 3 14 0), ⟨none, .pick 16 (.tmp 13) (.tmp 15) (.const (.bool false))⟩]
def Qdy : List GO := [qf 19 2 2, ql 20 19, qm 21 5, qi 22 3 20 21, qV 23 3 22, qm 24 1, ⟨none, .call (some 25) 59 [(.tmp 23), (.tmp 24)]⟩, qm 1 25]
def Qdx : List GO := [qm 17 5, qj 18 .add 3 17 1, qm 5 18]
def Q5W : LC := (.seq (.seq (.ops Qdz) (.cond (.tmp 16) .skip (.exit 0))) (.seq (.block 1 (.ops Qdy)) (.ops Qdx)))
def Qdw : List GO := [qm 26 1, qm 4 26]
def R_typeSize_lc : LC := (.seq (.ops QdC) (.seq (.ops QdB) (.seq (.seq (.ops QdA) (.block 0 (.loop Q5W))) (.seq (.ops Qdw) .ret))))
@[reducible] def Q45 : FuncId := 59
theorem Qb1 : lowF Tryd.prog Tryd.f59 = some R_typeSize_lc := by kernel_rfl
theorem QdD {a0 a1 : Value} {w : World} {R : Ending → World → Prop} (h : R_typeSize_lc.wp Tryd.prog (retQ Tryd.prog [.tmp 4] R) (Qc [a0, a1]) w) : Calls Tryd.prog Q45 ⟨[a0, a1]⟩ w R :=
  Q3 Tryd.func59 Qb1 (by kernel_rfl) (by kernel_rfl) h

/- 60 -/
def Qai : List GO := [qb 2 83 0, qk 4 (vi 0)]
def Qah : List GO := [qV 5 3 2, ⟨none, .call (some 6) 87 [(.tmp 5), (.const (vi 4))]⟩, ⟨none, .un 7 .not (.tmp 6)⟩]
def Qag : List GO := [qk 4 (vi 19)]
def Qaf : List GO := [qV 8 3 2, qm 9 1, ⟨none, .call (some 10) 88 [(.tmp 8), (.tmp 9)]⟩, qm 4 10]
def types_Check_lc : LC := (.seq (.ops Qai) (.seq (.seq (.ops Qah) (.cond (.tmp 7) (.seq (.ops Qag) .ret) .skip)) (.seq (.ops Qaf) .ret)))
@[reducible] def Q3k : FuncId := 60
theorem Q8j : lowF Tryd.prog Tryd.f60 = some types_Check_lc := by kernel_rfl
theorem Qaj {a0 a1 : Value} {w : World} {R : Ending → World → Prop} (h : types_Check_lc.wp Tryd.prog (retQ Tryd.prog [.tmp 4] R) (Qc [a0, a1]) w) : Calls Tryd.prog Q3k ⟨[a0, a1]⟩ w R :=
  Q3 Tryd.func60 Q8j (by kernel_rfl) (by kernel_rfl) h

/- 61 -/
def Q1x : List GO := [qk 4 (vi 0)]
def Q1w : List GO := [qm 6 0, qL 7 6, qk 8 (vi 0)]
def Q1v : List GO := [qt 9 .lss 3 8 7]
def Q1u : List GO := [qm 10 8, qm 5 10]
def Q1t : List GO := [qm 11 1, qm 12 0, qm 13 5, qi 14 3 12 13, qV 15 3 14, ⟨none, .callv (some 16) (.tmp 11) [(.tmp 15)]⟩]
def Q1s : List GO := [qm 17 5, qm 4 17]
def Q1r : List GO := [qj 18 .add 3 8 1, qm 8 18]
def QO : LC := (.seq (.ops Q1v) (.seq (.cond (.tmp 9) .skip (.exit 0)) (.seq (.block 1 (.seq (.ops Q1u) (.seq (.ops Q1t) (.cond (.tmp 16) (.seq (.ops Q1s) .ret) .skip)))) (.ops Q1r))))
def Q1q : List GO := [qk 4 (vi (-1))]
def slices_IndexFunc_api_Type_api_Type_lc : LC := (.seq (.ops Q1x) (.seq (.seq (.ops Q1w) (.block 0 (.loop QO))) (.seq (.ops Q1q) .ret)))
@[reducible] def Qh : FuncId := 61
theorem Q1o : lowF Tryd.prog Tryd.f61 = some slices_IndexFunc_api_Type_api_Type_lc := by kernel_rfl
theorem Q1y {a0 a1 : Value} {w : World} {R : Ending → World → Prop} (h : slices_IndexFunc_api_Type_api_Type_lc.wp Tryd.prog (retQ Tryd.prog [.tmp 4] R) (Qc [a0, a1]) w) : Calls Tryd.prog Qh ⟨[a0, a1]⟩ w R :=
  Q3 Tryd.func61 Q1o (by kernel_rfl) (by kernel_rfl) h

/- 62 -/
def Q9n : List GO := [qk 4 (vi 0)]
def Q9m : List GO := [qm 5 0, qj 6 .mul 3 5 10000, qm 7 1, qj 8 .mul 3 7 100, qt 9 .add 3 6 8, qj 10 .add 3 9 90, qm 4 10]
def code_BlockAt_lc : LC := (.seq (.ops Q9n) (.seq (.ops Q9m) .ret))
@[reducible] def Q78 : FuncId := 62
theorem Q7y : lowF Tryd.prog Tryd.f62 = some code_BlockAt_lc := by kernel_rfl
theorem Q9o {a0 a1 : Value} {w : World} {R : Ending → World → Prop} (h : code_BlockAt_lc.wp Tryd.prog (retQ Tryd.prog [.tmp 4] R) (Qc [a0, a1]) w) : Calls Tryd.prog Q78 ⟨[a0, a1]⟩ w R :=
  Q3 Tryd.func62 Q7y (by kernel_rfl) (by kernel_rfl) h

/- 63 -/
def QK : List GO := [qk 6 (.bool false)]
def QJ : List GO := [qm 10 0, qL 11 10, qm 12 1, qL 13 12, qt 14 .neq 3 11 13]
def QI : List GO := [qk 6 (.bool false)]
def QH : List GO := [qm 15 0, qL 16 15, qk 17 (vi 0)]
def QG : List GO := [qt 18 .lss 3 17 16]
def QF : List GO := [qm 19 17, qi 20 3 15 17, qV 21 3 20, ⟨none, .alloc 8 83 [(vi 0), (vi 0), vn]⟩, qm 7 19, qw 3 8 21]
def QE : List GO := [qm 22 1, qm 23 7, qi 24 3 22 23, qV 25 3 24, ⟨none, .alloc 9 83 [(vi 0), (vi 0), vn]⟩, qw 3 9 25]
def QD : List GO := [qm 26 2, qV 27 3 8, qV 28 3 9, ⟨none, .callv (some 29) (.tmp 26) [(.tmp 27), (.tmp 28)]⟩, ⟨none, .un 30 .not (.tmp 29)⟩]
def QC : List GO := [qk 6 (.bool false)]
def QB : List GO := [qj 31 .add 3 17 1, qm 17 31]
def Qg : LC := (.seq (.ops QG) (.seq (.cond (.tmp 18) .skip (.exit 0)) (.seq (.block 1 (.seq (.ops QF) (.seq (.ops QE) (.seq (.ops QD) (.cond (.tmp 30) (.seq (.ops QC) .ret) .skip))))) (.ops QB))))
def Qz : List GO := [qk 6 (.bool true)]
def slices_EqualFunc_api_Type_api_Type_api_Type_api_Type_lc : LC := (.seq (.ops QK) (.seq (.seq (.ops QJ) (.cond (.tmp 14) (.seq (.ops QI) .ret) .skip)) (.seq (.seq (.ops QH) (.block 0 (.loop Qg))) (.seq (.ops Qz) .ret))))
@[reducible] def Q5 : FuncId := 63
theorem QA : lowF Tryd.prog Tryd.f63 = some slices_EqualFunc_api_Type_api_Type_api_Type_api_Type_lc := by kernel_rfl
theorem QL {a0 a1 a2 : Value} {w : World} {R : Ending → World → Prop} (h : slices_EqualFunc_api_Type_api_Type_api_Type_api_Type_lc.wp Tryd.prog (retQ Tryd.prog [.tmp 6] R) (Qc [a0, a1, a2]) w) : Calls Tryd.prog Q5 ⟨[a0, a1, a2]⟩ w R :=
  Q3 Tryd.func63 QA (by kernel_rfl) (by kernel_rfl) h

/- 64 -/
def Qch : List GO := [qb 2 83 0, qb 3 83 1, qk 4 (.bool false)]
def Qcg : List GO := [qf 5 2 0, ql 6 5, qf 7 3 0, ql 8 7, qt 9 .eql 3 6 8, qm 10 9, qg 10 true (qf 11 2 1), qg 10 true (ql 12 11), qg 10 true (qf 13 3 1), qg 10 true (ql 14 13), qg 10 true (qt 15 .eql 3 12 14), ⟨none, .pick 16 (.tmp 10) (.tmp 15) (.const (.bool false))⟩, qm 17 16, qg 17 true (qf 18 2 2), qg 17 true (ql 19 18), qg 17 true (qf 20 3 2), qg 17 true (ql 21 20), ⟨some (17, true), .call (some 22) 63 [(.tmp 19), (.tmp 21), (.func 64)]⟩, ⟨none, .pick 23 (.tmp 17) (.tmp 22) (.const (.bool false))⟩, qm 4 23]
def types_Same_lc : LC := (.seq (.ops Qch) (.seq (.ops Qcg) .ret))
@[reducible] def Qbu : FuncId := 64
theorem Qae : lowF Tryd.prog Tryd.f64 = some types_Same_lc := by kernel_rfl
theorem Qci {a0 a1 : Value} {w : World} {R : Ending → World → Prop} (h : types_Same_lc.wp Tryd.prog (retQ Tryd.prog [.tmp 4] R) (Qc [a0, a1]) w) : Calls Tryd.prog Qbu ⟨[a0, a1]⟩ w R :=
  Q3 Tryd.func64 Qae (by kernel_rfl) (by kernel_rfl) h

/- 65 -/
def Qdf : List GO := [qk 6 (vi 0)]
def Qde : List GO := [qm 7 0, qj 8 .mul 3 7 10000, qm 9 1, qj 10 .mul 3 9 100, qt 11 .add 3 8 10, qm 12 2, qt 13 .add 3 11 12, qm 6 13]
def code_InsAt_lc : LC := (.seq (.ops Qdf) (.seq (.ops Qde) .ret))
@[reducible] def QbL : FuncId := 65
theorem QaM : lowF Tryd.prog Tryd.f65 = some code_InsAt_lc := by kernel_rfl
theorem Qdg {a0 a1 a2 : Value} {w : World} {R : Ending → World → Prop} (h : code_InsAt_lc.wp Tryd.prog (retQ Tryd.prog [.tmp 6] R) (Qc [a0, a1, a2]) w) : Calls Tryd.prog QbL ⟨[a0, a1, a2]⟩ w R :=
  Q3 Tryd.func65 QaM (by kernel_rfl) (by kernel_rfl) h

/- 66 -/
def Q6G : List GO := [qb 3 67 1]
def Q6F : List GO := [qm 5 0, qf 6 3 0, ql 7 6, qj 8 .lss 3 7 1, qm 9 8, qg 9 false (qf 10 3 0), qg 9 false (ql 11 10), qg 9 false (qj 12 .gtr 3 11 14), ⟨none, .pick 13 (.tmp 9) (.const (.bool true)) (.tmp 12)⟩, ⟨none, .call (some 14) 37 [(.tmp 5), (.tmp 13), (.const (vi 3))]⟩]
def Q6E : List GO := [qf 15 3 0, ql 16 15, ⟨none, .call (some 17) 89 [(.tmp 16)]⟩, qm 4 17]
def Q6D : List GO := [qm 18 0, qm 19 4, ⟨none, .call (some 20) 90 [(.tmp 19), (.const (.int .u8 97))]⟩, ⟨none, .un 21 .not (.tmp 20)⟩, qm 22 21, qg 22 true (qf 23 3 1), qg 22 true (ql 24 23), qg 22 true (qj 25 .neq 3 24 0), ⟨none, .pick 26 (.tmp 22) (.tmp 25) (.const (.bool false))⟩, qm 27 26, qg 27 false (qm 28 4), ⟨some (27, false), .call (some 29) 90 [(.tmp 28), (.const (.int .u8 98))]⟩, ⟨some (27, false), .un 30 .not (.tmp 29)⟩, qg 27 false (qm 31 30), qg 31 true (qf 32 3 2), qg 31 true (ql 33 32), qg 31 true (qj 34 .neq 3 33 0), ⟨some (27, false), .pick 35 (.tmp 31) (.tmp 34) (.const (.bool false))⟩, ⟨none, .pick 36 (.tmp 27) (.const (.bool true)) (.tmp 35)⟩, qm 37 36, qg 37 false (qm 38 4), ⟨some (37, false), .call (some 39) 90 [(.tmp 38), (.const (.int .u8 99))]⟩, ⟨some (37, false), .un 40 .not (.tmp 39)⟩, qg 37 false (qm 41 40), qg 41 true (qf 42 3 3), qg 41 true (ql 43 42), qg 41 true (qj 44 .neq 3 43 0), ⟨some (37, false), .pick 45 (.tmp 41) (.tmp 44) (.const (.bool false))⟩, ⟨none, .pick 46 (.tmp 37) (.const (.bool true)) (.tmp 45)⟩, qm 47 46, qg 47 false (qm 48 4), ⟨some (47, false), .call (some 49) 90 [(.tmp 48), (.const (.int .u8 107))]⟩, ⟨some (47, false), .un 50 .not (.tmp 49)⟩, qg 47 false (qm 51 50), qg 51 true (qf 52 3 4), qg 51 true (ql 53 52), qg 51 true (qj 54 .neq 3 53 0), ⟨some (47, false), .pick 55 (.tmp 51) (.tmp 54) (.const (.bool false))⟩, ⟨none, .pick 56 (.tmp 47) (.const (.bool true)) (.tmp 55)⟩, qm 57 56, qg 57 false (qm 58 4), ⟨some (57, false), .call (some 59) 90 [(.tmp 58), (.const (.int .u8 110))]⟩, ⟨some (57, false), .un 60 .not (.tmp 59)⟩, qg 57 false (qm 61 60), qg 61 true (qf 62 3 5), qg 61 true (ql 63 62), qg 61 true (qj 64 .neq 2 63 0), ⟨some (57, false), .pick 65 (.tmp 61) (.tmp 64) (.const (.bool false))⟩, ⟨none, .pick 66 (.tmp 57) (.const (.bool true)) (.tmp 65)⟩, qm 67 66, qg 67 false (qm 68 4), ⟨some (67, false), .call (some 69) 90 [(.tmp 68), (.const (.int .u8 103))]⟩, ⟨some (67, false), .un 70 .not (.tmp 69)⟩, qg 67 false (qm 71 70), qg 71 true (qf 72 3 6), qg 71 true (ql 73 72), qg 71 true (qL 74 73), qg 71 true (qj 75 .gtr 3 74 0), ⟨some (67, false), .pick 76 (.tmp 71) (.tmp 75) (.const (.bool false))⟩, ⟨none, .pick 77 (.tmp 67) (.const (.bool true)) (.tmp 76)⟩, qm 78 77, qg 78 false (qm 79 4), ⟨some (78, false), .call (some 80) 90 [(.tmp 79), (.const (.int .u8 114))]⟩, ⟨some (78, false), .un 81 .not (.tmp 80)⟩, qg 78 false (qm 82 81), qg 82 true (qf 83 3 7), qg 82 true (ql 84 83), qg 82 true (qL 85 84), qg 82 true (qj 86 .gtr 3 85 0), ⟨some (78, false), .pick 87 (.tmp 82) (.tmp 86) (.const (.bool false))⟩, ⟨none, .pick 88 (.tmp 78) (.const (.bool true)) (.tmp 87)⟩, ⟨none, .call (some 89) 37 [(.tmp 18), (.tmp 88), (.const (vi 4))]⟩]
def Q6C : List GO := [qf 90 3 0, ql 91 90]
def Q6B : List GO := [qj 93 .eql 3 91 2, qm 92 93]
def Q6A : List GO := [qm 94 0, qf 95 3 4, ql 96 95, qj 97 .lss 3 96 1, qm 98 97, qg 98 false (qf 99 3 4), qg 98 false (ql 100 99), qg 98 false (qj 101 .gtr 3 100 9), ⟨none, .pick 102 (.tmp 98) (.const (.bool true)) (.tmp 101)⟩, ⟨none, .call (some 103) 37 [(.tmp 94), (.tmp 102), (.const (vi 1))]⟩]
def Q6z : List GO := [qj 105 .eql 3 91 5, qm 104 105]
def Q6y : List GO := [qm 106 0, qf 107 3 7, ql 108 107, qL 109 108, qj 110 .gtr 3 109 8, ⟨none, .call (some 111) 37 [(.tmp 106), (.tmp 110), (.const (vi 2))]⟩]
def Q6x : List GO := [qj 113 .eql 3 91 6, qm 112 113]
def Q5K : List GO := [qj 114 .eql 3 91 7, qm 112 114]
def Q5J : List GO := [qm 115 0, qf 116 3 4, ql 117 116, qj 118 .lss 3 117 0, qm 119 118, qg 119 false (qf 120 3 4), qg 119 false (ql 121 120), qg 119 false (qj 122 .geq 3 121 8), ⟨none, .pick 123 (.tmp 119) (.const (.bool true)) (.tmp 122)⟩, ⟨none, .call (some 124) 37 [(.tmp 115), (.tmp 123), (.const (vi 1))]⟩]
def Q5I : List GO := [qj 126 .eql 3 91 14, qm 125 126]
def Q5H : List GO := [qm 127 0, qf 128 3 4, ql 129 128, qj 130 .lss 3 129 0, qm 131 130, qg 131 false (qf 132 3 4), qg 131 false (ql 133 132), qg 131 false (qm 134 0), qg 131 false (qn 135 134), qg 131 false (qf 136 135 0), qg 131 false (qf 137 136 0), qg 131 false (ql 138 137), qg 131 false (qL 139 138), qg 131 false (qt 140 .geq 3 133 139), ⟨none, .pick 141 (.tmp 131) (.const (.bool true)) (.tmp 140)⟩, ⟨none, .call (some 142) 37 [(.tmp 127), (.tmp 141), (.const (vi 1))]⟩]
def Q5M : List (List Nat) := [[],[],[1],[2],[3],[4],[5,4],[4],[7,4],[8,4],[9,4],[10,4],[11,4],[6,12,4],[4,13],[0,14,4]]
def Q5G : List GO := [qm 143 0, qf 144 3 6, ql 145 144, qL 146 145, qj 147 .gtr 3 146 6, qm 148 147, qg 148 false (qf 149 3 7), qg 148 false (ql 150 149), qg 148 false (qL 151 150), qg 148 false (qj 152 .gtr 3 151 8), ⟨none, .pick 153 (.tmp 148) (.const (.bool true)) (.tmp 152)⟩, ⟨none, .call (some 154) 37 [(.tmp 143), (.tmp 153), (.const (vi 2))]⟩]
def code_judge_ins_lc : LC := (.seq (.ops Q6G) (.seq (.ops Q6F) (.seq (.ops Q6E) (.seq (.ops Q6D) (.seq (.ops Q6C) (.block 0 (.seq (.ops Q6B) (.cond (.tmp 92) (.ops Q6A) (.seq (.ops Q6z) (.cond (.tmp 104) (.ops Q6y) (.seq (.seq (.ops Q6x) (.cond (.tmp 112) .skip (.ops Q5K))) (.cond (.tmp 112) (.ops Q5J) (.seq (.ops Q5I) (.cond (.tmp 125) (.seq (.draw Q5H Q5M) (.ops Q5G)) .skip))))))))))))))
@[reducible] def Ql : FuncId := 66
theorem Q5L : lowF Tryd.prog Tryd.f66 = some code_judge_ins_lc := by kernel_rfl
theorem Q6H {a0 a1 : Value} {w : World} {R : Ending → World → Prop} (h : code_judge_ins_lc.wp Tryd.prog (retQ Tryd.prog [] R) (Qc [a0, a1]) w) : Calls Tryd.prog Ql ⟨[a0, a1]⟩ w R :=
  Q3 Tryd.func66 Q5L (by kernel_rfl) (by kernel_rfl) h

/- 67 -/
def Qdi : List GO := [qk 4 (vi 0)]
def Qdh : List GO := [qm 5 0, qj 6 .mul 3 5 10000, qm 7 1, qj 8 .mul 3 7 100, qt 9 .add 3 6 8, qj 10 .add 3 9 91, qm 4 10]
def code_EndAt_lc : LC := (.seq (.ops Qdi) (.seq (.ops Qdh) .ret))
@[reducible] def QbM : FuncId := 67
theorem QaQ : lowF Tryd.prog Tryd.f67 = some code_EndAt_lc := by kernel_rfl
theorem Qdj {a0 a1 : Value} {w : World} {R : Ending → World → Prop} (h : code_EndAt_lc.wp Tryd.prog (retQ Tryd.prog [.tmp 4] R) (Qc [a0, a1]) w) : Calls Tryd.prog QbM ⟨[a0, a1]⟩ w R :=
  Q3 Tryd.func67 QaQ (by kernel_rfl) (by kernel_rfl) h

/- 68 -/
def Q6N : List GO := [qb 4 56 1, qb 5 63 2]
def Q6M : List GO := [qm 6 0, qf 7 5 0, ql 8 7, qj 9 .lss 3 8 1, qm 10 9, qg 10 false (qf 11 5 0), qg 10 false (ql 12 11), qg 10 false (qj 13 .gtr 3 12 3), ⟨none, .pick 14 (.tmp 10) (.const (.bool true)) (.tmp 13)⟩, ⟨none, .call (some 15) 37 [(.tmp 6), (.tmp 14), (.const (vi 3))]⟩]
def Q6L : List GO := [qm 16 0, qf 17 5 0, ql 18 17, qj 19 .neq 3 18 2, qm 20 19, qg 20 true (qf 21 5 1), qg 20 true (ql 22 21), qg 20 true (qj 23 .neq 3 22 0), ⟨none, .pick 24 (.tmp 20) (.tmp 23) (.const (.bool false))⟩, qm 25 24, qg 25 false (qf 26 5 0), qg 25 false (ql 27 26), qg 25 false (qj 28 .neq 3 27 3), qg 25 false (qm 29 28), qg 29 true (qf 30 5 8), qg 29 true (ql 31 30), qg 29 true (qL 32 31), qg 29 true (qj 33 .gtr 3 32 0), ⟨some (25, false), .pick 34 (.tmp 29) (.tmp 33) (.const (.bool false))⟩, ⟨none, .pick 35 (.tmp 25) (.const (.bool true)) (.tmp 34)⟩, ⟨none, .call (some 36) 37 [(.tmp 16), (.tmp 35), (.const (vi 4))]⟩]
def Q6K : List GO := [qm 37 0, qf 38 5 8, ql 39 38, qL 40 39, qj 41 .gtr 3 40 8, ⟨none, .call (some 42) 37 [(.tmp 37), (.tmp 41), (.const (vi 2))]⟩]
def Q6J : List GO := [qm 43 0, qV 44 4 4, qf 45 5 2, qV 46 3 45, qf 47 5 0, ql 48 47, qj 49 .neq 3 48 3, ⟨none, .call (some 50) 91 [(.tmp 43), (.tmp 44), (.tmp 46), (.tmp 49)]⟩]
def Q6I : List GO := [qm 51 0, qV 52 4 4, qf 53 5 5, qV 54 3 53, qf 55 5 0, ql 56 55, qj 57 .eql 3 56 2, ⟨none, .call (some 58) 91 [(.tmp 51), (.tmp 52), (.tmp 54), (.tmp 57)]⟩]
def code_judge_end_lc : LC := (.seq (.ops Q6N) (.seq (.ops Q6M) (.seq (.ops Q6L) (.seq (.ops Q6K) (.seq (.ops Q6J) (.ops Q6I))))))
@[reducible] def Q4p : FuncId := 68
theorem Q5P : lowF Tryd.prog Tryd.f68 = some code_judge_end_lc := by kernel_rfl
theorem Q6O {a0 a1 a2 : Value} {w : World} {R : Ending → World → Prop} (h : code_judge_end_lc.wp Tryd.prog (retQ Tryd.prog [] R) (Qc [a0, a1, a2]) w) : Calls Tryd.prog Q4p ⟨[a0, a1, a2]⟩ w R :=
  Q3 Tryd.func68 Q5P (by kernel_rfl) (by kernel_rfl) h

/- 69 -/
def Q2k : List GO := [qm 2 0, qn 3 2, qf 4 3 0, ql 5 4, ⟨none, .bin 6 .eql 94 (.tmp 5) (.const (.pointer none))⟩]
def Q2j : List GO := [qm 7 0, qm 8 0, ⟨none, .raw ⟨(some 9), (.convert 94 139 (.tmp 8)), 139, "", #[], none⟩⟩, ⟨none, .raw ⟨(some 10), (.call ⟨(.value (.func 92)), #[(.tmp 9)], #[139]⟩), 139, "", #[], none⟩⟩, ⟨none, .raw ⟨(some 11), (.convert 139 94 (.tmp 10)), 94, "", #[], none⟩⟩, qn 12 7, qf 13 12 0, qs 13 11]
def Q2i : List GO := [qm 14 0, qn 15 14, qf 16 15 0, ql 17 16, qm 18 0, qt 19 .neq 94 17 18]
def strings_Builder_copyCheck_lc : LC := (.seq (.ops Q2k) (.cond (.tmp 6) (.ops Q2j) (.seq (.ops Q2i) (.cond (.tmp 19) .bad .skip))))
@[reducible] def Q1B : FuncId := 69
theorem Q2c : lowF Tryd.prog Tryd.f69 = some strings_Builder_copyCheck_lc := by kernel_rfl
theorem Q1d {a0 : Value} {w : World} {R : Ending → World → Prop} (h : strings_Builder_copyCheck_lc.wp Tryd.prog (retQ Tryd.prog [] R) (Qc [a0]) w) : Calls Tryd.prog Q1B ⟨[a0]⟩ w R :=
  Q3 Tryd.func69 Q2c (by kernel_rfl) (by kernel_rfl) h

/- 70 -/
@[reducible] def strconv_Itoa : FuncId := 70
/- 71 -/
def Qce : List GO := [qb 1 83 0, qk 2 (.string ⟨#[]⟩)]
def Qcd : List GO := [qf 7 1 1, ql 8 7, ⟨none, .call (some 9) 70 [(.tmp 8)]⟩, qm 3 9]
def Qcc : List GO := [qf 10 1 0, ql 11 10]
def Qcb : List GO := [qj 13 .eql 3 11 2, qm 12 13]
def Qca : List GO := [qm 14 3, ⟨none, .bin 15 .add 9 (.const (.string ⟨#[104, 97, 110, 100, 108, 101, 32]⟩)) (.tmp 14)⟩, qm 2 15]
def Qc9 : List GO := [qj 17 .eql 3 11 4, qm 16 17]
def Qc8 : List GO := [qm 18 3, ⟨none, .bin 19 .add 9 (.const (.string ⟨#[97, 114, 114, 97, 121, 32]⟩)) (.tmp 18)⟩, qm 2 19]
def Qc7 : List GO := [qj 21 .eql 3 11 3, qm 20 21]
def Qc6 : List GO := [qk 4 vn]
def Qc5 : List GO := [qf 22 1 2, ql 23 22, qL 24 23, qk 25 (vi 0)]
def Qac : List GO := [qt 26 .lss 3 25 24]
def Qab : List GO := [qi 27 3 23 25, qV 28 3 27, ⟨none, .alloc 6 83 [(vi 0), (vi 0), vn]⟩, qw 3 6 28]
def Qaa : List GO := [qm 29 4, qV 30 3 6, ⟨none, .call (some 31) 71 [(.tmp 30)]⟩, ⟨none, .buildS 32 9 1 [(.string ⟨#[]⟩)] [(0, (1, (.tmp 31)))]⟩, ⟨none, .raw ⟨(some 33), (.call ⟨(.builtin .append), #[(.tmp 29), (.tmp 32)], #[117, 117]⟩), 117, "", #[], none⟩⟩, qm 4 33]
def Qa9 : List GO := [qj 34 .add 3 25 1, qm 25 34]
def Q4h : LC := (.seq (.ops Qac) (.seq (.cond (.tmp 26) .skip (.exit 1)) (.seq (.block 2 (.seq (.ops Qab) (.ops Qaa))) (.ops Qa9))))
def Qa8 : List GO := [qm 35 3, ⟨none, .bin 36 .add 9 (.const (.string ⟨#[116, 117, 112, 108, 101, 32]⟩)) (.tmp 35)⟩, ⟨none, .bin 37 .add 9 (.tmp 36) (.const (.string ⟨#[32, 40]⟩))⟩, qm 38 4, ⟨none, .call (some 39) 72 [(.tmp 38), (.const (.string ⟨#[44, 32]⟩))]⟩, qt 40 .add 9 37 39, ⟨none, .bin 41 .add 9 (.tmp 40) (.const (.string ⟨#[41]⟩))⟩, qm 2 41]
def Qa7 : List GO := [qk 2 (.string ⟨#[105, 110, 116]⟩)]
def types_Text_lc : LC := (.seq (.ops Qce) (.seq (.ops Qcd) (.seq (.seq (.ops Qcc) (.block 0 (.seq (.ops Qcb) (.cond (.tmp 12) (.seq (.ops Qca) .ret) (.seq (.ops Qc9) (.cond (.tmp 16) (.seq (.ops Qc8) .ret) (.seq (.ops Qc7) (.cond (.tmp 20) (.seq (.ops Qc6) (.seq (.seq (.ops Qc5) (.block 1 (.loop Q4h))) (.seq (.ops Qa8) .ret))) .skip)))))))) (.seq (.ops Qa7) .ret))))
@[reducible] def Q1N : FuncId := 71
theorem Qad : lowF Tryd.prog Tryd.f71 = some types_Text_lc := by kernel_rfl
theorem Qcf {a0 : Value} {w : World} {R : Ending → World → Prop} (h : types_Text_lc.wp Tryd.prog (retQ Tryd.prog [.tmp 2] R) (Qc [a0]) w) : Calls Tryd.prog Q1N ⟨[a0]⟩ w R :=
  Q3 Tryd.func71 Qad (by kernel_rfl) (by kernel_rfl) h

/- 72 -/
@[reducible] def strings_Join : FuncId := 72
/- 73 -/
def Qf1 : List GO := [qk 2 (.string ⟨#[]⟩)]
def Qf0 : List GO := [qm 3 0, qj 4 .lss 3 3 0, qm 5 4, qg 5 false (qm 6 0), qg 5 false (qj 7 .gtr 3 6 14), ⟨none, .pick 8 (.tmp 5) (.const (.bool true)) (.tmp 7)⟩]
def QeZ : List GO := [qk 2 (.string ⟨#[]⟩)]
def QeY : List GO := [⟨none, .build 9 [(.string ⟨#[]⟩), (.string ⟨#[]⟩), (.string ⟨#[]⟩), (.string ⟨#[]⟩), (.string ⟨#[]⟩), (.string ⟨#[]⟩), (.string ⟨#[]⟩), (.string ⟨#[]⟩), (.string ⟨#[]⟩), (.string ⟨#[]⟩), (.string ⟨#[]⟩), (.string ⟨#[]⟩), (.string ⟨#[]⟩), (.string ⟨#[]⟩), (.string ⟨#[]⟩)] [(0, (1, (.const (.string ⟨#[]⟩)))), (1, (1, (.const (.string ⟨#[110, 117, 109]⟩)))), (2, (1, (.const (.string ⟨#[98, 105, 110]⟩)))), (3, (1, (.const (.string ⟨#[110, 101, 119]⟩)))), (4, (1, (.const (.string ⟨#[102, 114, 101, 101]⟩)))), (5, (1, (.const (.string ⟨#[116, 117, 112, 108, 101]⟩)))), (6, (1, (.const (.string ⟨#[103, 101, 116]⟩)))), (7, (1, (.const (.string ⟨#[115, 101, 116]⟩)))), (8, (1, (.const (.string ⟨#[97, 114, 114, 97, 121]⟩)))), (9, (1, (.const (.string ⟨#[108, 111, 97, 100]⟩)))), (10, (1, (.const (.string ⟨#[115, 116, 111, 114, 101]⟩)))), (11, (1, (.const (.string ⟨#[108, 101, 110]⟩)))), (12, (1, (.const (.string ⟨#[105, 110]⟩)))), (13, (1, (.const (.string ⟨#[111, 117, 116]⟩)))), (14, (1, (.const (.string ⟨#[99, 97, 108, 108]⟩))))]⟩, qm 10 0, ⟨none, .raw ⟨(some 11), (.index 142 (.tmp 9) (.tmp 10)), 9, "", #[], none⟩⟩, qm 2 11]
def parse_Op_lc : LC := (.seq (.ops Qf1) (.seq (.seq (.ops Qf0) (.cond (.tmp 8) (.seq (.ops QeZ) .ret) .skip)) (.seq (.ops QeY) .ret)))
@[reducible] def QfC : FuncId := 73
theorem Qef : lowF Tryd.prog Tryd.f73 = some parse_Op_lc := by kernel_rfl
theorem Q4C {a0 : Value} {w : World} {R : Ending → World → Prop} (h : parse_Op_lc.wp Tryd.prog (retQ Tryd.prog [.tmp 2] R) (Qc [a0]) w) : Calls Tryd.prog QfC ⟨[a0]⟩ w R :=
  Q3 Tryd.func73 Qef (by kernel_rfl) (by kernel_rfl) h

/- 74 -/
def Qd1 : List GO := [qk 2 (.string ⟨#[]⟩)]
def Qd0 : List GO := [qm 3 0, qj 4 .lss 3 3 0, qm 5 4, qg 5 false (qm 6 0), qg 5 false (qj 7 .gtr 3 6 9), ⟨none, .pick 8 (.tmp 5) (.const (.bool true)) (.tmp 7)⟩]
def QcZ : List GO := [qk 2 (.string ⟨#[]⟩)]
def QcY : List GO := [⟨none, .build 9 [(.string ⟨#[]⟩), (.string ⟨#[]⟩), (.string ⟨#[]⟩), (.string ⟨#[]⟩), (.string ⟨#[]⟩), (.string ⟨#[]⟩), (.string ⟨#[]⟩), (.string ⟨#[]⟩), (.string ⟨#[]⟩), (.string ⟨#[]⟩)] [(0, (1, (.const (.string ⟨#[]⟩)))), (1, (1, (.const (.string ⟨#[97, 100, 100]⟩)))), (2, (1, (.const (.string ⟨#[115, 117, 98]⟩)))), (3, (1, (.const (.string ⟨#[109, 117, 108]⟩)))), (4, (1, (.const (.string ⟨#[100, 105, 118]⟩)))), (5, (1, (.const (.string ⟨#[109, 111, 100]⟩)))), (6, (1, (.const (.string ⟨#[108, 101, 115, 115]⟩)))), (7, (1, (.const (.string ⟨#[101, 113]⟩)))), (8, (1, (.const (.string ⟨#[97, 110, 100]⟩)))), (9, (1, (.const (.string ⟨#[120, 111, 114]⟩))))]⟩, qm 10 0, ⟨none, .raw ⟨(some 11), (.index 143 (.tmp 9) (.tmp 10)), 9, "", #[], none⟩⟩, qm 2 11]
def parse_Kind_lc : LC := (.seq (.ops Qd1) (.seq (.seq (.ops Qd0) (.cond (.tmp 8) (.seq (.ops QcZ) .ret) .skip)) (.seq (.ops QcY) .ret)))
@[reducible] def Qbz : FuncId := 74
theorem QaL : lowF Tryd.prog Tryd.f74 = some parse_Kind_lc := by kernel_rfl
theorem Q3n {a0 : Value} {w : World} {R : Ending → World → Prop} (h : parse_Kind_lc.wp Tryd.prog (retQ Tryd.prog [.tmp 2] R) (Qc [a0]) w) : Calls Tryd.prog Qbz ⟨[a0]⟩ w R :=
  Q3 Tryd.func74 QaL (by kernel_rfl) (by kernel_rfl) h

/- 75 -/
def Qcv : List GO := [qk 6 (.string ⟨#[]⟩)]
def Qcu : List GO := [qk 7 vn]
def Qct : List GO := [qm 10 1, qL 11 10, qk 12 (vi 0)]
def Qcs : List GO := [qt 13 .lss 3 12 11]
def Qcr : List GO := [qi 14 1 10 12, ql 15 14, qm 9 15]
def Qcq : List GO := [qm 16 7, qm 17 9, ⟨none, .call (some 18) 45 [(.tmp 17)]⟩, ⟨none, .buildS 19 9 1 [(.string ⟨#[]⟩)] [(0, (1, (.tmp 18)))]⟩, ⟨none, .raw ⟨(some 20), (.call ⟨(.builtin .append), #[(.tmp 16), (.tmp 19)], #[117, 117]⟩), 117, "", #[], none⟩⟩, qm 7 20]
def Qcp : List GO := [qj 21 .add 3 12 1, qm 12 21]
def Q51 : LC := (.seq (.ops Qcs) (.seq (.cond (.tmp 13) .skip (.exit 0)) (.seq (.block 1 (.seq (.ops Qcr) (.ops Qcq))) (.ops Qcp))))
def Qco : List GO := [qm 22 0, qm 23 7, ⟨none, .call (some 24) 72 [(.tmp 23), (.const (.string ⟨#[44, 32]⟩))]⟩, qt 25 .add 9 22 24, qm 26 2, qt 27 .add 9 25 26, qm 6 27]
def render_row_lc : LC := (.seq (.ops Qcv) (.seq (.ops Qcu) (.seq (.seq (.ops Qct) (.block 0 (.loop Q51))) (.seq (.ops Qco) .ret))))
@[reducible] def Qbw : FuncId := 75
theorem Qam : lowF Tryd.prog Tryd.f75 = some render_row_lc := by kernel_rfl
theorem Qcw {a0 a1 a2 : Value} {w : World} {R : Ending → World → Prop} (h : render_row_lc.wp Tryd.prog (retQ Tryd.prog [.tmp 6] R) (Qc [a0, a1, a2]) w) : Calls Tryd.prog Qbw ⟨[a0, a1, a2]⟩ w R :=
  Q3 Tryd.func75 Qam (by kernel_rfl) (by kernel_rfl) h

/- 76 -/
def Qeb : List GO := [qb 1 61 0, qk 2 (.string ⟨#[]⟩)]
def Qea : List GO := [qf 3 1 0, ql 4 3, ⟨none, .call (some 5) 45 [(.tmp 4)]⟩, ⟨none, .bin 6 .add 9 (.tmp 5) (.const (.string ⟨#[32]⟩))⟩, qf 7 1 1, ql 8 7, ⟨none, .call (some 9) 75 [(.const (.string ⟨#[60]⟩)), (.tmp 8), (.const (.string ⟨#[62]⟩))]⟩, qt 10 .add 9 6 9, ⟨none, .bin 11 .add 9 (.tmp 10) (.const (.string ⟨#[32]⟩))⟩, qf 12 1 2, ql 13 12, ⟨none, .call (some 14) 75 [(.const (.string ⟨#[40]⟩)), (.tmp 13), (.const (.string ⟨#[41]⟩))]⟩, qt 15 .add 9 11 14, qm 2 15]
def Qed : List (List Nat) := [[],[0],[1],[2],[],[4],[5,2],[3,6],[7],[],[9],[10,6],[8,11],[12,11,0,1,2,3,4,5,6,7,8,9,10,11,12]]
def render_to_lc : LC := (.seq (.ops Qeb) (.seq (.draw Qea Qed) .ret))
@[reducible] def Qee : FuncId := 76
theorem Qcn : lowF Tryd.prog Tryd.f76 = some render_to_lc := by kernel_rfl
theorem Qec {a0 : Value} {w : World} {R : Ending → World → Prop} (h : render_to_lc.wp Tryd.prog (retQ Tryd.prog [.tmp 2] R) (Qc [a0]) w) : Calls Tryd.prog Qee ⟨[a0]⟩ w R :=
  Q3 Tryd.func76 Qcn (by kernel_rfl) (by kernel_rfl) h

/- 78 -/
/- 79 -/
@[reducible] def strconv_syntaxError : FuncId := 79
/- 80 -/
@[reducible] def strconv_rangeError : FuncId := 80
/- 81 -/
/- 82 -/
/- 83 -/
@[reducible] def internal_strconv_small : FuncId := 83
/- 84 -/
@[reducible] def internal_strconv_numDigits : FuncId := 84
/- 85 -/
@[reducible] def internal_strconv_formatBase10 : FuncId := 85
/- 86 -/
/- 87 -/
def Qc3 : List GO := [qb 2 83 0, qk 4 (.bool false)]
def Qc2 : List GO := [qm 7 1, qj 8 .lss 3 7 0]
def Qc1 : List GO := [qk 4 (.bool false)]
def Qc0 : List GO := [qf 9 2 2, ql 10 9, qL 11 10, qk 12 (vi 0)]
def QbZ : List GO := [qt 13 .lss 3 12 11]
def QbY : List GO := [qi 14 3 10 12, qV 15 3 14, ⟨none, .alloc 6 83 [(vi 0), (vi 0), vn]⟩, qw 3 6 15]
def QbX : List GO := [qV 16 3 6, qm 17 1, qj 18 .sub 3 17 1, ⟨none, .call (some 19) 87 [(.tmp 16), (.tmp 18)]⟩, ⟨none, .un 20 .not (.tmp 19)⟩]
def QbW : List GO := [qk 4 (.bool false)]
def QbV : List GO := [qj 21 .add 3 12 1, qm 12 21]
def Q4X : LC := (.seq (.ops QbZ) (.seq (.cond (.tmp 13) .skip (.exit 0)) (.seq (.block 1 (.seq (.ops QbY) (.seq (.ops QbX) (.cond (.tmp 20) (.seq (.ops QbW) .ret) .skip)))) (.ops QbV))))
def QbU : List GO := [qk 4 (.bool true)]
def types_deep_lc : LC := (.seq (.ops Qc3) (.seq (.seq (.ops Qc2) (.cond (.tmp 8) (.seq (.ops Qc1) .ret) .skip)) (.seq (.seq (.ops Qc0) (.block 0 (.loop Q4X))) (.seq (.ops QbU) .ret))))
@[reducible] def Q2r : FuncId := 87
theorem Qa6 : lowF Tryd.prog Tryd.f87 = some types_deep_lc := by kernel_rfl
theorem Qc4 {a0 a1 : Value} {w : World} {R : Ending → World → Prop} (h : types_deep_lc.wp Tryd.prog (retQ Tryd.prog [.tmp 4] R) (Qc [a0, a1]) w) : Calls Tryd.prog Q2r ⟨[a0, a1]⟩ w R :=
  Q3 Tryd.func87 Qa6 (by kernel_rfl) (by kernel_rfl) h

/- 88 -/
def Qa4 : List GO := [qb 2 83 0, qk 4 (vi 0)]
def Qa3 : List GO := [qf 8 2 0, ql 9 8]
def Qa2 : List GO := [qj 11 .eql 3 9 1, qm 10 11]
def Qa1 : List GO := [qf 12 2 1, ql 13 12, qj 14 .neq 3 13 0, qm 15 14, qg 15 false (qf 16 2 2), qg 15 false (ql 17 16), qg 15 false (qL 18 17), qg 15 false (qj 19 .gtr 3 18 0), ⟨none, .pick 20 (.tmp 15) (.const (.bool true)) (.tmp 19)⟩]
def Qa0 : List GO := [qk 4 (vi 4)]
def Q9Z : List GO := [qk 4 (vi 0)]
def Q9Y : List GO := [qj 22 .eql 3 9 2, qm 21 22]
def Q9X : List GO := [qj 23 .eql 3 9 4, qm 21 23]
def Q9W : List GO := [qf 24 2 2, ql 25 24, qL 26 25, qj 27 .gtr 3 26 0]
def Q9V : List GO := [qk 4 (vi 4)]
def Q8h : List GO := [qj 29 .eql 3 9 3, qm 28 29]
def Q8g : List GO := [qf 30 2 2, ql 31 30, qL 32 31, qj 33 .gtr 3 32 8]
def Q8f : List GO := [qk 4 (vi 2)]
def Q8e : List GO := [qk 4 (vi 3)]
def Q8d : List GO := [qf 34 2 1, ql 35 34, qj 36 .lss 3 35 0, qm 37 36, qg 37 false (qf 38 2 1), qg 37 false (ql 39 38), qg 37 false (qm 40 1), qg 37 false (qt 41 .geq 3 39 40), ⟨none, .pick 42 (.tmp 37) (.const (.bool true)) (.tmp 41)⟩]
def Q8c : List GO := [qk 4 (vi 1)]
def Q8b : List GO := [qf 43 2 2, ql 44 43, qL 45 44, qk 46 (vi 0)]
def Q8a : List GO := [qt 47 .lss 3 46 45]
def Q89 : List GO := [qi 48 3 44 46, qV 49 3 48, ⟨none, .alloc 6 83 [(vi 0), (vi 0), vn]⟩, qw 3 6 49]
def Q88 : List GO := [qV 50 3 6, qm 51 1, ⟨none, .call (some 52) 88 [(.tmp 50), (.tmp 51)]⟩, qm 7 52]
def Q87 : List GO := [qm 53 7, qj 54 .neq 3 53 0]
def Q86 : List GO := [qm 55 7, qm 4 55]
def Q85 : List GO := [qj 56 .add 3 46 1, qm 46 56]
def Q3y : LC := (.seq (.ops Q8a) (.seq (.cond (.tmp 47) .skip (.exit 1)) (.seq (.block 2 (.seq (.ops Q89) (.seq (.ops Q88) (.seq (.ops Q87) (.cond (.tmp 54) (.seq (.ops Q86) .ret) .skip))))) (.ops Q85))))
def Q84 : List GO := [qk 4 (vi 0)]
def types_wrong_lc : LC := (.seq (.ops Qa4) (.seq (.seq (.ops Qa3) (.block 0 (.seq (.ops Qa2) (.cond (.tmp 10) (.seq (.seq (.ops Qa1) (.cond (.tmp 20) (.seq (.ops Qa0) .ret) .skip)) (.seq (.ops Q9Z) .ret)) (.seq (.seq (.ops Q9Y) (.cond (.tmp 21) .skip (.ops Q9X))) (.cond (.tmp 21) (.seq (.ops Q9W) (.cond (.tmp 27) (.seq (.ops Q9V) .ret) .skip)) (.seq (.ops Q8h) (.cond (.tmp 28) (.seq (.ops Q8g) (.cond (.tmp 33) (.seq (.ops Q8f) .ret) .skip)) (.seq (.ops Q8e) .ret))))))))) (.seq (.seq (.ops Q8d) (.cond (.tmp 42) (.seq (.ops Q8c) .ret) .skip)) (.seq (.seq (.ops Q8b) (.block 1 (.loop Q3y))) (.seq (.ops Q84) .ret)))))
@[reducible] def Qe : FuncId := 88
theorem Q8i : lowF Tryd.prog Tryd.f88 = some types_wrong_lc := by kernel_rfl
theorem Qa5 {a0 a1 : Value} {w : World} {R : Ending → World → Prop} (h : types_wrong_lc.wp Tryd.prog (retQ Tryd.prog [.tmp 4] R) (Qc [a0, a1]) w) : Calls Tryd.prog Qe ⟨[a0, a1]⟩ w R :=
  Q3 Tryd.func88 Q8i (by kernel_rfl) (by kernel_rfl) h

/- 89 -/
def Qfg : List GO := [qk 2 (.string ⟨#[]⟩)]
def Qff : List GO := [qm 3 0, qj 4 .lss 3 3 1, qm 5 4, qg 5 false (qm 6 0), qg 5 false (qj 7 .gtr 3 6 14), ⟨none, .pick 8 (.tmp 5) (.const (.bool true)) (.tmp 7)⟩]
def Qfe : List GO := [qk 2 (.string ⟨#[]⟩)]
def Qfd : List GO := [⟨none, .build 9 [(.string ⟨#[]⟩), (.string ⟨#[]⟩), (.string ⟨#[]⟩), (.string ⟨#[]⟩), (.string ⟨#[]⟩), (.string ⟨#[]⟩), (.string ⟨#[]⟩), (.string ⟨#[]⟩), (.string ⟨#[]⟩), (.string ⟨#[]⟩), (.string ⟨#[]⟩), (.string ⟨#[]⟩), (.string ⟨#[]⟩), (.string ⟨#[]⟩), (.string ⟨#[]⟩)] [(0, (1, (.const (.string ⟨#[]⟩)))), (1, (1, (.const (.string ⟨#[110]⟩)))), (2, (1, (.const (.string ⟨#[97, 98, 107]⟩)))), (3, (1, (.const (.string ⟨#[]⟩)))), (4, (1, (.const (.string ⟨#[97]⟩)))), (5, (1, (.const (.string ⟨#[97, 114]⟩)))), (6, (1, (.const (.string ⟨#[97, 107]⟩)))), (7, (1, (.const (.string ⟨#[97, 98, 107]⟩)))), (8, (1, (.const (.string ⟨#[97, 98]⟩)))), (9, (1, (.const (.string ⟨#[97, 98]⟩)))), (10, (1, (.const (.string ⟨#[97, 98, 99]⟩)))), (11, (1, (.const (.string ⟨#[97]⟩)))), (12, (1, (.const (.string ⟨#[]⟩)))), (13, (1, (.const (.string ⟨#[97]⟩)))), (14, (1, (.const (.string ⟨#[107, 103, 114]⟩))))]⟩, qm 10 0, ⟨none, .raw ⟨(some 11), (.index 142 (.tmp 9) (.tmp 10)), 9, "", #[], none⟩⟩, qm 2 11]
def code_has_lc : LC := (.seq (.ops Qfg) (.seq (.seq (.ops Qff) (.cond (.tmp 8) (.seq (.ops Qfe) .ret) .skip)) (.seq (.ops Qfd) .ret)))
@[reducible] def QfP : FuncId := 89
theorem Qez : lowF Tryd.prog Tryd.f89 = some code_has_lc := by kernel_rfl
theorem Q9g {a0 : Value} {w : World} {R : Ending → World → Prop} (h : code_has_lc.wp Tryd.prog (retQ Tryd.prog [.tmp 2] R) (Qc [a0]) w) : Calls Tryd.prog QfP ⟨[a0]⟩ w R :=
  Q3 Tryd.func89 Qez (by kernel_rfl) (by kernel_rfl) h

/- 90 -/
def Qew : List GO := [qk 4 (.bool false)]
def Qev : List GO := [qm 5 0, ⟨none, .raw ⟨(some 6), (.convert 9 95 (.tmp 5)), 95, "", #[], none⟩⟩, qm 7 1, ⟨none, .call (some 8) 104 [(.tmp 6), (.tmp 7)]⟩, qm 4 8]
def code_with_lc : LC := (.seq (.ops Qew) (.seq (.ops Qev) .ret))
@[reducible] def Qey : FuncId := 90
theorem Qdd : lowF Tryd.prog Tryd.f90 = some code_with_lc := by kernel_rfl
theorem Qex {a0 a1 : Value} {w : World} {R : Ending → World → Prop} (h : code_with_lc.wp Tryd.prog (retQ Tryd.prog [.tmp 4] R) (Qc [a0, a1]) w) : Calls Tryd.prog Qey ⟨[a0, a1]⟩ w R :=
  Q3 Tryd.func90 Qdd (by kernel_rfl) (by kernel_rfl) h

/- 91 -/
def Q7w : List GO := [qb 5 56 1, qb 6 61 2]
def Q7v : List GO := [qm 8 3, ⟨none, .un 9 .not (.tmp 8)⟩]
def Q7u : List GO := [qm 10 0, qf 11 6 0, ql 12 11, qj 13 .neq 3 12 0, qm 14 13, qg 14 false (qf 15 6 1), qg 14 false (ql 16 15), qg 14 false (qL 17 16), qg 14 false (qj 18 .gtr 3 17 0), ⟨none, .pick 19 (.tmp 14) (.const (.bool true)) (.tmp 18)⟩, qm 20 19, qg 20 false (qf 21 6 2), qg 20 false (ql 22 21), qg 20 false (qL 23 22), qg 20 false (qj 24 .gtr 3 23 0), ⟨none, .pick 25 (.tmp 20) (.const (.bool true)) (.tmp 24)⟩, ⟨none, .call (some 26) 37 [(.tmp 10), (.tmp 25), (.const (vi 4))]⟩]
def Q7t : List GO := [qm 27 0, qf 28 6 0, ql 29 28, qj 30 .lss 3 29 0, qm 31 30, qg 31 false (qf 32 6 0), qg 31 false (ql 33 32), qg 31 false (qf 34 5 3), qg 31 false (ql 35 34), qg 31 false (qL 36 35), qg 31 false (qt 37 .geq 3 33 36), ⟨none, .pick 38 (.tmp 31) (.const (.bool true)) (.tmp 37)⟩, ⟨none, .call (some 39) 37 [(.tmp 27), (.tmp 38), (.const (vi 1))]⟩]
def Q7s : List GO := [qm 40 0, qf 41 6 1, ql 42 41, qL 43 42, qj 44 .gtr 3 43 16, qm 45 44, qg 45 false (qf 46 6 2), qg 45 false (ql 47 46), qg 45 false (qL 48 47), qg 45 false (qj 49 .gtr 3 48 8), ⟨none, .pick 50 (.tmp 45) (.const (.bool true)) (.tmp 49)⟩, ⟨none, .call (some 51) 37 [(.tmp 40), (.tmp 50), (.const (vi 2))]⟩]
def code_judge_to_lc : LC := (.seq (.ops Q7w) (.seq (.seq (.ops Q7v) (.cond (.tmp 9) (.seq (.ops Q7u) .ret) .skip)) (.seq (.ops Q7t) (.ops Q7s))))
@[reducible] def Q5x : FuncId := 91
theorem Q6w : lowF Tryd.prog Tryd.f91 = some code_judge_to_lc := by kernel_rfl
theorem Q3u {a0 a1 a2 a3 : Value} {w : World} {R : Ending → World → Prop} (h : code_judge_to_lc.wp Tryd.prog (retQ Tryd.prog [] R) (Qc [a0, a1, a2, a3]) w) : Calls Tryd.prog Q5x ⟨[a0, a1, a2, a3]⟩ w R :=
  Q3 Tryd.func91 Q6w (by kernel_rfl) (by kernel_rfl) h

/- 93 -/
@[reducible] def internal_strconv_Itoa : FuncId := 93
/- 94 -/
/- 95 -/
@[reducible] def internal_strconv_lower : FuncId := 95
/- 96 -/
/- 97 -/
/- 98 -/
/- 99 -/
@[reducible] def internal_strconv_log10Pow2 : FuncId := 99
/- 100 -/
/- 101 -/
@[reducible] def internal_strconv_bool2_int : FuncId := 101
/- 102 -/
/- 103 -/
/- 104 -/
def Q2m : List GO := [qk 4 (.bool false)]
def Q2l : List GO := [qm 5 0, qm 6 1, ⟨none, .call (some 7) 108 [(.tmp 5), (.tmp 6)]⟩, qj 8 .geq 3 7 0, qm 4 8]
def slices_Contains_byte_byte_lc : LC := (.seq (.ops Q2m) (.seq (.ops Q2l) .ret))
@[reducible] def Q1D : FuncId := 104
theorem Q2d : lowF Tryd.prog Tryd.f104 = some slices_Contains_byte_byte_lc := by kernel_rfl
theorem Q2n {a0 a1 : Value} {w : World} {R : Ending → World → Prop} (h : slices_Contains_byte_byte_lc.wp Tryd.prog (retQ Tryd.prog [.tmp 4] R) (Qc [a0, a1]) w) : Calls Tryd.prog Q1D ⟨[a0, a1]⟩ w R :=
  Q3 Tryd.func104 Q2d (by kernel_rfl) (by kernel_rfl) h

/- 105 -/
/- 106 -/
/- 107 -/
/- 108 -/
def Q32 : List GO := [qk 4 (vi 0)]
def Q31 : List GO := [qm 6 0, qL 7 6, qk 8 (vi 0)]
def Q30 : List GO := [qt 9 .lss 3 8 7]
def Q2Z : List GO := [qm 10 8, qm 5 10]
def Q2Y : List GO := [qm 11 1, qm 12 0, qm 13 5, qi 14 1 12 13, ql 15 14, qt 16 .eql 5 11 15]
def Q2X : List GO := [qm 17 5, qm 4 17]
def Q2W : List GO := [qj 18 .add 3 8 1, qm 8 18]
def Q1C : LC := (.seq (.ops Q30) (.seq (.cond (.tmp 9) .skip (.exit 0)) (.seq (.block 1 (.seq (.ops Q2Z) (.seq (.ops Q2Y) (.cond (.tmp 16) (.seq (.ops Q2X) .ret) .skip)))) (.ops Q2W))))
def Q2V : List GO := [qk 4 (vi (-1))]
def slices_Index_byte_byte_lc : LC := (.seq (.ops Q32) (.seq (.seq (.ops Q31) (.block 0 (.loop Q1C))) (.seq (.ops Q2V) .ret)))
@[reducible] def QY : FuncId := 108
theorem Q2G : lowF Tryd.prog Tryd.f108 = some slices_Index_byte_byte_lc := by kernel_rfl
theorem Q33 {a0 a1 : Value} {w : World} {R : Ending → World → Prop} (h : slices_Index_byte_byte_lc.wp Tryd.prog (retQ Tryd.prog [.tmp 4] R) (Qc [a0, a1]) w) : Calls Tryd.prog QY ⟨[a0, a1]⟩ w R :=
  Q3 Tryd.func108 Q2G (by kernel_rfl) (by kernel_rfl) h

end Go.Proofs.YtjecflbbcnocdaaDoor
namespace Go.Proofs.YtjecflbbcnocdaaDoor
open Go.Lir
set_option maxHeartbeats 1000000
attribute [local irreducible] LC.wp Q1 Qu Qw retQ Q1z LO.wp Qb Calls
set_option linter.unusedSimpArgs false
set_option linter.unusedVariables false
theorem size_c : ∀ (t : Ty) {cx : Cx} {w : World} {L : List Res} {cs : List Value} {left : Int}, tyR.at cx cs t → -1 ≤ left → left ≤ 1000000 → St cx w L →
    Rets Tryd.prog Q45 [.agg ⟨cs⟩, .int .i64 left] w fun v w' => v = .int .i64 (t.size left) ∧ St cx w' L := by
  intro t
  induction t using Ty.ind with
  | h k r l ih =>
    intro cx w L cs left ht h1 h2 hS
    obtain ⟨v, rfl, hl⟩ := QS ht
    simp only [Ty.kind, Ty.r, Ty.l] at hl ht ⊢
    have hlen := hl.len
    rw [Ty.size]
    all_goals refine QdD ?_
    all_goals (unfold R_typeSize_lc; refine Q0 ?_; refine Q2 ?_; refine zb hS ?_; intro p2 w1 hS; refine zm ?_; refine zn ?_; refine Q0 ?_; refine Q2 ?_; refine zm ?_; refine zsu ?_; refine zm ?_; refine zn ?_; refine Q0 ?_; refine Q0 ?_; refine Q2 ?_; refine zm ?_; refine zn ?_; refine Q7 ?_)
    refine zoL hS [2] (fun A LL ρ' w' => ∃ (j : Nat) (n : Int), Has ρ' A ∧ Has ρ' [(1, .int .i64 n), (5, .int .i64 j)] ∧ (j ≤ l.length) ∧ (n ≤ 1000000) ∧ (-2 ≤ n) ∧ (Tys.size l (left - 1) = Tys.size (l.drop j) n) ∧ St cx w' (LL)) (fun ρ' _ => (l.length - iv (ρ' 5)).toNat) ?_ ?_
    · exact ⟨0, left - 1, zh, zh, (by omega), (by omega), (by omega), by simp, hS.sp⟩
    rintro ρ w1 ⟨j, n, hA, hρ, hj, hn, hn1, hd, hS⟩; obtain ⟨ρ, rfl⟩ := env2 hA hρ
    unfold Q5W
    all_goals (refine Q0 ?_; refine Q0 ?_; refine Q2 ?_; refine zm ?_; refine zf0 ?_; refine zl hS ?_; refine zL ?_)
    all_goals (first | (refine Q2D ?_) | (refine Q2E ?_) | (refine Q1i rfl rfl (fun hc => ?_) (fun hc => ?_)))
    all_goals (refine zm ?_; (first | refine zgn ?_ | (refine zgy ?_; refine zm ?_)))
    all_goals (first | refine zgn ?_ | (refine zgy ?_; (first | (refine QdU ?_) | (refine QdV ?_) | (refine Q3E rfl rfl (fun hc => ?_) (fun hc => ?_)))))
    all_goals ((first | (refine zpt ?_) | (refine zpf ?_)); refine zn ?_)
    all_goals
      first
      | (refine zcf ?_ -- Q45 c0
         all_goals (refine zex ?_; refine Q0 ?_; refine Q2 ?_; refine zm ?_; refine zm ?_; refine zn ?_; refine zr ?_; refine zf ?_)
         all_goals (refine ⟨_, rfl, ?_, hS.sp⟩; (rw [hd]; congr 1; first | (rw [Tys.size_neg _ (by omega)]; done) | (rw [List.drop_of_length_le (by omega), Tys.size]; done)); done))
      | (refine zct ?_ -- Q45 c0
         all_goals (refine zsk ?_; refine Q0 ?_; refine Q7 ?_; refine Q2 ?_; refine zf0 ?_; refine zl hS ?_; refine zm ?_; refine zi ?_; intro b1 o1 cs1 x1 hat1 hx1 he1; obtain ⟨vl1, rfl, hl1⟩ := QS he1; (first | (refine zv hS ?_) | (refine zvk hS ?_)); refine zm ?_; refine zR2 (c := ih _ (List.mem_of_getElem? (by assumption)) (by assumption) (by omega) (by omega) hS) (h := ?_); rintro v1 w1 ⟨rfl, hS⟩; refine zm ?_; refine zn ?_; refine Q2 ?_; refine zm ?_; refine zad ?_; refine zm ?_; refine zn ?_)
         all_goals (exact ⟨⟨j + 1, _, zh, zh, (by omega), by have := Ty.size_rng x1 (left := n) (by omega); omega, by have := Ty.size_rng x1 (left := n) (by omega); omega, by rw [hd, Q4 hx1, Tys.size, if_pos (by omega)], hS.sp⟩, Qk (by omega)⟩))
theorem great_c {t : Ty} {cx : Cx} {w : World} {L : List Res} {cs : List Value} (ht : tyR.at cx cs t) (hS : St cx w L) :
    Rets Tryd.prog Q9S [.agg ⟨cs⟩] w fun v w' => v = .bool t.great ∧ St cx w' L := by
  obtain ⟨v, rfl, hl⟩ := QS ht
  all_goals refine Qbs ?_
  all_goals (unfold R_GreatType_lc; refine Q0 ?_; refine Q2 ?_; refine zb hS ?_; intro p1 w1 hS; refine zm ?_; refine zn ?_; refine Q0 ?_; refine Q2 ?_; refine zv hS ?_; refine zR2 (c := size_c t ht (by omega) (by omega) hS) (h := ?_); rintro v1 w1 ⟨rfl, hS⟩; refine Qp rfl rfl ?_; refine zm ?_; refine zn ?_; refine zr ?_; refine zf ?_; refine ⟨_, rfl, ?_, hS.sp⟩; (rfl); done)
theorem Qd7 {l : List Ty} {cx : Cx} {w : World} {L : List Res} {v : Value} (hl : tyR.sl cx v l) (hS : St cx w L) :
    Rets Tryd.prog Q1P [v] w fun u w' => u = .bool (Tys.great l) ∧ St cx w' L := by
  have hlen := hl.len
  unfold Tys.great
  all_goals refine Q9D ?_
  all_goals (unfold R_greatTypes_lc; refine Q0 ?_; refine Q2 ?_; refine zm ?_; refine zn ?_; refine Q0 ?_; refine Q0 ?_; refine Q2 ?_; refine zm ?_; refine zL ?_)
  all_goals (first | (refine Q10 ?_) | (refine Q14 ?_) | (refine Qi rfl rfl (fun hc => ?_) (fun hc => ?_)))
  all_goals (refine zn ?_)
  all_goals
    first
    | (refine zct ?_ -- Q1P c0
       all_goals (refine Q0 ?_; refine Q2 ?_; refine zm ?_; refine zn ?_; refine zr ?_; refine zf ?_)
       all_goals (refine ⟨_, rfl, ?_, hS.sp⟩; rw [decide_eq_true (by omega), Bool.true_or]; done))
    | (refine zcf ?_ -- Q1P c0
       all_goals refine zsk ?_)
  all_goals (refine Q0 ?_; refine Q0 ?_; refine Q2 ?_; refine zm ?_; refine zn ?_; refine Q7 ?_)
  refine zoL hS [0] (fun A LL ρ' w' => ∃ (j : Nat), Has ρ' A ∧ Has ρ' [(3, .int .i64 j)] ∧ (j ≤ l.length) ∧ (l.any Ty.great = (l.drop j).any Ty.great) ∧ St cx w' (LL)) (fun ρ' _ => (l.length - iv (ρ' 3)).toNat) ?_ ?_
  · exact ⟨0, zh, zh, (by omega), by simp, hS.sp⟩
  rintro ρ w1 ⟨j, hA, hρ, hj, hd, hS⟩; obtain ⟨ρ, rfl⟩ := env2 hA hρ
  unfold Q3Z
  all_goals (refine Q0 ?_; refine Q0 ?_; refine Q2 ?_; refine zm ?_; refine zm ?_; refine zL ?_; refine Qp rfl rfl ?_; refine zn ?_)
  refine Qm rfl (fun hc => ?_) (fun hc => ?_)
  · skip
    all_goals (refine zsk ?_; refine Q0 ?_; refine Q7 ?_; refine Q0 ?_; refine Q2 ?_; refine zm ?_; refine zm ?_; refine zi ?_; intro b1 o1 cs1 x1 hat1 hx1 he1; obtain ⟨vl1, rfl, hl1⟩ := QS he1; (first | (refine zv hS ?_) | (refine zvk hS ?_)))
    all_goals (refine zR1 (c := great_c (by assumption) hS) (h := ?_); rintro v1 w1 ⟨rfl, hS⟩; cases hg : x1.great)
    all_goals (refine zn ?_)
    all_goals
      first
      | (refine zct ?_ -- Q1P c2
         all_goals (refine Q0 ?_; refine Q2 ?_; refine zm ?_; refine zn ?_; refine zr ?_; refine zf ?_)
         all_goals (first | (refine ⟨_, rfl, ?_, hS.sp⟩; rw [decide_eq_true (by omega), Bool.true_or]; done) | (refine ⟨_, rfl, ?_, hS.sp⟩; rw [decide_eq_false (by omega), hd, Bool.false_or, Q4 hx1, List.any_cons, hg, Bool.true_or]; done)))
      | (refine zcf ?_ -- Q1P c2
         all_goals refine zsk ?_)
    all_goals (refine Q2 ?_; refine zm ?_; refine zad ?_; refine zm ?_; refine zn ?_; exact ⟨⟨j + 1, zh, zh, (by omega), by rw [hd, Q4 hx1, List.any_cons, hg, Bool.false_or], hS.sp⟩, Qk (by omega)⟩)
  · skip
    all_goals (refine zex ?_; refine Q0 ?_; refine Q2 ?_; refine zm ?_; refine zn ?_; refine zr ?_; refine zf ?_; (first | (refine ⟨_, rfl, ?_, hS.sp⟩; rw [decide_eq_true (by omega), Bool.true_or]; done) | (refine ⟨_, rfl, ?_, hS.sp⟩; rw [decide_eq_false (by omega), hd, Bool.false_or, Q4 hx1, List.any_cons, hg, Bool.true_or]; done) | (refine ⟨_, rfl, ?_, hS.sp⟩; rw [decide_eq_false (by omega), hd, Bool.false_or, List.drop_of_length_le (by omega)]; rfl; done)))
theorem deep_c : ∀ (t : Ty) {cx : Cx} {w : World} {L : List Res} {cs : List Value} {left : Int}, tyR.at cx cs t → left ≤ 1000000 → St cx w L →
    Rets Tryd.prog Q2r [.agg ⟨cs⟩, .int .i64 left] w fun v w' => v = .bool (t.deepB left) ∧ St cx w' L := by
  intro t
  induction t using Ty.ind with
  | h k r l ih =>
    intro cx w L cs left ht h1 hS
    obtain ⟨v, rfl, hl⟩ := QS ht
    simp only [Ty.kind, Ty.r, Ty.l] at hl ht ⊢
    have hlen := hl.len
    rw [Ty.deepB]
    all_goals refine Qc4 ?_
    all_goals (unfold types_deep_lc; refine Q0 ?_; refine Q2 ?_; refine zb hS ?_; intro p2 w1 hS; refine zm ?_; refine zn ?_; refine Q0 ?_; refine Q0 ?_; refine Q2 ?_; refine zm ?_)
    all_goals (first | (refine Q2D ?_) | (refine Q2E ?_) | (refine Q1i rfl rfl (fun hc => ?_) (fun hc => ?_)))
    all_goals (refine zn ?_)
    all_goals
      first
      | (refine zct ?_ -- Q2r c0
         all_goals (refine Q0 ?_; refine Q2 ?_; refine zm ?_; refine zn ?_; refine zr ?_; refine zf ?_)
         all_goals (refine ⟨_, rfl, ?_, hS.sp⟩; rw [if_pos (by omega)]; done))
      | (refine zcf ?_ -- Q2r c0
         all_goals refine zsk ?_)
    all_goals (refine Q0 ?_; refine Q0 ?_; refine Q2 ?_; refine zf0 ?_; refine zl hS ?_; refine zL ?_; refine zm ?_; refine zn ?_; refine Q7 ?_)
    refine zoL hS [1, 10, 11] (fun A LL ρ' w' => ∃ (j : Nat), Has ρ' A ∧ Has ρ' [(12, .int .i64 j)] ∧ (j ≤ l.length) ∧ (Tys.deepB l (left - 1) = Tys.deepB (l.drop j) (left - 1)) ∧ St cx w' (LL)) (fun ρ' _ => (l.length - iv (ρ' 12)).toNat) ?_ ?_
    · exact ⟨0, zh, zh, (by omega), by simp, hS.sp⟩
    rintro ρ w1 ⟨j, hA, hρ, hj, hd, hS⟩; obtain ⟨ρ, rfl⟩ := env2 hA hρ
    unfold Q4X
    all_goals (refine Q0 ?_; refine Q2 ?_; refine Qp rfl rfl ?_; refine zn ?_; refine Q0 ?_)
    refine Qm rfl (fun hc => ?_) (fun hc => ?_)
    · skip
      all_goals (refine zsk ?_; refine Q0 ?_; refine Q7 ?_; refine Q0 ?_; refine Q2 ?_; refine zi ?_; intro b1 o1 cs1 x1 hat1 hx1 he1; obtain ⟨vl1, rfl, hl1⟩ := QS he1; (first | (refine zv hS ?_) | (refine zvk hS ?_)); refine Qf hS ?_; intro p6 w1 hS; refine zsn hS ?_; intro w1 hS; have hS := hS.ns; refine zn ?_; refine Q0 ?_; refine Q2 ?_; refine zv hS ?_; refine zm ?_; refine zsu ?_)
      all_goals (refine zR2 (c := ih _ (List.mem_of_getElem? (by assumption)) (by assumption) (by omega) hS) (h := ?_); rintro v1 w1 ⟨rfl, hS⟩; cases hg : x1.deepB (left - 1))
      all_goals (refine znt ?_; refine zn ?_)
      all_goals
        first
        | (refine zcf ?_ -- Q2r c2
           all_goals refine zsk ?_)
        | (refine zct ?_ -- Q2r c2
           all_goals (refine Q0 ?_; refine Q2 ?_; refine zm ?_; refine zn ?_; refine zr ?_; refine zf ?_)
           all_goals (first | (refine ⟨_, rfl, ?_, hS.sp⟩; rw [if_pos (by omega)]; done) | (refine ⟨_, rfl, ?_, hS.sp⟩; rw [if_neg (by omega), hd, Q4 hx1, Tys.deepB, hg, Bool.false_and]; done)))
      all_goals (refine Q2 ?_; refine zad ?_; refine zm ?_; refine zn ?_; exact ⟨⟨j + 1, zh, zh, (by omega), by rw [hd, Q4 hx1, Tys.deepB, hg, Bool.true_and], hS.sp⟩, Qk (by omega)⟩)
    · skip
      all_goals (refine zex ?_; refine Q0 ?_; refine Q2 ?_; refine zm ?_; refine zn ?_; refine zr ?_; refine zf ?_; (first | (refine ⟨_, rfl, ?_, hS.sp⟩; rw [if_pos (by omega)]; done) | (refine ⟨_, rfl, ?_, hS.sp⟩; rw [if_neg (by omega), hd, Q4 hx1, Tys.deepB, hg, Bool.false_and]; done) | (refine ⟨_, rfl, ?_, hS.sp⟩; rw [if_neg (by omega), hd, List.drop_of_length_le (by omega), Tys.deepB]; done)))
theorem wrong_c : ∀ (t : Ty) {cx : Cx} {w : World} {L : List Res} {cs : List Value} {regs : Int}, tyR.at cx cs t → St cx w L →
    Rets Tryd.prog Qe [.agg ⟨cs⟩, .int .i64 regs] w fun v w' => v = .int .i64 (t.wrong 8 regs) ∧ St cx w' L := by
  intro t
  induction t using Ty.ind with
  | h k r l ih =>
    intro cx w L cs regs ht hS
    obtain ⟨v, rfl, hl⟩ := QS ht
    simp only [Ty.kind, Ty.r, Ty.l] at hl ht ⊢
    have hlen := hl.len
    rw [Ty.wrong]
    all_goals refine Qa5 ?_
    all_goals (unfold types_wrong_lc; refine Q0 ?_; refine Q2 ?_; refine zb hS ?_; intro p2 w1 hS; refine zm ?_; refine zn ?_)
    refine zML hS [1, 2] (fun A LL ρ' w' => Has ρ' A ∧ Has ρ' [] ∧ (1 ≤ k ∧ k ≤ 4 ∧ k ≠ 1 ∧ (k ≠ 3 → l.length = 0) ∧ l.length ≤ 8) ∧ St cx w' (LL)) ?_ ?_
    · skip
      all_goals (refine Q0 ?_; refine Q2 ?_; refine zf0 ?_; refine zl hS ?_; refine zn ?_; refine Q7 ?_; refine Q0 ?_; refine Q2 ?_)
      all_goals (first | (refine QM ?_) | (refine QR ?_) | (refine Q9 rfl rfl (fun hc => ?_) (fun hc => ?_)))
      all_goals (refine zm ?_; refine zn ?_)
      all_goals
        first
        | (refine zct ?_ -- Qe c0
           all_goals (refine Q0 ?_; refine Q0 ?_; refine Q2 ?_; refine zf0 ?_; refine zl hS ?_)
           all_goals (first | (refine Q22 ?_) | (refine Q23 ?_) | (refine QQ rfl rfl (fun hc => ?_) (fun hc => ?_)))
           all_goals (refine zm ?_; (first | refine zgn ?_ | (refine zgy ?_; refine zf0 ?_)); (first | refine zgn ?_ | (refine zgy ?_; refine zl hS ?_)); (first | refine zgn ?_ | (refine zgy ?_; refine zL ?_)))
           all_goals (first | refine zgn ?_ | (refine zgy ?_; (first | (refine Q10 ?_) | (refine Q14 ?_) | (refine Qi rfl rfl (fun hc => ?_) (fun hc => ?_)))))
           all_goals ((first | (refine zpt ?_) | (refine zpf ?_)); refine zn ?_)
           all_goals
             first
             | (refine zct ?_ -- Qe c1
                all_goals (refine Q0 ?_; refine Q2 ?_; refine zm ?_; refine zn ?_; refine zr ?_; refine zf ?_)
                all_goals (refine ⟨_, rfl, ?_, hS.sp⟩; (repeat (first | rw [if_pos (by omega)] | rw [if_neg (by omega)])); done))
             | (refine zcf ?_ -- Qe c1
                all_goals refine zsk ?_)
           all_goals (refine Q0 ?_; refine Q2 ?_; refine zm ?_; refine zn ?_; refine zr ?_; refine zf ?_)
           all_goals (first | (refine ⟨_, rfl, ?_, hS.sp⟩; (repeat (first | rw [if_pos (by omega)] | rw [if_neg (by omega)])); done) | (refine ⟨_, rfl, ?_, hS.sp⟩; ((repeat (first | rw [if_pos (by omega)] | rw [if_neg (by omega)])); rw [hd, Q4 hx1, Tys.wrong, if_pos (by assumption)]); done) | (refine ⟨_, rfl, ?_, hS.sp⟩; ((repeat (first | rw [if_pos (by omega)] | rw [if_neg (by omega)])); rw [List.eq_nil_of_length_eq_zero (l := l) (by omega), Tys.wrong]); done)))
        | (refine zcf ?_ -- Qe c0
           all_goals (refine Q0 ?_; refine Q0 ?_; refine Q2 ?_)
           all_goals (first | (refine QM ?_) | (refine QR ?_) | (refine Q9 rfl rfl (fun hc => ?_) (fun hc => ?_)))
           all_goals (refine zm ?_; refine zn ?_)
           all_goals
             first
             | (refine zct ?_ -- Qe c2
                all_goals refine zsk ?_)
             | (refine zcf ?_ -- Qe c2
                all_goals (refine Q2 ?_)
                all_goals (first | (refine QM ?_) | (refine QR ?_) | (refine Q9 rfl rfl (fun hc => ?_) (fun hc => ?_)))
                all_goals (refine zm ?_)
                all_goals refine zn ?_)
           all_goals
             first
             | (refine zct ?_ -- Qe c3
                all_goals (refine Q0 ?_; refine Q2 ?_; refine zf0 ?_; refine zl hS ?_; refine zL ?_)
                all_goals (first | (refine Q10 ?_) | (refine Q14 ?_) | (refine Qi rfl rfl (fun hc => ?_) (fun hc => ?_)))
                all_goals (refine zn ?_)
                all_goals
                  first
                  | (refine zct ?_ -- Qe c4
                     all_goals (refine Q0 ?_; refine Q2 ?_; refine zm ?_; refine zn ?_; refine zr ?_; refine zf ?_)
                     all_goals (refine ⟨_, rfl, ?_, hS.sp⟩; (repeat (first | rw [if_pos (by omega)] | rw [if_neg (by omega)])); done))
                  | (refine zcf ?_ -- Qe c4
                     all_goals refine zsk ?_))
             | (refine zcf ?_ -- Qe c3
                all_goals (refine Q0 ?_; refine Q2 ?_)
                all_goals (first | (refine QM ?_) | (refine QR ?_) | (refine Q9 rfl rfl (fun hc => ?_) (fun hc => ?_)))
                all_goals (refine zm ?_; refine zn ?_)
                all_goals
                  first
                  | (refine zct ?_ -- Qe c5
                     all_goals (refine Q0 ?_; refine Q2 ?_; refine zf0 ?_; refine zl hS ?_; refine zL ?_)
                     all_goals (first | (refine Q10 ?_) | (refine Q14 ?_) | (refine Qi rfl rfl (fun hc => ?_) (fun hc => ?_)))
                     all_goals (refine zn ?_)
                     all_goals
                       first
                       | (refine zct ?_ -- Qe c6
                          all_goals (refine Q0 ?_; refine Q2 ?_; refine zm ?_; refine zn ?_; refine zr ?_; refine zf ?_)
                          all_goals (refine ⟨_, rfl, ?_, hS.sp⟩; (repeat (first | rw [if_pos (by omega)] | rw [if_neg (by omega)])); done))
                       | (refine zcf ?_ -- Qe c6
                          all_goals refine zsk ?_))
                  | (refine zcf ?_ -- Qe c5
                     all_goals (refine Q0 ?_; refine Q2 ?_; refine zm ?_; refine zn ?_; refine zr ?_; refine zf ?_)
                     all_goals (refine ⟨_, rfl, ?_, hS.sp⟩; (repeat (first | rw [if_pos (by omega)] | rw [if_neg (by omega)])); done))))
      all_goals (exact ⟨zh, zh, by omega, hS.sp⟩)
    rintro ρ w1 ⟨hA, hρ, hk, hS⟩; obtain ⟨ρ, rfl⟩ := env2 hA hρ
    all_goals (refine Q0 ?_; refine Q0 ?_; refine Q2 ?_; refine zf0 ?_; refine zl hS ?_)
    all_goals (first | (refine Q2D ?_) | (refine Q2E ?_) | (refine Q1i rfl rfl (fun hc => ?_) (fun hc => ?_)))
    all_goals (refine zm ?_; (first | refine zgn ?_ | (refine zgy ?_; refine zf0 ?_)); (first | refine zgn ?_ | (refine zgy ?_; refine zl hS ?_)); (first | refine zgn ?_ | (refine zgy ?_; refine zm ?_)))
    all_goals (first | refine zgn ?_ | (refine zgy ?_; (first | (refine QdU ?_) | (refine QdV ?_) | (refine Q3E rfl rfl (fun hc => ?_) (fun hc => ?_)))))
    all_goals ((first | (refine zpt ?_) | (refine zpf ?_)); refine zn ?_)
    all_goals
      first
      | (refine zct ?_ -- Qe c7
         all_goals (refine Q0 ?_; refine Q2 ?_; refine zm ?_; refine zn ?_; refine zr ?_; refine zf ?_)
         all_goals (refine ⟨_, rfl, ?_, hS.sp⟩; (repeat (first | rw [if_pos (by omega)] | rw [if_neg (by omega)])); done))
      | (refine zcf ?_ -- Qe c7
         all_goals refine zsk ?_)
    all_goals (refine Q0 ?_; refine Q0 ?_; refine Q2 ?_; refine zf0 ?_; refine zl hS ?_; refine zL ?_; refine zm ?_; refine zn ?_; refine Q7 ?_)
    refine zoL hS [1, 44, 45] (fun A LL ρ' w' => ∃ (j : Nat), Has ρ' A ∧ Has ρ' [(46, .int .i64 j)] ∧ (j ≤ l.length) ∧ (Tys.wrong 8 l regs = Tys.wrong 8 (l.drop j) regs) ∧ St cx w' (LL)) (fun ρ' _ => (l.length - iv (ρ' 46)).toNat) ?_ ?_
    · exact ⟨0, zh, zh, (by omega), by simp, hS.sp⟩
    rintro ρ w1 ⟨j, hA, hρ, hj, hd, hS⟩; obtain ⟨ρ, rfl⟩ := env2 hA hρ
    unfold Q3y
    all_goals (refine Q0 ?_; refine Q2 ?_; refine Qp rfl rfl ?_; refine zn ?_; refine Q0 ?_)
    refine Qm rfl (fun hc => ?_) (fun hc => ?_)
    · skip
      all_goals (refine zsk ?_; refine Q0 ?_; refine Q7 ?_; refine Q0 ?_; refine Q2 ?_; refine zi ?_; intro b1 o1 cs1 x1 hat1 hx1 he1; obtain ⟨vl1, rfl, hl1⟩ := QS he1; (first | (refine zv hS ?_) | (refine zvk hS ?_)); refine Qf hS ?_; intro p6 w1 hS; refine zsn hS ?_; intro w1 hS; have hS := hS.ns; refine zn ?_; refine Q0 ?_; refine Q2 ?_; refine zv hS ?_; refine zm ?_; refine zR2 (c := ih _ (List.mem_of_getElem? (by assumption)) (by assumption) hS) (h := ?_); rintro v1 w1 ⟨rfl, hS⟩; refine zm ?_; refine zn ?_; refine Q0 ?_; refine Q2 ?_; refine zm ?_)
      all_goals (first | (refine Q22 ?_) | (refine Q23 ?_) | (refine QQ rfl rfl (fun hc => ?_) (fun hc => ?_)))
      all_goals (refine zn ?_)
      all_goals
        first
        | (refine zct ?_ -- Qe c9
           all_goals (refine Q0 ?_; refine Q2 ?_; refine zm ?_; refine zm ?_; refine zn ?_; refine zr ?_; refine zf ?_)
           all_goals (first | (refine ⟨_, rfl, ?_, hS.sp⟩; (repeat (first | rw [if_pos (by omega)] | rw [if_neg (by omega)])); done) | (refine ⟨_, rfl, ?_, hS.sp⟩; ((repeat (first | rw [if_pos (by omega)] | rw [if_neg (by omega)])); rw [hd, Q4 hx1, Tys.wrong, if_pos (by assumption)]); done)))
        | (refine zcf ?_ -- Qe c9
           all_goals refine zsk ?_)
      all_goals (refine Q2 ?_; refine zad ?_; refine zm ?_; refine zn ?_; exact ⟨⟨j + 1, zh, zh, (by omega), by rw [hd, Q4 hx1, Tys.wrong, if_neg (by omega)], hS.sp⟩, Qk (by omega)⟩)
    · skip
      all_goals (refine zex ?_; refine Q0 ?_; refine Q2 ?_; refine zm ?_; refine zn ?_; refine zr ?_; refine zf ?_; (first | (refine ⟨_, rfl, ?_, hS.sp⟩; (repeat (first | rw [if_pos (by omega)] | rw [if_neg (by omega)])); done) | (refine ⟨_, rfl, ?_, hS.sp⟩; ((repeat (first | rw [if_pos (by omega)] | rw [if_neg (by omega)])); rw [hd, Q4 hx1, Tys.wrong, if_pos (by assumption)]); done) | (refine ⟨_, rfl, ?_, hS.sp⟩; ((repeat (first | rw [if_pos (by omega)] | rw [if_neg (by omega)])); rw [List.eq_nil_of_length_eq_zero (l := l) (by omega), Tys.wrong]); done) | (refine ⟨_, rfl, ?_, hS.sp⟩; ((repeat (first | rw [if_pos (by omega)] | rw [if_neg (by omega)])); rw [hd, List.drop_of_length_le (by omega), Tys.wrong]); done)))
theorem tcheck_c {t : Ty} {cx : Cx} {w : World} {L : List Res} {cs : List Value} {regs : Int} (ht : tyR.at cx cs t) (hS : St cx w L) :
    Rets Tryd.prog Q3k [.agg ⟨cs⟩, .int .i64 regs] w fun v w' => v = .int .i64 (t.fault regs) ∧ St cx w' L := by
  obtain ⟨v, rfl, hl⟩ := QS ht
  unfold Ty.fault
  all_goals refine Qaj ?_
  all_goals (unfold types_Check_lc; refine Q0 ?_; refine Q2 ?_; refine zb hS ?_; intro p2 w1 hS; refine zm ?_; refine zn ?_; refine Q0 ?_; refine Q0 ?_; refine Q2 ?_; refine zv hS ?_)
  all_goals (refine zR2 (c := deep_c t ht (by omega) hS) (h := ?_); rintro v1 w1 ⟨rfl, hS⟩; cases hg : t.deepB 4)
  all_goals (refine znt ?_; refine zn ?_)
  all_goals
    first
    | (refine zct ?_ -- Q3k c0
       all_goals (refine Q0 ?_; refine Q2 ?_; refine zm ?_; refine zn ?_; refine zr ?_; refine zf ?_)
       all_goals (refine ⟨_, rfl, ?_, hS.sp⟩; (rfl); done))
    | (refine zcf ?_ -- Q3k c0
       all_goals refine zsk ?_)
  all_goals (refine Q0 ?_; refine Q2 ?_; refine zv hS ?_; refine zm ?_; refine zR2 (c := wrong_c t ht hS) (h := ?_); rintro v1 w1 ⟨rfl, hS⟩; refine zm ?_; refine zn ?_; refine zr ?_; refine zf ?_; refine ⟨_, rfl, ?_, hS.sp⟩; (rfl); done)
end Go.Proofs.YtjecflbbcnocdaaDoor
namespace Go.Proofs.YtjecflbbcnocdaaDoor
open Go.Lir
set_option maxRecDepth 100000
theorem el_T95 : Q2N Tryd.prog 95 = some (5, 1, 1, [(.int .u8 0)]) := by kernel_rfl
theorem Qq : Q2N Tryd.prog 117 = some (9, 1, 16, [(.string ⟨#[]⟩)]) := by kernel_rfl
theorem QZ : ∃ e2, Tryd.prog.underlying 117 = some (.slice e2) := ⟨9, by kernel_rfl⟩
end Go.Proofs.YtjecflbbcnocdaaDoor
namespace Go.Proofs.YtjecflbbcnocdaaDoor
open Go.Lir
set_option maxHeartbeats 1000000
attribute [local irreducible] LC.wp Q1 Qu Qw retQ Q1z LO.wp Qb Calls
set_option linter.unusedSimpArgs false
set_option linter.unusedVariables false
end Go.Proofs.YtjecflbbcnocdaaDoor
namespace Go.Proofs.YtjecflbbcnocdaaDoor
open Go.Lir
set_option maxHeartbeats 1000000
attribute [local irreducible] LC.wp Q1 Qu Qw retQ Q1z LO.wp Qb Calls
set_option linter.unusedSimpArgs false
set_option linter.unusedVariables false
theorem Qe9 {l : List Ty} (ih : ∀ x ∈ l, ∀ (y : Ty) {cx : Cx} {w : World} {L : List Res} {cs ds : List Value}, tyR.at cx cs x → tyR.at cx ds y → St cx w L → Rets Tryd.prog Q6Q [.agg ⟨cs⟩, .agg ⟨ds⟩] w fun u w' => u = .bool (decide (x = y)) ∧ St cx w' L)
    {m : List Ty} {cx : Cx} {w : World} {L : List Res} {v v2 : Value} (hl : tyR.sl cx v l) (hm : tyR.sl cx v2 m) (hS : St cx w L) : Rets Tryd.prog Q1M [v, v2] w fun u w' => u = .bool (decide (l = m)) ∧ St cx w' L := by
  have hlen := hl.len
  all_goals refine Qbm ?_
  all_goals (unfold R_SameTypes_lc; refine Q0 ?_; refine Q2 ?_; refine zm ?_; refine zn ?_; refine Q0 ?_; refine Q0 ?_; refine Q2 ?_; refine zm ?_; refine zL ?_; refine zm ?_; refine zL ?_)
  all_goals (first | (refine Q22 ?_) | (refine Q23 ?_) | (refine QQ rfl rfl (fun hc => ?_) (fun hc => ?_)))
  all_goals (refine zn ?_)
  all_goals
    first
    | (refine zct ?_ -- Q1M c0
       all_goals (refine Q0 ?_; refine Q2 ?_; refine zm ?_; refine zn ?_; refine zr ?_; refine zf ?_)
       all_goals (refine ⟨_, rfl, ?_, hS.sp⟩; rw [decide_eq_false]; exact fun e => absurd (congrArg List.length e) (by omega); done))
    | (refine zcf ?_ -- Q1M c0
       all_goals refine zsk ?_)
  all_goals (refine Q0 ?_; refine Q0 ?_; refine Q2 ?_; refine zm ?_; refine zn ?_; refine Q7 ?_)
  refine zoL hS [0, 1] (fun A LL ρ' w' => ∃ (j : Nat), Has ρ' A ∧ Has ρ' [(5, .int .i64 j)] ∧ (j ≤ l.length) ∧ (l.length = m.length) ∧ (l = m ↔ l.drop j = m.drop j) ∧ St cx w' (LL)) (fun ρ' _ => (l.length - iv (ρ' 5)).toNat) ?_ ?_
  · exact ⟨0, zh, zh, (by omega), (by omega), by simp, hS.sp⟩
  rintro ρ w1 ⟨j, hA, hρ, hj, hlm, hd, hS⟩; obtain ⟨ρ, rfl⟩ := env2 hA hρ
  unfold Q4s
  all_goals (refine Q0 ?_; refine Q0 ?_; refine Q2 ?_; refine zm ?_; refine zm ?_; refine zL ?_; refine Qp rfl rfl ?_; refine zn ?_)
  refine Qm rfl (fun hc => ?_) (fun hc => ?_)
  · skip
    all_goals (refine zsk ?_; refine Q0 ?_; refine Q7 ?_; refine Q0 ?_; refine zD [(0, none), (1, none), (2, none), (3, none), (4, none), (5, none), (6, none), (7, none), (8, some none), (9, some none)] ?_; have hS := hS.drew; refine zm ?_; refine zm ?_; refine zi ?_; intro b1 o1 cs1 x1 hat1 hx1 he1; obtain ⟨vl1, rfl, hl1⟩ := QS he1; (first | (refine zv hS ?_) | (refine zvk hS ?_)); refine zm ?_; refine zm ?_; refine zi ?_; intro b2 o2 cs2 x2 hat2 hx2 he2; obtain ⟨vl2, rfl, hl2⟩ := QS he2; (first | (refine zv hS ?_) | (refine zvk hS ?_)))
    all_goals (refine zR2 (c := ih _ (List.mem_of_getElem? hx1) _ he1 he2 hS) (h := ?_); rintro v1 w1 ⟨rfl, hS⟩; (cases hdec : decide (x1 = x2)); have hg := of_decide_eq_false hdec; rotate_left; have hg := of_decide_eq_true hdec; all_goals skip)
    all_goals (refine znt ?_; refine zn ?_)
    all_goals
      first
      | (refine zct ?_ -- Q1M c2
         all_goals (refine Q0 ?_; refine Q2 ?_; refine zm ?_; refine zn ?_; refine zr ?_; refine zf ?_)
         all_goals (first | (refine ⟨_, rfl, ?_, hS.sp⟩; rw [decide_eq_false]; exact fun e => absurd (congrArg List.length e) (by omega); done) | (refine ⟨_, rfl, ?_, hS.sp⟩; rw [decide_eq_false]; rw [hd, Q4 hx1, Q4 hx2]; simp [hg]; done)))
      | (refine zcf ?_ -- Q1M c2
         all_goals refine zsk ?_)
    all_goals (refine Q2 ?_; refine zm ?_; refine zad ?_; refine zm ?_; refine zn ?_; exact ⟨⟨j + 1, zh, zh, (by omega), (by omega), by rw [hd, Q4 hx1, Q4 hx2, hg]; simp, hS.sp⟩, Qk (by omega)⟩)
  · skip
    all_goals (refine zex ?_; refine Q0 ?_; refine Q2 ?_; refine zm ?_; refine zn ?_; refine zr ?_; refine zf ?_; (first | (refine ⟨_, rfl, ?_, hS.sp⟩; rw [decide_eq_false]; exact fun e => absurd (congrArg List.length e) (by omega); done) | (refine ⟨_, rfl, ?_, hS.sp⟩; rw [decide_eq_false]; rw [hd, Q4 hx1, Q4 hx2]; simp [hg]; done) | (refine ⟨_, rfl, ?_, hS.sp⟩; rw [decide_eq_true]; rw [hd, List.drop_of_length_le (by omega), List.drop_of_length_le (by omega)]; done)))
theorem rsame_c : ∀ (t u : Ty) {cx : Cx} {w : World} {L : List Res} {cs ds : List Value}, tyR.at cx cs t → tyR.at cx ds u → St cx w L →
    Rets Tryd.prog Q6Q [.agg ⟨cs⟩, .agg ⟨ds⟩] w fun v w' => v = .bool (decide (t = u)) ∧ St cx w' L := by
  intro t
  induction t using Ty.ind with
  | h k r l ih =>
    rintro ⟨k2, r2, m⟩ cx w L cs ds ht hu hS
    obtain ⟨v, rfl, hl⟩ := QS ht
    obtain ⟨v2, rfl, hm⟩ := QS hu
    simp only [Ty.kind, Ty.r, Ty.l, Ty.mk.injEq] at hl hm ht hu ⊢
    all_goals refine QdH ?_
    all_goals (unfold R_SameType_lc; refine Q0 ?_; refine Q2 ?_; refine zb hS ?_; intro p2 w1 hS; refine zb hS ?_; intro p3 w1 hS; refine zm ?_; refine zn ?_; refine Q0 ?_; refine Q2 ?_; refine zf0 ?_; refine zl hS ?_; refine zf0 ?_; refine zl hS ?_)
    all_goals (first | (refine QM ?_) | (refine QR ?_) | (refine Q9 rfl rfl (fun hc => ?_) (fun hc => ?_)))
    all_goals (refine zm ?_; (first | refine zgn ?_ | (refine zgy ?_; refine zf0 ?_)); (first | refine zgn ?_ | (refine zgy ?_; refine zl hS ?_)); (first | refine zgn ?_ | (refine zgy ?_; refine zf0 ?_)); (first | refine zgn ?_ | (refine zgy ?_; refine zl hS ?_)))
    all_goals (first | refine zgn ?_ | (refine zgy ?_; (first | (refine QM ?_) | (refine QR ?_) | (refine Q9 rfl rfl (fun hc => ?_) (fun hc => ?_)))))
    all_goals ((first | (refine zpt ?_) | (refine zpf ?_)); refine zm ?_; (first | refine zgn ?_ | (refine zgy ?_; refine zf0 ?_)); (first | refine zgn ?_ | (refine zgy ?_; refine zl hS ?_)); (first | refine zgn ?_ | (refine zgy ?_; refine zf0 ?_)); (first | refine zgn ?_ | (refine zgy ?_; refine zl hS ?_)); (first | refine zgn ?_ | (refine zgy ?_; refine zR2 (c := Qe9 ih hl hm hS) (h := ?_); rintro v1 w1 ⟨rfl, hS⟩)); (first | (refine zpt ?_) | (refine zpf ?_)); refine zm ?_; refine zn ?_; refine zr ?_; refine zf ?_; refine ⟨_, rfl, ?_, hS.sp⟩; (simp [*]); done)
theorem Q4Z {l m : List Ty} {cx : Cx} {w : World} {L : List Res} {v v2 : Value} (hl : tyR.sl cx v l) (hm : tyR.sl cx v2 m) (hS : St cx w L) : Rets Tryd.prog Q1M [v, v2] w fun u w' => u = .bool (decide (l = m)) ∧ St cx w' L :=
  Qe9 (fun x _ => rsame_c x) hl hm hS
/-- slices.EqualFunc, by a function that tells whether two are the same. -/
theorem eqfT_c {l : List Ty} {f : FuncId} (hf : Q5v Tryd.prog f = true) {m : List Ty} {cx : Cx} {w : World} {L : List Res} {v v2 : Value}
    (hcall : ∀ x ∈ l, ∀ y ∈ m, ∀ {w : World} {L : List Res} {cs ds : List Value}, tyR.at cx cs x → tyR.at cx ds y → St cx w L → Rets Tryd.prog f [.agg ⟨cs⟩, .agg ⟨ds⟩] w fun u w' => u = .bool (decide (x = y)) ∧ St cx w' L)
    (hl : tyR.sl cx v l) (hm : tyR.sl cx v2 m) (hS : St cx w L) : Rets Tryd.prog Q5 [v, v2, .func (.func f) #[] #[]] w fun u w' => u = .bool (decide (l = m)) ∧ St cx w' L := by
  have hlen := hl.len
  all_goals refine QL ?_
  all_goals (unfold slices_EqualFunc_api_Type_api_Type_api_Type_api_Type_lc; refine Q0 ?_; refine Q2 ?_; refine zm ?_; refine zn ?_; refine Q0 ?_; refine Q0 ?_; refine Q2 ?_; refine zm ?_; refine zL ?_; refine zm ?_; refine zL ?_)
  all_goals (first | (refine Q22 ?_) | (refine Q23 ?_) | (refine QQ rfl rfl (fun hc => ?_) (fun hc => ?_)))
  all_goals (refine zn ?_)
  all_goals
    first
    | (refine zct ?_ -- Q5 c0
       all_goals (refine Q0 ?_; refine Q2 ?_; refine zm ?_; refine zn ?_; refine zr ?_; refine zf ?_)
       all_goals (refine ⟨_, rfl, ?_, hS.sp⟩; rw [decide_eq_false]; exact fun e => absurd (congrArg List.length e) (by omega); done))
    | (refine zcf ?_ -- Q5 c0
       all_goals refine zsk ?_)
  all_goals (refine Q0 ?_; refine Q0 ?_; refine Q2 ?_; refine zm ?_; refine zL ?_; refine zm ?_; refine zn ?_; refine Q7 ?_)
  refine zoL hS [1, 2, 15, 16] (fun A LL ρ' w' => ∃ (j : Nat), Has ρ' A ∧ Has ρ' [(17, .int .i64 j)] ∧ (j ≤ l.length) ∧ (l.length = m.length) ∧ (l = m ↔ l.drop j = m.drop j) ∧ St cx w' (LL)) (fun ρ' _ => (l.length - iv (ρ' 17)).toNat) ?_ ?_
  · exact ⟨0, zh, zh, (by omega), (by omega), by simp, hS.sp⟩
  rintro ρ w1 ⟨j, hA, hρ, hj, hlm, hd, hS⟩; obtain ⟨ρ, rfl⟩ := env2 hA hρ
  unfold Qg
  all_goals (refine Q0 ?_; refine Q2 ?_; refine Qp rfl rfl ?_; refine zn ?_; refine Q0 ?_)
  refine Qm rfl (fun hc => ?_) (fun hc => ?_)
  · skip
    all_goals (refine zsk ?_; refine Q0 ?_; refine Q7 ?_; refine Q0 ?_; refine Q2 ?_; refine zm ?_; refine zi ?_; intro b1 o1 cs1 x1 hat1 hx1 he1; obtain ⟨vl1, rfl, hl1⟩ := QS he1; (first | (refine zv hS ?_) | (refine zvk hS ?_)); refine Qf hS ?_; intro p8 w1 hS; refine zm ?_; refine zsn hS ?_; intro w1 hS; have hS := hS.ns; refine zn ?_; refine Q0 ?_; refine Q2 ?_; refine zm ?_; refine zm ?_; refine zi ?_; intro b2 o2 cs2 x2 hat2 hx2 he2; obtain ⟨vl2, rfl, hl2⟩ := QS he2; (first | (refine zv hS ?_) | (refine zvk hS ?_)); refine Qf hS ?_; intro p9 w1 hS; refine zsn hS ?_; intro w1 hS; have hS := hS.ns; refine zn ?_; refine Q0 ?_; refine Q2 ?_; refine zm ?_; refine zv hS ?_; refine zv hS ?_)
    all_goals (refine Qgw rfl hf (by rfl) (hcall _ (List.mem_of_getElem? hx1) _ (List.mem_of_getElem? hx2) he1 he2 hS) ?_; rintro v1 w1 ⟨rfl, hS⟩; (cases hdec : decide (x1 = x2)); have hg := of_decide_eq_false hdec; rotate_left; have hg := of_decide_eq_true hdec; all_goals skip)
    all_goals (refine znt ?_; refine zn ?_)
    all_goals
      first
      | (refine zct ?_ -- Q5 c2
         all_goals (refine Q0 ?_; refine Q2 ?_; refine zm ?_; refine zn ?_; refine zr ?_; refine zf ?_)
         all_goals (first | (refine ⟨_, rfl, ?_, hS.sp⟩; rw [decide_eq_false]; exact fun e => absurd (congrArg List.length e) (by omega); done) | (refine ⟨_, rfl, ?_, hS.sp⟩; rw [decide_eq_false]; rw [hd, Q4 hx1, Q4 hx2]; simp [hg]; done)))
      | (refine zcf ?_ -- Q5 c2
         all_goals refine zsk ?_)
    all_goals (refine Q2 ?_; refine zad ?_; refine zm ?_; refine zn ?_; exact ⟨⟨j + 1, zh, zh, (by omega), (by omega), by rw [hd, Q4 hx1, Q4 hx2, hg]; simp, hS.sp⟩, Qk (by omega)⟩)
  · skip
    all_goals (refine zex ?_; refine Q0 ?_; refine Q2 ?_; refine zm ?_; refine zn ?_; refine zr ?_; refine zf ?_; (first | (refine ⟨_, rfl, ?_, hS.sp⟩; rw [decide_eq_false]; exact fun e => absurd (congrArg List.length e) (by omega); done) | (refine ⟨_, rfl, ?_, hS.sp⟩; rw [decide_eq_false]; rw [hd, Q4 hx1, Q4 hx2]; simp [hg]; done) | (refine ⟨_, rfl, ?_, hS.sp⟩; rw [decide_eq_true]; rw [hd, List.drop_of_length_le (by omega), List.drop_of_length_le (by omega)]; done)))
theorem psame_c : ∀ (t u : Ty) {cx : Cx} {w : World} {L : List Res} {cs ds : List Value}, tyR.at cx cs t → tyR.at cx ds u → St cx w L →
    Rets Tryd.prog Qbu [.agg ⟨cs⟩, .agg ⟨ds⟩] w fun v w' => v = .bool (decide (t = u)) ∧ St cx w' L := by
  intro t
  induction t using Ty.ind with
  | h k r l ih =>
    rintro ⟨k2, r2, m⟩ cx w L cs ds ht hu hS
    obtain ⟨v, rfl, hl⟩ := QS ht
    obtain ⟨v2, rfl, hm⟩ := QS hu
    simp only [Ty.kind, Ty.r, Ty.l, Ty.mk.injEq] at hl hm ht hu ⊢
    all_goals refine Qci ?_
    all_goals (unfold types_Same_lc; refine Q0 ?_; refine Q2 ?_; refine zb hS ?_; intro p2 w1 hS; refine zb hS ?_; intro p3 w1 hS; refine zm ?_; refine zn ?_; refine Q0 ?_; refine Q2 ?_; refine zf0 ?_; refine zl hS ?_; refine zf0 ?_; refine zl hS ?_)
    all_goals (first | (refine QM ?_) | (refine QR ?_) | (refine Q9 rfl rfl (fun hc => ?_) (fun hc => ?_)))
    all_goals (refine zm ?_; (first | refine zgn ?_ | (refine zgy ?_; refine zf0 ?_)); (first | refine zgn ?_ | (refine zgy ?_; refine zl hS ?_)); (first | refine zgn ?_ | (refine zgy ?_; refine zf0 ?_)); (first | refine zgn ?_ | (refine zgy ?_; refine zl hS ?_)))
    all_goals (first | refine zgn ?_ | (refine zgy ?_; (first | (refine QM ?_) | (refine QR ?_) | (refine Q9 rfl rfl (fun hc => ?_) (fun hc => ?_)))))
    all_goals ((first | (refine zpt ?_) | (refine zpf ?_)); refine zm ?_; (first | refine zgn ?_ | (refine zgy ?_; refine zf0 ?_)); (first | refine zgn ?_ | (refine zgy ?_; refine zl hS ?_)); (first | refine zgn ?_ | (refine zgy ?_; refine zf0 ?_)); (first | refine zgn ?_ | (refine zgy ?_; refine zl hS ?_)); (first | refine zgn ?_ | (refine zgy ?_; refine zR3 (c := eqfT_c (by kernel_rfl) (fun x hx y _ {_ _ _ _} h1 h2 h3 => ih x hx y h1 h2 h3) hl hm hS) (h := ?_); rintro v1 w1 ⟨rfl, hS⟩)); (first | (refine zpt ?_) | (refine zpf ?_)); refine zm ?_; refine zn ?_; refine zr ?_; refine zf ?_; refine ⟨_, rfl, ?_, hS.sp⟩; (simp [*]); done)
end Go.Proofs.YtjecflbbcnocdaaDoor
namespace Go.Lir
set_option linter.unusedVariables false
mutual
/-- Text -/
def Ty.txt : Ty → List UInt8
  | .mk k r l => if k = 2 then [104, 97, 110, 100, 108, 101, 32] ++ Lib.itoa r else if k = 4 then [97, 114, 114, 97, 121, 32] ++ Lib.itoa r else if k = 3 then [116, 117, 112, 108, 101, 32] ++ Lib.itoa r ++ [32, 40] ++ Lib.join (Tys.txts l) [44, 32] ++ [41] else [105, 110, 116]
def Tys.txts : List Ty → List (List UInt8)
  | [] => []
  | x :: l => x.txt :: Tys.txts l
end
theorem Tys.txts_map : ∀ (l : List Ty), Tys.txts l = l.map Ty.txt
  | [] => by rw [Tys.txts]; rfl
  | x :: l => by rw [Tys.txts, Tys.txts_map l]; rfl
mutual
theorem Ty.txt_len : ∀ (t : Ty), t.InR → t.txt.length + 2 ≤ 60 * t.nodes
  | .mk k r l, h => by
    obtain ⟨_, ⟨h1, h2⟩, hl⟩ := h.parts
    have hi := Lib.itoa_length_le r h1 h2
    have hj := Tys.join_len l hl
    rw [Ty.txt, Ty.nodes]
    split
    · simp only [List.length_append, List.length_cons, List.length_nil]; omega
    · split
      · simp only [List.length_append, List.length_cons, List.length_nil]; omega
      · split
        · simp only [List.length_append, List.length_cons, List.length_nil]; omega
        · simp only [List.length_cons, List.length_nil]; omega
theorem Tys.join_len : ∀ (l : List Ty), (∀ x ∈ l, x.InR) → (Lib.join (Tys.txts l) [44, 32]).length ≤ 60 * Tys.nodes l
  | [], _ => by rw [Tys.txts, Lib.join_nil]; simp
  | x :: l, h => by
    have h1 := Ty.txt_len x (h x (List.mem_cons_self ..))
    have h2 := Tys.tail_len l fun y hy => h y (List.mem_cons_of_mem _ hy)
    rw [Tys.txts, Lib.join_cons, List.length_append, Tys.nodes]
    omega
theorem Tys.tail_len : ∀ (l : List Ty), (∀ x ∈ l, x.InR) → (Lib.joinTail [44, 32] (Tys.txts l)).length ≤ 60 * Tys.nodes l
  | [], _ => by rw [Tys.txts]; simp [Lib.joinTail]
  | x :: l, h => by
    have h1 := Ty.txt_len x (h x (List.mem_cons_self ..))
    have h2 := Tys.tail_len l fun y hy => h y (List.mem_cons_of_mem _ hy)
    rw [Tys.txts, Tys.nodes]
    simp only [Lib.joinTail, List.map_cons, List.flatten_cons, List.length_append, List.length_cons, List.length_nil] at h2 ⊢
    omega
end
end Go.Lir
