/- Slices that are only read; data that came in. -/
import Derived.Test.YthdkbdnbflkagaaGreatDoorLirApp
import Derived.ProofKit
import Derived.Deep.Slices
namespace Go.Lir

def cellH (H : Heap) (b i : Nat) : Option Value := match H[b]? with
  | some (.cells c _ _) => c[i]?
  | _ => none
theorem cell_cellH (w : World) (b i : Nat) : w.cell? ⟨b, i, none⟩ = cellH w.heap b i := by
  unfold World.cell? cellH
  cases w.heap[b]? with
  | none => rfl
  | some o => cases o <;> rfl

/-- The cells c lie at ⟨b, o⟩. -/
def At (H : Heap) (b o : Nat) (c : List Value) : Prop := ∀ (j : Nat) (u : Value), c[j]? = some u → cellH H b (o + j) = some u

/-- The slice v reads as css; what it reads lies in F. -/
def SlR (H : Heap) (es : Nat) (v : Value) (F : Nat → Prop) (css : List (List Value)) : Prop :=
  (∀ c ∈ css, c.length = es) ∧ ∃ a cap, v = .slice a css.length cap ∧ css.length ≤ cap ∧
    (css = [] ∨ ∃ b off, a = some ⟨b, off, none⟩ ∧ F b ∧ b < H.size ∧ ∀ (m : Nat) (c : List Value), css[m]? = some c → At H b (off + m * es) c)

theorem At.of_same {H H' : Heap} {b o : Nat} {c : List Value} (h : At H b o c) (he : H'[b]? = H[b]?) : At H' b o c := fun j u hj => by
  have := h j u hj
  unfold cellH at this ⊢
  rw [he]; exact this
theorem At.cell {w : World} {b o j : Nat} {c : List Value} {u : Value} (h : At w.heap b o c) (hj : c[j]? = some u) : w.cell? ⟨b, o + j, none⟩ = some u := by rw [cell_cellH]; exact h j u hj
theorem At.cells {w : World} {b o : Nat} {c : List Value} (h : At w.heap b o c) {j n : Nat} {vs : List Value} (hv : (c.drop j).take n = vs) (hl : vs.length = n) : cellsAt w ⟨b, o + j, none⟩ n vs := by
  refine ⟨hl, fun i hi => ?_⟩
  rw [add_addr, Nat.add_assoc]
  have e : vs[i]? = c[j + i]? := by rw [← hv, List.getElem?_take_of_lt hi, List.getElem?_drop]
  have h1 : vs.length = min n (c.length - j) := by rw [← hv]; simp
  rw [e, List.getElem?_eq_getElem (by omega)]
  exact h.cell (List.getElem?_eq_getElem (by omega))

theorem SlR.of_same {H H' : Heap} {es : Nat} {v : Value} {F : Nat → Prop} {css : List (List Value)} (h : SlR H es v F css) (hs : ∀ b, F b → b < H.size → H'[b]? = H[b]?) : SlR H' es v F css := by
  obtain ⟨h0, a, cap, hv, hlc, hc | ⟨b, off, ha, hF, hb, hat⟩⟩ := h
  · exact ⟨h0, a, cap, hv, hlc, .inl hc⟩
  · refine ⟨h0, a, cap, hv, hlc, .inr ⟨b, off, ha, hF, ?_, fun m c hm => (hat m c hm).of_same (hs b hF hb)⟩⟩
    have := hs b hF hb
    rcases Nat.lt_or_ge b H'.size with h | h
    · exact h
    · rw [Array.getElem?_eq_none h, Array.getElem?_eq_getElem hb] at this; cases this
theorem SlR.fr {F G : Nat → Prop} {w w' : World} {es : Nat} {v : Value} {css : List (List Value)} (h : SlR w.heap es v F css) (hf : Fr G w w') (hn : ∀ b, F b → ¬ G b) : SlR w'.heap es v F css :=
  h.of_same fun b hb hlt => hf.same b hlt (hn b hb)
theorem SlR.fr0 {F : Nat → Prop} {w w' : World} {es : Nat} {v : Value} {css : List (List Value)} (h : SlR w.heap es v F css) (hf : Fr NF w w') : SlR w'.heap es v F css := h.fr hf fun _ _ h => h
theorem SlR.mono {H : Heap} {F G : Nat → Prop} {es : Nat} {v : Value} {css : List (List Value)} (h : SlR H es v F css) (hs : ∀ b, b < H.size → F b → G b) : SlR H es v G css := by
  obtain ⟨h0, a, cap, hv, hlc, hc | ⟨b, off, ha, hF, hb, hat⟩⟩ := h
  · exact ⟨h0, a, cap, hv, hlc, .inl hc⟩
  · exact ⟨h0, a, cap, hv, hlc, .inr ⟨b, off, ha, hs b hb hF, hb, hat⟩⟩
theorem SlR.shape {H : Heap} {es : Nat} {v : Value} {F : Nat → Prop} {css : List (List Value)} (h : SlR H es v F css) : ∃ a c, v = .slice a css.length c := by
  obtain ⟨_, a, cap, hv, _⟩ := h; exact ⟨a, cap, hv⟩

theorem Sl.toR {H : Heap} {T : TypeId} {es : Nat} {v : Value} {F : Nat → Prop} {css : List (List Value)} (h : Sl H T es v F css) : SlR H es v F css := by
  obtain ⟨h0, ⟨hv, hc, _⟩ | ⟨b, off, cap, arr, hv, g1, g2, g3, g4, g5⟩⟩ := h
  · subst hc; exact ⟨h0, none, 0, hv, Nat.le_refl _, .inl rfl⟩
  · refine ⟨h0, _, cap, hv, g1, .inr ⟨b, off, rfl, (g5 b).2 rfl, g2.lt, fun m c hm j u hu => ?_⟩⟩
    have hm' : m < css.length := (List.getElem?_eq_some_iff.1 hm).1
    have hcl : c.length = es := h0 c (List.mem_of_getElem? hm)
    have hj : j < es := by have := (List.getElem?_eq_some_iff.1 hu).1; omega
    have hb := mul_bound (es := es) hm'
    have := g4 (m * es + j) (by omega)
    rw [flatten_get h0 hm hj, hu] at this
    obtain ⟨fz, g2, _⟩ := g2
    unfold cellH
    rw [g2, Nat.add_assoc]
    simpa using this

theorem SlR.src {P : Program} {w : World} {es : Nat} {v : Value} {F : Nat → Prop} {css : List (List Value)} (h : SlR w.heap es v F css) (ho : ∀ c ∈ css, ∀ u ∈ c, oneC u = true) : Src P w es v css := by
  obtain ⟨h0, a, cap, hv, hlc, hc⟩ := h
  subst hv
  refine ⟨rfl, h0, ho, ?_⟩
  intro w' hw'
  rcases hc with hc | ⟨b, off, ha, hF, hb, hat⟩
  · subst hc
    cases a <;> simp [Builtin.firstCells, loadCells, loadCellsFrom]
  · subst ha
    simp only [Builtin.firstCells]
    have hfl := flatten_len h0
    refine run_loadCells_cells _ _ _ ⟨hfl, fun j hj => ?_⟩
    rw [add_addr]
    have hes : 0 < es := by
      rcases Nat.eq_zero_or_pos es with h | h
      · subst h; simp at hj
      · exact h
    have hq : j / es < css.length := Nat.div_lt_of_lt_mul (by rw [Nat.mul_comm]; exact hj)
    have hm : j % es < es := Nat.mod_lt _ hes
    have hdm : j / es * es + j % es = j := by rw [Nat.mul_comm]; exact Nat.div_add_mod j es
    have hcm : css[j / es]? = some css[j / es] := List.getElem?_eq_getElem hq
    have e := flatten_get h0 hcm hm
    rw [hdm] at e
    have hcl : css[j / es].length = es := h0 _ (List.getElem_mem hq)
    rw [e, List.getElem?_eq_getElem (by omega)]
    have := ((hat _ _ hcm).of_same (hw' b hb)).cell (j := j % es) (List.getElem?_eq_getElem (by omega))
    rw [Nat.add_assoc, hdm] at this
    exact this

section
variable {P : Program} {l : List GO} {Q : QT} {ρ : Env} {w : World} {es : Nat} {v : Value} {F : Nat → Prop} {css : List (List Value)}

theorem s_lenR {d : Nat} {x : Operand} (hx : ρ.ev x = v) (hs : SlR w.heap es v F css) (h : opsWp P l Q (upd ρ d (.int .i64 css.length)) w) : opsWp P (⟨none, .len d x⟩ :: l) Q ρ w := by
  obtain ⟨a, c, hv⟩ := hs.shape
  exact s_len (hx.trans hv) h
theorem s_idxR {d : Nat} {x i : Operand} {k : IntKind} {n : Int} {c : List Value} (hx : ρ.ev x = v) (hi : ρ.ev i = .int k n) (hs : SlR w.heap es v F css) (h0 : 0 ≤ n) (hc : css[n.toNat]? = some c)
    (h : ∀ b o, At w.heap b o c → F b → opsWp P l Q (upd ρ d (.pointer (some ⟨b, o, none⟩))) w) : opsWp P (⟨none, .idx d es x i⟩ :: l) Q ρ w := by
  obtain ⟨_, a, cap, hv, hlc, hn | ⟨b, off, ha, hF, hb, hat⟩⟩ := hs
  · subst hn; simp at hc
  · subst hv ha
    have hlt := (List.getElem?_eq_some_iff.1 hc).1
    exact s_idx hx hi h0 (by omega) (h b _ (hat _ _ hc) hF)
/-- s[lo:hi] of a slice that is read. -/
theorem s_subR {d : Nat} {x : Operand} {lo hi mx : Option Operand} {l' h' : Nat} (hx : ρ.ev x = v) (hs : SlR w.heap es v F css) (hmx : mx = none) (hh : bnd ρ css.length hi h') (hl : bnd ρ 0 lo l') (h2 : h' ≤ css.length) (h3 : l' ≤ h')
    (h : ∀ v', SlR w.heap es v' F ((css.take h').drop l') → opsWp P l Q (upd ρ d v') w) : opsWp P (⟨none, .sub d es x lo hi mx⟩ :: l) Q ρ w := by
  subst hmx
  obtain ⟨h0, a, cap, hv, hlc, hc⟩ := hs
  subst hv
  have hl1 : ((css.take h').drop l').length = h' - l' := by simp; omega
  refine s_sub (m := cap) hx rfl hh hl (Nat.le_refl _) (by omega) h3 (h _ ⟨fun c hc => h0 c (List.mem_of_mem_take (List.mem_of_mem_drop hc)), _, cap - l', by rw [hl1], by omega, ?_⟩)
  rcases hc with hc | ⟨b, off, ha, hF, hb, hat⟩
  · subst hc; exact .inl (by simp)
  · by_cases he : h' = l'
    · exact .inl (List.eq_nil_of_length_eq_zero (by omega))
    · refine .inr ⟨b, off + l' * es, ?_, hF, hb, fun m c hm => ?_⟩
      · rw [if_neg (by omega), ha]; simp only [Option.map_some, add_addr]
      · have hm' : css[l' + m]? = some c := by
          have := (List.getElem?_eq_some_iff.1 hm).1
          rw [List.getElem?_drop, List.getElem?_take_of_lt (by omega)] at hm; exact hm
        have := hat _ _ hm'
        rw [Nat.add_mul, ← Nat.add_assoc] at this
        exact this
theorem s_loadA {d : Nat} {x : Operand} {b o : Nat} {c : List Value} {u : Value} (hx : ρ.ev x = .pointer (some ⟨b, o, none⟩)) (ha : At w.heap b o c) (hu : c[0]? = some u)
    (h : opsWp P l Q (upd ρ d u) w) : opsWp P (⟨none, .load1 d x⟩ :: l) Q ρ w := s_load hx (by have := ha.cell hu; simpa using this) h
theorem s_loadAj {d : Nat} {x : Operand} {b o j : Nat} {c : List Value} {u : Value} (hx : ρ.ev x = .pointer (some ⟨b, o + j, none⟩)) (ha : At w.heap b o c) (hu : c[j]? = some u)
    (h : opsWp P l Q (upd ρ d u) w) : opsWp P (⟨none, .load1 d x⟩ :: l) Q ρ w := s_load hx (ha.cell hu) h
theorem s_loadnA {d n : Nat} {x : Operand} {b o : Nat} {c : List Value} (hx : ρ.ev x = .pointer (some ⟨b, o, none⟩)) (ha : At w.heap b o c) (hl : c.length = n)
    (h : opsWp P l Q (upd ρ d (.agg ⟨c⟩)) w) : opsWp P (⟨none, .loadn d n x⟩ :: l) Q ρ w :=
  s_loadc hx (by have := ha.cells (j := 0) (n := n) (vs := c) (by rw [List.drop_zero, List.take_of_length_le (by omega)]) hl; simpa using this) h
end

/-! ### Data that came in -/

/-- No part weighs more than the reach. -/
def Fits (P : Program) (T : TypeId) {Hd : Type} (y : DataW Hd) : Prop := ∀ n ∈ y.weights P T, n ≤ reachBytes
theorem weightsAll_mem {P : Program} {e : TypeId} {Hd : Type} : ∀ {l : List (DataW Hd)} {d : DataW Hd}, d ∈ l → ∀ n ∈ d.weights P e, n ∈ DataW.weightsAll P e l
  | [], _, h => by cases h
  | x :: l, d, h => fun n hn => by
    rw [DataW.weightsAll, List.mem_append]
    rcases List.mem_cons.1 h with rfl | h
    · exact .inl hn
    · exact .inr (weightsAll_mem h n hn)
theorem weightsEach_mem {P : Program} {Hd : Type} : ∀ {ts : List TypeId} {l : List (DataW Hd)} {i : Nat} {t : TypeId} {d : DataW Hd}, ts[i]? = some t → l[i]? = some d → ∀ n ∈ d.weights P t, n ∈ DataW.weightsEach P ts l
  | [], _, _, _, _, h, _ => by simp at h
  | _ :: _, [], _, _, _, _, h => by simp at h
  | t :: ts, x :: l, 0, _, _, h1, h2 => fun n hn => by
    simp only [List.getElem?_cons_zero, Option.some.injEq] at h1 h2
    subst h1 h2
    rw [DataW.weightsEach, List.mem_append]; exact .inl hn
  | t :: ts, x :: l, i + 1, _, _, h1, h2 => fun n hn => by
    rw [DataW.weightsEach, List.mem_append]
    exact .inr (weightsEach_mem (i := i) (by simpa using h1) (by simpa using h2) n hn)
theorem fits_arg {P : Program} {Hd : Type} {ts us : List TypeId} {l m : List (DataW Hd)} {i : Nat} {t : TypeId} {d : DataW Hd} (h : (DataW.weightsEach P (ts ++ us) (l ++ m)).all (· ≤ reachBytes) = true) (h1 : ts[i]? = some t) (h2 : l[i]? = some d) : Fits P t d := by
  intro n hn
  have h3 : (ts ++ us)[i]? = some t := by rw [List.getElem?_append_left (List.getElem?_eq_some_iff.1 h1).1]; exact h1
  have h4 : (l ++ m)[i]? = some d := by rw [List.getElem?_append_left (List.getElem?_eq_some_iff.1 h2).1]; exact h2
  have := List.all_eq_true.1 h n (weightsEach_mem h3 h4 n hn)
  exact of_decide_eq_true this
theorem fits_slice {P : Program} {T e : TypeId} {Hd : Type} {elems spare : List (DataW Hd)} (ht : P.underlying T = some (.slice e)) (h : Fits P T (.slice elems spare)) (hb : 0 < P.bytesOf e) : elems.length ≤ 140737488355328 ∧ ∀ d ∈ elems, Fits P e d := by
  unfold Fits at h
  rw [DataW.weights, ht] at h
  refine ⟨?_, fun d hd n hn => h n (List.mem_cons_of_mem _ (List.mem_append_left _ (weightsAll_mem hd n hn)))⟩
  have h1 := h _ (List.mem_cons_self ..)
  have h2 : elems.length * 1 ≤ (elems.length + spare.length) * P.bytesOf e := Nat.mul_le_mul (by omega) hb
  unfold reachBytes at h1
  omega
theorem fits_struct {P : Program} {T : TypeId} {Hd : Type} {fs : Array Field} {parts : List (DataW Hd)} (ht : P.underlying T = some (.struct fs)) (h : Fits P T (.agg parts)) {i : Nat} {f : Field} {d : DataW Hd} (hf : fs[i]? = some f) (hd : parts[i]? = some d) : Fits P f.type d := by
  unfold Fits at h
  rw [DataW.weights, ht] at h
  exact fun n hn => h n (weightsEach_mem (i := i) (by rw [List.getElem?_map, Array.getElem?_toList, hf]; rfl) hd n hn)
/-- A way to read the cells of a variable of the type T: what they are. -/
structure Cod (P : Program) (T : TypeId) (α : Type) where
  es : Nat
  rd : Heap → List Value → α → Prop
  size : P.cellsOf T = es
  len : ∀ H cs x, rd H cs x → cs.length = es
  stay : ∀ (H H' : Heap) cs x, rd H cs x → (∀ b, b < H.size → H'[b]? = H[b]?) → rd H' cs x
  open_ : ∀ {Hd : Type} (enc : TypeId × Value → Hd) (w : World) (fuel : Nat) (cs : List Value) (y : DataW Hd × List MemPlace), DataW.trod enc P w 0 (fun _ => true) true fuel T cs = some y → Fits P T y.1 → ∃ x, rd w.heap cs x

def Cod.int {P : Program} {T : TypeId} (k : IntKind) (ht : P.underlying T = some (.int k)) (hs : P.cellsOf T = 1) : Cod P T Int where
  es := 1
  rd := fun _ cs n => cs = [.int k n] ∧ (Lit.int k n).wf = true
  size := hs
  len := by rintro _ _ _ ⟨rfl, _⟩; rfl
  stay := fun _ _ _ _ h _ => h
  open_ := fun enc w fuel cs y h _ => by
    obtain ⟨n, h1, _, h2⟩ := DataW.trod_int ht h
    exact ⟨n, h1, h2⟩

def Cod.bool {P : Program} {T : TypeId} (ht : P.underlying T = some .bool) (hs : P.cellsOf T = 1) : Cod P T Bool where
  es := 1
  rd := fun _ cs n => cs = [.bool n]
  size := hs
  len := by rintro _ _ _ rfl; rfl
  stay := fun _ _ _ _ h _ => h
  open_ := fun enc w fuel cs y h _ => by
    obtain ⟨n, h1, _⟩ := DataW.trod_bool ht h
    exact ⟨n, h1⟩

def Cod.str {P : Program} {T : TypeId} (ht : P.underlying T = some .string) (hs : P.cellsOf T = 1) : Cod P T ByteArray where
  es := 1
  rd := fun _ cs s => cs = [.string s] ∧ s.size ≤ maxLen
  size := hs
  len := by rintro _ _ _ ⟨rfl, _⟩; rfl
  stay := fun _ _ _ _ h _ => h
  open_ := fun enc w fuel cs y h _ => by
    obtain ⟨n, h1, _, h2⟩ := DataW.trod_string ht h
    exact ⟨n, h1, h2⟩

theorem cells_at {w : World} {a : Addr} {n : Nat} {cs : List Value} (h : w.cells? 0 a n = some cs) (hn : 0 < n) : a.spot = none ∧ a.block < w.heap.size ∧ At w.heap a.block a.off cs := by
  obtain ⟨_, hl, hc⟩ := World.cells?_some h
  have h0 := hc 0 hn
  have hs : cs[0]? = some (cs[0]'(by omega)) := List.getElem?_eq_getElem (by omega)
  rw [hs] at h0
  have hadd0 : a.add 0 = a := rfl
  rw [hadd0] at h0
  obtain ⟨b, o, s⟩ := a
  have hsp : s = none := by
    cases s with
    | none => rfl
    | some x =>
      unfold World.cell? at h0
      split at h0 <;> simp at h0
  subst hsp
  refine ⟨rfl, ?_, fun j u hj => ?_⟩
  · rcases Nat.lt_or_ge b w.heap.size with h | h
    · exact h
    · unfold World.cell? at h0; simp [Array.getElem?_eq_none h] at h0
  · have hlt := (List.getElem?_eq_some_iff.1 hj).1
    have := hc j (by omega)
    rw [add_addr, hj, cell_cellH] at this
    exact this

def Cod.slice {P : Program} {T e : TypeId} {α : Type} (c : Cod P e α) (ht : P.underlying T = some (.slice e)) (hs : P.cellsOf T = 1) (hes : 0 < c.es) (hby : decide (0 < P.bytesOf e) = true) : Cod P T (List α) where
  es := 1
  rd := fun H cs xs => ∃ v css, cs = [v] ∧ SlR H c.es v (fun _ => True) css ∧ css.length = xs.length ∧ xs.length ≤ 140737488355328 ∧ ∀ (m : Nat) (x : α), xs[m]? = some x → ∃ d, css[m]? = some d ∧ c.rd H d x
  size := hs
  len := by rintro _ _ _ ⟨v, css, rfl, _⟩; rfl
  stay := by
    rintro H H' _ xs ⟨v, css, rfl, h1, h2, h3, h4⟩ hH
    exact ⟨v, css, rfl, h1.of_same fun b _ hb => hH b hb, h2, h3, fun m x hm => by obtain ⟨d, h5, h6⟩ := h4 m x hm; exact ⟨d, h5, c.stay _ _ _ _ h6 hH⟩⟩
  open_ := by
    intro Hd enc w fuel cs y h hfit
    rcases Go.Deep.open_slice ht h with ⟨rfl, _⟩ | ⟨a, len, cap, m, n, D, Pl, rfl, _, hl, hm, hmm, hy, hi⟩
    · exact ⟨[], .slice none 0 0, [], rfl, ⟨by simp, none, 0, rfl, Nat.le_refl _, .inl rfl⟩, rfl, by simp, by simp⟩
    · have hmc : m = cap := by simpa using hmm
      subst hmc
      rw [hy] at hfit
      obtain ⟨hlen, hel0⟩ := fits_slice ht hfit (of_decide_eq_true hby)
      simp only [List.length_map, List.length_range] at hlen
      -- each element
      have hel : ∀ i, i < len → ∃ (d : List Value) (x : α), w.cells? 0 (a.add (i * c.es)) c.es = some d ∧ c.rd w.heap d x := by
        intro i hi'
        obtain ⟨d, h1, h2⟩ := hi i (by omega)
        rw [c.size] at h1
        obtain ⟨x, hx⟩ := c.open_ enc w n d _ h2 (hel0 _ (List.mem_map.2 ⟨i, List.mem_range.2 hi', rfl⟩))
        exact ⟨d, x, h1, hx⟩
      have build : ∀ n, n ≤ len → ∃ (css : List (List Value)) (xs : List α), css.length = n ∧ xs.length = n ∧
          ∀ m, m < n → ∃ d x, css[m]? = some d ∧ xs[m]? = some x ∧ w.cells? 0 (a.add (m * c.es)) c.es = some d ∧ c.rd w.heap d x := by
        intro n
        induction n with
        | zero => intro _; exact ⟨[], [], rfl, rfl, fun m hm => absurd hm (by omega)⟩
        | succ n ih =>
          intro hn
          obtain ⟨css, xs, h1, h2, h3⟩ := ih (by omega)
          obtain ⟨d, x, h4, h5⟩ := hel n (by omega)
          refine ⟨css ++ [d], xs ++ [x], by simp [h1], by simp [h2], fun m hm => ?_⟩
          by_cases hmn : m = n
          · subst hmn
            exact ⟨d, x, by rw [List.getElem?_append_right (by omega), h1]; simp, by rw [List.getElem?_append_right (by omega), h2]; simp, h4, h5⟩
          · obtain ⟨d', x', g1, g2, g3, g4⟩ := h3 m (by omega)
            exact ⟨d', x', by rw [List.getElem?_append_left (by omega)]; exact g1, by rw [List.getElem?_append_left (by omega)]; exact g2, g3, g4⟩
      obtain ⟨css, xs, h1, h2, h3⟩ := build len (Nat.le_refl _)
      refine ⟨xs, .slice (some a) len m, css, rfl, ⟨?_, some a, m, by rw [h1], by omega, ?_⟩, by omega, by omega, ?_⟩
      · intro d hd
        obtain ⟨i, hi'⟩ := List.mem_iff_getElem?.1 hd
        have hlt := (List.getElem?_eq_some_iff.1 hi').1
        obtain ⟨d', x', g1, g2, g3, g4⟩ := h3 i (by omega)
        rw [hi'] at g1
        simp only [Option.some.injEq] at g1
        subst g1
        exact c.len _ _ _ g4
      · rcases Nat.eq_zero_or_pos len with h0 | h0
        · exact .inl (List.eq_nil_of_length_eq_zero (by omega))
        · obtain ⟨d0, x0, _, _, g3, _⟩ := h3 0 h0
          obtain ⟨hsp, hbl, _⟩ := cells_at g3 hes
          have ha0 : a.add (0 * c.es) = a := by rw [Nat.zero_mul]; rfl
          rw [ha0] at hsp hbl
          obtain ⟨b, o, s⟩ := a
          simp only at hsp
          subst hsp
          refine .inr ⟨b, o, rfl, trivial, hbl, fun i d hd => ?_⟩
          have hlt := (List.getElem?_eq_some_iff.1 hd).1
          obtain ⟨d', x', g1, g2, g3, g4⟩ := h3 i (by omega)
          rw [hd] at g1
          simp only [Option.some.injEq] at g1
          subst g1
          rw [add_addr] at g3
          exact (cells_at g3 hes).2.2
      · intro i x hx
        have hlt := (List.getElem?_eq_some_iff.1 hx).1
        obtain ⟨d', x', g1, g2, g3, g4⟩ := h3 i (by omega)
        rw [hx] at g2
        simp only [Option.some.injEq] at g2
        subst g2
        exact ⟨d', g1, g4⟩

/-- A struct, field by field: what a list of readers says of its parts. -/
def fieldAt (P : Program) (T : TypeId) (i : Nat) : Option (Nat × Nat × TypeId) := match P.underlying T with
  | some (.struct fs) => (fs[i]?).map fun f => (f.offset, P.cellsOf f.type, f.type)
  | _ => none

theorem struct_part {Hd : Type} {enc : TypeId × Value → Hd} {P : Program} {w : World} {T : TypeId} {fuel : Nat} {cs : List Value} {y : DataW Hd × List MemPlace} (h : DataW.trod enc P w 0 (fun _ => true) true fuel T cs = some y)
    {i o s : Nat} {t : TypeId} (hf : fieldAt P T i = some (o, s, t)) (hfit : Fits P T y.1) : cs.length = P.cellsOf T ∧ ∃ n z, DataW.trod enc P w 0 (fun _ => true) true n t ((cs.drop o).take s) = some z ∧ Fits P t z.1 := by
  unfold fieldAt at hf
  split at hf
  · rename_i fs hu
    simp only [Option.map_eq_some_iff, Prod.mk.injEq] at hf
    obtain ⟨f, hf, rfl, rfl, rfl⟩ := hf
    obtain ⟨xs, n, _, hy, hl, hx, hall⟩ := DataW.trod_struct hu h
    have := hall i f hf
    have hlt := (Array.getElem?_eq_some_iff.1 hf).1
    refine ⟨hl, n, xs[i]'(by omega), ?_, ?_⟩
    · rw [this, List.getElem?_eq_getElem (by omega)]
    · rw [hy] at hfit
      exact fits_struct hu hfit hf (by rw [List.getElem?_map, List.getElem?_eq_getElem (by omega)]; rfl)
  · cases hf

/-- Three fields. -/
def Cod.st3 {P : Program} {T t0 t1 t2 : TypeId} {α β γ : Type} {o0 s0 o1 s1 o2 s2 : Nat} (a : Cod P t0 α) (b : Cod P t1 β) (c : Cod P t2 γ) (h0 : fieldAt P T 0 = some (o0, s0, t0)) (h1 : fieldAt P T 1 = some (o1, s1, t1))
    (h2 : fieldAt P T 2 = some (o2, s2, t2)) (n : Nat) (hn : P.cellsOf T = n) : Cod P T (α × β × γ) where
  es := n
  rd := fun H cs x => cs.length = n ∧ a.rd H ((cs.drop o0).take s0) x.1 ∧ b.rd H ((cs.drop o1).take s1) x.2.1 ∧ c.rd H ((cs.drop o2).take s2) x.2.2
  size := hn
  len := fun _ _ _ h => h.1
  stay := fun H H' cs x h hH => ⟨h.1, a.stay _ _ _ _ h.2.1 hH, b.stay _ _ _ _ h.2.2.1 hH, c.stay _ _ _ _ h.2.2.2 hH⟩
  open_ := fun enc w fuel cs y h hfit => by
    obtain ⟨hl, n0, z0, g0, u0⟩ := struct_part h h0 hfit
    obtain ⟨_, n1, z1, g1, u1⟩ := struct_part h h1 hfit
    obtain ⟨_, n2, z2, g2, u2⟩ := struct_part h h2 hfit
    obtain ⟨x0, e0⟩ := a.open_ enc w _ _ _ g0 u0
    obtain ⟨x1, e1⟩ := b.open_ enc w _ _ _ g1 u1
    obtain ⟨x2, e2⟩ := c.open_ enc w _ _ _ g2 u2
    exact ⟨(x0, x1, x2), by rw [hl, hn], e0, e1, e2⟩
end Go.Lir
