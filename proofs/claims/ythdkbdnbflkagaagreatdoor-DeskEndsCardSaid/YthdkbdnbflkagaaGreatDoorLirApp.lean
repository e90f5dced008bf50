/- append, make, clear. -/
import Derived.Test.YthdkbdnbflkagaaGreatDoorLirSl
namespace Go.Lir

/-- Of a slice type: its elements' type, their cells, their bytes, a zero element. -/
def elInfo (P : Program) (Ts : TypeId) : Option (TypeId × Nat × Nat × List Value) := match P.underlying Ts with
  | some (.slice e) => match P.info? e with
    | some i => match i.zero with
      | some z => if i.size = 0 ∨ i.bytes = 0 ∨ z.cells.size ≠ i.size then none else some (e, i.size, i.bytes, z.cells.toList)
      | none => none
    | none => none
  | _ => none

theorem elInfo_spec {P : Program} {Ts e es nb : Nat} {z : List Value} (h : elInfo P Ts = some (e, es, nb, z)) :
    ∃ i zv, P.underlying Ts = some (.slice e) ∧ P.info? e = some i ∧ i.zero = some zv ∧ i.size = es ∧ i.bytes = nb ∧ zv.cells.toList = z ∧ 0 < es ∧ 0 < nb ∧ z.length = es := by
  unfold elInfo at h
  split at h
  · rename_i e' hu
    split at h
    · rename_i i hi
      split at h
      · rename_i zv hz
        split at h
        · cases h
        · rename_i hc
          simp only [Option.some.injEq, Prod.mk.injEq] at h
          obtain ⟨rfl, rfl, rfl, rfl⟩ := h
          refine ⟨i, zv, hu, hi, hz, rfl, rfl, rfl, by omega, by omega, ?_⟩
          have : zv.cells.size = i.size := by omega
          simpa using this
      · cases h
    · cases h
  · cases h

/-- What may be appended: a value that reads as these elements. -/
def Src (P : Program) (w : World) (es : Nat) (v : Value) (css : List (List Value)) : Prop :=
  (Builtin.lenOf v).run P w = .ok css.length w ∧ (∀ c ∈ css, c.length = es) ∧ (∀ c ∈ css, ∀ u ∈ c, oneC u = true) ∧
  ∀ w', (∀ b, b < w.heap.size → w'.heap[b]? = w.heap[b]?) → (Builtin.firstCells es css.length v).run P w' = .ok ⟨css.flatten⟩ w'

theorem Sl.src {P : Program} {w : World} {T : TypeId} {es : Nat} {v : Value} {F : Nat → Prop} {css : List (List Value)} (h : Sl w.heap T es v F css) (ho : ∀ c ∈ css, ∀ u ∈ c, oneC u = true) : Src P w es v css := by
  have hlen := h.1
  refine ⟨?_, hlen, ho, ?_⟩
  · obtain ⟨a, c, hv⟩ := h.shape; rw [hv]; rfl
  · intro w' hw'
    obtain ⟨_, ⟨hv, hc, _⟩ | ⟨b, off, cap, arr, hv, g1, g2, g3, g4, g5⟩⟩ := h
    · subst hv hc; rfl
    · subst hv
      have g2' := g2.of_same (hw' b g2.lt)
      simp only [Builtin.firstCells]
      refine run_loadCells_cells _ _ _ ⟨flatten_len hlen, fun j hj => ?_⟩
      rw [add_addr]
      have hfl := flatten_len hlen
      have hm := Nat.mul_le_mul_right es g1
      have := g4 j (by omega)
      rw [List.getElem?_eq_getElem (show j < css.flatten.length from hfl ▸ hfl ▸ hj)] at this ⊢
      exact g2'.cell this

/-- A block of one element or more that was just laid. -/
theorem Sl.fresh {H : Heap} {b : Nat} {T : TypeId} {es : Nat} {css : List (List Value)} {cs : List Value} (hb : Blk H b T cs) (hf : css.flatten = cs) (hl : ∀ c ∈ css, c.length = es) {n : Nat} (hn : css.length = n) :
    Sl H T es (.slice (some ⟨b, 0, none⟩) n n) (· = b) css := by
  subst hn hf
  refine ⟨hl, .inr ⟨b, 0, css.length, css.flatten, rfl, Nat.le_refl _, hb, ?_, ?_, fun x => Iff.rfl⟩⟩
  · rw [flatten_len hl]; omega
  · intro i _; rw [Nat.zero_add]

theorem zeroCells_list {zero : Array Value} {n : Nat} : (Builtin.zeroCells zero n).toList.length = n * zero.size := by simp [Builtin.zeroCells]

/-- What append leaves. -/
def AppPost (w : World) (T : TypeId) (es : Nat) (F : Nat → Prop) (css css2 : List (List Value)) (v' : Value) (w' : World) : Prop :=
  ∃ F', Sl w'.heap T es v' F' (css ++ css2) ∧ Fr F w w' ∧ ∀ b, F' b → F b ∨ w.heap.size ≤ b

theorem run_append {P : Program} {w : World} {Ts Ts2 Ty e es nb : Nat} {z : List Value} (hel : elInfo P Ts = some (e, es, nb, z)) (hts : (∃ e2, P.underlying Ts2 = some (.slice e2)) ∨ P.underlying Ts2 = some .string)
    {v v2 : Value} {F : Nat → Prop} {css css2 : List (List Value)} (hs : Sl w.heap e es v F css) (hsrc : Src P w es v2 css2) (hb : (css.length + css2.length) * nb ≤ 140737488355328) :
    ∃ v' w', (Builtin.append_ #[Ts, Ts2] Ty #[v, v2]).run P w = .ok v' w' ∧ AppPost w e es F css css2 v' w' := by
  obtain ⟨i, zv, hu, hi, hz, rfl, rfl, hzc, hes, hnb, hzl⟩ := elInfo_spec hel
  obtain ⟨hl2, hlen2, hone2, hfc2⟩ := hsrc
  have hsz : (sizeOf e).run P w = .ok i.size w := by simp [sizeOf, run_typeInfo P e i w hi]
  have hlen := hs.1
  have hzs : zv.cells.size = i.size := by rw [← Array.length_toList, hzc]; exact hzl
  have hsmall : css.length + css2.length ≤ 140737488355328 := Nat.le_trans (Nat.le_mul_of_pos_right _ hnb) hb
  have hf1 := flatten_len hlen
  have hf2 := flatten_len hlen2
  -- the growing way
  have grow : ∀ (base : Option Addr) (cap : Nat), v = .slice base css.length cap → cap < css.length + css2.length →
      (∀ w', (∀ b, b < w.heap.size → w'.heap[b]? = w.heap[b]?) → (Builtin.firstCells i.size css.length v).run P w' = .ok ⟨css.flatten⟩ w') →
      ∃ v' w', (Builtin.append_ #[Ts, Ts2] Ty #[v, v2]).run P w = .ok v' w' ∧ AppPost w e i.size F css css2 v' w' := by
    intro base cap hv hcap hold
    have hq : Question.forced (.appendCap (css.length + css2.length) cap e) = false := rfl
    let nc := Question.cut (.appendCap (css.length + css2.length) cap e) (w.tape w.drawn (.appendCap (css.length + css2.length) cap e))
    have hnc : css.length + css2.length ≤ nc := by simp only [nc, Question.cut]; omega
    have h1 := hold w.drew (fun _ _ => rfl)
    have h2 := hfc2 w.drew (fun _ _ => rfl)
    have hgs := growslice_fits hcap hb
    refine ⟨.slice (some ⟨w.heap.size, 0, none⟩) (css.length + css2.length) nc, w.drew.alloc (.cells (⟨css.flatten⟩ ++ ⟨css2.flatten⟩ ++ Builtin.zeroCells zv.cells (nc - (css.length + css2.length))) e), ?_, ?_⟩
    · subst hv
      have hw : ({ w with drawn := w.drawn + 1 } : World) = w.drew := rfl
      simp only [Builtin.append_, List.getElem?_toArray, List.getElem?_cons_zero, List.getElem?_cons_succ, Sem.run_bind, run_underlying' P Ts _ w hu, Result.andThen_ok, hsz]
      have hnr : ¬ (css.length + css2.length ≤ cap) := by omega
      have hnx : ¬ (Builtin.nextslicecap (css.length + css2.length) cap * i.bytes > 2 ^ 48) := by omega
      rcases hts with ⟨e2, hd⟩ | hd
      all_goals
        simp only [run_underlying' P Ts2 _ w hd, Result.andThen_ok, Sem.run_pure, Bool.false_eq_true, if_false, hl2, Sem.run_ite, if_neg hnr, Sem.run_bind, run_typeInfo P e i _ hi, if_neg hnx]
      all_goals
       simp only [run_choose, hq, Bool.false_eq_true, if_false, Result.andThen_ok, run_askRoom, hw]
       rw [h1]
       simp only [Result.andThen_ok, Bool.not_false, if_true]
       rw [h2]
       simp only [Result.andThen_ok, run_zeroValue' P e zv _ (by simp [zeroT, hi, hz]), newRow, Sem.run_bind, run_newObj, Sem.run_pure]
       rw [if_neg (by rintro ⟨_, h | h⟩; exact h; omega)]
       rfl
    · have hblk := blk_alloc w.drew ((⟨css.flatten⟩ ++ ⟨css2.flatten⟩ ++ Builtin.zeroCells zv.cells (nc - (css.length + css2.length)) : Array Value).toList) e
      refine ⟨(· = w.heap.size), ⟨?_, .inr ⟨w.heap.size, 0, nc, _, by simp, by simpa using hnc, hblk, ?_, ?_, fun x => Iff.rfl⟩⟩, ((fr_alloc w.drew _).drew).any, fun b hb => .inr (Nat.le_of_eq hb.symm)⟩
      · intro c hc
        rcases List.mem_append.1 hc with hc | hc
        · exact hlen c hc
        · exact hlen2 c hc
      · simp only [Array.toList_append, List.length_append, zeroCells_list, hf1, hf2, hzs, ← Nat.add_mul, Nat.zero_add]
        exact Nat.mul_le_mul_right _ (by omega)
      · intro j hj
        simp only [List.length_append] at hj
        rw [Nat.zero_add, Array.toList_append, Array.toList_append, List.flatten_append]
        rw [List.getElem?_append_left (by simp only [List.length_append, hf1, hf2, ← Nat.add_mul]; exact hj)]
  obtain ⟨_, ⟨hv, hc, hF⟩ | ⟨b, off, cap, arr, hv, g1, g2, g3, g4, g5⟩⟩ := hs
  · by_cases hc2 : css2 = []
    · subst hc hc2 hv
      refine ⟨.slice none 0 0, w, ?_, F, ⟨by simp, .inl ⟨rfl, rfl, hF⟩⟩, Fr.refl _ _, fun b hb => .inl hb⟩
      have h2 := hfc2 w (fun _ _ => rfl)
      simp only [List.length_nil] at h2
      simp only [Builtin.append_, List.getElem?_toArray, List.getElem?_cons_zero, List.getElem?_cons_succ, Sem.run_bind, run_underlying' P Ts _ w hu, Result.andThen_ok, hsz]
      rcases hts with ⟨e2, hd⟩ | hd
      all_goals
        simp only [run_underlying' P Ts2 _ w hd, Sem.run_pure, Result.andThen_ok, Bool.false_eq_true, if_false, hl2, List.length_nil, Nat.add_zero, Nat.le_refl, if_true, Bool.not_false, Sem.run_bind]
        rw [h2]
        rfl
    · refine grow none 0 (by rw [hv, hc]; rfl) ?_ ?_
      · have : 0 < css2.length := List.length_pos_iff.2 hc2
        omega
      · intro w' _; subst hv hc; rfl
  · by_cases hroom : css.length + css2.length ≤ cap
    · have hm := Nat.mul_le_mul_right i.size hroom
      rw [Nat.add_mul] at hm
      have h2 := hfc2 w (fun _ _ => rfl)
      have hone : ∀ u ∈ css2.flatten, oneC u = true := by
        intro u hu
        obtain ⟨c, hc, hu⟩ := List.mem_flatten.1 hu
        exact hone2 c hc u hu
      obtain ⟨w', h3, h4, h5, h6⟩ := storeCells_blk P b e css2.flatten w arr (off + css.length * i.size) 0 g2 (by omega) hone
      refine ⟨.slice (some ⟨b, off, none⟩) (css.length + css2.length) cap, w', ?_, F, ⟨?_, .inr ⟨b, off, cap, _, by simp, by simpa using hroom, h6, ?_, ?_, g5⟩⟩, h4.mono (fun x _ hx => (g5 x).2 hx), fun x hx => .inl hx⟩
      · subst hv
        simp only [Builtin.append_, List.getElem?_toArray, List.getElem?_cons_zero, List.getElem?_cons_succ, Sem.run_bind, run_underlying' P Ts _ w hu, Result.andThen_ok, hsz]
        rcases hts with ⟨e2, hd⟩ | hd
        all_goals
          simp only [run_underlying' P Ts2 _ w hd, Sem.run_pure, Result.andThen_ok, Bool.false_eq_true, if_false, hl2, hroom, if_true, Bool.not_false, Sem.run_bind]
          rw [h2]
          simp only [Result.andThen_ok, add_addr, h3]
      · intro c hc
        rcases List.mem_append.1 hc with hc | hc
        · exact hlen c hc
        · exact hlen2 c hc
      · simp only [List.length_append, List.length_take, List.length_drop]; omega
      · intro j hj
        simp only [List.length_append, Nat.add_mul] at hj
        rw [List.flatten_append]
        simp only [Nat.add_zero]
        have hlt : (arr.take (off + css.length * i.size)).length = off + css.length * i.size := by simp; omega
        by_cases hj1 : j < css.length * i.size
        · rw [List.getElem?_append_left (by omega), List.getElem?_take_of_lt (by omega), List.getElem?_append_left (by omega)]
          exact g4 j hj1
        · rw [List.getElem?_append_right (by omega), hlt, List.getElem?_append_left (by omega), List.getElem?_append_right (by omega), hf1]
          congr 1; omega
    · refine grow (some ⟨b, off, none⟩) cap hv (by omega) ?_
      intro w' hw'
      subst hv
      have g2' := g2.of_same (hw' b g2.lt)
      simp only [Builtin.firstCells]
      refine run_loadCells_cells _ _ _ ⟨hf1, fun j hj => ?_⟩
      rw [add_addr]
      have := g4 j hj
      rw [List.getElem?_eq_getElem (show j < css.flatten.length by omega)] at this ⊢
      exact g2'.cell this

section
variable {P : Program} {l : List GO} {Q : QT} {ρ : Env} {w : World}

theorem s_app {d : Nat} {Ts Ts2 Ty e es nb : Nat} {z : List Value} {x y : Operand} {v v2 : Value} {F : Nat → Prop} {css css2 : List (List Value)} (hel : elInfo P Ts = some (e, es, nb, z))
    (hts : (∃ e2, P.underlying Ts2 = some (.slice e2)) ∨ P.underlying Ts2 = some .string) (hx : ρ.ev x = v) (hy : ρ.ev y = v2) (hs : Sl w.heap e es v F css) (hsrc : Src P w es v2 css2) (hb : (css.length + css2.length) * nb ≤ 140737488355328)
    (h : ∀ v' w', AppPost w e es F css css2 v' w' → opsWp P l Q (upd ρ d v') w') : opsWp P (⟨none, .raw ⟨some d, .call ⟨.builtin .append, #[x, y], #[Ts, Ts2]⟩, Ty, "", #[], none⟩⟩ :: l) Q ρ w := by
  obtain ⟨v', w', hr, hp⟩ := run_append (Ty := Ty) hel hts hs hsrc hb
  refine raw_val (v := v') (w' := w') ?_ (h v' w' hp)
  simp only [execOp, resolve, Sem.run_bind, Sem.run_pure, Result.andThen_ok, invoke, builtin]
  have e1 : (#[x, y].map ρ.ev) = #[v, v2] := by simp [hx, hy]
  rw [e1, hr]; rfl
theorem s_app0 {Ts Ts2 Ty e es nb : Nat} {z : List Value} {x y : Operand} {v v2 : Value} {F : Nat → Prop} {css css2 : List (List Value)} (hel : elInfo P Ts = some (e, es, nb, z))
    (hts : (∃ e2, P.underlying Ts2 = some (.slice e2)) ∨ P.underlying Ts2 = some .string) (hx : ρ.ev x = v) (hy : ρ.ev y = v2) (hs : Sl w.heap e es v F css) (hsrc : Src P w es v2 css2) (hb : (css.length + css2.length) * nb ≤ 140737488355328)
    (h : ∀ v' w', AppPost w e es F css css2 v' w' → opsWp P l Q ρ w') : opsWp P (⟨none, .raw ⟨none, .call ⟨.builtin .append, #[x, y], #[Ts, Ts2]⟩, Ty, "", #[], none⟩⟩ :: l) Q ρ w := by
  obtain ⟨v', w', hr, hp⟩ := run_append (Ty := Ty) hel hts hs hsrc hb
  refine raw_val (v := v') (w' := w') ?_ (h v' w' hp)
  simp only [execOp, resolve, Sem.run_bind, Sem.run_pure, Result.andThen_ok, invoke, builtin]
  have e1 : (#[x, y].map ρ.ev) = #[v, v2] := by simp [hx, hy]
  rw [e1, hr]; rfl

/-- n times the same elements. -/
theorem repl_flatten {z : List Value} {es : Nat} (hz : z.length = es) (hes : 0 < es) (n : Nat) : (List.range (n * es)).map (fun i => z.getD (i % es) default) = (List.replicate n z).flatten := by
  apply List.ext_getElem?
  intro i
  have hl : ∀ c ∈ List.replicate n z, c.length = es := by intro c hc; rw [List.eq_of_mem_replicate hc]; exact hz
  have hfl := flatten_len hl
  simp only [List.length_replicate] at hfl
  by_cases hi : i < n * es
  · have hq : i / es < n := Nat.div_lt_of_lt_mul (by rw [Nat.mul_comm]; exact hi)
    have hm : i % es < es := Nat.mod_lt _ hes
    have e := flatten_get hl (m := i / es) (j := i % es) (c := z) (by simp [hq]) hm
    have hdm : i / es * es + i % es = i := by rw [Nat.mul_comm]; exact Nat.div_add_mod i es
    rw [hdm] at e
    rw [e]
    simp only [List.getElem?_map, List.getElem?_range hi, Option.map_some]
    rw [List.getD_eq_getElem?_getD, List.getElem?_eq_getElem (show i % es < z.length by omega)]
    rfl
  · rw [List.getElem?_eq_none (by simp; omega), List.getElem?_eq_none (by omega)]

theorem s_make {d : Nat} {Ts Ty e es nb : Nat} {z : List Value} {x y : Operand} {k k' : IntKind} {n : Int} (hel : elInfo P Ts = some (e, es, nb, z)) (hx : ρ.ev x = .int k n) (hy : ρ.ev y = .int k' n) (h0 : 0 ≤ n) (hn : n * nb ≤ 281474976710656)
    (h : ∀ v' w', Fr NF w w' → Sl w'.heap e es v' (· = w.heap.size) (List.replicate n.toNat z) → w'.heap.size = w.heap.size + 1 → opsWp P l Q (upd ρ d v') w') :
    opsWp P (⟨none, .raw ⟨some d, .makeSlice Ts x y, Ty, "", #[], none⟩⟩ :: l) Q ρ w := by
  obtain ⟨i, zv, hu, hi, hz, rfl, rfl, hzc, hes, hnb, hzl⟩ := elInfo_spec hel
  have hzs : zv.cells.size = i.size := by rw [← Array.length_toList, hzc]; exact hzl
  have hle : n ≤ 281474976710656 := by
    have : n * 1 ≤ n * i.bytes := Int.mul_le_mul_of_nonneg_left (by omega) h0
    omega
  have hwr : IntKind.i64.wrap n = n := wrap_i64 (by omega) (by omega)
  have hfl := repl_flatten hzl hes n.toNat
  have hl : ∀ c ∈ List.replicate n.toNat z, c.length = i.size := by intro c hc; rw [List.eq_of_mem_replicate hc]; exact hzl
  have hb : (i.bytes : Int) * n ≤ 281474976710656 := by rw [Int.mul_comm]; exact hn
  have hlarge : (n < 0 || decide ((i.bytes : Int) * n > 2 ^ 48)) = false := by
    simp only [Bool.or_eq_false_iff, decide_eq_false_iff_not]; omega
  refine raw_val (v := .slice (some ⟨w.heap.size, 0, none⟩) n.toNat n.toNat) (w' := w.alloc (.cells ⟨(List.replicate n.toNat z).flatten⟩ e)) ?_ ?_
  · simp only [execOp, Instr.makeSlice, Sem.run_bind, run_underlying' P Ts _ w hu, Result.andThen_ok, hx, hy, asInt, asIntOf, Sem.run_pure, run_typeInfo P e i _ hi, hwr, hlarge, Bool.false_or]
    have hc2 : (decide (n < 0) || decide (n > n)) = false := by simp only [Bool.or_eq_false_iff, decide_eq_false_iff_not]; omega
    rw [hc2]
    simp only [Bool.false_eq_true, if_false, Sem.run_bind, run_askRoom, Result.andThen_ok, run_sizeOf' P e i.size w (by simp [sizeT, hi])]
    by_cases hnz : n.toNat * i.size = 0
    · rw [if_pos hnz]
      have hn0 : n.toNat = 0 := by
        rcases Nat.mul_eq_zero.1 hnz with h | h
        · exact h
        · omega
      simp only [Sem.run_pure, Result.andThen_ok, newRow, Sem.run_bind, run_newObj, hn0, Nat.zero_mul]
      have hr0 : Array.range 0 = #[] := rfl
      rw [hr0, Array.map_empty]
      rfl
    · rw [if_neg hnz]
      simp only [Sem.run_bind, run_zeroValue' P e zv _ (by simp [zeroT, hi, hz]), Sem.run_pure, Result.andThen_ok, newRow, run_newObj]
      have harr : ((Array.range (n.toNat * i.size)).map (zv.cells[· % zv.cells.size]!) : Array Value) = ⟨(List.replicate n.toNat z).flatten⟩ := by
        apply Array.ext'
        rw [← hfl]
        simp [hzs, ← hzc]
        intro a _
        rw [Array.getElem!_eq_getD, Array.getD_eq_getD_getElem?]
      rw [harr]
      rfl
  · exact h _ _ (fr_alloc w _) (Sl.fresh (blk_alloc w _ e) rfl hl (by simp)) (by simp)

/-- v' is the part of v from l' to h'. -/
def SubOf (es : Nat) (v v' : Value) (len l' h' : Nat) : Prop :=
  (v = .slice none 0 0 ∧ v' = .slice none 0 0 ∧ l' = 0 ∧ h' = 0) ∨
  ∃ b off cap, v = .slice (some ⟨b, off, none⟩) len cap ∧ ((l' = h' ∧ ∃ o c, v' = .slice (some ⟨b, o, none⟩) 0 c) ∨ v' = .slice (some ⟨b, off + l' * es, none⟩) (h' - l') (cap - l'))

theorem s_subP {d : Nat} {es T : Nat} {v : Value} {F : Nat → Prop} {css : List (List Value)} {x : Operand} {lo hi mx : Option Operand} {l' h' : Nat} (hx : ρ.ev x = v) (hs : Sl w.heap T es v F css) (hmx : mx = none) (hh : bnd ρ css.length hi h') (hl : bnd ρ 0 lo l') (h2 : h' ≤ css.length) (h3 : l' ≤ h')
    (h : ∀ v', SubOf es v v' css.length l' h' → opsWp P l Q (upd ρ d v') w) : opsWp P (⟨none, .sub d es x lo hi mx⟩ :: l) Q ρ w := by
  subst hmx
  obtain ⟨hlen, ⟨hv, hc, hF⟩ | ⟨b, off, cap, arr, hv, g1, g2, g3, g4, g5⟩⟩ := hs
  · subst hc hv
    simp only [List.length_nil, Nat.le_zero_eq] at h2
    subst h2
    have : l' = 0 := by omega
    subst this
    exact s_sub (m := 0) hx rfl hh hl (Nat.le_refl _) (Nat.le_refl _) (Nat.le_refl _) (h _ (.inl ⟨rfl, by simp, rfl, rfl⟩))
  · subst hv
    refine s_sub (m := cap) hx rfl hh hl (Nat.le_refl _) (by omega) h3 (h _ (.inr ⟨b, off, cap, rfl, ?_⟩))
    by_cases hcl : cap = l'
    · rw [if_pos hcl]
      exact .inl ⟨by omega, off, cap - l', by rw [show h' - l' = 0 by omega]⟩
    · rw [if_neg hcl]
      exact .inr (by simp only [Option.map_some, add_addr])

theorem s_clear {Ts Ty e es nb : Nat} {z : List Value} {x : Operand} {v v' : Value} {F : Nat → Prop} {css : List (List Value)} {l' h' : Nat} (hel : elInfo P Ts = some (e, es, nb, z)) (hzo : ∀ u ∈ z, oneC u = true) (hx : ρ.ev x = v') (hs : Sl w.heap e es v F css)
    (hsub : SubOf es v v' css.length l' h') (h1 : l' ≤ h') (h2 : h' ≤ css.length)
    (h : ∀ w', Fr F w w' → w'.heap.size = w.heap.size → Sl w'.heap e es v F (css.take l' ++ (List.replicate (h' - l') z ++ css.drop h')) → opsWp P l Q ρ w') :
    opsWp P (⟨none, .raw ⟨none, .call ⟨.builtin .clear, #[x], #[Ts]⟩, Ty, "", #[], none⟩⟩ :: l) Q ρ w := by
  obtain ⟨i, zv, hu, hi, hz, rfl, rfl, hzc, hes, hnb, hzl⟩ := elInfo_spec hel
  have hzs : zv.cells.size = i.size := by rw [← Array.length_toList, hzc]; exact hzl
  have hl : ∀ c ∈ List.replicate (h' - l') z, c.length = i.size := by intro c hc; rw [List.eq_of_mem_replicate hc]; exact hzl
  have hfl := repl_flatten hzl hes (h' - l')
  have hfn := flatten_len hl
  simp only [List.length_replicate] at hfn
  have e1 : (#[x].map ρ.ev) = #[v'] := by simp [hx]
  have same : l' = h' → css.take l' ++ (List.replicate (h' - l') z ++ css.drop h') = css := by
    intro e; subst e; simp
  have triv : ∀ (a : Option Addr) (c : Nat), v' = .slice a 0 c → l' = h' → opsWp P (⟨none, .raw ⟨none, .call ⟨.builtin .clear, #[x], #[Ts]⟩, Ty, "", #[], none⟩⟩ :: l) Q ρ w := by
    intro a c hv' hlh
    refine raw_val (v := .tuple #[]) (w' := w) ?_ (h w (Fr.refl _ _) rfl (by rw [same hlh]; exact hs))
    subst hv'
    simp only [execOp, resolve, Sem.run_bind, Sem.run_pure, Result.andThen_ok, invoke, builtin, e1, Builtin.clear_, List.getElem?_toArray, List.getElem?_cons_zero, run_underlying' P Ts _ w hu]
    cases a <;> rfl
  rcases hsub with ⟨_, hv', rfl, rfl⟩ | ⟨b0, off0, cap0, hv0, ⟨hlh, o, c, hv'⟩ | hv'⟩
  · exact triv _ _ hv' rfl
  · exact triv _ _ hv' hlh
  · by_cases hlh : l' = h'
    · exact triv _ _ (by rw [hv', hlh, Nat.sub_self]) hlh
    · obtain ⟨hlen, ⟨hv, _, _⟩ | ⟨b, off, cap, arr, hv, g1, g2, g3, g4, g5⟩⟩ := hs
      · rw [hv] at hv0; cases hv0
      · rw [hv] at hv0
        simp only [Value.slice.injEq, Option.some.injEq, Addr.mk.injEq, and_true, true_and] at hv0
        obtain ⟨⟨rfl, rfl⟩, rfl⟩ := hv0
        subst hv'
        have hm := Nat.mul_le_mul_right i.size g1
        have hm2 := Nat.mul_le_mul_right i.size h2
        have hm3 : (h' - l') * i.size + l' * i.size = h' * i.size := by rw [← Nat.add_mul]; congr 1; omega
        obtain ⟨w', h3, h4, h5, h6⟩ := storeCells_blk P b e (List.replicate (h' - l') z).flatten w arr (off + l' * i.size) 0 g2 (by omega) (by
          intro u hu
          obtain ⟨c, hc, hu⟩ := List.mem_flatten.1 hu
          rw [List.eq_of_mem_replicate hc] at hu
          exact hzo u hu)
        simp only [Nat.add_zero] at h6
        have harr : (Builtin.zeroCells zv.cells (h' - l')).toList = (List.replicate (h' - l') z).flatten := by
          rw [← hfl]
          simp [Builtin.zeroCells, hzs, ← hzc]
          intro a _
          rw [Array.getElem!_eq_getD, Array.getD_eq_getD_getElem?]
        refine raw_val (v := .tuple #[]) (w' := w') ?_ (h w' (h4.mono (fun x _ hx => (g5 x).2 hx)) h5 ?_)
        · simp only [execOp, resolve, Sem.run_bind, Sem.run_pure, Result.andThen_ok, invoke, builtin, e1, Builtin.clear_, List.getElem?_toArray, List.getElem?_cons_zero, run_underlying' P Ts _ w hu]
          cases hn : h' - l' with
          | zero => omega
          | succ n =>
            rw [hn] at harr h3
            simp only [Sem.run_bind, run_zeroValue' P e zv _ (by simp [zeroT, hi, hz]), Result.andThen_ok, harr, h3, Sem.run_pure]
        · have hcl : (css.take l' ++ (List.replicate (h' - l') z ++ css.drop h')).length = css.length := by simp; omega
          have hall : ∀ c ∈ css.take l' ++ (List.replicate (h' - l') z ++ css.drop h'), c.length = i.size := by
            intro c hc
            rcases List.mem_append.1 hc with hc | hc
            · exact hlen c (List.mem_of_mem_take hc)
            · rcases List.mem_append.1 hc with hc | hc
              · exact hl c hc
              · exact hlen c (List.mem_of_mem_drop hc)
          refine ⟨hall, .inr ⟨b, off, cap, _, by rw [hcl]; exact hv, by rw [hcl]; exact g1, h6, ?_, ?_, g5⟩⟩
          · simp only [List.length_append, List.length_take, List.length_drop, hfn]; omega
          · intro j hj
            rw [hcl] at hj
            have hlt : (arr.take (off + l' * i.size)).length = off + l' * i.size := by simp; omega
            have f1 := flatten_len (css := css.take l') (es := i.size) (fun c hc => hlen c (List.mem_of_mem_take hc))
            have ht : (css.take l').length = l' := by simp; omega
            rw [ht] at f1
            have e2 : css.flatten = (css.take l').flatten ++ (css.drop l').flatten := by rw [← List.flatten_append, List.take_append_drop]
            have e3 : css.flatten = (css.take h').flatten ++ (css.drop h').flatten := by rw [← List.flatten_append, List.take_append_drop]
            have f3 := flatten_len (css := css.take h') (es := i.size) (fun c hc => hlen c (List.mem_of_mem_take hc))
            have ht3 : (css.take h').length = h' := by simp; omega
            rw [ht3] at f3
            simp only [List.flatten_append]
            by_cases hj1 : j < l' * i.size
            · rw [List.getElem?_append_left (by omega), List.getElem?_take_of_lt (by omega), List.getElem?_append_left (by omega), g4 j hj, e2, List.getElem?_append_left (by omega)]
            · by_cases hj2 : j < h' * i.size
              · rw [List.getElem?_append_right (by omega), hlt, List.getElem?_append_left (by omega), List.getElem?_append_right (by omega), f1, List.getElem?_append_left (by omega)]
                congr 1; omega
              · rw [List.getElem?_append_right (by omega), hlt, List.getElem?_append_right (by omega), List.getElem?_drop, List.getElem?_append_right (by omega), f1, List.getElem?_append_right (by omega)]
                have := g4 j hj
                rw [e3, List.getElem?_append_right (by omega), f3] at this
                rw [show off + l' * i.size + (List.replicate (h' - l') z).flatten.length + (off + j - (off + l' * i.size) - (List.replicate (h' - l') z).flatten.length) = off + j by omega, this]
                congr 1; omega
end
end Go.Lir
