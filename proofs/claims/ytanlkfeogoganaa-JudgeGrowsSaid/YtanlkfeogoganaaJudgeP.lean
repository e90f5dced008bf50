/- What is true of a judge: plain lemmas. -/
import Derived.Test.YtanlkfeogoganaaJudgeF
namespace Go.Lir
set_option linter.unusedVariables false
/-! ### A module of the right form -/
theorem orF_zl {a b : Flt} (h : (orF a b).1 = 0) : a.1 = 0 ∧ b.1 = 0 := by
  unfold orF at h
  split at h
  · rename_i hc; exact absurd h hc.2
  · rename_i hc
    refine ⟨h, ?_⟩
    exact Classical.byContradiction fun hb => hc ⟨h, hb⟩
theorem codeFault_all {n f b : Nat} : ∀ {l : List Ins} {i : Nat}, (codeFault n f b i l).1 = 0 → ∀ x ∈ l, insForm n x = 0
  | [], _, _, x, hx => by cases hx
  | y :: l, i, h, x, hx => by
    rw [codeFault] at h
    obtain ⟨h1, h2⟩ := orF_zl h
    rw [mkF_fst] at h1
    rcases List.mem_cons.1 hx with rfl | hx
    · exact h1
    · exact codeFault_all h2 x hx
theorem blocksFault_all {n f : Nat} {x : Fun} : ∀ {l : List Block} {b0 : Nat}, (blocksFault n f x b0 l).1 = 0 → ∀ (b : Nat) (y : Block), l[b]? = some y → (blockFault n f x (b0 + b) y).1 = 0
  | [], _, _, b, y, hy => by cases hy
  | z :: l, b0, h, b, y, hy => by
    rw [blocksFault] at h
    obtain ⟨h1, h2⟩ := orF_zl h
    cases b with
    | zero => rw [List.getElem?_cons_zero] at hy; cases hy; exact h1
    | succ b => rw [List.getElem?_cons_succ] at hy; rw [show b0 + (b + 1) = b0 + 1 + b by omega]; exact blocksFault_all h2 b y hy
theorem funsFault_all {n : Nat} : ∀ {l : List Fun} {f0 : Nat}, (funsFault n f0 l).1 = 0 → ∀ (f : Nat) (x : Fun), l[f]? = some x → (funFault n (f0 + f) x).1 = 0
  | [], _, _, b, y, hy => by cases hy
  | z :: l, b0, h, b, y, hy => by
    rw [funsFault] at h
    obtain ⟨h1, h2⟩ := orF_zl h
    cases b with
    | zero => rw [List.getElem?_cons_zero] at hy; cases hy; exact h1
    | succ b => rw [List.getElem?_cons_succ] at hy; rw [show b0 + (b + 1) = b0 + 1 + b by omega]; exact funsFault_all h2 b y hy
theorem fault_block {m : Module} (h : m.fault.1 = 0) {f b : Nat} {x : Fun} {y : Block} (hx : m.funcs[f]? = some x) (hy : x.blocks[b]? = some y) : blockHead x b y = 0 ∧ (∀ i ∈ y.code, insForm m.funcs.length i = 0) ∧ endForm x.blocks.length y.fin = 0 := by
  have h1 := funsFault_all (orF_zl h).2 f x hx
  have h2 := blocksFault_all (orF_zl h1).2 b y hy
  obtain ⟨h3, h4⟩ := orF_zl h2
  obtain ⟨h5, h6⟩ := orF_zl h4
  rw [mkF_fst] at h3 h6
  rw [Nat.zero_add] at h3
  exact ⟨h3, codeFault_all h5, h6⟩
theorem bhead_parts {x : Fun} {b : Nat} {y : Block} (h : blockHead x b y = 0) : x.regs ≤ y.regs ∧ y.regs ≤ 16 ∧ listForm y.params y.regs = 0 ∧ (b = 0 → y.regs = x.regs ∧ y.params = x.params) ∧ y.code.length ≤ 40 := by
  unfold blockHead at h
  split at h
  · cases h
  · rename_i h1
    split at h
    · rename_i h2; exact absurd h h2
    · rename_i h2
      split at h
      · cases h
      · rename_i h3
        split at h
        · cases h
        · refine ⟨by omega, by omega, Classical.not_not.1 h2, fun hb => ?_, by omega⟩
          refine ⟨Classical.byContradiction fun hr => h3 ⟨hb, .inl hr⟩, Classical.byContradiction fun hr => h3 ⟨hb, .inr hr⟩⟩
theorem listForm_len {l : List Ty} {r : Int} (h : listForm l r = 0) : l.length ≤ 8 := by
  unfold listForm at h
  split at h
  · cases h
  · omega
/-! ### What is renamed is short -/
theorem Ty.ren_short : ∀ (t : Ty) {to : List Int} {u : Ty}, t.Short → t.ren to = some u → u.Short := by
  intro t
  induction t using Ty.ind with
  | h k r l ih =>
    intro to u hs h
    obtain ⟨hl, hp⟩ := hs.parts
    rw [Ty.ren] at h
    split at h
    · cases h
    · split at h
      · cases h
      · rename_i m hm
        cases h
        have key : ∀ (l : List Ty) (m : List Ty), (∀ x ∈ l, x.Short ∧ ∀ {u : Ty}, x.Short → x.ren to = some u → u.Short) → Tys.ren l to = some m → m.length = l.length ∧ ∀ y ∈ m, y.Short := by
          intro l
          induction l with
          | nil => intro m _ h; rw [Tys.ren] at h; cases h; exact ⟨rfl, by simp⟩
          | cons x l ihl =>
            intro m hx h
            rw [Tys.ren] at h
            cases h1 : x.ren to with
            | none => rw [h1] at h; cases h
            | some y =>
              rw [h1] at h
              cases h2 : Tys.ren l to with
              | none => rw [h2] at h; cases h
              | some m2 =>
                rw [h2] at h
                simp only [Option.some.injEq] at h
                subst h
                obtain ⟨h3, h4⟩ := ihl m2 (fun z hz => hx z (List.mem_cons_of_mem _ hz)) h2
                refine ⟨by simp [h3], fun z hz => ?_⟩
                rcases List.mem_cons.1 hz with rfl | hz
                · obtain ⟨h5, h6⟩ := hx x (List.mem_cons_self ..); exact h6 h5 h1
                · exact h4 z hz
        obtain ⟨h3, h4⟩ := key l m (fun x hx => ⟨hp x hx, fun hs h => ih x hx hs h⟩) hm
        exact .mk (by omega) h4
theorem Ty.Short.part {t : Ty} (h : t.Short) : ∀ u ∈ t.l, u.Short := by
  obtain ⟨k, r, l⟩ := t
  exact h.parts.2
theorem renT_short {t : Ty} {to : List Int} (h : t.Short) : (renT to t).Short := by
  unfold renT
  cases hn : t.ren to with
  | none => exact .mk (by decide) (by simp)
  | some u => exact Ty.ren_short t h hn
/-! ### What stays so -/
structure JGood (s : JS) : Prop where
  n : s.l.length ≤ 80
  h : s.h.length ≤ 16
  s : ∀ t ∈ s.l, t.Short
theorem JGood.get {s : JS} (hg : JGood s) {k : Int} {t : Ty} (h : jval s k = .ok t) : t.Short := hg.s t (List.mem_of_getElem? (jval_ok h).2)
theorem JGood.put {s s' : JS} {t : Ty} (hg : JGood s) (ht : t.Short) (h : jput s t = .ok s') : JGood s' := by
  obtain ⟨h1, h2, h3⟩ := jput_ok h
  refine ⟨by rw [h3, List.length_append]; have := hg.n; simp only [List.length_cons, List.length_nil]; omega, by rw [h2]; exact hg.h, fun u hu => ?_⟩
  rw [h3] at hu
  rcases List.mem_append.1 hu with hu | hu
  · exact hg.s u hu
  · simp at hu; subst hu; exact ht
theorem short0 {k r : Int} : (Ty.mk k r []).Short := .mk (by decide) (by simp)
theorem jfields_good {s : JS} (hg : JGood s) : ∀ {l : List Int} {ts : List Ty}, jfields s l = .ok ts → ts.length = l.length ∧ ∀ t ∈ ts, t.Short
  | [], ts, h => by rw [jfields] at h; cases h; exact ⟨rfl, by simp⟩
  | k :: l, ts, h => by
    rw [jfields] at h
    obtain ⟨t, h1, h⟩ := ebind_ok h
    obtain ⟨us, h2, h⟩ := ebind_ok h
    cases h
    obtain ⟨h3, h4⟩ := jfields_good hg h2
    refine ⟨by simp [h3], fun u hu => ?_⟩
    rcases List.mem_cons.1 hu with rfl | hu
    · exact hg.get h1
    · exact h4 u hu
theorem jat_val {s : JS} {k kd : Int} {t : Ty} (h : jat s k kd = .ok t) : jval s k = .ok t := by have := jat_ok h; exact jval_yes this.1 this.2.1
theorem jfield_ok {t u : Ty} {k : Int} (h : jfield t k = .ok u) : t.l[k.toNat]? = some u := by
  unfold jfield at h
  split at h
  · cases h
  · rename_i v hv; cases h; exact hv
theorem jins_good {m : Module} {f : Fun} {s s' : JS} {x : Ins} (hm : m.Short) (hg : JGood s) (hF : insForm m.funcs.length x = 0) (h : jins m f s x = .ok s') : JGood s' := by
  have hop := insForm_op hF
  have hst := jins_step hop h
  have hn : s'.l.length ≤ 80 := hst.len hg.n
  by_cases h3 : x.op = 3
  · rw [jins_3 h3] at h
    split at h
    · cases h
    · rename_i hc
      cases h
      refine ⟨hn, by have := hg.h; simp only [List.length_append, List.length_cons, List.length_nil]; omega, fun u hu => ?_⟩
      rcases List.mem_append.1 hu with hu | hu
      · exact hg.s u hu
      · simp at hu; subst hu; exact short0
  by_cases h4 : x.op = 4
  · rw [jins_4 h4] at h
    obtain ⟨t, h1, h⟩ := ebind_ok h
    split at h
    · cases h
    · cases h; exact ⟨hn, by rw [List.length_set]; exact hg.h, hg.s⟩
  rcases op_cases (op := x.op) (by omega) (by omega) with e | e | e | e | e | e | e | e | e | e | e | e | e | e
  · rw [jins_1 (by omega)] at h; exact hg.put short0 h
  · rw [jins_2 (by omega)] at h; obtain ⟨_, _, h⟩ := ebind_ok h; obtain ⟨_, _, h⟩ := ebind_ok h; exact hg.put short0 h
  · exact absurd e h3
  · exact absurd e h4
  · rw [jins_5 (by omega)] at h
    unfold jtuple at h
    obtain ⟨t, _, h⟩ := ebind_ok h; obtain ⟨ts, h2, h⟩ := ebind_ok h
    split at h
    · cases h
    · obtain ⟨h5, h6⟩ := jfields_good hg h2
      have hal : x.args.length ≤ 8 := by
        unfold insForm insKind at hF
        simp [e] at hF; omega
      exact hg.put (.mk (by omega) h6) h
  · rw [jins_6 (by omega)] at h; obtain ⟨t, h1, h⟩ := ebind_ok h; obtain ⟨u, h2, h⟩ := ebind_ok h
    exact hg.put (Ty.Short.part (hg.get (jat_val h1)) u (List.mem_of_getElem? (jfield_ok h2))) h
  · rw [jins_7 (by omega)] at h; obtain ⟨_, _, h⟩ := ebind_ok h; obtain ⟨_, _, h⟩ := ebind_ok h; obtain ⟨_, _, h⟩ := ebind_ok h
    split at h
    · cases h
    · cases h; exact hg
  · rw [jins_8 (by omega)] at h; obtain ⟨_, _, h⟩ := ebind_ok h; obtain ⟨_, _, h⟩ := ebind_ok h; exact hg.put short0 h
  · rw [jins_9 (by omega)] at h; obtain ⟨_, _, h⟩ := ebind_ok h; obtain ⟨_, _, h⟩ := ebind_ok h; exact hg.put short0 h
  · rw [jins_10 (by omega)] at h; obtain ⟨_, _, h⟩ := ebind_ok h; obtain ⟨_, _, h⟩ := ebind_ok h; obtain ⟨_, _, h⟩ := ebind_ok h; cases h; exact hg
  · rw [jins_11 (by omega)] at h; obtain ⟨_, _, h⟩ := ebind_ok h; exact hg.put short0 h
  · rw [jins_1 (by omega)] at h; exact hg.put short0 h
  · rw [jins_13 (by omega)] at h; obtain ⟨_, _, h⟩ := ebind_ok h; cases h; exact hg
  · rw [jins_14 (by omega)] at h
    unfold jcall at h
    split at h
    · cases h
    · rename_i g hgf
      split at h
      · cases h
      · obtain ⟨_, _, h⟩ := ebind_ok h; obtain ⟨_, _, h⟩ := ebind_ok h
        split at h
        · cases h
        · cases h
          refine ⟨hn, hg.h, fun u hu => ?_⟩
          rcases List.mem_append.1 hu with hu | hu
          · exact hg.s u hu
          · obtain ⟨t, ht, rfl⟩ := List.mem_map.1 hu
            exact renT_short ((hm.2 g (List.mem_of_getElem? hgf)).2.1.2 t ht)
theorem jIns_good {m : Module} {f : Fun} {s : JS} {x : Ins} (hm : m.Short) (hg : JGood s) : JGood (jIns m f s x).2 := by
  by_cases h : (jIns m f s x).1 = 0
  · obtain ⟨h1, h2⟩ := jIns_ok h; exact jins_good hm hg h1 h2
  · rw [jIns_no h]; exact hg
theorem jStart_good {m : Module} (hm : m.Short) (hF : m.fault.1 = 0) {f b : Nat} {x : Fun} {y : Block} (hx : m.funcs[f]? = some x) (hy : x.blocks[b]? = some y) : JGood (jStart y) := by
  have h1 := bhead_parts (fault_block hF hx hy).1
  have h2 := listForm_len h1.2.2.1
  refine ⟨by unfold jStart; simp only; omega, by unfold jStart; simp only [List.length_replicate]; omega, ?_⟩
  exact ((hm.2 x (List.mem_of_getElem? hx)).2.2.2 y (List.mem_of_getElem? hy)).1.2
/-! ### What was freed -/
/-! ### What is held, as a list -/
theorem heldTo_app (h : List Bool) : ∀ n, n ≤ h.length → heldTo (h ++ [true]) n = heldTo h n
  | 0, _ => by unfold heldTo; rfl
  | n + 1, hn => by
    rw [heldTo_succ, heldTo_succ, heldTo_app h n (by omega)]
    rw [show (h ++ [true]).getD n false = h.getD n false by rw [List.getD_eq_getElem?_getD, List.getD_eq_getElem?_getD, List.getElem?_append_left (by omega)]]
theorem heldL_snoc (h : List Bool) : heldL (h ++ [true]) = heldL h ++ [(h.length : Int)] := by
  unfold heldL
  rw [List.length_append, List.length_cons, List.length_nil, Nat.zero_add, heldTo_succ, heldTo_app h _ (Nat.le_refl _)]
  rw [show (h ++ [true]).getD h.length false = true by simp [List.getD_eq_getElem?_getD]]
  rfl
theorem heldTo_set {h : List Bool} {k : Nat} (hk : k < h.length) (ht : h.getD k false = true) : ∀ n, (heldTo (h.set k false) n).length + (if k < n then 1 else 0) = (heldTo h n).length
  | 0 => by unfold heldTo; simp
  | n + 1 => by
    have ih := heldTo_set hk ht n
    rw [heldTo_succ, heldTo_succ, List.length_append, List.length_append]
    by_cases he : n = k
    · subst he
      rw [show (h.set n false).getD n false = false by rw [List.getD_eq_getElem?_getD, List.getElem?_set_self hk]; rfl, ht]
      rw [if_neg (Nat.lt_irrefl n)] at ih
      rw [if_pos (Nat.lt_succ_self n)]
      simp only [Bool.false_eq_true, if_false, if_true, List.length_nil, List.length_cons]
      omega
    · rw [show (h.set k false).getD n false = h.getD n false by rw [List.getD_eq_getElem?_getD, List.getD_eq_getElem?_getD, List.getElem?_set_ne (by omega)]]
      by_cases hl : k < n
      · rw [if_pos hl] at ih; rw [if_pos (show k < n + 1 by omega)]; omega
      · rw [if_neg hl] at ih; rw [if_neg (show ¬ k < n + 1 by omega)]; omega
theorem heldL_set {h : List Bool} {r : Int} (hr : hasB h r = true) : (heldL (h.set r.toNat false)).length + 1 = (heldL h).length := by
  obtain ⟨h1, h2, h3⟩ := hasB_iff hr
  have := heldTo_set (by omega) h3 h.length
  rw [if_pos (show r.toNat < h.length by omega)] at this
  unfold heldL
  rw [List.length_set]
  exact this
theorem grows_1 (m : Module) (f : Fun) (s : JS) (x : Ins) : ∃ mo, (jIns m f s x).2.l = s.l ++ mo ∧ ((jIns m f s x).1 ≠ 0 → mo = [] ∧ (jIns m f s x).2 = s) ∧
    ((jIns m f s x).1 = 0 → (x.op ≠ 14 → mo.length ≤ 1) ∧ (x.op = 3 → mo.length = 1 ∧ (jIns m f s x).2.h = s.h ++ [true]) ∧ (x.op = 4 → mo = [] ∧ (heldL (jIns m f s x).2.h).length + 1 = (heldL s.h).length ∧ (jIns m f s x).2.h.length = s.h.length) ∧ (x.op ≠ 3 → x.op ≠ 4 → (jIns m f s x).2.h = s.h)) := by
  by_cases h : (jIns m f s x).1 = 0
  · have hst := jIns_step h
    obtain ⟨mo, h1, h2, h3, h4⟩ := hst.pre
    refine ⟨mo, h1, fun hn => absurd h hn, fun _ => ⟨h2, fun h9 => ⟨h3 h9, (hst.new h9).1⟩, fun h9 => ⟨h4 h9, ?_⟩, hst.else_⟩⟩
    obtain ⟨t, a1, a2, a3, a4, a5⟩ := hst.free h9
    rw [a5]
    exact ⟨heldL_set a4, by rw [List.length_set]⟩
  · refine ⟨[], ?_, fun _ => ⟨rfl, jIns_no h⟩, fun h9 => absurd h9 h⟩
    rw [jIns_no h, List.append_nil]
end Go.Lir
