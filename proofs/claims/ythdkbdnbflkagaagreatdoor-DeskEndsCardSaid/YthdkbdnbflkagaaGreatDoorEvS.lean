/- Evaluation is sound: what is said of a state; operations that read. -/
import Derived.Test.YthdkbdnbflkagaaGreatDoorEvC
namespace Go.Lir
set_option linter.unusedVariables false
set_option linter.unusedSimpArgs false
/-- From where on is counted; pairs that stay what they are; numbers that are kept. -/
structure Cn where
  w0 : World
  S : V → Value → Prop
  R : Nat → Prop
structure Bs (c : Cn) (φ : Ph) (A : AW) (w : World) : Prop where
  wr : WR φ A c.w0 w
  free : Free φ A
  keep : ∀ v u, c.S v u → VR φ v u
  res : ∀ i, c.R i → ¬ φ.u i ∧ i < A.n
def EnvR (φ : Ph) (σ : Tr2 V) (ρ : Env) : Prop := ∀ t, VR φ (σ.get .u t) (ρ t)
def Post (c : Cn) (Q : QT) : ER → Prop
  | .nm σ A => ∀ φ ρ w, Bs c φ A w → EnvR φ σ ρ → Q .normal ρ w
  | .rt σ A => ∀ φ ρ w, Bs c φ A w → EnvR φ σ ρ → Q .ret ρ w
  | .ex id σ A => ∀ φ ρ w, Bs c φ A w → EnvR φ σ ρ → Q (.exit id) ρ w
  | .pn v (some σ) A => ∀ φ ρ w u, Bs c φ A w → VR φ v u → EnvR φ σ ρ → Q (.panic [{ v := u, recovered := false }]) ρ w
  | .pn v none A => ∀ φ ρ w u, Bs c φ A w → VR φ v u → Q (.panic [{ v := u, recovered := false }]) ρ w
  | .no => False
theorem EnvR.up {φ ψ : Ph} {σ : Tr2 V} {ρ : Env} (h : EnvR φ σ ρ) (hl : φ.Le ψ) : EnvR ψ σ ρ := fun t => (h t).up hl
theorem upd_eq (ρ : Env) (d : Nat) (v : Value) : upd ρ d v d = v := by simp [upd, Nat.beq_refl]
theorem upd_ne (ρ : Env) {d j : Nat} (v : Value) (h : j ≠ d) : upd ρ d v j = ρ j := by
  unfold upd; rw [nbeq, decide_eq_false h]; rfl
theorem EnvR.set {φ : Ph} {σ : Tr2 V} {ρ : Env} (h : EnvR φ σ ρ) (d : Nat) {v : V} {u : Value} (hv : VR φ v u) : EnvR φ (σ.set v d) (upd ρ d u) := by
  intro t
  rcases Tr2.get_set .u v σ d t with ⟨h1, h2⟩ | ⟨h1, h2⟩
  · rw [h2, upd_ne ρ u h1]; exact h t
  · subst h1
    rw [upd_eq]
    rcases h2 with h2 | h2 <;> rw [h2]
    · exact hv
    · exact .u _
section
variable {P : Program} {c : Cn} {φ : Ph} {σ : Tr2 V} {A : AW} {ρ : Env} {w : World} {K : KT} {Q : QT} {v : V} {u : Value}
theorem Bs.to {ψ : Ph} {A' : AW} {w' : World} (h : Bs c φ A w) (hl : φ.Le ψ) (hw : WR ψ A' c.w0 w') (hf : ∀ b, A'.n ≤ b → ¬ ψ.u b) (hr : ∀ i, c.R i → ¬ ψ.u i ∧ i < A'.n) : Bs c ψ A' w' :=
  ⟨hw, hf, fun v u hs => (h.keep v u hs).up hl, hr⟩
/-- The same numbers are given out. -/
theorem Bs.same {ψ : Ph} {A' : AW} {w' : World} (h : Bs c φ A w) (hl : φ.Le ψ) (hw : WR ψ A' c.w0 w') (hn : A'.n = A.n) (hu : ∀ j, ψ.u j ↔ φ.u j) : Bs c ψ A' w' :=
  h.to hl hw (fun b hb hh => h.free b (hn ▸ hb) ((hu b).1 hh)) fun i hi => ⟨fun hh => (h.res i hi).1 ((hu i).1 hh), hn ▸ (h.res i hi).2⟩
/-- One more. -/
theorem Bs.one {ψ : Ph} {A' : AW} {w' : World} (h : Bs c φ A w) (hl : φ.Le ψ) (hw : WR ψ A' c.w0 w') (hn : A'.n = A.n + 1) (hu : ∀ j, ψ.u j ↔ φ.u j ∨ j = A.n) : Bs c ψ A' w' :=
  h.to hl hw (fun b hb hh => by
    rcases (hu b).1 hh with h1 | h1
    · exact h.free b (by omega) h1
    · omega) fun i hi => ⟨fun hh => by
      rcases (hu i).1 hh with h1 | h1
      · exact (h.res i hi).1 h1
      · have := (h.res i hi).2; omega, by have := (h.res i hi).2; omega⟩
/-- The world that is drawn from. -/
theorem Bs.fr0 {w' : World} (h : Bs c φ A w) (hf : Fr NF w w') : Bs c φ A w' :=
  ⟨⟨h.wr.hi, fun b => (h.wr.bk b).up (.refl φ) (fun y hy => hf.same _ (h.wr.lt (b := b) hy) (fun h => h)), h.wr.inj, h.wr.fr.then0 hf⟩, h.free, h.keep, h.res⟩
theorem ev_ok (he : EnvR φ σ ρ) (x : Operand) : VR φ (exV σ x) (ρ.ev x) := by
  unfold exV
  split
  · exact he _
  · exact .ag (by
      have := VRs.map (φ := φ) (f := ofC) (g := id) (fun x => VR.ofC x) ‹List Value›
      simpa using this)
  · exact VR.ofC _
  · exact .u _
  · exact .fn .nil .nil
theorem evs_ok (he : EnvR φ σ ρ) (xs : List Operand) : VRs φ (xs.map (exV σ)) (xs.map ρ.ev) := VRs.map (fun x => ev_ok he x) xs
theorem put_ok (hb : Bs c φ A w) (he : EnvR φ σ ρ) (hv : VR φ v u) {d : Nat} (h : Post c (thenQ K Q) (putV A σ d v)) : K (upd ρ d u) w := by
  unfold putV at h
  rw [Tr2.setk_eq] at h
  exact h φ _ w hb (he.set d hv)
theorem putO_ok (hb : Bs c φ A w) (he : EnvR φ σ ρ) (hv : VR φ v u) {d : Option Nat} (h : Post c (thenQ K Q) (putO A σ d v)) : K (updo ρ d u) w := by
  cases d with
  | none => exact h φ _ w hb he
  | some d => exact put_ok hb he hv h
theorem orN_ok {b : Bool} {e : ER} (h : Post c Q (orN b e)) : b = true ∧ Post c Q e := by
  cases b with
  | true => exact ⟨rfl, h⟩
  | false => exact False.elim h
theorem orE_ok {b : Bool} {e f : ER} (h : Post c Q (orE b e f)) : (b = true ∧ Post c Q e) ∨ (b = false ∧ Post c Q f) := by
  cases b with
  | true => exact .inl ⟨rfl, h⟩
  | false => exact .inr ⟨rfl, h⟩
theorem toP_ok {k : Nat → Nat → ER} (h : Post c Q (toP v k)) (hv : VR φ v u) : ∃ b o a, v = .p b o ∧ u = .pointer (some a) ∧ (∀ x, φ.f b = some x → a = ⟨x.c, o, none⟩) ∧ φ.u b ∧ Post c Q (k b o) := by
  cases hv
  case p b o a hb ha => exact ⟨b, o, a, rfl, rfl, ha, hb, h⟩
  all_goals exact False.elim h
theorem toN_ok {k : Nat → ER} (h : Post c Q (toN v k)) (hv : VR φ v u) : ∃ kd m, v = .i kd (.ofNat m) ∧ u = .int kd (m : Int) ∧ Post c Q (k m) := by
  cases hv
  case i kd n =>
    cases n with
    | ofNat m => exact ⟨kd, m, rfl, rfl, h⟩
    | negSucc m => exact False.elim h
  all_goals exact False.elim h
theorem toI_ok {k : IntKind → Int → ER} (h : Post c Q (toI v k)) (hv : VR φ v u) : ∃ kd n, v = .i kd n ∧ u = .int kd n ∧ Post c Q (k kd n) := by
  cases hv
  case i kd n => exact ⟨kd, n, rfl, rfl, h⟩
  all_goals exact False.elim h
theorem toS_ok {k : List UInt8 → ER} (h : Post c Q (toS v k)) (hv : VR φ v u) : ∃ l, v = .s l ∧ u = .string ⟨l.toArray⟩ ∧ Post c Q (k l) := by
  cases hv
  case s l => exact ⟨l, rfl, rfl, h⟩
  all_goals exact False.elim h
theorem toAg_ok {k : List V → ER} (h : Post c Q (toAg v k)) (hv : VR φ v u) : ∃ l m, v = .ag l ∧ u = .agg ⟨m⟩ ∧ VRs φ l m ∧ Post c Q (k l) := by
  cases hv
  case ag l m hm => exact ⟨l, m, rfl, rfl, hm, h⟩
  all_goals exact False.elim h
/-- What is read of a block. -/
theorem cells_ok {k : List V → ER} {b : Nat} (hb : Bs c φ A w) (h : Post c Q (cellsB (atB A b) k)) : ∃ x T cs m, φ.f b = some x ∧ Blk w.heap x.c T m ∧ VRs φ cs (m.take cs.length) ∧ Post c Q (k cs) := by
  have hk := hb.wr.bk b
  unfold atB at h
  generalize A.t.get .dd b = bk at h hk
  cases bk with
  | dd => exact False.elim h
  | cl T cs =>
    obtain ⟨y, hy, _, _, m, hm, hv⟩ := hk
    exact ⟨y, T, cs, m, hy, hm, by rw [hv.len, List.take_length]; exact hv, h⟩
  | op T es cs => obtain ⟨y, hy, _, _, _, m, hm, _, _, hv⟩ := hk; exact ⟨y, T, cs, m, hy, hm, hv, h⟩
  | ro T cs =>
    obtain ⟨y, hy, _, _, m, hm, hv⟩ := hk
    exact ⟨y, T, cs, m, hy, hm, by rw [hv.len, List.take_length]; exact hv, h⟩
  | it s i => exact False.elim h
theorem take_get {α : Type} {m : List α} {n j : Nat} {x : α} (h : (m.take n)[j]? = some x) : m[j]? = some x := by
  rw [List.getElem?_take] at h
  split at h
  · exact h
  · cases h
theorem load1_ok (hb : Bs c φ A w) (he : EnvR φ σ ρ) {d : Nat} {x : Operand} (h : Post c (thenQ K Q) (oLoad1 A σ d x)) : (LO.load1 d x).wp P ρ w K Q := by
  unfold oLoad1 at h
  rw [ex_eq] at h
  obtain ⟨b, o, a, _, h1, h2, _, h⟩ := toP_ok h (ev_ok he x)
  obtain ⟨y, T, cs, m, h3, h4, h5, h⟩ := cells_ok hb h
  rw [nthk_eq] at h
  cases ho : cs[o]? with
  | none => rw [ho] at h; exact False.elim h
  | some v =>
    rw [ho] at h
    obtain ⟨u, hu, hv⟩ := h5.get ho
    have := h2 y h3
    subst this
    exact ⟨_, u, h1, h4.cell (take_get hu), put_ok hb he hv h⟩
theorem loadn_ok (hb : Bs c φ A w) (he : EnvR φ σ ρ) {d n : Nat} {x : Operand} (h : Post c (thenQ K Q) (oLoadn A σ d n x)) : (LO.loadn d n x).wp P ρ w K Q := by
  unfold oLoadn at h
  rw [ex_eq] at h
  obtain ⟨b, o, a, _, h1, h2, _, h⟩ := toP_ok h (ev_ok he x)
  obtain ⟨y, T, cs, m, h3, h4, h5, h⟩ := cells_ok hb h
  rw [dropk_eq, takek_eq] at h
  obtain ⟨h6, h⟩ := orN_ok h
  have h6 := lenB_eq _ _ h6
  have := h2 y h3
  subst this
  have h7 := (h5.drop o).take n
  have h8 : (((m.take cs.length).drop o).take n) = ((m.drop o).take n) := by
    have h9 := h7.len
    rw [h6] at h9
    rw [List.drop_take, List.take_take]
    congr 1
    simp only [List.length_take, List.length_drop] at h6 h9
    omega
  rw [h8] at h7
  have h9 := h7.len
  rw [h6] at h9
  exact ⟨_, _, h1, h4.cells rfl h9.symm, put_ok hb he (.ag h7) h⟩
theorem nilc_ok (hb : Bs c φ A w) (he : EnvR φ σ ρ) {d : Nat} {x : Operand} (h : Post c (thenQ K Q) (oNilc A σ d x)) : (LO.nilc d x).wp P ρ w K Q := by
  unfold oNilc at h
  rw [ex_eq] at h
  obtain ⟨b, o, a, _, h1, h2, h3, h⟩ := toP_ok h (ev_ok he x)
  exact ⟨a, h1, put_ok hb he (.p h3 h2) h⟩
theorem fld_ok (hb : Bs c φ A w) (he : EnvR φ σ ρ) {d i : Nat} {x : Operand} (h : Post c (thenQ K Q) (oFld A σ d x i)) : (LO.fld d x i).wp P ρ w K Q := by
  unfold oFld at h
  rw [ex_eq] at h
  obtain ⟨b, o, a, _, h1, h2, h3, h⟩ := toP_ok h (ev_ok he x)
  rw [fN_eq] at h
  exact ⟨a, h1, put_ok hb he (.p h3 fun y hy => by rw [h2 y hy, add_addr]) h⟩
theorem mov_ok (hb : Bs c φ A w) (he : EnvR φ σ ρ) {d : Nat} {x : Operand} (h : Post c (thenQ K Q) (ex σ x fun v => putV A σ d v)) : (LO.mov d x).wp P ρ w K Q := by
  rw [ex_eq] at h
  exact put_ok hb he (ev_ok he x) h
theorem pick_ok (hb : Bs c φ A w) (he : EnvR φ σ ρ) {d : Nat} {t x y : Operand} (h : Post c (thenQ K Q) (oPick A σ d t x y)) : (LO.pick d t x y).wp P ρ w K Q := by
  unfold oPick at h
  rw [ex_eq] at h
  have ht := ev_ok he t
  generalize exV σ t = v at h ht
  generalize hu : ρ.ev t = u at ht
  cases ht
  case b b =>
    cases b with
    | true => replace h : Post c (thenQ K Q) (ex σ x fun v => putV A σ d v) := h; rw [ex_eq] at h; exact ⟨true, hu, put_ok hb he (ev_ok he x) h⟩
    | false => replace h : Post c (thenQ K Q) (ex σ y fun v => putV A σ d v) := h; rw [ex_eq] at h; exact ⟨false, hu, put_ok hb he (ev_ok he y) h⟩
  all_goals exact False.elim h
theorem idx_ok (hb : Bs c φ A w) (he : EnvR φ σ ρ) {d es : Nat} {x i : Operand} (h : Post c (thenQ K Q) (oIdx A σ d es x i)) : (LO.idx d es x i).wp P ρ w K Q := by
  unfold oIdx at h
  rw [ex_eq, ex_eq] at h
  obtain ⟨k, m, _, hi, h⟩ := toN_ok h (ev_ok he i)
  have hx := ev_ok he x
  generalize exV σ x = v at h hx
  generalize hu : ρ.ev x = u at hx
  cases hx
  case l b o n cp cp' a h1 h2 =>
    obtain ⟨h3, h⟩ := orN_ok h
    rw [nblt, decide_eq_true_eq] at h3
    rw [fN_eq] at h
    exact ⟨a, n, cp', k, (m : Int), hu, hi, by omega, by omega, put_ok hb he (.p h1 fun y hy => by rw [(h2 y hy).1, add_addr, Int.toNat_natCast]) h⟩
  all_goals exact False.elim h
theorem idxa_ok (hb : Bs c φ A w) (he : EnvR φ σ ρ) {d n es : Nat} {x i : Operand} (h : Post c (thenQ K Q) (oIdxa A σ d n es x i)) : (LO.idxa d n es x i).wp P ρ w K Q := by
  unfold oIdxa at h
  rw [ex_eq, ex_eq] at h
  obtain ⟨k, m, _, hi, h⟩ := toN_ok h (ev_ok he i)
  obtain ⟨b, o, a, _, h1, h2, h3, h⟩ := toP_ok h (ev_ok he x)
  obtain ⟨h4, h⟩ := orN_ok h
  rw [nblt, decide_eq_true_eq] at h4
  rw [fN_eq] at h
  exact ⟨a, k, (m : Int), h1, hi, by omega, by omega, put_ok hb he (.p h3 fun y hy => by rw [h2 y hy, add_addr, Int.toNat_natCast]) h⟩
theorem len_ok (hb : Bs c φ A w) (he : EnvR φ σ ρ) {d : Nat} {x : Operand} (h : Post c (thenQ K Q) (oLen A σ d x)) : (LO.len d x).wp P ρ w K Q := by
  unfold oLen at h
  rw [ex_eq] at h
  have hx := ev_ok he x
  generalize exV σ x = v at h hx
  generalize hu : ρ.ev x = u at hx
  cases hx
  case l b o n cp cp' a h1 h2 => exact ⟨_, _, _, hu, put_ok hb he (.i _ _) h⟩
  case l0 => exact ⟨_, _, _, hu, put_ok hb he (.i _ _) h⟩
  case lz => exact ⟨_, _, _, hu, put_ok hb he (.i _ _) h⟩
  all_goals exact False.elim h
theorem slen_ok (hb : Bs c φ A w) (he : EnvR φ σ ρ) {d : Nat} {x : Operand} (h : Post c (thenQ K Q) (oSlen A σ d x)) : (LO.slen d x).wp P ρ w K Q := by
  unfold oSlen at h
  rw [ex_eq] at h
  obtain ⟨l, _, h1, h⟩ := toS_ok h (ev_ok he x)
  rw [fN_eq] at h
  exact ⟨_, h1, by rw [tx_size]; exact put_ok hb he (.i _ _) h⟩
theorem sidx_ok (hb : Bs c φ A w) (he : EnvR φ σ ρ) {d : Nat} {x i : Operand} (h : Post c (thenQ K Q) (oSidx A σ d x i)) : (LO.sidx d x i).wp P ρ w K Q := by
  unfold oSidx at h
  rw [ex_eq, ex_eq] at h
  obtain ⟨l, _, h1, h⟩ := toS_ok h (ev_ok he x)
  obtain ⟨k, m, _, h2, h⟩ := toN_ok h (ev_ok he i)
  rw [nthB_eq] at h
  cases ho : l[m]? with
  | none => rw [ho] at h; exact False.elim h
  | some b =>
    rw [ho] at h
    replace h : Post c (thenQ K Q) (fN b.toNat fun n => putV A σ d (.i .u8 (.ofNat n))) := h
    rw [fN_eq] at h
    exact ⟨_, k, (m : Int), b, h1, h2, by omega, by rw [Int.toNat_natCast, tx_get]; exact ho, put_ok hb he (.i _ _) h⟩
theorem ext_ok (hb : Bs c φ A w) (he : EnvR φ σ ρ) {d i : Nat} {x : Operand} (h : Post c (thenQ K Q) (oExt A σ d x i)) : (LO.ext d x i).wp P ρ w K Q := by
  unfold oExt at h
  rw [ex_eq] at h
  have hx := ev_ok he x
  generalize exV σ x = v at h hx
  generalize hu : ρ.ev x = u at hx
  cases hx
  case tu l m hm =>
    replace h : Post c (thenQ K Q) (nthk l i .no fun v => putV A σ d v) := h
    rw [nthk_eq] at h
    cases ho : l[i]? with
    | none => rw [ho] at h; exact False.elim h
    | some v =>
      rw [ho] at h
      obtain ⟨u, hu', hv⟩ := hm.get ho
      exact ⟨_, u, hu, by simpa using hu', put_ok hb he hv h⟩
  all_goals exact False.elim h
theorem fldv_ok (hb : Bs c φ A w) (he : EnvR φ σ ρ) {d i : Nat} {x : Operand} (h : Post c (thenQ K Q) (oFldv A σ d x i)) : (LO.fldv d x i).wp P ρ w K Q := by
  unfold oFldv at h
  rw [ex_eq] at h
  obtain ⟨l, m, _, h1, h2, h⟩ := toAg_ok h (ev_ok he x)
  rw [nthk_eq] at h
  cases ho : l[i]? with
  | none => rw [ho] at h; exact False.elim h
  | some v =>
    rw [ho] at h
    obtain ⟨u, hu', hv⟩ := h2.get ho
    exact ⟨_, u, h1, by simpa using hu', put_ok hb he hv h⟩
theorem fldn_ok (hb : Bs c φ A w) (he : EnvR φ σ ρ) {d i n : Nat} {x : Operand} (h : Post c (thenQ K Q) (oFldn A σ d x i n)) : (LO.fldn d x i n).wp P ρ w K Q := by
  unfold oFldn at h
  rw [ex_eq] at h
  obtain ⟨l, m, _, h1, h2, h⟩ := toAg_ok h (ev_ok he x)
  rw [dropk_eq, takek_eq] at h
  refine ⟨_, h1, ?_⟩
  have : (Array.mk m).extract i (i + n) = ⟨(m.drop i).take n⟩ := by apply Array.ext'; simp [List.extract_eq_take_drop]
  rw [this]
  exact put_ok hb he (.ag ((h2.drop i).take n)) h
theorem mkfn_ok (hb : Bs c φ A w) (he : EnvR φ σ ρ) {d f : Nat} {xs : List Operand} (h : Post c (thenQ K Q) (oMkfn A σ d f xs)) : (LO.mkfn d f xs).wp P ρ w K Q := by
  unfold oMkfn at h
  rw [exs_eq] at h
  exact put_ok hb he (.fn .nil (evs_ok he xs)) h
theorem mki_ok (hb : Bs c φ A w) (he : EnvR φ σ ρ) {d T : Nat} {x : Operand} (h : Post c (thenQ K Q) (ex σ x fun v => putV A σ d (.ic T v))) : (LO.mki d T x).wp P ρ w K Q := by
  rw [ex_eq] at h
  exact put_ok hb he (.ic (ev_ok he x)) h
theorem conv_ok (hb : Bs c φ A w) (he : EnvR φ σ ρ) {d : Nat} {k : IntKind} {x : Operand} (h : Post c (thenQ K Q) (oConv A σ d k x)) : (LO.conv d k x).wp P ρ w K Q := by
  unfold oConv at h
  rw [ex_eq] at h
  obtain ⟨k', n, _, h1, h⟩ := toI_ok h (ev_ok he x)
  rw [fI_eq, wr_eq] at h
  exact ⟨k', n, h1, put_ok hb he (.i _ _) h⟩
theorem mnx_ok (hb : Bs c φ A w) (he : EnvR φ σ ρ) {d : Nat} {m : Bool} {x y : Operand} (h : Post c (thenQ K Q) (oMnx A σ d m x y)) : (LO.mnx d m x y).wp P ρ w K Q := by
  unfold oMnx at h
  rw [ex_eq, ex_eq] at h
  obtain ⟨k, a, _, h1, h⟩ := toI_ok h (ev_ok he x)
  obtain ⟨k', b, _, h2, h⟩ := toI_ok h (ev_ok he y)
  refine ⟨k, k', a, b, h1, h2, ?_⟩
  cases m with
  | true =>
    rcases orE_ok h with ⟨h3, h⟩ | ⟨h3, h⟩
    · rw [ltI_eq, decide_eq_true_eq] at h3; rw [if_pos rfl, if_pos h3]; exact put_ok hb he (.i _ _) h
    · rw [ltI_eq, decide_eq_false_iff_not] at h3; rw [if_pos rfl, if_neg h3]; exact put_ok hb he (.i _ _) h
  | false =>
    rcases orE_ok h with ⟨h3, h⟩ | ⟨h3, h⟩
    · rw [ltI_eq, decide_eq_true_eq] at h3; rw [if_neg (by simp), if_pos h3]; exact put_ok hb he (.i _ _) h
    · rw [ltI_eq, decide_eq_false_iff_not] at h3; rw [if_neg (by simp), if_neg h3]; exact put_ok hb he (.i _ _) h
theorem bn_ok {dflt : Nat} {x : Option Operand} {k : Nat → ER} (he : EnvR φ σ ρ) (h : Post c Q (bn σ dflt x k)) : ∃ n, bnd ρ dflt x n ∧ Post c Q (k n) := by
  cases x with
  | none => exact ⟨dflt, rfl, h⟩
  | some x =>
    unfold bn at h
    replace h : Post c Q (ex σ x fun v => toN v k) := h
    rw [ex_eq] at h
    obtain ⟨kd, m, _, h1, h⟩ := toN_ok h (ev_ok he x)
    exact ⟨m, ⟨kd, h1⟩, h⟩
theorem ssub_ok (hb : Bs c φ A w) (he : EnvR φ σ ρ) {d : Nat} {x : Operand} {lo hi : Option Operand} (h : Post c (thenQ K Q) (oSsub A σ d x lo hi)) : (LO.ssub d x lo hi).wp P ρ w K Q := by
  unfold oSsub at h
  rw [ex_eq] at h
  obtain ⟨s, _, h1, h⟩ := toS_ok h (ev_ok he x)
  obtain ⟨hh, h2, h⟩ := bn_ok he h
  obtain ⟨l, h3, h⟩ := bn_ok he h
  obtain ⟨h4, h⟩ := orN_ok h
  obtain ⟨h5, h⟩ := orN_ok h
  rw [takek_eq, dropk_eq] at h
  exact ⟨_, l, hh, h1, by rw [tx_size]; exact h2, h3, by rw [tx_size]; exact Nat.le_of_ble_eq_true h4, Nat.le_of_ble_eq_true h5, by rw [tx_extract]; exact put_ok hb he (.s _) h⟩
end
end Go.Lir
