/- Evaluation is sound: operations that write, or lay a block. -/
import Derived.Test.YthdkbdnbflkagaaGreatDoorEvS
namespace Go.Lir
set_option linter.unusedVariables false
set_option linter.unusedSimpArgs false
section
variable {P : Program} {c : Cn} {φ : Ph} {σ : Tr2 V} {A : AW} {ρ : Env} {w : World} {K : KT} {Q Q' : QT} {v : V} {u : Value}
theorem newC_ok {g : List V → (List V → ER) → ER} {b : Nat} (hb : Bs c φ A w) (he : EnvR φ σ ρ) (h : Post c (thenQ K Q) (newC A σ b g)) :
    ∃ (x : BI) (T : TypeId) (cs : List V) (m : List Value) (k : List V → ER), φ.f b = some x ∧ Blk w.heap x.c T m ∧ cs.length ≤ m.length ∧ VRs φ cs (m.take cs.length) ∧ Post c (thenQ K Q) (g cs k) ∧
      ∀ cs' m' w', cs'.length = cs.length → m'.length = m.length → VRs φ cs' (m'.take cs.length) → Fr (· = x.c) w w' → Blk w'.heap x.c T m' → Post c (thenQ K Q) (k cs') → K ρ w' := by
  have hk := hb.wr.bk b
  unfold newC atB at h
  generalize A.t.get .dd b = bk at h hk
  cases bk with
  | cl T cs =>
    obtain ⟨y, hy, h0, hc, m, hm, hv⟩ := hk
    have hl := hv.len
    refine ⟨y, T, cs, m, _, hy, hm, by omega, by rw [hl, List.take_length]; exact hv, h, ?_⟩
    intro cs' m' w' h1 h2 h3 h4 h5 h6
    rw [Tr2.setk_eq] at h6
    have h3 : VRs φ cs' m' := by rw [show cs.length = m'.length by omega, List.take_length] at h3; exact h3
    obtain ⟨ψ, g1, g2, g3⟩ := hb.wr.store (k := .cl T cs') hy hc h4 (fun ψ hle => ⟨y, rfl, h0, hc, m', h5, h3.up hle⟩)
    exact h6 ψ ρ w' (hb.same g1 g2 rfl g3) (he.up g1)
  | op T es cs =>
    obtain ⟨y, hy, h0, hz, hc, m, hm, hl, hr, hv⟩ := hk
    refine ⟨y, T, cs, m, _, hy, hm, hl, hv, h, ?_⟩
    intro cs' m' w' h1 h2 h3 h4 h5 h6
    rw [Tr2.setk_eq] at h6
    obtain ⟨ψ, g1, g2, g3⟩ := hb.wr.store (k := .op T es cs') hy hc h4 (fun ψ hle => ⟨y, rfl, h0, hz, hc, m', h5, by omega, by omega, by rw [h1]; exact h3.up hle⟩)
    exact h6 ψ ρ w' (hb.same g1 g2 rfl g3) (he.up g1)
  | dd => exact False.elim h
  | ro T cs => exact False.elim h
  | it s i => exact False.elim h
theorem store1_ok (hb : Bs c φ A w) (he : EnvR φ σ ρ) {x y : Operand} (h : Post c (thenQ K Q) (oStore1 A σ x y)) : (LO.store1 x y).wp P ρ w K Q := by
  unfold oStore1 at h
  rw [ex_eq, ex_eq] at h
  obtain ⟨b, o, a, _, h1, h2, _, h⟩ := toP_ok h (ev_ok he x)
  obtain ⟨ho, h⟩ := orN_ok h
  obtain ⟨z, T, cs, m, k, h3, h4, h5, h6, h, hk⟩ := newC_ok hb he h
  rw [setkk_eq] at h
  by_cases hlt : o < cs.length
  · rw [if_pos hlt] at h
    have := h2 z h3
    subst this
    have hm : o < m.length := by omega
    refine ⟨_, _, h1, h4.cell (List.getElem?_eq_getElem hm), h4.free hm, (ev_ok he y).one ho, ?_⟩
    refine hk _ (m.set o (ρ.ev y)) _ (by simp) (by simp) ?_ (fr_setCell w z.c o _) h4.set h
    rw [List.take_set]
    exact h6.set (ev_ok he y) o
  · rw [if_neg hlt] at h; exact False.elim h
theorem storen_ok (hb : Bs c φ A w) (he : EnvR φ σ ρ) {n : Nat} {x y : Operand} (h : Post c (thenQ K Q) (oStoren A σ n x y)) : (LO.storen n x y).wp P ρ w K Q := by
  unfold oStoren at h
  rw [ex_eq, ex_eq] at h
  obtain ⟨b, o, a, _, h1, h2, _, h⟩ := toP_ok h (ev_ok he x)
  obtain ⟨l, vs, _, hy, hv, h⟩ := toAg_ok h (ev_ok he y)
  obtain ⟨hl, h⟩ := orN_ok h
  have hl := lenB_eq _ _ hl
  obtain ⟨ho, h⟩ := orN_ok h
  obtain ⟨z, T, cs, m, k, h3, h4, h5, h6, h, hk⟩ := newC_ok hb he h
  obtain ⟨hle, h⟩ := orN_ok h
  have hle := Nat.le_of_ble_eq_true hle
  rw [putk_eq] at h
  have := h2 z h3
  subst this
  have hvl := hv.len
  obtain ⟨w', g1, g2, g3, g4⟩ := storeCells_blk P z.c T vs w m o 0 h4 (by omega) (hv.ones ho)
  refine ⟨_, _, w', h1, hy, by simpa using (by omega : vs.length = n), g1, ?_⟩
  refine hk _ _ w' ?_ ?_ ?_ g2 g4 h
  · simp only [List.length_append, List.length_take, List.length_drop]; omega
  · simp only [List.length_append, List.length_take, List.length_drop, Nat.add_zero]; omega
  · have e : (m.take (o + 0) ++ (vs ++ m.drop (o + 0 + vs.length))).take cs.length = (m.take cs.length).take o ++ (vs ++ (m.take cs.length).drop (o + l.length)) := by
      rw [List.take_append, List.take_append, List.length_take, List.take_take, List.take_take, List.drop_take]
      rw [Nat.add_zero]
      rw [show min o m.length = o by omega, show min cs.length o = o by omega, show min o cs.length = o by omega, ← hvl]
      rw [List.take_of_length_le (show vs.length ≤ cs.length - o by omega)]
      rw [show cs.length - o - l.length = cs.length - (o + l.length) by omega]
    rw [e]
    exact h6.put hv o _
theorem newB_eq (k : Bk) (f : Nat → AW → ER) : newB A k f = f A.n ⟨A.t.set k A.n, A.n + 1⟩ := by
  obtain ⟨t, n⟩ := A
  show t.setk k n (fun t => fN (.succ n) fun n' => f n ⟨t, n'⟩) = _
  rw [Tr2.setk_eq, fN_eq]
/-- What lays one block. -/
theorem new_ok (hb : Bs c φ A w) {k : Bk} {f : Nat → AW → ER} (h : Post c Q' (newB A k f)) {w' : World} {es room : Nat} (hfr : Fr NF w w') (hk : ∀ ψ : Ph, φ.Le ψ → BR ψ c.w0 (some ⟨w.heap.size, es, room⟩) w' k) :
    ∃ ψ : Ph, φ.Le ψ ∧ Bs c ψ ⟨A.t.set k A.n, A.n + 1⟩ w' ∧ ψ.u A.n ∧ (∀ y, ψ.f A.n = some y → y = ⟨w.heap.size, es, room⟩) ∧ Post c Q' (f A.n ⟨A.t.set k A.n, A.n + 1⟩) := by
  rw [newB_eq] at h
  obtain ⟨ψ, h1, h2, h3, h4⟩ := hb.wr.alloc (hb.free A.n (Nat.le_refl _)) (A.n + 1) (k := k) hfr hk
  exact ⟨ψ, h1, hb.one h1 h2 rfl h3, (h3 A.n).2 (.inr rfl), h4, h⟩
/-- What an operation that lays one block comes to: its slot, its value, its block. -/
def Lays (P : Program) (o : LO) (σ : Tr2 V) (A : AW) (d : Nat) (v : V) (k : Bk) : Prop :=
  ∀ (φ : Ph) (ρ : Env) (w w0 : World) (K : KT) (Q : QT) (N : Nat), WR φ A w0 w → ¬ φ.u A.n → EnvR φ σ ρ →
    (∀ ψ u w', φ.Le ψ → WR ψ ⟨A.t.set k A.n, N⟩ w0 w' → (∀ j, ψ.u j ↔ φ.u j ∨ j = A.n) → VR ψ v u → K (upd ρ d u) w') → o.wp P ρ w K Q
theorem lays_ok {o : LO} {d : Nat} {k : Bk} (hL : Lays P o σ A d v k) (hb : Bs c φ A w) (he : EnvR φ σ ρ) (h : Post c (thenQ K Q) (putV ⟨A.t.set k A.n, A.n + 1⟩ σ d v)) : o.wp P ρ w K Q :=
  hL φ ρ w c.w0 K Q (A.n + 1) hb.wr (hb.free A.n (Nat.le_refl _)) he fun ψ u w' h1 h2 h3 h4 => put_ok (hb.one h1 h2 rfl h3) (he.up h1) h4 h
theorem lays_cl {o : LO} {d : Nat} {T : TypeId} {cs : List V} (hv : ∀ (ψ : Ph) (a : Addr), ψ.u A.n → (∀ x, ψ.f A.n = some x → a = ⟨x.c, 0, none⟩ ∧ x.es = 0) → ∃ u, VR ψ v u ∧ (v = .p A.n 0 ∧ u = .pointer (some a) ∨ ∃ n cp, v = .l A.n 0 n cp ∧ u = .slice (some a) n cp))
    (ho : ∀ (φ : Ph) (ρ : Env) (w : World) (K : KT) (Q : QT), EnvR φ σ ρ → (∀ m, VRs φ cs m → (v = .p A.n 0 → K (upd ρ d (.pointer (some ⟨w.heap.size, 0, none⟩))) (w.alloc (.cells ⟨m⟩ T))) ∧ (∀ n cp, v = .l A.n 0 n cp → K (upd ρ d (.slice (some ⟨w.heap.size, 0, none⟩) n cp)) (w.alloc (.cells ⟨m⟩ T)))) → o.wp P ρ w K Q) :
    Lays P o σ A d v (.cl T cs) := by
  intro φ ρ w w0 K Q N hw hu he hK
  refine ho φ ρ w K Q he fun m hm => ?_
  have hfr := fr_alloc w (.cells ⟨m⟩ T)
  obtain ⟨ψ, h1, h2, h3, h4⟩ := hw.alloc hu N (k := .cl T cs) (es := 0) (room := 0) hfr (fun ψ hle => ⟨_, rfl, rfl, hw.fr.size, m, blk_alloc w m T, hm.up hle⟩)
  obtain ⟨u, g1, g2⟩ := hv ψ ⟨w.heap.size, 0, none⟩ ((h3 A.n).2 (.inr rfl)) (fun x hx => by rw [h4 x hx]; exact ⟨rfl, rfl⟩)
  refine ⟨fun e => ?_, fun n cp e => ?_⟩
  · rcases g2 with ⟨_, rfl⟩ | ⟨n, cp, e2, _⟩
    · exact hK ψ _ _ h1 h2 h3 g1
    · rw [e] at e2; cases e2
  · rcases g2 with ⟨e2, _⟩ | ⟨n', cp', e2, rfl⟩
    · rw [e] at e2; cases e2
    · rw [e] at e2; cases e2; exact hK ψ _ _ h1 h2 h3 g1
theorem hvP (ψ : Ph) (a : Addr) (hu : ψ.u A.n) (h : ∀ x, ψ.f A.n = some x → a = ⟨x.c, 0, none⟩ ∧ x.es = 0) : ∃ u, VR ψ (.p A.n 0) u ∧ (V.p A.n 0 = .p A.n 0 ∧ u = .pointer (some a) ∨ ∃ n cp, V.p A.n 0 = .l A.n 0 n cp ∧ u = .slice (some a) n cp) :=
  ⟨_, .p hu fun x hx => (h x hx).1, .inl ⟨rfl, rfl⟩⟩
theorem hvL (n cp : Nat) (ψ : Ph) (a : Addr) (hu : ψ.u A.n) (h : ∀ x, ψ.f A.n = some x → a = ⟨x.c, 0, none⟩ ∧ x.es = 0) : ∃ u, VR ψ (.l A.n 0 n cp) u ∧ (V.l A.n 0 n cp = .p A.n 0 ∧ u = .pointer (some a) ∨ ∃ n' cp', V.l A.n 0 n cp = .l A.n 0 n' cp' ∧ u = .slice (some a) n' cp') :=
  ⟨_, .l hu fun x hx => ⟨(h x hx).1, by unfold RoomOk; rw [if_pos (h x hx).2]⟩, .inr ⟨n, cp, rfl, rfl⟩⟩
theorem alloc_lays {d T : Nat} {z : List Value} : Lays P (.alloc d T z) σ A d (.p A.n 0) (.cl T (z.map ofC)) :=
  lays_cl hvP fun φ ρ w K Q he h => (h z (by simpa using VRs.map (φ := φ) (f := ofC) (g := id) (fun x => VR.ofC x) z)).1 rfl
theorem cellsV_ok {k : List V → ER} (h : Post c Q' (cellsV v k)) (hv : VR φ v u) : ∃ l m, u.cells = ⟨m⟩ ∧ VRs φ l m ∧ Post c Q' (k l) := by
  cases hv
  case ag l m hm => exact ⟨l, m, rfl, hm, h⟩
  case tu => exact False.elim h
  case u => exact False.elim h
  case i k n => exact ⟨_, _, rfl, .cons (.i k n) .nil, h⟩
  case b x => exact ⟨_, _, rfl, .cons (.b x) .nil, h⟩
  case s l => exact ⟨_, _, rfl, .cons (.s l) .nil, h⟩
  case p0 => exact ⟨_, _, rfl, .cons .p0 .nil, h⟩
  case p hb ha => exact ⟨_, _, rfl, .cons (.p hb ha) .nil, h⟩
  case l0 => exact ⟨_, _, rfl, .cons .l0 .nil, h⟩
  case l hb ha => exact ⟨_, _, rfl, .cons (.l hb ha) .nil, h⟩
  case lz a cp => exact ⟨_, _, rfl, .cons (.lz a cp) .nil, h⟩
  case n0 => exact ⟨_, _, rfl, .cons .n0 .nil, h⟩
  case ic hv => exact ⟨_, _, rfl, .cons (.ic hv) .nil, h⟩
  case f0 => exact ⟨_, _, rfl, .cons .f0 .nil, h⟩
  case fn ha hc => exact ⟨_, _, rfl, .cons (.fn ha hc) .nil, h⟩
theorem box_ok (hb : Bs c φ A w) (he : EnvR φ σ ρ) {d T : Nat} {x : Operand} (h : Post c (thenQ K Q) (oBox A σ d T x)) : (LO.box d T x).wp P ρ w K Q := by
  unfold oBox at h
  rw [ex_eq] at h
  obtain ⟨l, m, h1, h2, h⟩ := cellsV_ok h (ev_ok he x)
  have hfr := fr_alloc w (.cells (ρ.ev x).cells T)
  obtain ⟨ψ, g1, g2, g3, g4, h⟩ := new_ok (es := 0) (room := 0) hb h hfr (fun ψ hle => ⟨_, rfl, rfl, hb.wr.fr.size, m, by rw [h1]; exact blk_alloc w m T, h2.up hle⟩)
  exact put_ok g2 (he.up g1) (.p g3 fun y hy => by rw [g4 y hy]) h
theorem fill_ok {k : List V → ER} (he : EnvR φ σ ρ) : ∀ (ps : List (Nat × Nat × Operand)) (l : List V) (m : List Value), VRs φ l m → Post c Q' (fillk σ ps l k) → ∃ l' m', fillL m (ps.map fun p => (p.1, p.2.1, ρ.ev p.2.2)) = some m' ∧ VRs φ l' m' ∧ Post c Q' (k l')
  | [], l, m, hm, h => ⟨l, m, rfl, hm, h⟩
  | ⟨off, size, x⟩ :: ps, l, m, hm, h => by
    replace h : Post c Q' (ex σ x fun v => cellsV v fun m => orN (lenB m size) (orN (Nat.ble (off + size) l.length) (putk l m off fun l => fillk σ ps l k))) := h
    rw [ex_eq] at h
    obtain ⟨l2, m2, h1, h2, h⟩ := cellsV_ok h (ev_ok he x)
    obtain ⟨h3, h⟩ := orN_ok h
    have h3 := lenB_eq _ _ h3
    obtain ⟨h4, h⟩ := orN_ok h
    have h4 := Nat.le_of_ble_eq_true h4
    rw [putk_eq] at h
    have h5 := h2.len
    have h6 := hm.len
    obtain ⟨l', m', g1, g2, g3⟩ := fill_ok he ps _ _ (hm.put h2 off (off + l2.length)) h
    refine ⟨l', m', ?_, g2, g3⟩
    simp only [List.map_cons, fillL]
    have hc : (ρ.ev x).cells.size = size := by rw [h1]; simp; omega
    rw [if_pos ⟨hc, by omega⟩, h1]
    rw [show off + size = off + l2.length by omega]
    exact g1
theorem build_ok (hb : Bs c φ A w) (he : EnvR φ σ ρ) {d : Nat} {z : List Value} {ps : List (Nat × Nat × Operand)} (h : Post c (thenQ K Q) (oBuild A σ d z ps)) : (LO.build d z ps).wp P ρ w K Q := by
  unfold oBuild at h
  rw [mapk_eq] at h
  obtain ⟨l, m, h1, h2, h⟩ := fill_ok he ps _ z (by simpa using VRs.map (φ := φ) (f := ofC) (g := id) (fun x => VR.ofC x) z) h
  exact ⟨m, h1, put_ok hb he (.ag h2) h⟩
/-- The parts that are laid down, whatever is asked of what comes behind. -/
noncomputable def fillV (σ : Tr2 V) (l : List V) : List (Nat × Nat × Operand) → Option (List V)
  | [] => some l
  | ⟨off, size, x⟩ :: ps => match exV σ x with
    | .ag m => if lenB m size && Nat.ble (off + size) l.length then fillV σ (l.take off ++ (m ++ l.drop (off + m.length))) ps else none
    | .tu _ => none
    | .u => none
    | v => if lenB [v] size && Nat.ble (off + size) l.length then fillV σ (l.take off ++ ([v] ++ l.drop (off + 1))) ps else none
theorem fillk_eq (k : List V → ER) : ∀ (ps : List (Nat × Nat × Operand)) (l : List V), fillk σ ps l k = match fillV σ l ps with | some l => k l | none => .no
  | [], l => rfl
  | ⟨off, size, x⟩ :: ps, l => by
    show (ex σ x fun v => cellsV v fun m => orN (lenB m size) (orN (Nat.ble (off + size) l.length) (putk l m off fun l => fillk σ ps l k))) = _
    rw [ex_eq]
    have key : ∀ m : List V, orN (lenB m size) (orN (Nat.ble (off + size) l.length) (putk l m off fun l => fillk σ ps l k)) = match (if lenB m size && Nat.ble (off + size) l.length then fillV σ (l.take off ++ (m ++ l.drop (off + m.length))) ps else none) with | some l => k l | none => .no := by
      intro m
      rw [putk_eq, fillk_eq k ps]
      cases lenB m size <;> cases Nat.ble (off + size) l.length <;> rfl
    unfold fillV
    cases exV σ x <;> first | rfl | exact key _
theorem buildS_lays {d T n : Nat} {z : List Value} {ps : List (Nat × Nat × Operand)} {l : List V} (hl : fillV σ (z.map ofC) ps = some l) : Lays P (.buildS d T n z ps) σ A d (.l A.n 0 n n) (.cl T l) :=
  lays_cl (hvL n n) fun φ ρ w K Q he h => by
    have h1 : Post ⟨w, fun _ _ => False, fun _ => False⟩ (fun _ _ _ => True) (fillk σ ps (z.map ofC) fun l' => match decide (l'.length = l.length) with | true => .nm σ A | false => .nm σ A) := by
      rw [fillk_eq, hl]
      show Post _ _ (match decide (l.length = l.length) with | true => ER.nm σ A | false => .nm σ A)
      rw [decide_eq_true rfl]
      exact fun _ _ _ _ _ => trivial
    obtain ⟨m', hm'⟩ : ∃ m', fillL z (ps.map fun p => (p.1, p.2.1, ρ.ev p.2.2)) = some m' ∧ VRs φ l m' := by
      have hz : VRs φ (z.map ofC) z := by simpa using VRs.map (φ := φ) (f := ofC) (g := id) (fun x => VR.ofC x) z
      have key : ∀ (ps : List (Nat × Nat × Operand)) (a : List V) (m : List Value), VRs φ a m → fillV σ a ps = some l → ∃ m', fillL m (ps.map fun p => (p.1, p.2.1, ρ.ev p.2.2)) = some m' ∧ VRs φ l m' := by
        intro ps
        induction ps with
        | nil => intro a m hm ha; simp only [fillV, Option.some.injEq] at ha; subst ha; exact ⟨m, rfl, hm⟩
        | cons p ps ih =>
          obtain ⟨off, size, x⟩ := p
          intro a m hm ha
          have step : ∀ (l2 : List V) (m2 : List Value), (ρ.ev x).cells = ⟨m2⟩ → VRs φ l2 m2 → (if lenB l2 size && Nat.ble (off + size) a.length then fillV σ (a.take off ++ (l2 ++ a.drop (off + l2.length))) ps else none) = some l → ∃ m', fillL m (((off, size, x) :: ps).map fun p => (p.1, p.2.1, ρ.ev p.2.2)) = some m' ∧ VRs φ l m' := by
            intro l2 m2 e1 e2 e3
            split at e3
            · rename_i hc
              rw [Bool.and_eq_true] at hc
              have h3 := lenB_eq _ _ hc.1
              have h4 := Nat.le_of_ble_eq_true hc.2
              have h5 := e2.len
              have h6 := hm.len
              obtain ⟨m', g1, g2⟩ := ih _ _ (hm.put e2 off (off + l2.length)) e3
              refine ⟨m', ?_, g2⟩
              simp only [List.map_cons, fillL]
              rw [if_pos ⟨by rw [e1]; simp; omega, by omega⟩, e1, show off + size = off + l2.length by omega]
              exact g1
            · cases e3
          have hx := ev_ok he x
          unfold fillV at ha
          generalize exV σ x = v at ha hx
          generalize hu : ρ.ev x = u at hx
          rw [hu] at step
          cases hx
          case ag l2 m2 hm2 => exact step l2 m2 rfl hm2 ha
          case tu => cases ha
          case u => cases ha
          case i k n => exact step [_] [_] rfl (.cons (.i k n) .nil) ha
          case b x => exact step [_] [_] rfl (.cons (.b x) .nil) ha
          case s l => exact step [_] [_] rfl (.cons (.s l) .nil) ha
          case p0 => exact step [_] [_] rfl (.cons .p0 .nil) ha
          case p hb h2 => exact step [_] [_] rfl (.cons (.p hb h2) .nil) ha
          case l0 => exact step [_] [_] rfl (.cons .l0 .nil) ha
          case l hb h2 => exact step [_] [_] rfl (.cons (.l hb h2) .nil) ha
          case lz a cp => exact step [_] [_] rfl (.cons (.lz a cp) .nil) ha
          case n0 => exact step [_] [_] rfl (.cons .n0 .nil) ha
          case ic hv => exact step [_] [_] rfl (.cons (.ic hv) .nil) ha
          case f0 => exact step [_] [_] rfl (.cons .f0 .nil) ha
          case fn h1 h2 => exact step [_] [_] rfl (.cons (.fn h1 h2) .nil) ha
      exact key ps _ z hz hl
    exact ⟨m', hm'.1, (h m' hm'.2).2 n n rfl⟩
end
end Go.Lir
