/- Evaluation is sound: functions, calls that are put off, the table. -/
import Derived.Test.YthdkbdnbflkagaaGreatDoorEvL
import Derived.Test.YthdkbdnbflkagaaGreatDoorEvT
namespace Go.Lir
set_option linter.unusedVariables false
set_option linter.unusedSimpArgs false
section
variable {P : Program} {E : FuncId → Option ExK} {X : FuncId → List V → AW → CR} {c : Cn} {φ : Ph} {σ : Tr2 V} {A : AW} {ρ : Env} {w : World} {R : Ending → World → Prop} {N : Nat} {Tb : FuncId → Option FC}
theorem mk0_get (d : V) : ∀ (n k : Nat), (Tr2.mk0 d n).get d k = d
  | 0, k => rfl
  | n + 1, k => by
    rw [Tr2.mk0, Tr2.get_nd]
    cases Nat.beq k 0 with
    | true => rfl
    | false =>
      cases Nat.beq (k % 2) 1 with
      | true => exact mk0_get d n _
      | false => exact mk0_get d n _
theorem dep_ok (n : Nat) : EnvR φ (depT n) ρ := by
  intro t
  have : (depT n).get .u t = .u := by
    unfold depT
    cases Nat.blt n 15 <;> cases Nat.blt n 63 <;> cases Nat.blt n 255 <;> exact mk0_get .u _ t
  rw [this]; exact .u _
theorem orC_ok {b : Bool} {e : CR} (h : PostC c R (orC b e)) : b = true ∧ PostC c R e := by
  cases b with
  | true => exact ⟨rfl, h⟩
  | false => exact False.elim h
theorem argT_ok {n : Nat} {k : Tr2 V → CR} : ∀ (l : List V) (i : Nat) (t : Tr2 V), EnvR φ t ρ → (∀ j v, l[j]? = some v → VR φ v (ρ (i + j))) → PostC c R (argT n l i t k) → ∃ t', EnvR φ t' ρ ∧ PostC c R (k t')
  | [], i, t, he, _, h => ⟨t, he, h⟩
  | v :: l, i, t, he, hl, h => by
    replace h : PostC c R (t.setk v i fun t => argT n l (.succ i) t k) := h
    rw [Tr2.setk_eq] at h
    have h1 := he.set i (v := v) (u := ρ i) (by simpa using hl 0 v rfl)
    rw [upd_self rfl] at h1
    exact argT_ok l (i + 1) _ h1 (fun j v hj => by
      have := hl (j + 1) v (by simpa using hj)
      rwa [show i + (j + 1) = i + 1 + j by omega] at this) h
theorem args_ok {l : List V} {l' : List Value} (hl : VRs φ l l') (j : Nat) (v : V) (h : l[j]? = some v) : VR φ v (argEnv l' (0 + j)) := by
  obtain ⟨u, h1, h2⟩ := hl.get h
  unfold argEnv
  rw [Nat.zero_add, List.getD_eq_getElem?_getD, h1]
  exact h2
theorem resL_ok {c' : Cn} (hb : Bs c φ A w) (he : EnvR φ σ ρ) : ∀ (rs : List ResultVar) {k : List V → CR}, PostC c' R (resL P A σ rs k) → ∃ lv lu, VRs φ lv lu ∧ PostC c' R (k lv) ∧ ∀ (R' : Value → Prop) (acc : List Value), R' (packV (acc.reverse ++ lu)) → resWp P w ρ rs acc R'
  | [], k, h => ⟨[], [], .nil, h, fun R' acc h => by simpa [resWp] using h⟩
  | .tmp t :: rs, k, h => by
    replace h : PostC c' R (σ.getk .u t fun v => resL P A σ rs fun l => k (v :: l)) := h
    rw [Tr2.getk_eq] at h
    obtain ⟨lv, lu, h1, h2, h3⟩ := resL_ok hb he rs h
    exact ⟨_, _, .cons (he t) h1, h2, fun R' acc h => h3 R' (ρ t :: acc) (by simpa using h)⟩
  | .cell a T :: rs, k, h => by
    replace h : PostC c' R (σ.getk .u a fun p => (match p with
      | .p b o => (match atB A b with
        | .cl _ cs => (match scalarT P T with
          | true => (match cs[o]? with
            | some v => fV v fun v => resL P A σ rs fun l => k (v :: l)
            | none => .no)
          | false => orC (aggT P T) (match sizeT P T with
            | some n => dropk cs o fun cs => takek cs n fun cs => orC (lenB cs n) (resL P A σ rs fun l => k (.ag cs :: l))
            | none => .no))
        | _ => .no)
      | _ => .no)) := h
    rw [Tr2.getk_eq] at h
    have ha := he a
    generalize σ.get .u a = v at h ha
    generalize hu : ρ a = u at ha
    cases ha
    case p b o ad h1 h2 =>
      have hk := hb.wr.bk b
      dsimp only at h
      unfold atB at h
      generalize A.t.get .dd b = bk at h hk
      cases bk with
      | dd => exact False.elim h
      | op T es cs => exact False.elim h
      | ro T cs => exact False.elim h
      | it s i => exact False.elim h
      | cl T' cs =>
        obtain ⟨y, hy, hz, hc, m, hm, hv⟩ := hk
        have := h2 y hy
        subst this
        dsimp only at h
        cases hs : scalarT P T with
        | true =>
          rw [hs] at h
          replace h : PostC c' R (match cs[o]? with
            | some v => fV v fun v => resL P A σ rs fun l => k (v :: l)
            | none => .no) := h
          cases ho : cs[o]? with
          | none => rw [ho] at h; exact False.elim h
          | some v =>
            rw [ho] at h
            replace h : PostC c' R (fV v fun v => resL P A σ rs fun l => k (v :: l)) := h
            rw [fV_eq] at h
            obtain ⟨u, hu', hvu⟩ := hv.get ho
            obtain ⟨lv, lu, g1, g2, g3⟩ := resL_ok hb he rs h
            exact ⟨_, _, .cons hvu g1, g2, fun R' acc h => ⟨_, u, hu, .inl ⟨hs, hm.cell hu'⟩, g3 R' (u :: acc) (by simpa using h)⟩⟩
        | false =>
          rw [hs] at h
          obtain ⟨hagg, h⟩ := orC_ok (show PostC c' R (orC (aggT P T) (match sizeT P T with
            | some n => dropk cs o fun cs => takek cs n fun cs => orC (lenB cs n) (resL P A σ rs fun l => k (.ag cs :: l))
            | none => .no)) from h)
          cases hsz : sizeT P T with
          | none => rw [hsz] at h; exact False.elim h
          | some n =>
            rw [hsz] at h
            replace h : PostC c' R (dropk cs o fun cs => takek cs n fun cs => orC (lenB cs n) (resL P A σ rs fun l => k (.ag cs :: l))) := h
            rw [dropk_eq, takek_eq] at h
            obtain ⟨hl, h⟩ := orC_ok h
            have hl := lenB_eq _ _ hl
            have h7 := (hv.drop o).take n
            have h9 := h7.len
            rw [hl] at h9
            obtain ⟨lv, lu, g1, g2, g3⟩ := resL_ok hb he rs h
            exact ⟨_, _, .cons (.ag h7) g1, g2, fun R' acc h => ⟨_, _, hu, .inr ⟨hagg, n, _, hsz, hm.cells rfl h9.symm, rfl⟩, g3 R' (_ :: acc) (by simpa using h)⟩⟩
    all_goals exact False.elim h
theorem resE_ok {c' : Cn} (hb : Bs c φ A w) (he : EnvR φ σ ρ) {rs : List ResultVar} {k : V → CR} (h : PostC c' R (resE P A σ rs k)) : ∃ v u, VR φ v u ∧ PostC c' R (k v) ∧ ∀ R' : Value → Prop, R' u → resWp P w ρ rs [] R' := by
  unfold resE at h
  obtain ⟨lv, lu, h1, h2, h3⟩ := resL_ok hb he rs h
  have gen : PostC c' R (k (.tu lv)) → packV lu = .tuple ⟨lu⟩ → ∃ v u, VR φ v u ∧ PostC c' R (k v) ∧ ∀ R' : Value → Prop, R' u → resWp P w ρ rs [] R' := fun g1 g2 => ⟨_, _, .tu h1, g1, fun R' hr => h3 R' [] (by simpa [g2] using hr)⟩
  cases h1 with
  | nil => exact gen h2 rfl
  | cons hv ht =>
    cases ht with
    | nil => exact ⟨_, _, hv, h2, fun R' hr => h3 R' [] (by simpa [packV] using hr)⟩
    | cons hv2 ht2 => exact gen h2 rfl
theorem ret_ok {rs : List ResultVar} {r : ER} (h : PostC c R (retE P rs r)) : Post c (retQ P rs R) r := by
  cases r with
  | nm σ A =>
    intro φ ρ w hb he
    obtain ⟨v, u, h1, h2, h3⟩ := resE_ok hb he (show PostC c R (resE P A σ rs fun v => .rt v A) from h)
    exact h3 _ (h2 φ w u hb h1)
  | rt σ A =>
    intro φ ρ w hb he
    obtain ⟨v, u, h1, h2, h3⟩ := resE_ok hb he (show PostC c R (resE P A σ rs fun v => .rt v A) from h)
    exact h3 _ (h2 φ w u hb h1)
  | pn v s A =>
    cases s with
    | none => exact fun φ ρ w u hb hv => h φ w u hb hv
    | some s => exact fun φ ρ w u hb hv _ => h φ w u hb hv
  | ex id σ A => exact False.elim h
  | no => exact False.elim h
/-! ### Calls that are put off -/
/-- What is put off: functions with what they hold. -/
inductive DsR (φ : Ph) : List (FuncId × List V) → List Deferred → Prop where
  | nil : DsR φ [] []
  | cons {f : FuncId} {l : List V} {m : List Value} {ds : List (FuncId × List V)} {ds' : List Deferred} (h : VRs φ l m) (t : DsR φ ds ds') : DsR φ ((f, l) :: ds) (⟨.fn (.func f) ⟨m⟩, #[]⟩ :: ds')
/-- Rows that stay related, kept as one value. -/
def Cn.keepL (c : Cn) (l : List V) (m : List Value) : Cn := ⟨c.w0, fun v u => c.S v u ∨ (v = .tu l ∧ u = .tuple ⟨m⟩), c.R⟩
def dsV : List (FuncId × List V) → V
  | [] => .tu []
  | (f, l) :: ds => .tu [.tu l, dsV ds]
def dsU : List Deferred → Value
  | ⟨.fn (.func f) m, _⟩ :: ds => .tuple #[.tuple m, dsU ds]
  | _ => .tuple #[]
/-- The deferred calls are kept as a value. -/
def Cn.ds (c : Cn) (ds : List (FuncId × List V)) (ds' : List Deferred) : Cn := ⟨c.w0, fun v u => c.S v u ∨ (v = dsV ds ∧ u = dsU ds'), c.R⟩
def Shp : List (FuncId × List V) → List Deferred → Prop
  | [], [] => True
  | (f, l) :: ds, d :: ds' => (∃ m, d = ⟨.fn (.func f) ⟨m⟩, #[]⟩) ∧ Shp ds ds'
  | _, _ => False
theorem DsR.shp : ∀ {ds : List (FuncId × List V)} {ds' : List Deferred}, DsR φ ds ds' → Shp ds ds' ∧ VR φ (dsV ds) (dsU ds')
  | _, _, .nil => ⟨trivial, .tu .nil⟩
  | _, _, .cons h t => ⟨⟨⟨_, rfl⟩, t.shp.1⟩, .tu (.cons (.tu h) (.cons t.shp.2 .nil))⟩
theorem Shp.ds : ∀ {ds : List (FuncId × List V)} {ds' : List Deferred}, Shp ds ds' → VR φ (dsV ds) (dsU ds') → DsR φ ds ds'
  | [], [], _, _ => .nil
  | [], _ :: _, h, _ => False.elim h
  | _ :: _, [], h, _ => False.elim h
  | (f, l) :: ds, d :: ds', h, hv => by
    obtain ⟨⟨m, rfl⟩, h⟩ := h
    replace hv : VR φ (.tu [.tu l, dsV ds]) (.tuple ⟨[.tuple ⟨m⟩, dsU ds']⟩) := hv
    cases hv with
    | tu hv => cases hv with
      | cons h1 t => cases t with
        | cons h2 t => cases h1 with
          | tu h1 => exact .cons h1 (h.ds h2)
def PostD (c : Cn) (Q : List Deferred → QT) : DR → Prop
  | .nm ds σ A => ∀ φ ρ w ds', Bs c φ A w → EnvR φ σ ρ → DsR φ ds ds' → Q ds' .normal ρ w
  | .rt ds σ A => ∀ φ ρ w ds', Bs c φ A w → EnvR φ σ ρ → DsR φ ds ds' → Q ds' .ret ρ w
  | .pn ds v (some σ) A => ∀ φ ρ w ds' u, Bs c φ A w → VR φ v u → EnvR φ σ ρ → DsR φ ds ds' → Q ds' (.panic [{ v := u, recovered := false }]) ρ w
  | .pn ds v none A => ∀ φ ρ w ds' u, Bs c φ A w → VR φ v u → DsR φ ds ds' → Q ds' (.panic [{ v := u, recovered := false }]) ρ w
  | .no => False
theorem Bs.ds {ds : List (FuncId × List V)} {ds' : List Deferred} (hb : Bs c φ A w) (h : DsR φ ds ds') : Bs (c.ds ds ds') φ A w := ⟨hb.wr, hb.free, fun v u h' => h'.elim (hb.keep v u) (by rintro ⟨rfl, rfl⟩; exact h.shp.2), hb.res⟩
theorem Bs.unds {ds : List (FuncId × List V)} {ds' : List Deferred} (hs : Shp ds ds') (hb : Bs (c.ds ds ds') φ A w) : Bs c φ A w ∧ DsR φ ds ds' := ⟨⟨hb.wr, hb.free, fun v u h => hb.keep v u (.inl h), hb.res⟩, hs.ds (hb.keep _ _ (.inr ⟨rfl, rfl⟩))⟩
theorem dOf_ok {Q : List Deferred → QT} {ds : List (FuncId × List V)} {ds' : List Deferred} (hs : Shp ds ds') {r : ER} (h : PostD c Q (dOf ds r)) : Post (c.ds ds ds') (Q ds') r := by
  cases r with
  | nm σ A => exact fun φ ρ w hb he => h φ ρ w ds' (hb.unds hs).1 he (hb.unds hs).2
  | rt σ A => exact fun φ ρ w hb he => h φ ρ w ds' (hb.unds hs).1 he (hb.unds hs).2
  | pn v s A =>
    cases s with
    | none => exact fun φ ρ w u hb hv => h φ ρ w ds' u (hb.unds hs).1 hv (hb.unds hs).2
    | some s => exact fun φ ρ w u hb hv he => h φ ρ w ds' u (hb.unds hs).1 hv he (hb.unds hs).2
  | ex id σ A => exact False.elim h
  | no => exact False.elim h
theorem evLD_ok (hE : EOk P E) (hX : XOk P X) : ∀ (a : LD) (Q : List Deferred → QT) {φ : Ph} {ds : List (FuncId × List V)} {ds' : List Deferred} {σ : Tr2 V} {A : AW} {ρ : Env} {w : World}, Bs c φ A w → EnvR φ σ ρ → DsR φ ds ds' → PostD c Q (evLD P E X N a ds σ A) → a.wpD P Q ds' ρ w
  | .pl a, Q, φ, ds, ds', σ, A, ρ, w, hb, he, hd, h => evC_ok hE hX N a (Q ds') (hb.ds hd) he (dOf_ok hd.shp.1 (r := evC P E X N a σ A) h)
  | .seq a b, Q, φ, ds, ds', σ, A, ρ, w, hb, he, hd, h => by
    refine evLD_ok hE hX a (fun ds' => thenQ (b.wpD P Q ds') (Q ds')) hb he hd ?_
    unfold evLD at h
    generalize evLD P E X N a ds σ A = r at h
    cases r with
    | nm ds σ A => exact fun φ ρ w ds' hb he hd => evLD_ok hE hX b Q hb he hd h
    | rt ds σ A => exact h
    | pn ds v s A => cases s <;> exact h
    | no => exact False.elim h
  | .sp l1 (.rcv d) l2, Q, φ, ds, ds', σ, A, ρ, w, hb, he, hd, h => False.elim h
  | .sp l1 (.dfr d x) l2, Q, φ, ds, ds', σ, A, ρ, w, hb, he, hd, h => by
    unfold evLD at h
    refine evL_ok (c := c.ds ds ds') hE hX l1 (hb.ds hd) he ?_
    generalize evL P E X l1 σ A = r at h
    have hs := hd.shp.1
    cases r with
    | nm σ A =>
      intro φ ρ w hb2 he2
      obtain ⟨hb2, hd2⟩ := hb2.unds hs
      have hx := ev_ok he2 x
      dsimp only at h
      generalize exV σ x = v at h hx
      generalize hu : ρ.ev x = u at hx
      cases hx
      case fn f a cp a' cp' h1 h2 =>
        cases h1 with
        | cons _ _ => exact False.elim h
        | nil =>
          refine ⟨f, ⟨cp'⟩, hu, ?_⟩
          have hd3 : DsR φ ((f, cp) :: ds) (⟨.fn (.func f) ⟨cp'⟩, #[]⟩ :: ds') := .cons h2 hd2
          cases d with
          | none => exact evL_ok hE hX l2 (hb2.ds hd3) he2 (dOf_ok hd3.shp.1 h)
          | some d =>
            refine evL_ok (σ := σ.set .u d) hE hX l2 (hb2.ds hd3) (he2.set d (.u _)) (dOf_ok hd3.shp.1 ?_)
            replace h : PostD c Q (dOf ((f, cp) :: ds) (σ.setk .u d fun σ => evL P E X l2 σ A)) := h
            rw [Tr2.setk_eq] at h
            exact h
      all_goals exact False.elim h
    | rt σ A => exact False.elim h
    | ex id σ A => exact False.elim h
    | no => exact False.elim h
    | pn v s A =>
      cases s with
      | none => exact fun φ ρ w u hb hv => h φ ρ w ds' u (hb.unds hs).1 hv (hb.unds hs).2
      | some s => exact fun φ ρ w u hb hv he => h φ ρ w ds' u (hb.unds hs).1 hv he (hb.unds hs).2
end
end Go.Lir
