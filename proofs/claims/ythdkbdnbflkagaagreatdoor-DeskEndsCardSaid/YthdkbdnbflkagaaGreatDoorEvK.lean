/- Evaluation is sound: rows of operations, values that are the same. -/
import Derived.Test.YthdkbdnbflkagaaGreatDoorEvX
namespace Go.Lir
set_option linter.unusedVariables false
set_option linter.unusedSimpArgs false
section
variable {P : Program} {E : FuncId → Option ExK} {X : FuncId → List V → AW → CR} {c : Cn} {φ : Ph} {σ : Tr2 V} {A : AW} {ρ : Env} {w : World} {K : KT} {Q Q' : QT} {v : V} {u : Value}
theorem raw_ok (hE : EOk P E) (hb : Bs c φ A w) (he : EnvR φ σ ρ) {o : Oper} (h : Post c (thenQ K Q) (oRaw P E A σ o)) : rawWp P o ρ w K Q := by
  obtain ⟨d, op, T, pos, af, g⟩ := o
  unfold oRaw at h
  dsimp only at h
  split at h
  · exact app_ok hb he h
  · exact copy_ok hb he h
  · exact panic_ok hb he h
  · split at h
    · exact False.elim h
    · split at h
      · exact cap_ok hb he h
      · exact sdata_ok hb he h
      · exact ustr_ok hb he h
      · split at h
        · rename_i k hk
          exact ext1_ok (hE _ _ hk) hb he h
        · exact False.elim h
      · obtain ⟨h0, h⟩ := orN_ok h
        have h0 := Nat.eq_of_beq_eq_true h0
        subst h0
        exact none_ok hb he (by assumption)
      · exact make_ok hb he h
      · exact convert_ok hb he h
      · exact index_ok hb he h
      · exact bound_ok hb he h
      · exact range_ok hb he h
      · exact next_ok hb he h
      · exact assert_ok hb he h
      · exact False.elim h
theorem evO_ok (hE : EOk P E) (hX : XOk P X) (hb : Bs c φ A w) (he : EnvR φ σ ρ) {o : LO} (h : Post c (thenQ K Q) (evO P E X A σ o)) : o.wp P ρ w K Q := by
  cases o
  case mov => exact mov_ok hb he h
  case pick => exact pick_ok hb he h
  case un => exact un_ok hb he h
  case bin => exact bin_ok hb he h
  case nilc => exact nilc_ok hb he h
  case fld => exact fld_ok hb he h
  case load1 => exact load1_ok hb he h
  case loadn => exact loadn_ok hb he h
  case store1 => exact store1_ok hb he h
  case storen => exact storen_ok hb he h
  case idx => exact idx_ok hb he h
  case idxa => exact idxa_ok hb he h
  case len => exact len_ok hb he h
  case slen => exact slen_ok hb he h
  case sidx => exact sidx_ok hb he h
  case ext => exact ext_ok hb he h
  case fldv => exact fldv_ok hb he h
  case fldn => exact fldn_ok hb he h
  case alloc d T z =>
    replace h : Post c (thenQ K Q) (mapk z fun l => newB A (.cl T l) fun b A => putV A σ d (.p b 0)) := h
    rw [mapk_eq, newB_eq] at h
    exact lays_ok alloc_lays hb he h
  case box => exact box_ok hb he h
  case call => exact call_ok hX hb he h
  case callv => exact callv_ok hX hb he h
  case build => exact build_ok hb he h
  case buildS d T n z ps =>
    replace h : Post c (thenQ K Q) (mapk z fun z => fillk σ ps z fun l => newB A (.cl T l) fun b A => putV A σ d (.l b 0 n n)) := h
    rw [mapk_eq, fillk_eq] at h
    cases hf : fillV σ (z.map ofC) ps with
    | none => rw [hf] at h; exact False.elim h
    | some l =>
      rw [hf] at h
      replace h : Post c (thenQ K Q) (newB A (.cl T l) fun b A => putV A σ d (.l b 0 n n)) := h
      rw [newB_eq] at h
      exact lays_ok (buildS_lays hf) hb he h
  case mkfn => exact mkfn_ok hb he h
  case sub => exact sub_ok hb he h
  case ssub => exact ssub_ok hb he h
  case mnx => exact mnx_ok hb he h
  case conv => exact conv_ok hb he h
  case mki => exact mki_ok hb he h
  case raw => exact raw_ok hE hb he h
theorem thenE_ok {c' : Cn} {r : ER} {k : Tr2 V → AW → ER} (h : Post c Q (thenE r k)) (hc : ∀ φ A w, Bs c' φ A w → Bs c φ A w) (hk : ∀ σ A φ ρ w, Post c Q (k σ A) → Bs c' φ A w → EnvR φ σ ρ → K ρ w) : Post c' (thenQ K Q) r := by
  cases r with
  | nm σ A => exact fun φ ρ w hb he => hk σ A φ ρ w h hb he
  | rt σ A => exact fun φ ρ w hb he => h φ ρ w (hc _ _ _ hb) he
  | ex id σ A => exact fun φ ρ w hb he => h φ ρ w (hc _ _ _ hb) he
  | pn v s A =>
    cases s with
    | none => exact fun φ ρ w u hb hv => h φ ρ w u (hc _ _ _ hb) hv
    | some σ => exact fun φ ρ w u hb hv he => h φ ρ w u (hc _ _ _ hb) hv he
  | no => exact False.elim h
theorem evL_ok (hE : EOk P E) (hX : XOk P X) : ∀ (l : List GO) {φ : Ph} {σ : Tr2 V} {A : AW} {ρ : Env} {w : World}, Bs c φ A w → EnvR φ σ ρ → Post c Q (evL P E X l σ A) → opsWp P l Q ρ w
  | [], φ, σ, A, ρ, w, hb, he, h => h φ ρ w hb he
  | ⟨none, o⟩ :: l, φ, σ, A, ρ, w, hb, he, h => by
    have h1 := thenE_ok (c' := c) (K := opsWp P l Q) (r := evO P E X A σ o) (k := evL P E X l) h (fun _ _ _ hb => hb) fun σ A φ ρ w h hb he => evL_ok hE hX l hb he h
    exact evO_ok hE hX hb he h1
  | ⟨some (s, b), o⟩ :: l, φ, σ, A, ρ, w, hb, he, h => by
    have hs := he s
    replace h : Post c Q (match σ.get .u s with
      | .b b' => orE (xorB b' b) (thenE (evO P E X A σ o) (evL P E X l)) (match o.dst with
        | some d => σ.setk .u d fun σ => evL P E X l σ A
        | none => evL P E X l σ A)
      | _ => .no) := h
    generalize σ.get .u s = v at h hs
    generalize hu : ρ s = u at hs
    cases hs
    case b b' =>
      show if wants (ρ s) b then o.wp P ρ w (opsWp P l Q) Q else opsWp P l Q (updo ρ o.dst undef) w
      rw [hu]
      have hw : wants (.bool b') b = (b' == b) := rfl
      rw [hw, ← xorB_eq]
      rcases orE_ok (show Post c Q (orE (xorB b' b) (thenE (evO P E X A σ o) (evL P E X l)) (match o.dst with
        | some d => σ.setk .u d fun σ => evL P E X l σ A
        | none => evL P E X l σ A)) from h) with ⟨h1, h⟩ | ⟨h1, h⟩
      · rw [if_pos h1]
        have h1 := thenE_ok (c' := c) (K := opsWp P l Q) (r := evO P E X A σ o) (k := evL P E X l) h (fun _ _ _ hb => hb) fun σ A φ ρ w h hb he => evL_ok hE hX l hb he h
        exact evO_ok hE hX hb he h1
      · rw [if_neg (by rw [h1]; simp)]
        cases hd : o.dst with
        | none => rw [hd] at h; exact evL_ok hE hX l hb he h
        | some d =>
          rw [hd] at h
          replace h : Post c Q (σ.setk .u d fun σ => evL P E X l σ A) := h
          rw [Tr2.setk_eq] at h
          exact evL_ok hE hX l hb (he.set d (.u _)) h
    all_goals exact False.elim h
end
/-! ### What is the same -/
theorem live_ok {c : Cn} {φ : Ph} {A : AW} {w : World} (hb : Bs c φ A w) {b : Nat} (h : (match atB A b with | .dd => false | _ => true) = true) : ∃ y, φ.f b = some y := by
  have hk := hb.wr.bk b
  unfold atB at h
  generalize A.t.get .dd b = bk at h hk
  cases bk with
  | dd => cases h
  | cl T cs => obtain ⟨y, hy, _⟩ := hk; exact ⟨y, hy⟩
  | op T es cs => obtain ⟨y, hy, _⟩ := hk; exact ⟨y, hy⟩
  | ro T cs => obtain ⟨y, hy, _⟩ := hk; exact ⟨y, hy⟩
  | it s i => obtain ⟨y, hy, _⟩ := hk; exact ⟨y, hy⟩
mutual
theorem same_ok {c : Cn} {φ : Ph} {A : AW} {w : World} (hb : Bs c φ A w) : ∀ (v v' : V) (u u' : Value), same A v v' = true → VR φ v u → VR φ v' u' → u = u'
  | .i k n, v', u, u', hs, h1, h2 => by
    cases v' <;> simp only [same, Bool.false_eq_true] at hs
    rw [Bool.and_eq_true, eqI_eq, decide_eq_true_eq] at hs
    have := eqK_eq hs.1
    cases h1; cases h2; rw [this, hs.2]
  | .b x, v', u, u', hs, h1, h2 => by
    cases v' <;> simp only [same, Bool.false_eq_true] at hs
    rw [xorB_eq, beq_iff_eq] at hs
    cases h1; cases h2; rw [hs]
  | .s l, v', u, u', hs, h1, h2 => by
    cases v' <;> simp only [same, Bool.false_eq_true] at hs
    rw [sameS_eq, decide_eq_true_eq] at hs
    cases h1; cases h2; rw [hs]
  | .p0, v', u, u', hs, h1, h2 => by
    cases v' <;> simp only [same, Bool.false_eq_true] at hs
    cases h1; cases h2; rfl
  | .p b o, v', u, u', hs, h1, h2 => by
    cases v' <;> simp only [same, Bool.false_eq_true] at hs
    rw [Bool.and_eq_true, Bool.and_eq_true] at hs
    obtain ⟨⟨e1, e2⟩, e3⟩ := hs
    obtain ⟨y, hy⟩ := live_ok hb e3
    have e1 := Nat.eq_of_beq_eq_true e1
    have e2 := Nat.eq_of_beq_eq_true e2
    subst e1 e2
    cases h1 with
    | p _ g1 => cases h2 with
      | p _ g2 => rw [g1 y hy, g2 y hy]
  | .l0, v', u, u', hs, h1, h2 => by
    cases v' <;> simp only [same, Bool.false_eq_true] at hs
    cases h1; cases h2; rfl
  | .l b o n cp, v', u, u', hs, h1, h2 => by
    cases v' <;> simp only [same, Bool.false_eq_true] at hs
    rename_i b' o' n' cp'
    rw [Bool.and_eq_true, Bool.and_eq_true, Bool.and_eq_true] at hs
    obtain ⟨⟨⟨e1, e2⟩, e3⟩, e4⟩ := hs
    have e1 := Nat.eq_of_beq_eq_true e1
    have e2 := Nat.eq_of_beq_eq_true e2
    have e3 := Nat.eq_of_beq_eq_true e3
    subst e1 e2 e3
    cases h1 with
    | l hb1 g1 =>
      cases h2 with
      | l hb2 g2 =>
        have hk := hb.wr.bk b
        unfold atB at e4
        generalize A.t.get .dd b = bk at e4 hk
        have fin : ∀ y, φ.f b = some y → (y.es = 0 → cp = cp') → ∀ {a1 a2 : Addr} {c1 c2 : Nat}, (a1 = ⟨y.c, o, none⟩ ∧ RoomOk y o n cp c1) → (a2 = ⟨y.c, o, none⟩ ∧ RoomOk y o n cp' c2) → Value.slice (some a1) n c1 = .slice (some a2) n c2 := by
          intro y hy hcp a1 a2 c1 c2 k1 k2
          obtain ⟨rfl, k1⟩ := k1
          obtain ⟨rfl, k2⟩ := k2
          unfold RoomOk at k1 k2
          by_cases hz : y.es = 0
          · rw [if_pos hz] at k1 k2; rw [k1, k2, hcp hz]
          · rw [if_neg hz] at k1 k2
            have : c1 * y.es = c2 * y.es := by omega
            rw [Nat.eq_of_mul_eq_mul_right (by omega) this]
        cases bk with
        | dd => cases e4
        | cl T cs => obtain ⟨y, hy, hz, _⟩ := hk; exact fin y hy (fun _ => Nat.eq_of_beq_eq_true e4) (g1 y hy) (g2 y hy)
        | ro T cs => obtain ⟨y, hy, hz, _⟩ := hk; exact fin y hy (fun _ => Nat.eq_of_beq_eq_true e4) (g1 y hy) (g2 y hy)
        | it s i => obtain ⟨y, hy, hz, _⟩ := hk; exact fin y hy (fun _ => Nat.eq_of_beq_eq_true e4) (g1 y hy) (g2 y hy)
        | op T es cs => obtain ⟨y, hy, hes, hz, _⟩ := hk; exact fin y hy (fun h0 => absurd (hes ▸ h0) hz) (g1 y hy) (g2 y hy)
  | .lz, v', u, u', hs, h1, h2 => by cases v' <;> simp only [same, Bool.false_eq_true] at hs
  | .ag l, v', u, u', hs, h1, h2 => by
    cases v' <;> simp only [same, Bool.false_eq_true] at hs
    cases h1 with
    | ag k1 => cases h2 with
      | ag k2 => rw [sames_ok hb l _ _ _ hs k1 k2]
  | .tu l, v', u, u', hs, h1, h2 => by cases v' <;> simp only [same, Bool.false_eq_true] at hs
  | .n0, v', u, u', hs, h1, h2 => by
    cases v' <;> simp only [same, Bool.false_eq_true] at hs
    cases h1; cases h2; rfl
  | .ic T v, v', u, u', hs, h1, h2 => by
    cases v' <;> simp only [same, Bool.false_eq_true] at hs
    rw [Bool.and_eq_true] at hs
    have e := Nat.eq_of_beq_eq_true hs.1
    cases h1 with
    | ic k1 => cases h2 with
      | ic k2 => rw [same_ok hb v _ _ _ hs.2 k1 k2, e]
  | .f0, v', u, u', hs, h1, h2 => by
    cases v' <;> simp only [same, Bool.false_eq_true] at hs
    cases h1; cases h2; rfl
  | .fn f a cp, v', u, u', hs, h1, h2 => by cases v' <;> simp only [same, Bool.false_eq_true] at hs
  | .u, v', u, u', hs, h1, h2 => by cases v' <;> simp only [same, Bool.false_eq_true] at hs
theorem sames_ok {c : Cn} {φ : Ph} {A : AW} {w : World} (hb : Bs c φ A w) : ∀ (l l' : List V) (m m' : List Value), sames A l l' = true → VRs φ l m → VRs φ l' m' → m = m'
  | [], l', m, m', hs, h1, h2 => by
    cases l' with
    | nil => cases h1; cases h2; rfl
    | cons _ _ => simp [sames] at hs
  | v :: l, l', m, m', hs, h1, h2 => by
    cases l' with
    | nil => simp [sames] at hs
    | cons v' l' =>
      simp only [sames, Bool.and_eq_true] at hs
      cases h1 with
      | cons k1 t1 => cases h2 with
        | cons k2 t2 => rw [same_ok hb v v' _ _ hs.1 k1 k2, sames_ok hb l l' _ _ hs.2 t1 t2]
end
end Go.Lir
