/- Sixteen integers in a row of their own; the renamings of TypesBack. -/
import Derived.Test.YtanlkfeogoganaaDoorLirRep
import Derived.Test.YtanlkfeogoganaaDoorTyBack
namespace Go.Lir
def tab (f : Nat → Int) : List (List Value) := (List.range 16).map fun q => [.int .i64 (f q)]
theorem tab_len (f : Nat → Int) : (tab f).length = 16 := by simp [tab]
theorem tab_get (f : Nat → Int) {m : Nat} (h : m < 16) : (tab f)[m]? = some [.int .i64 (f m)] := by
  unfold tab; rw [List.getElem?_map, List.getElem?_range h]; rfl
theorem tab_congr {f g : Nat → Int} (h : ∀ q, q < 16 → f q = g q) : tab f = tab g := by
  unfold tab
  exact List.map_congr_left fun q hq => by rw [h q (List.mem_range.1 hq)]
theorem tab_set {f g : Nat → Int} {m : Nat} {n : Int} (hm : m < 16) (hg : ∀ q, q < 16 → g q = if q = m then n else f q) : (tab f).set m [.int .i64 n] = tab g := by
  apply List.ext_getElem?
  intro q
  rw [List.getElem?_set]
  rcases Nat.lt_or_ge q 16 with hq | hq
  · rw [tab_get g hq, hg q hq]
    by_cases he : m = q
    · subst he; rw [if_pos rfl, if_pos (by rw [tab_len]; exact hm), if_pos rfl]
    · rw [if_neg he, if_neg (fun h => he h.symm), tab_get f hq]
  · rw [List.getElem?_eq_none (l := tab g) (by rw [tab_len]; exact hq)]
    rw [if_neg (by omega), List.getElem?_eq_none (by rw [tab_len]; exact hq)]
theorem tab_ls {c : Cx} {f' : Nat → Int} {f : Nat → Nat} (h : ∀ q, q < 16 → f' q = (f q : Int)) : intR.ls c (tab f') (rot f) := by
  refine ⟨by rw [tab_len, rot_len], fun m x hx => ?_⟩
  have hm : m < 16 := by have := (List.getElem?_eq_some_iff.1 hx).1; rw [rot_len] at this; exact this
  refine ⟨_, tab_get f' hm, ?_⟩
  have h2 := rot_get f hm
  rw [List.getD_eq_getElem?_getD, hx] at h2
  have h2 : x = (f m : Int) := h2
  rw [h2, h m hm]; rfl
section
variable {P : Program} {l : List GO} {Q : QT} {ρ : Env} {w : World} {c : Cx} {L : List Res} {v : Value} {T : TypeId} {i d b o m : Nat} {x y : Operand} {f g : Nat → Int} {n : Int}
theorem s_tabIdxN (hS : St c w L) (hx : ρ.ev x = v) (hy : ρ.ev y = .int .i64 (m : Int)) (hi : nth L i = some (sl T 1 v (tab f))) (hn : m < 16)
    (h : ∀ b o, ElP v 16 1 m b o → opsWp P l Q (upd ρ d (.pointer (some ⟨b, o, none⟩))) w) : opsWp P (⟨none, .idx d 1 x y⟩ :: l) Q ρ w :=
  s_idxE hS hx hy hi (by rw [tab_len]; exact hn) (by rw [tab_len]; exact h)
theorem s_tabGet (hS : St c w L) (he : ElP v 16 1 m b o) (hx : ρ.ev x = .pointer (some ⟨b, o, none⟩)) (hi : nth L i = some (sl T 1 v (tab f))) (hm : m < 16)
    (h : opsWp P l Q (upd ρ d (.int .i64 (f m))) w) : opsWp P (⟨none, .load1 d x⟩ :: l) Q ρ w :=
  s_loadE hS he hx hi (tab_len f) (tab_get f hm) rfl h
theorem s_tabSet (hS : St c w L) (he : ElP v 16 1 m b o) (hx : ρ.ev x = .pointer (some ⟨b, o, none⟩)) (hy : ρ.ev y = .int .i64 n) (hi : nth L i = some (sl T 1 v (tab f))) (hm : m < 16) (hg : ∀ q, q < 16 → g q = if q = m then n else f q)
    (h : ∀ w', St c w' (L.set i (sl T 1 v (tab g))) → opsWp P l Q ρ w') : opsWp P (⟨none, .store1 x y⟩ :: l) Q ρ w :=
  s_storeEjc (j := 0) hS he hx hy hi (tab_len f) (tab_get f hm) (by decide) rfl (tab_set hm hg) h
end
theorem rem_nat (a b : Nat) : (((a : Int) + (b : Int)).tmod 16) = (((a + b) % 16 : Nat) : Int) := by
  rw [Int.tmod_eq_emod_of_nonneg (by omega)]; omega
theorem rem_nat3 (a b : Nat) : (((a : Int) * 3 + (b : Int)).tmod 16) = (((a * 3 + b) % 16 : Nat) : Int) := by
  rw [Int.tmod_eq_emod_of_nonneg (by omega)]; omega
/-- A number that came in, as the law takes it. -/
theorem umod16 (a : Int) : ∃ k : Nat, k < 16 ∧ (IntKind.u64.wrap a).tmod (IntKind.u64.wrap 16) = (k : Int) := by
  have e16 : IntKind.u64.wrap 16 = 16 := by decide
  have e : IntKind.u64.wrap a = a % 18446744073709551616 := by
    unfold IntKind.wrap
    simp [IntKind.bits, IntKind.signed]
  have h0 : 0 ≤ IntKind.u64.wrap a := by rw [e]; omega
  refine ⟨(IntKind.u64.wrap a % 16).toNat, by omega, ?_⟩
  rw [e16, Int.tmod_eq_emod_of_nonneg h0]
  omega
def fA (k i q : Nat) : Int := if q < i then (thereN k q : Int) else 0
def fB (k i q : Nat) : Int := if backN k q < i then (backN k q : Int) else 0
def fC (m i q : Nat) : Int := if q < i then (onN m q : Int) else 0
def fD (k m i q : Nat) : Int := if q < i then (onN m (thereN k q) : Int) else 0
theorem fA_zero (k : Nat) : tab (fun _ => 0) = tab (fA k 0) := tab_congr fun q _ => by simp [fA]
theorem fB_zero (k : Nat) : tab (fun _ => 0) = tab (fB k 0) := tab_congr fun q _ => by simp [fB]
theorem fC_zero (k : Nat) : tab (fun _ => 0) = tab (fC k 0) := tab_congr fun q _ => by simp [fC]
theorem fD_zero (k m : Nat) : tab (fun _ => 0) = tab (fD k m 0) := tab_congr fun q _ => by simp [fD]
theorem fA_succ {k i q : Nat} : fA k (i + 1) q = if q = i then (((i + k) % 16 : Nat) : Int) else fA k i q := by
  unfold fA thereN
  by_cases h : q = i
  · subst h; simp
  · rw [if_neg h]; simp only [show q < i + 1 ↔ q < i by omega]
theorem fC_succ {k i q : Nat} : fC k (i + 1) q = if q = i then (((i * 3 + k) % 16 : Nat) : Int) else fC k i q := by
  unfold fC onN
  by_cases h : q = i
  · subst h; simp
  · rw [if_neg h]; simp only [show q < i + 1 ↔ q < i by omega]
theorem fD_succ {k m i q : Nat} : fD k m (i + 1) q = if q = i then (onN m (thereN k i) : Int) else fD k m i q := by
  unfold fD
  by_cases h : q = i
  · subst h; simp
  · rw [if_neg h]; simp only [show q < i + 1 ↔ q < i by omega]
theorem fB_succ {k i q : Nat} (hk : k < 16) (hi : i < 16) (hq : q < 16) : fB k (i + 1) q = if q = (i + k) % 16 then (i : Int) else fB k i q := by
  unfold fB backN
  by_cases h : q = (i + k) % 16
  · have e : (q + 16 - k) % 16 = i := by omega
    rw [if_pos h, e, if_pos (by omega)]
  · rw [if_neg h]
    have e : (q + 16 - k) % 16 ≠ i := by omega
    simp only [show (q + 16 - k) % 16 < i + 1 ↔ (q + 16 - k) % 16 < i by omega]
theorem fA_all {k i : Nat} (h : 16 ≤ i) : tab (fA k i) = tab fun q => (thereN k q : Int) := tab_congr fun q hq => by unfold fA; rw [if_pos (by omega)]
theorem fB_all {k i : Nat} (h : 16 ≤ i) : tab (fB k i) = tab fun q => (backN k q : Int) := tab_congr fun q hq => by unfold fB; rw [if_pos (by unfold backN; omega)]
theorem fC_all {k i : Nat} (h : 16 ≤ i) : tab (fC k i) = tab fun q => (onN k q : Int) := tab_congr fun q hq => by unfold fC; rw [if_pos (by omega)]
theorem fD_all {k m i : Nat} (h : 16 ≤ i) : tab (fD k m i) = tab fun q => (onN m (thereN k q) : Int) := tab_congr fun q hq => by unfold fD; rw [if_pos (by omega)]
mutual
theorem Ty.ren_short {f : List Int} : ∀ (t u : Ty), t.ren f = some u → t.Short → u.Short
  | .mk k r l, u, ht, hs => by
    rw [Ty.ren] at ht
    split at ht
    · cases ht
    · cases hl : Tys.ren l f with
      | none => rw [hl] at ht; cases ht
      | some m =>
        rw [hl] at ht
        simp only [Option.some.injEq] at ht
        subst ht
        obtain ⟨h1, h2⟩ := hs.parts
        obtain ⟨h3, h4⟩ := Tys.ren_short l m hl h2
        exact .mk (by omega) h4
theorem Tys.ren_short {f : List Int} : ∀ (t u : List Ty), Tys.ren t f = some u → (∀ x ∈ t, x.Short) → u.length = t.length ∧ ∀ x ∈ u, x.Short
  | [], u, ht, hs => by rw [Tys.ren] at ht; cases ht; exact ⟨rfl, by simp⟩
  | x :: l, u, ht, hs => by
    rw [Tys.ren] at ht
    cases hx : x.ren f with
    | none => rw [hx] at ht; cases ht
    | some y =>
      rw [hx] at ht
      cases hl : Tys.ren l f with
      | none => rw [hl] at ht; cases ht
      | some m =>
        rw [hl] at ht
        simp only [Option.some.injEq] at ht
        subst ht
        have h1 := Ty.ren_short x y hx (hs x (List.mem_cons_self ..))
        obtain ⟨h3, h4⟩ := Tys.ren_short l m hl fun z hz => hs z (List.mem_cons_of_mem _ hz)
        refine ⟨by simp [h3], fun z hz => ?_⟩
        rcases List.mem_cons.1 hz with rfl | hz
        · exact h1
        · exact h4 z hz
end
theorem there_lt (k i : Nat) : thereN k i < 16 := by unfold thereN; omega
theorem fault_ne {t : Ty} (h : t.wrong 8 16 ≠ 0) : t.fault 16 ≠ 0 := by unfold Ty.fault; split <;> first | decide | exact h
theorem fault_same {t u : Ty} (h : u.wrong 8 16 = t.wrong 8 16) (hd : ∀ left, u.deepB left = t.deepB left) : u.fault 16 = t.fault 16 := by unfold Ty.fault; rw [h, hd]
end Go.Lir
