/- The statement HeapApart: the plain law. -/
import Derived.Test.YtocllfbfogcbgaaHeapGone
namespace Go.Proofs.Ytocllfbfogcbgaa
open Go.Lir
def Put (s : HpS) (h : Val) (l : List Int) : Prop := ∃ (r t : Nat) (g : Rgn), h = ⟨3, r, t, 0⟩ ∧ s.l[r]? = some g ∧ g.there = true ∧ g.l[t]? = some ⟨false, l.map ivV⟩
structure Apt (s : HpS) (v : Val) (hs : List Val) (ks : List (List Int)) : Prop where
  can : ∃ (r : Nat) (g : Rgn), v = ⟨2, r, 0, 0⟩ ∧ s.l[r]? = some g ∧ g.there = true
  len : hs.length = ks.length
  put : ∀ (m : Nat) (h : Val) (l : List Int), hs[m]? = some h → ks[m]? = some l → Put s h l
  inj : ∀ (m m' : Nat) (h : Val), hs[m]? = some h → hs[m']? = some h → m = m'
variable {s : HpS} {v h : Val} {hs : List Val} {ks : List (List Int)} {l : List Int}
theorem HpS.reg_n {k : Nat} {r : Rgn} (h : s.l[k]? = some r) : s.reg (k : Int) = r := HpS.reg_get h
theorem Put.at_ (p : Put s h l) : ∃ (r t : Nat), h = ⟨3, r, t, 0⟩ ∧ s.at_ h = some (r, t) ∧ s.thg r t = ⟨false, l.map ivV⟩ := by
  obtain ⟨r, t, g, rfl, h1, h2, h3⟩ := p
  have e1 := HpS.reg_n h1
  have e2 : s.thg r t = ⟨false, l.map ivV⟩ := by unfold HpS.thg; rw [e1, List.getD_eq_getElem?_getD, h3]; rfl
  have hlt := (List.getElem?_eq_some_iff.1 h3).1
  refine ⟨r, t, rfl, ?_, e2⟩
  unfold HpS.at_
  rw [if_pos]
  · simp
  · refine ⟨.inl rfl, ?_, by simp, ?_, ?_⟩
    · unfold HpS.has; simp only; rw [e1]; exact h2
    · simp only; rw [e1]; omega
    · simp only [Int.toNat_natCast]; rw [e2]; rfl
theorem Put.len (p : Put s h l) : s.len h = ((l.length : Int), 0) := by
  obtain ⟨r, t, _, h1, h2⟩ := p.at_
  unfold HpS.len; rw [h1]; simp only; rw [h2]; simp
theorem Put.get (p : Put s h l) {k : Nat} (hk : k < l.length) : s.get h k = (ivV (l.getD k 0), 0) := by
  obtain ⟨r, t, _, h1, h2⟩ := p.at_
  unfold HpS.get; rw [h1]; simp only; rw [h2]
  rw [if_pos (by simp; omega)]
  simp only [Int.toNat_natCast]
  rw [List.getD_eq_getElem?_getD, List.getElem?_map, List.getD_eq_getElem?_getD, List.getElem?_eq_getElem hk]; rfl
theorem Apt.at_ (a : Apt s v hs ks) {m : Nat} (hm : m < ks.length) : Put s (hs.getD m Val.zero) (ks.getD m []) := by
  have hl := a.len
  refine a.put m _ _ ?_ ?_
  · rw [List.getD_eq_getElem?_getD, List.getElem?_eq_getElem (by omega)]; rfl
  · rw [List.getD_eq_getElem?_getD, List.getElem?_eq_getElem hm]; rfl
theorem Put.mono {s' : HpS} (p : Put s h l) (hh : ∀ (r : Nat) (g : Rgn), s.l[r]? = some g → g.there = true → ∃ g', s'.l[r]? = some g' ∧ g'.there = true ∧ ∀ (t : Nat) (x : Thg), g.l[t]? = some x → g'.l[t]? = some x) : Put s' h l := by
  obtain ⟨r, t, g, rfl, h1, h2, h3⟩ := p
  obtain ⟨g', h4, h5, h6⟩ := hh r g h1 h2
  exact ⟨r, t, g', rfl, h4, h5, h6 t _ h3⟩
theorem Apt.open_no (hf : s.full = true) : s.open = s := by unfold HpS.open; rw [hf]; rfl
theorem Apt.open_ (a : Apt s v hs ks) (hf : s.full = false) : Apt s.open s.openV hs ks := by
  have e1 : s.open = ⟨s.l ++ [⟨true, [], 0, 0⟩], s.left⟩ := by unfold HpS.open; rw [hf]; rfl
  have e2 : s.openV = ⟨2, s.l.length, 0, 0⟩ := by unfold HpS.openV; rw [hf]; rfl
  rw [e1, e2]
  refine ⟨⟨s.l.length, ⟨true, [], 0, 0⟩, rfl, by simp, rfl⟩, a.len, fun m h l h1 h2 => (a.put m h l h1 h2).mono fun r g g1 g2 => ?_, a.inj⟩
  have := (List.getElem?_eq_some_iff.1 g1).1
  exact ⟨g, by rw [List.getElem?_append_left this]; exact g1, g2, fun _ _ h => h⟩
theorem Apt.tuple (a : Apt s v hs ks) (l : List Int) : (s.code v (words (l.map ivV)) = 14 ∧ s.tuple v (l.map ivV) = s) ∨
    (s.code v (words (l.map ivV)) = 0 ∧ Apt (s.tuple v (l.map ivV)) v (hs ++ [s.putV v 3 (words (l.map ivV))]) (ks ++ [l])) := by
  obtain ⟨r, g, hv, h1, h2⟩ := a.can
  have er : s.reg v.region = g := by rw [hv]; exact HpS.reg_n h1
  have ec : s.can v = true := by unfold HpS.can HpS.has; rw [er, h2, hv]; rfl
  have hlt := (List.getElem?_eq_some_iff.1 h1).1
  by_cases hc : (s.reg v.region).more (words (l.map ivV)) = true ∧ s.left = 0
  · left
    have e : s.code v (words (l.map ivV)) = 14 := by unfold HpS.code; rw [ec, if_neg (by decide), if_pos hc]
    exact ⟨e, (put_no (by rw [e]; decide) 3 _).1⟩
  · right
    have e : s.code v (words (l.map ivV)) = 0 := by unfold HpS.code; rw [ec, if_neg (by decide), if_neg hc]
    refine ⟨e, ?_⟩
    have e3 : s.putV v 3 (words (l.map ivV)) = ⟨3, r, g.l.length, 0⟩ := by unfold HpS.putV; rw [if_pos e, er, hv]
    obtain ⟨g', left', e4, g1, g2⟩ : ∃ (g' : Rgn) (left' : Int), s.tuple v (l.map ivV) = ⟨s.l.set r g', left'⟩ ∧ g'.there = true ∧ g'.l = g.l ++ [⟨false, l.map ivV⟩] := by
      unfold HpS.tuple HpS.put
      rw [if_pos e, er, hv]
      refine ⟨_, _, rfl, ?_, ?_⟩
      · unfold Rgn.push Rgn.room; split <;> exact h2
      · unfold Rgn.push Rgn.room; split <;> rfl
    rw [e3, e4]
    have keep : ∀ (h : Val) (l' : List Int), Put s h l' → Put ⟨s.l.set r g', left'⟩ h l' := fun h l' p => p.mono fun r1 ga k1 k2 => by
      by_cases hr : r1 = r
      · subst hr
        rw [h1] at k1; cases k1
        refine ⟨g', by simp [hlt], g1, fun t x ht => ?_⟩
        rw [g2, List.getElem?_append_left (List.getElem?_eq_some_iff.1 ht).1]; exact ht
      · exact ⟨ga, by simp only; rw [List.getElem?_set_ne (by omega)]; exact k1, k2, fun _ _ h => h⟩
    have nw : Put ⟨s.l.set r g', left'⟩ ⟨3, r, g.l.length, 0⟩ l := ⟨r, g.l.length, g', rfl, by simp [hlt], g1, by rw [g2]; simp⟩
    have fresh : ∀ m : Nat, hs[m]? ≠ some (⟨3, r, g.l.length, 0⟩ : Val) := fun m hm => by
      have hml := (List.getElem?_eq_some_iff.1 hm).1
      have hl := a.len
      obtain ⟨r1, t1, ga, k0, k1, k2, k3⟩ := a.put m _ _ hm (List.getElem?_eq_getElem (by omega))
      simp only [Val.mk.injEq] at k0
      have : r1 = r := by omega
      subst this
      rw [h1] at k1; cases k1
      have := (List.getElem?_eq_some_iff.1 k3).1
      omega
    refine ⟨⟨r, g', hv, by simp [hlt], g1⟩, by simp [a.len], fun m h l' k1 k2 => ?_, fun m m' h k1 k2 => ?_⟩
    · have hl := a.len
      rcases Nat.lt_or_ge m hs.length with hm | hm
      · rw [List.getElem?_append_left hm] at k1
        rw [List.getElem?_append_left (by omega)] at k2
        exact keep _ _ (a.put m h l' k1 k2)
      · rw [List.getElem?_append_right hm] at k1
        rw [List.getElem?_append_right (by omega)] at k2
        have hm0 : m - hs.length = 0 := by have := (List.getElem?_eq_some_iff.1 k1).1; simp at this; omega
        rw [hm0] at k1
        rw [show m - ks.length = 0 by omega] at k2
        simp only [List.getElem?_cons_zero, Option.some.injEq] at k1 k2
        subst k1 k2
        exact nw
    · rcases Nat.lt_or_ge m hs.length with hm | hm <;> rcases Nat.lt_or_ge m' hs.length with hm' | hm'
      · rw [List.getElem?_append_left hm] at k1
        rw [List.getElem?_append_left hm'] at k2
        exact a.inj m m' h k1 k2
      · rw [List.getElem?_append_left hm] at k1
        rw [List.getElem?_append_right hm'] at k2
        have hm0 : m' - hs.length = 0 := by have := (List.getElem?_eq_some_iff.1 k2).1; simp at this; omega
        rw [hm0] at k2
        simp only [List.getElem?_cons_zero, Option.some.injEq] at k2
        subst k2
        exact absurd k1 (fresh m)
      · rw [List.getElem?_append_left hm'] at k2
        rw [List.getElem?_append_right hm] at k1
        have hm0 : m - hs.length = 0 := by have := (List.getElem?_eq_some_iff.1 k1).1; simp at this; omega
        rw [hm0] at k1
        simp only [List.getElem?_cons_zero, Option.some.injEq] at k1
        subst k1
        exact absurd k2 (fresh m')
      · have q1 := (List.getElem?_eq_some_iff.1 k1).1
        have q2 := (List.getElem?_eq_some_iff.1 k2).1
        simp at q1 q2
        omega
theorem Apt.set (a : Apt s v hs ks) {k c : Nat} (hk : k < ks.length) (hc : c < (ks.getD k []).length) (z : Int) : s.setC (hs.getD k Val.zero) c (ivV z) = 0 ∧ Apt (s.set (hs.getD k Val.zero) c (ivV z)) v hs (ks.set k ((ks.getD k []).set c z)) := by
  have hl := a.len
  have p := a.at_ hk
  obtain ⟨r, t, e0, e1, e2⟩ := p.at_
  have e3 : s.setC (hs.getD k Val.zero) c (ivV z) = 0 := by
    unfold HpS.setC; rw [e1]; simp only; rw [e2, if_neg (by simp), if_pos ⟨by omega, by simp only [List.length_map]; omega⟩]
  refine ⟨e3, ?_⟩
  obtain ⟨r', t', g, k0, k1, k2, k3⟩ := p
  have hrt : r' = r ∧ t' = t := by rw [e0] at k0; simp only [Val.mk.injEq] at k0; omega
  obtain ⟨rfl, rfl⟩ := hrt
  have e4 : s.set (hs.getD k Val.zero) c (ivV z) = ⟨s.l.set r' (g.upd t' ⟨false, (((ks.getD k []).set c z)).map ivV⟩), s.left⟩ := by
    unfold HpS.set; rw [e1]; simp only; rw [if_pos e3, e2, HpS.reg_n k1, List.map_set]; rfl
  have hlt := (List.getElem?_eq_some_iff.1 k1).1
  have htl := (List.getElem?_eq_some_iff.1 k3).1
  rw [e4]
  refine ⟨?_, by simp [a.len], fun m h l h1 h2 => ?_, a.inj⟩
  · obtain ⟨r2, g2, c1, c2, c3⟩ := a.can
    by_cases hr : r2 = r'
    · subst hr
      rw [k1] at c2; cases c2
      exact ⟨r2, g.upd t' ⟨false, (((ks.getD k []).set c z)).map ivV⟩, c1, by simp only; rw [List.getElem?_set_self hlt], c3⟩
    · exact ⟨r2, g2, c1, by simp only; rw [List.getElem?_set_ne (by omega)]; exact c2, c3⟩
  · by_cases hm : m = k
    · subst hm
      rw [List.getElem?_set_self hk] at h2
      simp only [Option.some.injEq] at h2
      subst h2
      have e5 : h = hs.getD m Val.zero := by rw [List.getD_eq_getElem?_getD, h1]; rfl
      rw [e5, e0]
      exact ⟨r', t', g.upd t' ⟨false, (((ks.getD m []).set c z)).map ivV⟩, rfl, by simp only; rw [List.getElem?_set_self hlt], k2, by simp only [Rgn.upd]; rw [List.getElem?_set_self htl]⟩
    · rw [List.getElem?_set_ne (by omega)] at h2
      obtain ⟨r2, t2, g2, d0, d1, d2, d3⟩ := a.put m h l h1 h2
      by_cases hr : r2 = r'
      · subst hr
        rw [k1] at d1; cases d1
        have ht : t' ≠ t2 := fun ht => hm (a.inj m k h h1 (by
          have : hs[k]? = some (hs.getD k Val.zero) := by rw [List.getD_eq_getElem?_getD, List.getElem?_eq_getElem (by omega)]; rfl
          rw [this, e0, d0, ht]))
        exact ⟨r2, t2, g.upd t' ⟨false, (((ks.getD k []).set c z)).map ivV⟩, d0, by simp only; rw [List.getElem?_set_self hlt], d2, by simp only [Rgn.upd]; rw [List.getElem?_set_ne ht]; exact d3⟩
      · exact ⟨r2, t2, g2, d0, by simp only; rw [List.getElem?_set_ne (by omega)]; exact d1, d2, d3⟩
theorem Apt.begin (n : Int) : Apt ⟨[R0], n⟩ vh [] [] := ⟨⟨0, R0, rfl, rfl, rfl⟩, rfl, by simp, by simp⟩
end Go.Proofs.Ytocllfbfogcbgaa
