/- The estate. -/
import Derived.Test.YtocllfbfogcbgaaLc03
import Derived.Test.YtocllfbfogcbgaaPagesSt
import Derived.Test.YtocllfbfogcbgaaTk
namespace Go.Proofs.Ytocllfbfogcbgaa
open Go.Lir
attribute [local irreducible] LC.wp opsWp thenQ blockQ retQ resWp LO.wp callPost Calls
set_option linter.unusedSimpArgs false
set_option linter.unusedVariables false

structure Reg where
  there : Bool
  pages : List Int
  used : Int
def Reg.none : Reg := ⟨false, [], 0⟩
structure EstS where
  p : PoolS
  rs : List Reg
def EstS.reg (s : EstS) (k : Int) : Reg := if 0 ≤ k then s.rs.getD k.toNat Reg.none else Reg.none
def EstS.has (s : EstS) (k : Int) : Bool := (s.reg k).there
def EstS.all (s : EstS) : List Int := s.rs.flatMap Reg.pages
structure EstS.Ok (s : EstS) : Prop where
  len : s.rs.length = 16
  off : ∀ r ∈ s.rs, r.there = false → r = Reg.none
  used : ∀ r ∈ s.rs, 0 ≤ r.used ∧ r.used ≤ 16
  tk : TkOk s.p s.all
  pok : s.p.Ok
  n64 : s.p.n ≤ 64
/-- the lowest number that none has, or 16 -/
def EstS.low (s : EstS) : Nat := s.rs.findIdx fun r => !r.there
def EstS.open (s : EstS) : EstS := if s.low < 16 then ⟨s.p, s.rs.set s.low ⟨true, [], 0⟩⟩ else s
def EstS.openV (s : EstS) : Int := if s.low < 16 then s.low else -1
def EstS.shut (s : EstS) (k : Int) : EstS := if s.has k then ⟨s.p.gives (s.reg k).pages, s.rs.set k.toNat Reg.none⟩ else s
def Reg.more (r : Reg) (n : Int) : Bool := decide (r.pages = [] ∨ 16 < r.used + n)
def Reg.last (r : Reg) : Int := r.pages.getLastD 0
def EstS.code (s : EstS) (k n : Int) : Int := if !s.has k then 15 else if n < 1 ∨ 16 < n then 1 else if (s.reg k).more n ∧ s.p.fr = [] then 14 else 0
def Reg.grow (r : Reg) (p : Int) : Reg := ⟨r.there, r.pages ++ [p], 0⟩
def Reg.use (r : Reg) (n : Int) : Reg := ⟨r.there, r.pages, r.used + n⟩
def EstS.regTo (s : EstS) (k n : Int) : Reg := if (s.reg k).more n then (s.reg k).grow s.p.top else s.reg k
def EstS.get (s : EstS) (k n : Int) : EstS := if s.code k n = 0 then ⟨if (s.reg k).more n then s.p.take else s.p, s.rs.set k.toNat ((s.regTo k n).use n)⟩ else s
def EstS.getV (s : EstS) (k n : Int) : Int := if s.code k n = 0 then (s.regTo k n).last * 16 + (s.regTo k n).used else 0
def EstS.count (s : EstS) : Int := (s.rs.countP fun r => r.there : Nat)
def EstS.mk0 (n : Nat) : EstS := ⟨PoolS.mk0 n, List.replicate 16 Reg.none⟩

/-! ### it stays in order -/
theorem EstS.reg_at {s : EstS} (h : s.Ok) {k : Nat} (hk : k < 16) : s.rs[k]? = some (s.reg k) := by
  have := h.len
  unfold EstS.reg
  rw [if_pos (by omega), show (k : Int).toNat = k by omega]
  exact getD_get (by omega)
theorem EstS.reg_out {s : EstS} (h : s.Ok) {k : Int} (hk : k < 0 ∨ 16 ≤ k) : s.reg k = Reg.none := by
  have := h.len
  unfold EstS.reg
  split
  · rw [List.getD_eq_getElem?_getD, List.getElem?_eq_none (by omega)]; rfl
  · rfl
theorem EstS.has_in {s : EstS} (h : s.Ok) {k : Int} (hk : s.has k = true) : ∃ m : Nat, k = m ∧ m < 16 := by
  by_cases hc : k < 0 ∨ 16 ≤ k
  · unfold EstS.has at hk; rw [EstS.reg_out h hc] at hk; cases hk
  · exact ⟨k.toNat, by omega, by omega⟩
theorem all_perm {s : EstS} {k : Nat} {r : Reg} (hr : s.rs[k]? = some r) : s.all.Perm (r.pages ++ (s.rs.eraseIdx k).flatMap Reg.pages) := by
  have := (get_perm hr).flatMap_right Reg.pages
  rw [List.flatMap_cons] at this; exact this
theorem all_set_perm {rs : List Reg} {k : Nat} {r' : Reg} (hk : k < rs.length) : ((rs.set k r').flatMap Reg.pages).Perm (r'.pages ++ (rs.eraseIdx k).flatMap Reg.pages) := by
  have := (set_perm (x := r') hk).flatMap_right Reg.pages
  simpa [List.flatMap_cons] using this
theorem mem_set_of {α : Type} {l : List α} {k : Nat} {x y : α} (h : y ∈ l.set k x) : y = x ∨ y ∈ l := (List.mem_or_eq_of_mem_set h).symm
theorem EstS.ok_set {s : EstS} (h : s.Ok) {p : PoolS} {k : Nat} (hk : k < 16) {r' : Reg} (h1 : r'.there = false → r' = Reg.none) (h2 : 0 ≤ r'.used ∧ r'.used ≤ 16) (h3 : TkOk p (r'.pages ++ (s.rs.eraseIdx k).flatMap Reg.pages)) (h4 : p.Ok) (h5 : p.n = s.p.n) : (⟨p, s.rs.set k r'⟩ : EstS).Ok := by
  have hl := h.len
  refine ⟨by simpa using hl, fun r hr => ?_, fun r hr => ?_, h3.perm (all_set_perm (by omega)).symm, h4, by rw [h5]; exact h.n64⟩
  · rcases mem_set_of hr with rfl | hr
    · exact h1
    · exact h.off r hr
  · rcases mem_set_of hr with rfl | hr
    · exact h2
    · exact h.used r hr
theorem EstS.tk_at {s : EstS} (h : s.Ok) {k : Nat} (hk : k < 16) : TkOk s.p ((s.reg k).pages ++ (s.rs.eraseIdx k).flatMap Reg.pages) := h.tk.perm (all_perm (EstS.reg_at h hk))
theorem EstS.ok_new {n : Nat} (hn : n ≤ 64) : (EstS.mk0 n).Ok :=
  ⟨by simp [EstS.mk0], fun r hr _ => List.eq_of_mem_replicate hr, fun r hr => by rw [List.eq_of_mem_replicate hr]; simp [Reg.none], by
    have : (EstS.mk0 n).all = [] := by simp [EstS.all, EstS.mk0, Reg.none, List.flatMap_replicate]
    rw [this]; exact TkOk.new, PoolS.ok_new hn, hn⟩

theorem EstS.low_le {s : EstS} (h : s.Ok) : s.low ≤ 16 := by have := List.findIdx_le_length (xs := s.rs) (p := fun r => !r.there); rw [h.len] at this; exact this
theorem EstS.low_eq {s : EstS} (h : s.Ok) {i : Nat} (hi : i < 16) (h1 : (s.reg i).there = false) (h2 : ∀ j, j < i → (s.reg (j : Nat)).there = true) : s.low = i := by
  have hl := h.len
  refine (List.findIdx_eq (by omega)).2 ⟨?_, fun j hj => ?_⟩
  · have := EstS.reg_at h hi
    rw [List.getElem?_eq_getElem (by omega)] at this
    simp only [Option.some.injEq] at this
    rw [this, h1]; rfl
  · have := EstS.reg_at h (show j < 16 by omega)
    rw [List.getElem?_eq_getElem (by omega)] at this
    simp only [Option.some.injEq] at this
    rw [this, h2 j hj]; rfl
theorem EstS.low_full {s : EstS} (h : s.Ok) (h2 : ∀ j, j < 16 → (s.reg (j : Nat)).there = true) : s.low = 16 := by
  have hl := h.len
  rw [← hl]
  refine List.findIdx_eq_length.2 fun r hr => ?_
  obtain ⟨j, hj⟩ := List.mem_iff_getElem?.1 hr
  have hj16 : j < 16 := by have := (List.getElem?_eq_some_iff.1 hj).1; omega
  have := EstS.reg_at h hj16
  rw [hj] at this
  simp only [Option.some.injEq] at this
  rw [this, h2 j hj16]; rfl
theorem EstS.low_off {s : EstS} (h : s.Ok) (hl : s.low < 16) : s.reg s.low = Reg.none := by
  have h1 := EstS.reg_at h hl
  have h2 : s.low < s.rs.length := by rw [h.len]; exact hl
  have h3 := List.findIdx_getElem (xs := s.rs) (p := fun r : Reg => !r.there) (w := h2)
  rw [List.getElem?_eq_getElem h2] at h1
  simp only [Option.some.injEq] at h1
  have h4 : (s.rs[s.low]'h2).there = false := by have h5 : (!(s.rs[s.low]'h2).there) = true := h3; simpa using h5
  rw [← h1]
  exact h.off _ (List.getElem_mem h2) h4
theorem EstS.ok_open {s : EstS} (h : s.Ok) : s.open.Ok := by
  unfold EstS.open
  split
  · rename_i hl
    have := EstS.tk_at h hl
    rw [EstS.low_off h hl] at this
    exact EstS.ok_set h hl (fun hf => by cases hf) ⟨Int.le_refl _, by simp⟩ this h.pok rfl
  · exact h
theorem EstS.ok_shut {s : EstS} (h : s.Ok) (k : Int) : (s.shut k).Ok := by
  unfold EstS.shut
  split
  · rename_i hk
    obtain ⟨m, rfl, hm⟩ := EstS.has_in h hk
    exact EstS.ok_set h (show (m : Int).toNat < 16 by omega) (fun _ => rfl) ⟨Int.le_refl _, by simp [Reg.none]⟩ (by rw [show (m : Int).toNat = m by omega]; exact (EstS.tk_at h hm).gives) (PoolS.ok_gives h.pok) PoolS.n_gives
  · exact h
theorem EstS.code_0 {s : EstS} {k n : Int} (hc : s.code k n = 0) : s.has k = true ∧ 1 ≤ n ∧ n ≤ 16 ∧ ¬ ((s.reg k).more n = true ∧ s.p.fr = []) := by
  unfold EstS.code at hc
  split at hc
  · cases hc
  · rename_i h1
    split at hc
    · cases hc
    · split at hc
      · cases hc
      · rename_i h2 h3
        exact ⟨by simpa using h1, by omega, by omega, h3⟩
theorem EstS.regTo_len {s : EstS} (h : s.Ok) {k : Nat} (hk : k < 16) : (s.reg k).pages.length ≤ 64 := by
  have := (EstS.tk_at h hk).len h.pok
  rw [List.length_append] at this
  have := h.n64
  omega
theorem Reg.more_f {r : Reg} {n : Int} (h : ¬ r.more n = true) : r.pages ≠ [] ∧ r.used + n ≤ 16 := by
  unfold Reg.more at h
  rw [decide_eq_true_iff] at h
  exact ⟨fun e => h (.inl e), by omega⟩
theorem EstS.ok_get {s : EstS} (h : s.Ok) (k n : Int) : (s.get k n).Ok := by
  unfold EstS.get
  split
  · rename_i hc
    obtain ⟨h1, h2, h3, h4⟩ := EstS.code_0 hc
    obtain ⟨m, rfl, hm⟩ := EstS.has_in h h1
    rw [show (m : Int).toNat = m by omega]
    have hth : (s.reg m).there = true := h1
    have hu := h.used _ (List.mem_of_getElem? (EstS.reg_at h hm))
    unfold EstS.regTo
    by_cases hmo : (s.reg m).more n = true
    · rw [if_pos hmo, if_pos hmo]
      rcases PoolS.split h.pok with ⟨e, _⟩ | ⟨kk, fr, e1, e2, e3⟩
      · exact absurd ⟨hmo, e⟩ h4
      · obtain ⟨_, _, h5⟩ := (EstS.tk_at h hm).take h.pok e1 e2 e3
        refine EstS.ok_set h hm (fun hf => by simp [Reg.use, Reg.grow, hth] at hf) ⟨by simp [Reg.use, Reg.grow]; omega, by simp [Reg.use, Reg.grow]; omega⟩ ?_ (PoolS.ok_take h.pok) PoolS.n_take
        simp only [Reg.use, Reg.grow]
        refine h5.perm ?_
        rw [List.append_assoc, List.append_assoc]
        exact (List.perm_append_comm).append_left _
    · rw [if_neg hmo, if_neg hmo]
      obtain ⟨_, h6⟩ := Reg.more_f hmo
      exact EstS.ok_set h hm (fun hf => by simp [Reg.use, hth] at hf) ⟨by simp [Reg.use]; omega, by simp [Reg.use]; omega⟩ (EstS.tk_at h hm) h.pok rfl
  · exact h

/-! ### how it lies in memory -/
structure RegV where
  there : Bool
  pv : Value
  pages : List Int
  used : Int
def RegV.reg (r : RegV) : Reg := ⟨r.there, r.pages, r.used⟩
def RegV.cells (r : RegV) : List Value := [.bool r.there, r.pv, .int .i64 r.used]
def RegV.res (r : RegV) : Res := sl 3 1 r.pv (r.pages.map icell)
def RegV.nil : RegV := ⟨false, .slice none 0 0, [], 0⟩
def flatC (rv : List RegV) : List Value := (rv.map RegV.cells).flatten
theorem flatC_len (rv : List RegV) : (flatC rv).length = rv.length * 3 := by
  have := flatten_len (es := 3) (css := rv.map RegV.cells) (by intro c hc; obtain ⟨r, _, rfl⟩ := List.mem_map.1 hc; rfl)
  rw [List.length_map] at this; exact this
theorem e_get {rv : List RegV} {pp u : Value} {m j : Nat} {r : RegV} (hr : rv[m]? = some r) (hu : r.cells[j]? = some u) : (pp :: flatC rv)[1 + m * 3 + j]? = some u := by
  have hj : j < 3 := (List.getElem?_eq_some_iff.1 hu).1
  have := flatten_get (es := 3) (css := rv.map RegV.cells) (by intro c hc; obtain ⟨r, _, rfl⟩ := List.mem_map.1 hc; rfl) (m := m) (j := j) (c := r.cells) (by rw [List.getElem?_map, hr]; rfl) hj
  rw [show 1 + m * 3 + j = (m * 3 + j) + 1 by omega, List.getElem?_cons_succ]
  exact this.trans hu
theorem e_set {rv : List RegV} {pp u : Value} {m j : Nat} {r r' : RegV} (hr : rv[m]? = some r) (hj : j < 3) (hu : r.cells.set j u = r'.cells) : (pp :: flatC rv).set (1 + m * 3 + j) u = pp :: flatC (rv.set m r') := by
  have := flatten_set (es := 3) (css := rv.map RegV.cells) (by intro c hc; obtain ⟨r, _, rfl⟩ := List.mem_map.1 hc; rfl) (m := m) (j := j) (c := r.cells) (u := u) (by rw [List.getElem?_map, hr]; rfl) hj
  rw [show 1 + m * 3 + j = (m * 3 + j) + 1 by omega, List.set_cons_succ]
  unfold flatC
  rw [List.map_set, ← hu, this]
theorem e_set0 {rv : List RegV} {pp u : Value} {m : Nat} {r r' : RegV} (hr : rv[m]? = some r) (hu : r.cells.set 0 u = r'.cells) : (pp :: flatC rv).set (1 + m * 3) u = pp :: flatC (rv.set m r') := e_set (j := 0) hr (by omega) hu
theorem e_setn {rv : List RegV} {pp : Value} {m : Nat} {r' : RegV} (hm : m < rv.length) : (pp :: flatC rv).take (1 + m * 3) ++ (r'.cells ++ (pp :: flatC rv).drop (1 + m * 3 + 3)) = pp :: flatC (rv.set m r') := by
  have hl : ∀ l : List RegV, (∀ c ∈ l.map RegV.cells, c.length = 3) := by intro l c hc; obtain ⟨r, _, rfl⟩ := List.mem_map.1 hc; rfl
  rw [show 1 + m * 3 = m * 3 + 1 by omega, show m * 3 + 1 + 3 = (m + 1) * 3 + 1 by omega, List.take_succ_cons, List.drop_succ_cons, List.cons_append]
  congr 1
  have e : rv = rv.take m ++ (rv[m]'hm :: rv.drop (m + 1)) := by rw [← List.drop_eq_getElem_cons hm, List.take_append_drop]
  have e2 : rv.set m r' = rv.take m ++ (r' :: rv.drop (m + 1)) := by rw [List.set_eq_take_append_cons_drop, if_pos hm]
  have f1 : flatC rv = flatC (rv.take m) ++ ((rv[m]'hm).cells ++ flatC (rv.drop (m + 1))) := by
    refine (congrArg flatC e).trans ?_
    simp only [flatC, List.map_append, List.map_cons, List.flatten_append, List.flatten_cons]
  have l1 : (flatC (rv.take m)).length = m * 3 := by rw [flatC_len, List.length_take]; omega
  rw [e2, f1]
  have t1 : (flatC (rv.take m) ++ ((rv[m]'hm).cells ++ flatC (rv.drop (m + 1)))).take (m * 3) = flatC (rv.take m) := by rw [← l1, List.take_left']; rfl
  have t2 : (flatC (rv.take m) ++ ((rv[m]'hm).cells ++ flatC (rv.drop (m + 1)))).drop ((m + 1) * 3) = flatC (rv.drop (m + 1)) := by
    rw [← List.append_assoc, List.drop_left']; rw [List.length_append, l1]; show m * 3 + 3 = _; omega
  rw [t1, t2]
  simp [flatC]

structure EstO (e : Value) (s : EstS) (b : Nat) (rv : List RegV) : Prop where
  he : e = .pointer (some ⟨b, 0, none⟩)
  hr : rv.map RegV.reg = s.rs
  ok : s.Ok
def estX (e : Value) (s : EstS) : Res := Res.ex fun x : Nat × Value × List RegV => Res.pure (EstO e s x.1 x.2.2) (starL [blk x.1 82 (x.2.1 :: flatC x.2.2), poolX x.2.1 s.p, big RegV.res x.2.2])
def landsX (e : Value) (s : EstS) : Res := Res.ex fun x : Nat × Value × Value × List RegV => Res.pure (EstO e s x.1 x.2.2.2) (starL [blk x.1 126 [x.2.1, x.2.2.1], sl 128 3 x.2.2.1 (x.2.2.2.map RegV.cells), pagesX x.2.1 s.p, big RegV.res x.2.2.2])
variable {cx : Cx} {w : World} {L : List Res} {i : Nat} {e : Value} {s : EstS}
theorem est_open (hS : St cx w (estX e s :: L)) : ∃ b pp rv, EstO e s b rv ∧ St cx w (blk b 82 (pp :: flatC rv) :: poolX pp s.p :: big RegV.res rv :: L) := by
  obtain ⟨⟨b, pp, rv⟩, h⟩ := hS.ex
  obtain ⟨h1, h2⟩ := h.pure
  exact ⟨b, pp, rv, h1, h2.list⟩
theorem est_close {b : Nat} {pp : Value} {rv : List RegV} (h : EstO e s b rv) (hS : St cx w (blk b 82 (pp :: flatC rv) :: poolX pp s.p :: big RegV.res rv :: L)) : St cx w (estX e s :: L) :=
  St.ex' (b, pp, rv) (St.pure' h (St.list' hS))
theorem lands_open (hS : St cx w (landsX e s :: L)) : ∃ b pp vL rv, EstO e s b rv ∧ St cx w (blk b 126 [pp, vL] :: sl 128 3 vL (rv.map RegV.cells) :: pagesX pp s.p :: big RegV.res rv :: L) := by
  obtain ⟨⟨b, pp, vL, rv⟩, h⟩ := hS.ex
  obtain ⟨h1, h2⟩ := h.pure
  exact ⟨b, pp, vL, rv, h1, h2.list⟩
theorem lands_close {b : Nat} {pp vL : Value} {rv : List RegV} (h : EstO e s b rv) (hS : St cx w (blk b 126 [pp, vL] :: sl 128 3 vL (rv.map RegV.cells) :: pagesX pp s.p :: big RegV.res rv :: L)) : St cx w (landsX e s :: L) :=
  St.ex' (b, pp, vL, rv) (St.pure' h (St.list' hS))
theorem EstO.len {b : Nat} {rv : List RegV} (h : EstO e s b rv) : rv.length = 16 := by have := congrArg List.length h.hr; rw [List.length_map, h.ok.len] at this; exact this
theorem EstO.at_ {b : Nat} {rv : List RegV} (h : EstO e s b rv) {k : Nat} (hk : k < 16) : ∃ r, rv[k]? = some r ∧ s.reg k = r.reg := by
  have hl := h.len
  refine ⟨rv[k]'(by omega), List.getElem?_eq_getElem (by omega), ?_⟩
  have := EstS.reg_at h.ok hk
  rw [← h.hr, List.getElem?_map, List.getElem?_eq_getElem (by omega)] at this
  simpa using this.symm
/-- The region k is another one now. -/
theorem EstO.set {b : Nat} {rv : List RegV} (h : EstO e s b rv) {s' : EstS} {k : Nat} {r' : RegV} (hs : s'.rs = s.rs.set k r'.reg) (ok : s'.Ok) : EstO e s' b (rv.set k r') := ⟨h.he, by rw [List.map_set, h.hr, hs], ok⟩
theorem est_facts (hS : St cx w L) (hi : nth L i = some (estX e s)) : s.Ok ∧ ∃ b, e = .pointer (some ⟨b, 0, none⟩) := by
  obtain ⟨b, pp, rv, ho, _⟩ := est_open (hS.out hi); exact ⟨ho.ok, b, ho.he⟩
theorem lands_facts (hS : St cx w L) (hi : nth L i = some (landsX e s)) : s.Ok ∧ ∃ b, e = .pointer (some ⟨b, 0, none⟩) := by
  obtain ⟨b, pp, vL, rv, ho, _⟩ := lands_open (hS.out hi); exact ⟨ho.ok, b, ho.he⟩
theorem est_at (hS : St cx w L) {b : Nat} (hi : nth L i = some (estX (.pointer (some ⟨b, 0, none⟩)) s)) : ∃ pp rv, EstO (.pointer (some ⟨b, 0, none⟩)) s b rv ∧ St cx w (blk b 82 (pp :: flatC rv) :: poolX pp s.p :: big RegV.res rv :: L.eraseIdx i) := by
  obtain ⟨b', pp, rv, ho, h⟩ := est_open (hS.out hi)
  have he := ho.he
  cases he
  exact ⟨pp, rv, ho, h⟩
theorem lands_at (hS : St cx w L) {b : Nat} (hi : nth L i = some (landsX (.pointer (some ⟨b, 0, none⟩)) s)) : ∃ pp vL rv, EstO (.pointer (some ⟨b, 0, none⟩)) s b rv ∧ St cx w (blk b 126 [pp, vL] :: sl 128 3 vL (rv.map RegV.cells) :: pagesX pp s.p :: big RegV.res rv :: L.eraseIdx i) := by
  obtain ⟨b', pp, vL, rv, ho, h⟩ := lands_open (hS.out hi)
  have he := ho.he
  cases he
  exact ⟨pp, vL, rv, ho, h⟩
theorem EstS.pages_rng {s : EstS} (h : s.Ok) {k : Nat} (hk : k < 16) : ∀ x ∈ (s.reg k).pages, 0 ≤ x ∧ x < 64 := by
  intro x hx
  have := can_iff.1 (((EstS.tk_at h hk).2 x).1 (List.mem_append_left _ hx))
  have := h.n64
  omega
theorem getLast_getD {l : List Int} (h : l ≠ []) : l.getD (((l.length : Nat) : Int) - 1).toNat 0 = l.getLastD 0 := by
  rcases List.eq_nil_or_concat l with rfl | ⟨l', x, rfl⟩
  · exact absurd rfl h
  · rw [List.concat_eq_append]
    have e2 : (l' ++ [x]).getLastD 0 = x := by simp
    rw [e2, List.length_append, List.length_singleton, show (((l'.length + 1 : Nat) : Int) - 1).toNat = l'.length by omega, List.getD_eq_getElem?_getD, List.getElem?_append_right (Nat.le_refl _)]
    simp
theorem EstS.used_rng {s : EstS} (h : s.Ok) {k : Nat} (hk : k < 16) : 0 ≤ (s.reg k).used ∧ (s.reg k).used ≤ 16 := h.used _ (List.mem_of_getElem? (EstS.reg_at h hk))
end Go.Proofs.Ytocllfbfogcbgaa
