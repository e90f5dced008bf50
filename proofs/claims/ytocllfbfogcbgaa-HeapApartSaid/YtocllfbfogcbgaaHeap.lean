/- The heap: what it holds, and how it lies in memory. -/
import Derived.Test.YtocllfbfogcbgaaLc13
import Derived.Test.YtocllfbfogcbgaaEls
import Derived.Test.YtocllfbfogcbgaaLirSt
namespace Go.Proofs.Ytocllfbfogcbgaa
open Go.Lir
attribute [local irreducible] LC.wp opsWp thenQ blockQ retQ resWp LO.wp callPost Calls
set_option linter.unusedSimpArgs false
set_option linter.unusedVariables false

structure Val where
  kind : Int
  region : Int
  thing : Int
  n : Int
deriving DecidableEq
def Val.cells (v : Val) : List Value := [.int .i64 v.kind, .int .i64 v.region, .int .i64 v.thing, .int .i64 v.n]
def Val.v (v : Val) : Value := .agg ⟨v.cells⟩
def Val.zero : Val := ⟨0, 0, 0, 0⟩
structure Thg where
  array : Bool
  l : List Val
structure Rgn where
  there : Bool
  l : List Thg
  pages : Int
  used : Int
def Rgn.none : Rgn := ⟨false, [], 0, 0⟩
structure HpS where
  l : List Rgn
  left : Int
def HpS.reg (s : HpS) (k : Int) : Rgn := if 0 ≤ k then s.l.getD k.toNat Rgn.none else Rgn.none
def HpS.has (s : HpS) (k : Int) : Bool := (s.reg k).there
def HpS.live (s : HpS) : Nat := s.l.countP fun r => r.there
def HpS.full (s : HpS) : Bool := decide (s.live = 16)
def HpS.open (s : HpS) : HpS := if s.full then s else ⟨s.l ++ [⟨true, [], 0, 0⟩], s.left⟩
def HpS.openV (s : HpS) : Val := if s.full then Val.zero else ⟨2, s.l.length, 0, 0⟩
def HpS.can (s : HpS) (v : Val) : Bool := decide (v.kind = 2) && s.has v.region
def HpS.shut (s : HpS) (v : Val) : HpS := if s.can v then ⟨s.l.set v.region.toNat Rgn.none, s.left + (s.reg v.region).pages⟩ else s
def Rgn.more (r : Rgn) (n : Int) : Bool := decide (r.pages = 0 ∨ 16 < r.used + n)
def Rgn.room (r : Rgn) (n : Int) : Rgn := if r.more n then ⟨r.there, r.l, r.pages + 1, n⟩ else ⟨r.there, r.l, r.pages, r.used + n⟩
def Rgn.push (r : Rgn) (t : Thg) : Rgn := ⟨r.there, r.l ++ [t], r.pages, r.used⟩
def HpS.code (s : HpS) (v : Val) (n : Int) : Int := if !s.can v then 20 else if (s.reg v.region).more n ∧ s.left = 0 then 14 else 0
def HpS.put (s : HpS) (v : Val) (n : Int) (t : Thg) : HpS := if s.code v n = 0 then ⟨s.l.set v.region.toNat (((s.reg v.region).room n).push t), if (s.reg v.region).more n then s.left - 1 else s.left⟩ else s
def HpS.putV (s : HpS) (v : Val) (kind n : Int) : Val := if s.code v n = 0 then ⟨kind, v.region, (s.reg v.region).l.length, 0⟩ else Val.zero
def HpS.thg (s : HpS) (k t : Nat) : Thg := (s.reg k).l.getD t ⟨false, []⟩
def HpS.at_ (s : HpS) (v : Val) : Option (Nat × Nat) :=
  if (v.kind = 3 ∨ v.kind = 4) ∧ s.has v.region = true ∧ 0 ≤ v.thing ∧ v.thing < (s.reg v.region).l.length ∧ (s.thg v.region.toNat v.thing.toNat).array = decide (v.kind = 4) then some (v.region.toNat, v.thing.toNat) else none
def HpS.get (s : HpS) (v : Val) (k : Int) : Val × Int := match s.at_ v with
  | none => (Val.zero, 20)
  | some (r, t) => if 0 ≤ k ∧ k < (s.thg r t).l.length then ((s.thg r t).l.getD k.toNat Val.zero, 0) else (Val.zero, 1)
def HpS.setC (s : HpS) (v : Val) (k : Int) (x : Val) : Int := match s.at_ v with
  | none => 20
  | some (r, t) => if (s.thg r t).array = true ∧ x.kind ≠ 1 then 20 else if 0 ≤ k ∧ k < (s.thg r t).l.length then 0 else 1
def Rgn.upd (r : Rgn) (t : Nat) (x : Thg) : Rgn := ⟨r.there, r.l.set t x, r.pages, r.used⟩
def Thg.upd (t : Thg) (k : Nat) (x : Val) : Thg := ⟨t.array, t.l.set k x⟩
def HpS.set (s : HpS) (v : Val) (k : Int) (x : Val) : HpS := match s.at_ v with
  | none => s
  | some (r, t) => if s.setC v k x = 0 then ⟨s.l.set r ((s.reg r).upd t ((s.thg r t).upd k.toNat x)), s.left⟩ else s
def HpS.len (s : HpS) (v : Val) : Int × Int := match s.at_ v with
  | none => (0, 20)
  | some (r, t) => ((s.thg r t).l.length, 0)
def words (l : List Val) : Int := if l.length = 0 then 1 else l.length
def HpS.tuple (s : HpS) (v : Val) (l : List Val) : HpS := s.put v (words l) ⟨false, l⟩
def noughts (n : Int) : List Val := List.replicate n.toNat ⟨1, 0, 0, 0⟩
def HpS.arrC (s : HpS) (v : Val) (n : Int) : Int := if n < 0 ∨ 15 < n then 1 else s.code v (n + 1)
def HpS.arr (s : HpS) (v : Val) (n : Int) : HpS := if n < 0 ∨ 15 < n then s else s.put v (n + 1) ⟨true, noughts n⟩
def HpS.arrV (s : HpS) (v : Val) (n : Int) : Val := if n < 0 ∨ 15 < n then Val.zero else s.putV v 4 (n + 1)

/-- Nothing of it is greater than N. -/
structure HpS.Ok (N : Nat) (s : HpS) : Prop where
  len : s.l.length ≤ N
  each : ∀ r ∈ s.l, r.l.length ≤ N ∧ (∀ t ∈ r.l, t.l.length ≤ 1000) ∧ 0 ≤ r.pages ∧ 0 ≤ r.used ∧ r.used ≤ 1000 ∧ (r.there = false → r = Rgn.none)
  left : 0 ≤ s.left
  sum : s.left + (s.l.map Rgn.pages).sum ≤ 1000
  live : s.live ≤ 16

/-! ### in memory -/
structure HT where
  Tv : TypeId
  Tt : TypeId
  Tr : TypeId
  Th : TypeId
structure ThgV where
  array : Bool
  lv : Value
  l : List Val
def ThgV.abs (t : ThgV) : Thg := ⟨t.array, t.l⟩
def ThgV.cells (t : ThgV) : List Value := [.bool t.array, t.lv]
def ThgV.res (H : HT) (t : ThgV) : Res := sl H.Tv 4 t.lv (t.l.map Val.cells)
structure RgnV where
  there : Bool
  lv : Value
  l : List ThgV
  pages : Int
  used : Int
def RgnV.abs (r : RgnV) : Rgn := ⟨r.there, r.l.map ThgV.abs, r.pages, r.used⟩
def RgnV.cells (r : RgnV) : List Value := [.bool r.there, r.lv, .int .i64 r.pages, .int .i64 r.used]
def RgnV.res (H : HT) (r : RgnV) : Res := star (sl H.Tt 2 r.lv (r.l.map ThgV.cells)) (big (ThgV.res H) r.l)
def RgnV.nil : RgnV := ⟨false, .slice none 0 0, [], 0, 0⟩
structure HpO (N : Nat) (s : HpS) (rv : List RgnV) : Prop where
  hr : rv.map RgnV.abs = s.l
  ok : s.Ok N
section
variable {cx : Cx} {w : World} {L : List Res} {H : HT}
theorem rgn_out {x y : Res} {rv : List RgnV} {k : Nat} {r : RgnV} (hS : St cx w (x :: y :: big (RgnV.res H) rv :: L)) (hr : rv[k]? = some r) : St cx w (sl H.Tt 2 r.lv (r.l.map ThgV.cells) :: big (ThgV.res H) r.l :: x :: y :: big (RgnV.res H) (rv.eraseIdx k) :: L) :=
  St.star (hS.bigOut nth2 hr)
theorem rgn_in {x y : Res} {rv : List RgnV} {k : Nat} {r : RgnV} (hk : k < rv.length) (hS : St cx w (sl H.Tt 2 r.lv (r.l.map ThgV.cells) :: big (ThgV.res H) r.l :: x :: y :: big (RgnV.res H) (rv.eraseIdx k) :: L)) : St cx w (x :: y :: big (RgnV.res H) (rv.set k r) :: L) :=
  St.bigIn (f := RgnV.res H) (x' := r) hS.star' nth2 hk
theorem thg_out {x : Res} {l : List ThgV} {k : Nat} {t : ThgV} (hS : St cx w (x :: big (ThgV.res H) l :: L)) (ht : l[k]? = some t) : St cx w (sl H.Tv 4 t.lv (t.l.map Val.cells) :: x :: big (ThgV.res H) (l.eraseIdx k) :: L) := hS.bigOut nth1 ht
theorem thg_in {x : Res} {l : List ThgV} {k : Nat} {t : ThgV} (hk : k < l.length) (hS : St cx w (sl H.Tv 4 t.lv (t.l.map Val.cells) :: x :: big (ThgV.res H) (l.eraseIdx k) :: L)) : St cx w (x :: big (ThgV.res H) (l.set k t) :: L) := St.bigIn (f := ThgV.res H) (x' := t) hS nth1 hk
/-- One more at the end. -/
theorem St.big_push {α : Type} {f : α → Res} {l : List α} {x : α} (h : St cx w (f x :: big f l :: L)) : St cx w (big f (l ++ [x]) :: L) := by
  have h1 : St cx w (l.map f ++ (f x :: L)) := h.mv1.list
  have h2 : St cx w ((l ++ [x]).map f ++ L) := by simpa using h1
  exact h2.list'
theorem St.big_nil {α : Type} (f : α → Res) (h : St cx w L) : St cx w (big f [] :: L) := h.emp (r := Go.Lir.emp) fun _ h => h
theorem St.rot1 {a b c d : Res} (h : St cx w (a :: b :: c :: d :: L)) : St cx w (b :: c :: d :: a :: L) := St.mv3 (St.mv3 (St.mv3 h))
theorem St.rot2 {a e b c d : Res} (h : St cx w (a :: e :: b :: c :: d :: L)) : St cx w (b :: c :: d :: a :: e :: L) := St.mv4 (St.mv4 (St.mv4 h))
theorem St.rot3 {a e f b c d : Res} (h : St cx w (a :: e :: f :: b :: c :: d :: L)) : St cx w (b :: c :: d :: a :: e :: f :: L) := St.mv5 (St.mv5 (St.mv5 h))
theorem big_same {α : Type} {f : α → Res} {l : List α} {k : Nat} {x y : α} (h : l[k]? = some x) (he : f y = f x) : big f (l.set k y) = big f l := by
  unfold big; rw [List.map_set, he, set_same (by rw [List.getElem?_map, h]; rfl)]
theorem rcget {rv : List RgnV} {m : Nat} {r : RgnV} (h : rv[m]? = some r) : (rv.map RgnV.cells)[m]? = some r.cells := by rw [List.getElem?_map, h]; rfl
theorem rcset {rv : List RgnV} {m : Nat} {r' : RgnV} : (rv.map RgnV.cells).set m r'.cells = (rv.set m r').map RgnV.cells := List.map_set.symm
theorem rcsetj {rv : List RgnV} {m j : Nat} {r r' : RgnV} {u : Value} (h : r.cells.set j u = r'.cells) : (rv.map RgnV.cells).set m (r.cells.set j u) = (rv.set m r').map RgnV.cells := by rw [h]; exact rcset
theorem tcget {tv : List ThgV} {m : Nat} {t : ThgV} (h : tv[m]? = some t) : (tv.map ThgV.cells)[m]? = some t.cells := by rw [List.getElem?_map, h]; rfl
theorem vcget {l : List Val} {m : Nat} (h : m < l.length) : (l.map Val.cells)[m]? = some (l.getD m Val.zero).cells := map_get Val.cells l Val.zero h
theorem rset_get {rv : List RgnV} {m : Nat} {r : RgnV} (h : m < rv.length) : (rv.set m r)[m]? = some r := by simp [h]
/-! what the state says of what lies there -/
theorem HpO.len {N : Nat} {s : HpS} {rv : List RgnV} (h : HpO N s rv) : rv.length = s.l.length := by rw [← h.hr, List.length_map]
theorem HpO.at_ {N : Nat} {s : HpS} {rv : List RgnV} (h : HpO N s rv) {k : Nat} (hk : k < rv.length) : ∃ r, rv[k]? = some r ∧ s.reg k = r.abs ∧ s.l[k]? = some r.abs := by
  refine ⟨rv[k], List.getElem?_eq_getElem hk, ?_, ?_⟩
  · unfold HpS.reg
    rw [if_pos (by omega), Int.toNat_natCast, ← h.hr, List.getD_eq_getElem?_getD, List.getElem?_map, List.getElem?_eq_getElem hk]; rfl
  · rw [← h.hr, List.getElem?_map, List.getElem?_eq_getElem hk]; rfl
theorem HpO.out {N : Nat} {s : HpS} {rv : List RgnV} (h : HpO N s rv) {k : Int} (hk : k < 0 ∨ (rv.length : Int) ≤ k) : s.has k = false := by
  have hl := h.len
  unfold HpS.has HpS.reg
  split
  · rw [List.getD_eq_getElem?_getD, List.getElem?_eq_none (by omega)]; rfl
  · rfl
theorem HpO.has_in {N : Nat} {s : HpS} {rv : List RgnV} (h : HpO N s rv) {k : Int} (hk : s.has k = true) : ∃ m : Nat, k = m ∧ m < rv.length := by
  by_cases hc : k < 0 ∨ (rv.length : Int) ≤ k
  · rw [h.out hc] at hk; cases hk
  · exact ⟨k.toNat, by omega, by omega⟩
theorem HpO.rng {N : Nat} {s : HpS} {rv : List RgnV} (h : HpO N s rv) {k : Nat} {r : RgnV} (hr : rv[k]? = some r) : r.l.length ≤ N ∧ (∀ t ∈ r.l, t.l.length ≤ 1000) ∧ 0 ≤ r.pages ∧ 0 ≤ r.used ∧ r.used ≤ 1000 ∧ (r.there = false → r.l.length = 0 ∧ r.pages = 0) := by
  have hm : r.abs ∈ s.l := by rw [← h.hr]; exact List.mem_map.2 ⟨r, List.mem_of_getElem? hr, rfl⟩
  obtain ⟨h1, h2, h3, h4, h5, h6⟩ := h.ok.each _ hm
  refine ⟨by simpa [RgnV.abs] using h1, fun t ht => h2 t.abs (List.mem_map.2 ⟨t, ht, rfl⟩), h3, h4, h5, fun hf => ?_⟩
  have := h6 hf
  simp only [RgnV.abs, Rgn.none, Rgn.mk.injEq, List.map_eq_nil_iff] at this
  exact ⟨by rw [this.2.1]; rfl, this.2.2.1⟩
theorem sum_perm {l l' : List Int} (h : l.Perm l') : l.sum = l'.sum := by
  induction h with
  | nil => rfl
  | cons x _ ih => rw [List.sum_cons, List.sum_cons, ih]
  | swap x y l => simp only [List.sum_cons]; omega
  | trans _ _ h1 h2 => rw [h1, h2]
theorem sum_nonneg {l : List Int} (h : ∀ x ∈ l, 0 ≤ x) : 0 ≤ l.sum := by
  induction l with
  | nil => simp
  | cons x l ih => rw [List.sum_cons]; have := h x (by simp); have := ih fun y hy => h y (by simp [hy]); omega
theorem get_perm' {α : Type} : ∀ {l : List α} {k : Nat} {x : α}, l[k]? = some x → l.Perm (x :: l.eraseIdx k)
  | [], _, _, h => by simp at h
  | y :: l, 0, x, h => by simp at h; subst h; exact .refl _
  | y :: l, k + 1, x, h => ((get_perm' (l := l) (by simpa using h)).cons y).trans (.swap _ _ _)
theorem set_perm' {α : Type} : ∀ {l : List α} {k : Nat} {x : α}, k < l.length → (l.set k x).Perm (x :: l.eraseIdx k)
  | [], _, _, h => by simp at h
  | y :: l, 0, x, h => .refl _
  | y :: l, k + 1, x, h => ((set_perm' (l := l) (by simpa using h)).cons y).trans (.swap _ _ _)
theorem sum_set {l : List Rgn} {k : Nat} {r r' : Rgn} (hr : l[k]? = some r) : ((l.set k r').map Rgn.pages).sum + r.pages = (l.map Rgn.pages).sum + r'.pages := by
  have h1 := sum_perm ((get_perm' hr).map Rgn.pages)
  have h2 := sum_perm ((set_perm' (x := r') (List.getElem?_eq_some_iff.1 hr).1).map Rgn.pages)
  rw [List.map_cons, List.sum_cons] at h1 h2
  rw [h1, h2]; omega
theorem live_set {l : List Rgn} {k : Nat} {r r' : Rgn} (hr : l[k]? = some r) : ((l.set k r').countP fun r => r.there) + (if r.there then 1 else 0) = (l.countP fun r => r.there) + if r'.there then 1 else 0 := by
  have h1 := (get_perm' hr).countP_eq fun r : Rgn => r.there
  have h2 := (set_perm' (x := r') (List.getElem?_eq_some_iff.1 hr).1).countP_eq fun r : Rgn => r.there
  rw [List.countP_cons] at h1 h2
  rw [h1, h2]; omega
theorem HpS.Ok.pages {N : Nat} {s : HpS} (h : s.Ok N) : s.left ≤ 1000 ∧ ∀ r ∈ s.l, r.pages + s.left ≤ 1000 := by
  have h1 := h.sum
  have h2 := sum_nonneg (l := s.l.map Rgn.pages) (by intro x hx; obtain ⟨r, hr, rfl⟩ := List.mem_map.1 hx; exact (h.each r hr).2.2.1)
  have h3 := h.left
  refine ⟨by omega, fun r hr => ?_⟩
  obtain ⟨k, hk⟩ := List.mem_iff_getElem?.1 hr
  have h4 := sum_perm ((get_perm' hk).map Rgn.pages)
  rw [List.map_cons, List.sum_cons] at h4
  have h5 := sum_nonneg (l := (s.l.eraseIdx k).map Rgn.pages) (by intro x hx; obtain ⟨r, hr, rfl⟩ := List.mem_map.1 hx; exact (h.each r (List.mem_of_mem_eraseIdx hr)).2.2.1)
  omega
theorem mem_set_or {α : Type} {l : List α} {k : Nat} {x y : α} (h : y ∈ l.set k x) : y = x ∨ y ∈ l := (List.mem_or_eq_of_mem_set h).symm
theorem HpS.Ok.mono {N M : Nat} {s : HpS} (h : s.Ok N) (hm : N ≤ M) : s.Ok M := ⟨by have := h.len; omega, fun r hr => by obtain ⟨h1, h2⟩ := h.each r hr; exact ⟨by omega, h2⟩, h.left, h.sum, h.live⟩
theorem HpS.ok_set {N M : Nat} {s : HpS} (h : s.Ok N) {k : Nat} {r r' : Rgn} (hr : s.l[k]? = some r) {left : Int} (hM : N ≤ M) (h0 : 0 ≤ left) (hs : left + r'.pages = s.left + r.pages) (hl : s.live + (if r'.there then 1 else 0) ≤ 16 + if r.there then 1 else 0)
    (he : r'.l.length ≤ M ∧ (∀ t ∈ r'.l, t.l.length ≤ 1000) ∧ 0 ≤ r'.pages ∧ 0 ≤ r'.used ∧ r'.used ≤ 1000 ∧ (r'.there = false → r' = Rgn.none)) : (⟨s.l.set k r', left⟩ : HpS).Ok M := by
  have h1 := sum_set (r' := r') hr
  have h2 := live_set (r' := r') hr
  have h3 := h.sum
  have h4 := h.len
  refine ⟨by rw [List.length_set]; omega, fun x hx => ?_, h0, by show left + ((s.l.set k r').map Rgn.pages).sum ≤ 1000; omega, ?_⟩
  · rcases mem_set_or hx with rfl | hx
    · exact he
    · obtain ⟨g1, g2⟩ := h.each x hx; exact ⟨by omega, g2⟩
  · show (s.l.set k r').countP (fun r => r.there) ≤ 16
    have : s.live = s.l.countP fun r => r.there := rfl
    omega
theorem HpS.reg_get {s : HpS} {k : Nat} {r : Rgn} (h : s.l[k]? = some r) : s.reg k = r := by
  unfold HpS.reg; rw [if_pos (by omega), Int.toNat_natCast, List.getD_eq_getElem?_getD, h]; rfl
theorem HpS.ok_put {N : Nat} {s : HpS} (h : s.Ok N) {v : Val} {n : Int} (hn : 1 ≤ n ∧ n ≤ 1000) {t : Thg} (ht : t.l.length ≤ 1000) : (s.put v n t).Ok (N + 1) := by
  unfold HpS.put
  split
  · rename_i hc
    have hcan : s.can v = true := by
      unfold HpS.code at hc
      cases hx : s.can v with
      | true => rfl
      | false => rw [hx] at hc; cases hc
    unfold HpS.can at hcan
    rw [Bool.and_eq_true] at hcan
    have hh := hcan.2
    unfold HpS.has HpS.reg at hh
    split at hh
    · rename_i h0
      rw [List.getD_eq_getElem?_getD] at hh
      cases hk : s.l[v.region.toNat]? with
      | none => rw [hk] at hh; cases hh
      | some r =>
        have hrg : s.reg v.region = r := by have := HpS.reg_get hk; rw [Int.toNat_of_nonneg h0] at this; exact this
        have hth : r.there = true := by rw [hk] at hh; exact hh
        rw [hrg]
        have he := h.each r (List.mem_of_getElem? hk)
        have hl := h.left
        have hlive := h.live
        have hne : r.more n = true → s.left ≠ 0 := fun hm e => by
          unfold HpS.code at hc
          rw [hrg] at hc
          split at hc
          · cases hc
          · rw [if_pos ⟨hm, e⟩] at hc; cases hc
        have hu : ¬ r.more n = true → r.used + n ≤ 16 := fun hm => by unfold Rgn.more at hm; rw [decide_eq_true_iff] at hm; omega
        refine HpS.ok_set h hk (by omega) ?_ ?_ ?_ ?_
        · split
          · rename_i hm; have := hne hm; omega
          · exact hl
        · unfold Rgn.room
          split <;> simp only [Rgn.push] <;> omega
        · unfold Rgn.room
          split <;> simp only [Rgn.push, hth, if_true] <;> omega
        · obtain ⟨g1, g2, g3, g4, g5, g6⟩ := he
          have e1 : (r.room n).l = r.l ∧ (r.room n).there = r.there ∧ 0 ≤ (r.room n).pages ∧ 0 ≤ (r.room n).used ∧ (r.room n).used ≤ 1000 := by
            unfold Rgn.room
            split
            · exact ⟨rfl, rfl, by simp only; omega, by simp only; omega, by simp only; omega⟩
            · rename_i hm; have := hu hm; exact ⟨rfl, rfl, by simp only; omega, by simp only; omega, by simp only; omega⟩
          obtain ⟨e1, e2, e3, e4, e5⟩ := e1
          refine ⟨by simp [Rgn.push, e1]; omega, fun x hx => ?_, e3, e4, e5, fun hf => ?_⟩
          · simp only [Rgn.push, e1, List.mem_append, List.mem_singleton] at hx
            rcases hx with hx | rfl
            · exact g2 x hx
            · exact ht
          · simp only [Rgn.push, e2, hth] at hf; cases hf
    · cases hh
  · exact h.mono (by omega)
theorem HpS.ok_shut {N : Nat} {s : HpS} (h : s.Ok N) {m : Nat} {r : Rgn} (hk : s.l[m]? = some r) : (⟨s.l.set m Rgn.none, s.left + r.pages⟩ : HpS).Ok N := by
  have he := h.each r (List.mem_of_getElem? hk)
  have hl := h.left
  have hlive := h.live
  exact HpS.ok_set h hk (Nat.le_refl _) (by omega) (by simp [Rgn.none]) (by simp [Rgn.none]; split <;> omega) ⟨by simp [Rgn.none], by simp [Rgn.none], by simp [Rgn.none], by simp [Rgn.none], by simp [Rgn.none], fun _ => rfl⟩
theorem HpS.ok_open {N : Nat} {s : HpS} (h : s.Ok N) : s.open.Ok (N + 1) := by
  unfold HpS.open
  split
  · exact h.mono (by omega)
  · rename_i hf
    have hl : s.live ≠ 16 := fun e => hf (decide_eq_true e)
    have hlive := h.live
    have h2 := h.sum
    have h3 := h.len
    refine ⟨by simp; omega, fun r hr => ?_, h.left, by simp; omega, ?_⟩
    · rcases List.mem_append.1 hr with hr | hr
      · obtain ⟨g1, g2⟩ := h.each r hr; exact ⟨by omega, g2⟩
      · simp only [List.mem_singleton] at hr; subst hr; exact ⟨by simp, by simp, by simp, by simp, by simp, fun e => by cases e⟩
    · show (s.l ++ [(⟨true, [], 0, 0⟩ : Rgn)]).countP (fun r : Rgn => r.there) ≤ 16
      rw [List.countP_append]
      have : s.live = s.l.countP fun r : Rgn => r.there := rfl
      simp; omega
end
end Go.Proofs.Ytocllfbfogcbgaa
