/- What the judge knows, and what it tells: plain functions. -/
import Derived.Test.YtanlkfeogoganaaCodeFun
import Derived.Test.YtanlkfeogoganaaHeldF
namespace Go.Lir
set_option linter.unusedVariables false
/-- Which regions are held, which values there are. -/
structure JS where
  h : List Bool
  l : List Ty
deriving instance DecidableEq for JS
def jval (s : JS) (k : Int) : Except Int Ty := if k < 0 then .error 1 else match s.l[k.toNat]? with
  | none => .error 1
  | some t => .ok t
def ebind {α β : Type} (x : Except Int α) (f : α → Except Int β) : Except Int β := match x with
  | .error e => .error e
  | .ok a => f a
theorem ebind_e {α β : Type} {x : Except Int α} {f : α → Except Int β} {e : Int} (h : x = .error e) : ebind x f = .error e := by rw [h]; rfl
theorem ebind_o {α β : Type} {x : Except Int α} {f : α → Except Int β} {a : α} (h : x = .ok a) : ebind x f = f a := by rw [h]; rfl
theorem ebind_ok {α β : Type} {x : Except Int α} {f : α → Except Int β} {b : β} (h : ebind x f = .ok b) : ∃ a, x = .ok a ∧ f a = .ok b := by
  cases x with
  | error e => cases h
  | ok a => exact ⟨a, rfl, h⟩
def jkind (s : JS) (k kind : Int) : Except Int Ty := ebind (jval s k) fun t => if t.kind ≠ kind then .error 9 else .ok t
def jat (s : JS) (k kind : Int) : Except Int Ty := ebind (jkind s k kind) fun t => if hasB s.h t.r = false then .error 10 else .ok t
def jput (s : JS) (t : Ty) : Except Int JS := if s.l.length = 80 then .error 2 else .ok ⟨s.h, s.l ++ [t]⟩
def jargs' (s : JS) (regs : List Int) : List Int → List Ty → Except Int Unit
  | k :: l, u :: want => ebind (jval s k) fun t => match u.ren regs with
    | none => .error 9
    | some u' => if t ≠ u' then .error 9 else jargs' s regs l want
  | _, _ => .ok ()
def jargs (s : JS) (l : List Int) (want : List Ty) (regs : List Int) : Except Int Unit := if l.length ≠ want.length then .error 2 else jargs' s regs l want
def jfield (t : Ty) (k : Int) : Except Int Ty := match t.l[k.toNat]? with
  | none => .error 9
  | some u => .ok u
/-- The regions that a call hands over: those behind p. -/
def jregs (h : List Bool) (p : List Int) : List Int → Except Int Unit
  | [] => .ok ()
  | r :: l => if hasB h r = false then .error 10 else if r ∈ p then .error 13 else jregs h (p ++ [r]) l
def renT (to : List Int) (t : Ty) : Ty := (t.ren to).getD (.mk 0 0 [])
def jcall (m : Module) (s : JS) (x : Ins) : Except Int JS := match m.funcs[x.k.toNat]? with
  | none => .error 1
  | some g => if (x.regs.length : Int) ≠ g.regs then .error 2 else ebind (jregs s.h [] x.regs) fun _ => ebind (jargs s x.args g.params x.regs) fun _ =>
    if 80 < s.l.length + g.results.length then .error 2 else .ok ⟨s.h, s.l ++ g.results.map (renT x.regs)⟩
/-- The types of the values of these numbers, behind some. -/
def jfields (s : JS) : List Int → Except Int (List Ty)
  | [] => .ok []
  | k :: l => ebind (jval s k) fun t => ebind (jfields s l) fun ts => .ok (t :: ts)
def number : Ty := .mk 1 0 []
def jtuple (s : JS) (x : Ins) : Except Int JS := ebind (jat s x.a 2) fun t => ebind (jfields s x.args) fun ts =>
  if (Ty.mk 3 t.r ts).fault s.h.length ≠ 0 then .error 19 else jput s (.mk 3 t.r ts)
def jins (m : Module) (f : Fun) (s : JS) (x : Ins) : Except Int JS :=
  if x.op = 1 ∨ x.op = 12 then jput s number
  else if x.op = 2 then ebind (jkind s x.a 1) fun _ => ebind (jkind s x.b 1) fun _ => jput s number
  else if x.op = 3 then (if s.h.length = 16 ∨ s.l.length = 80 then .error 2 else .ok ⟨s.h ++ [true], s.l ++ [.mk 2 s.h.length []]⟩)
  else if x.op = 4 then ebind (jat s x.a 2) fun t => if t.r < f.regs then .error 11 else .ok ⟨s.h.set t.r.toNat false, s.l⟩
  else if x.op = 5 then jtuple s x
  else if x.op = 6 then ebind (jat s x.a 3) fun t => ebind (jfield t x.k) fun u => jput s u
  else if x.op = 7 then ebind (jat s x.a 3) fun t => ebind (jfield t x.k) fun u => ebind (jval s x.b) fun v => if u ≠ v then .error 9 else .ok s
  else if x.op = 8 then ebind (jat s x.a 2) fun t => ebind (jkind s x.b 1) fun _ => jput s (.mk 4 t.r [])
  else if x.op = 9 then ebind (jat s x.a 4) fun _ => ebind (jkind s x.b 1) fun _ => jput s number
  else if x.op = 10 then ebind (jat s x.a 4) fun _ => ebind (jkind s x.b 1) fun _ => ebind (jkind s x.c 1) fun _ => .ok s
  else if x.op = 11 then ebind (jat s x.a 4) fun _ => jput s number
  else if x.op = 13 then ebind (jkind s x.a 1) fun _ => .ok s
  else jcall m s x
/-- One instruction: a code, and what is known behind it. -/
def jIns (m : Module) (f : Fun) (s : JS) (x : Ins) : Int × JS := if insForm m.funcs.length x ≠ 0 then (insForm m.funcs.length x, s) else match jins m f s x with
  | .error c => (c, s)
  | .ok s' => (0, s')
/-- Do the first n numbers of a list stand for themselves? -/
def keptB (l : List Int) (n : Nat) : Bool := (List.range n).all fun i => decide (l[i]? = some (i : Int))
def jto (f : Fun) (s : JS) (t : To) : Except Int Unit := match f.blocks[t.block.toNat]? with
  | none => .error 1
  | some b => if (t.regs.length : Int) ≠ b.regs then .error 2 else if keptB t.regs f.regs.toNat = false then .error 11 else
    if passGo s.h [] t.regs ≠ 0 then .error (passGo s.h [] t.regs) else jargs s t.args b.params t.regs
def upTo (n : Nat) : List Int := (List.range n).map Int.ofNat
def jend (f : Fun) (s : JS) (e : Tail) : Except Int Unit :=
  if e.op = 1 then jto f s e.yes
  else if e.op = 2 then ebind (jkind s e.a 1) fun _ => ebind (jto f s e.yes) fun _ => jto f s e.no
  else ebind (jargs s e.args f.results (upTo f.regs.toNat)) fun _ => if f.regs < (heldL s.h).length then .error 12 else .ok ()
def jEnd (f : Fun) (s : JS) (e : Tail) : Int := if endForm f.blocks.length e ≠ 0 then endForm f.blocks.length e else match jend f s e with
  | .error c => c
  | .ok _ => 0
/-- At the beginning of a block. -/
def jStart (y : Block) : JS := ⟨List.replicate (min y.regs 16).toNat true, y.params⟩

/-! ### What is true of it -/
theorem jval_ok {s : JS} {k : Int} {t : Ty} (h : jval s k = .ok t) : 0 ≤ k ∧ s.l[k.toNat]? = some t := by
  unfold jval at h
  split at h
  · cases h
  · rename_i h0
    split at h
    · cases h
    · rename_i u hu; cases h; exact ⟨by omega, hu⟩
theorem jval_no {s : JS} {k : Int} (h : k < 0 ∨ (s.l.length : Int) ≤ k) : jval s k = .error 1 := by
  unfold jval
  by_cases h0 : k < 0
  · rw [if_pos h0]
  · rw [if_neg h0, List.getElem?_eq_none (by omega)]
theorem jval_yes {s : JS} {k : Int} {t : Ty} (h0 : 0 ≤ k) (h : s.l[k.toNat]? = some t) : jval s k = .ok t := by
  unfold jval
  rw [if_neg (by omega), h]
theorem jkind_ok {s : JS} {k kind : Int} {t : Ty} (h : jkind s k kind = .ok t) : 0 ≤ k ∧ s.l[k.toNat]? = some t ∧ t.kind = kind := by
  obtain ⟨u, h1, h2⟩ := ebind_ok h
  split at h2
  · cases h2
  · rename_i hk; cases h2; have := jval_ok h1; exact ⟨this.1, this.2, Classical.not_not.1 hk⟩
theorem jat_ok {s : JS} {k kind : Int} {t : Ty} (h : jat s k kind = .ok t) : 0 ≤ k ∧ s.l[k.toNat]? = some t ∧ t.kind = kind ∧ hasB s.h t.r = true := by
  obtain ⟨u, h1, h2⟩ := ebind_ok h
  split at h2
  · cases h2
  · rename_i hk; cases h2; have := jkind_ok h1; exact ⟨this.1, this.2.1, this.2.2, by simpa using hk⟩
theorem jput_ok {s s' : JS} {t : Ty} (h : jput s t = .ok s') : s.l.length ≠ 80 ∧ s'.h = s.h ∧ s'.l = s.l ++ [t] := by
  unfold jput at h
  split at h
  · cases h
  · rename_i hk; cases h; exact ⟨hk, rfl, rfl⟩
/-- How an instruction that is let by changes what is known. -/
structure JStep (x : Ins) (s s' : JS) : Prop where
  len : s.l.length ≤ 80 → s'.l.length ≤ 80
  pre : ∃ more, s'.l = s.l ++ more ∧ (x.op ≠ 14 → more.length ≤ 1) ∧ (x.op = 3 → more.length = 1) ∧ (x.op = 4 → more = [])
  new : x.op = 3 → s'.h = s.h ++ [true] ∧ s.h.length ≠ 16
  free : x.op = 4 → ∃ t, 0 ≤ x.a ∧ s.l[x.a.toNat]? = some t ∧ t.kind = 2 ∧ hasB s.h t.r = true ∧ s'.h = s.h.set t.r.toNat false
  else_ : x.op ≠ 3 → x.op ≠ 4 → s'.h = s.h
theorem jput_step {x : Ins} {s s' : JS} {t : Ty} (h : jput s t = .ok s') (h3 : x.op ≠ 3) (h4 : x.op ≠ 4) : JStep x s s' := by
  obtain ⟨h1, h2, h5⟩ := jput_ok h
  refine ⟨fun hl => by rw [h5, List.length_append]; simp only [List.length_cons, List.length_nil]; omega, ⟨[t], h5, fun _ => by simp, fun h => absurd h h3, fun h => absurd h h4⟩, fun h => absurd h h3, fun h => absurd h h4, fun _ _ => h2⟩
theorem jsame_step {x : Ins} {s : JS} (h3 : x.op ≠ 3) (h4 : x.op ≠ 4) : JStep x s s :=
  ⟨fun hl => hl, ⟨[], by simp, fun _ => by simp, fun h => absurd h h3, fun h => absurd h h4⟩, fun h => absurd h h3, fun h => absurd h h4, fun _ _ => rfl⟩
theorem jins_step {m : Module} {f : Fun} {s s' : JS} {x : Ins} (hop : 1 ≤ x.op ∧ x.op ≤ 14) (h : jins m f s x = .ok s') : JStep x s s' := by
  unfold jins at h
  by_cases h1 : x.op = 1 ∨ x.op = 12
  · rw [if_pos h1] at h; exact jput_step h (by omega) (by omega)
  rw [if_neg h1] at h
  by_cases h2 : x.op = 2
  · rw [if_pos h2] at h; obtain ⟨_, _, h⟩ := ebind_ok h; obtain ⟨_, _, h⟩ := ebind_ok h; exact jput_step h (by omega) (by omega)
  rw [if_neg h2] at h
  by_cases hc : x.op = 3
  · rw [if_pos hc] at h
    by_cases hn : s.h.length = 16 ∨ s.l.length = 80
    · rw [if_pos hn] at h; cases h
    · rw [if_neg hn] at h
      cases h
      exact ⟨fun hl => by simp only [List.length_append, List.length_cons, List.length_nil]; omega, ⟨[_], rfl, fun _ => by simp, fun _ => rfl, fun h => by omega⟩, fun _ => ⟨rfl, by omega⟩, fun h => by omega, fun h => absurd hc h⟩
  rw [if_neg hc] at h
  by_cases hc4 : x.op = 4
  · rw [if_pos hc4] at h
    obtain ⟨t, h1, h⟩ := ebind_ok h
    by_cases hk : t.r < f.regs
    · rw [if_pos hk] at h; cases h
    · rw [if_neg hk] at h
      cases h
      obtain ⟨a1, a2, a3, a4⟩ := jat_ok h1
      exact ⟨fun hl => hl, ⟨[], by simp, fun _ => by simp, fun h => by omega, fun _ => rfl⟩, fun h => by omega, fun _ => ⟨t, a1, a2, a3, a4, rfl⟩, fun _ h => absurd hc4 h⟩
  rw [if_neg hc4] at h
  by_cases h5 : x.op = 5
  · rw [if_pos h5] at h
    unfold jtuple at h
    obtain ⟨t, _, h⟩ := ebind_ok h; obtain ⟨ts, _, h⟩ := ebind_ok h
    by_cases hk : (Ty.mk 3 t.r ts).fault s.h.length ≠ 0
    · rw [if_pos hk] at h; cases h
    · rw [if_neg hk] at h; exact jput_step h (by omega) (by omega)
  rw [if_neg h5] at h
  by_cases h6 : x.op = 6
  · rw [if_pos h6] at h; obtain ⟨_, _, h⟩ := ebind_ok h; obtain ⟨_, _, h⟩ := ebind_ok h; exact jput_step h (by omega) (by omega)
  rw [if_neg h6] at h
  by_cases h7 : x.op = 7
  · rw [if_pos h7] at h
    obtain ⟨_, _, h⟩ := ebind_ok h; obtain ⟨u, _, h⟩ := ebind_ok h; obtain ⟨v, _, h⟩ := ebind_ok h
    by_cases hk : u ≠ v
    · rw [if_pos hk] at h; cases h
    · rw [if_neg hk] at h; cases h; exact jsame_step (by omega) (by omega)
  rw [if_neg h7] at h
  by_cases h8 : x.op = 8
  · rw [if_pos h8] at h; obtain ⟨_, _, h⟩ := ebind_ok h; obtain ⟨_, _, h⟩ := ebind_ok h; exact jput_step h (by omega) (by omega)
  rw [if_neg h8] at h
  by_cases h9 : x.op = 9
  · rw [if_pos h9] at h; obtain ⟨_, _, h⟩ := ebind_ok h; obtain ⟨_, _, h⟩ := ebind_ok h; exact jput_step h (by omega) (by omega)
  rw [if_neg h9] at h
  by_cases h10 : x.op = 10
  · rw [if_pos h10] at h; obtain ⟨_, _, h⟩ := ebind_ok h; obtain ⟨_, _, h⟩ := ebind_ok h; obtain ⟨_, _, h⟩ := ebind_ok h; cases h; exact jsame_step (by omega) (by omega)
  rw [if_neg h10] at h
  by_cases h11 : x.op = 11
  · rw [if_pos h11] at h; obtain ⟨_, _, h⟩ := ebind_ok h; exact jput_step h (by omega) (by omega)
  rw [if_neg h11] at h
  by_cases h13 : x.op = 13
  · rw [if_pos h13] at h; obtain ⟨_, _, h⟩ := ebind_ok h; cases h; exact jsame_step (by omega) (by omega)
  rw [if_neg h13] at h
  unfold jcall at h
  split at h
  · cases h
  · rename_i g hg
    by_cases hr : (x.regs.length : Int) ≠ g.regs
    · rw [if_pos hr] at h; cases h
    · rw [if_neg hr] at h
      obtain ⟨_, _, h⟩ := ebind_ok h; obtain ⟨_, _, h⟩ := ebind_ok h
      by_cases hn : 80 < s.l.length + g.results.length
      · rw [if_pos hn] at h; cases h
      · rw [if_neg hn] at h
        cases h
        exact ⟨fun hl => by rw [List.length_append, List.length_map]; omega, ⟨_, rfl, fun h => by omega, fun h => by omega, fun h => by omega⟩, fun h => by omega, fun h => by omega, fun _ _ => rfl⟩
theorem insForm_op {n : Nat} {x : Ins} (h : insForm n x = 0) : 1 ≤ x.op ∧ x.op ≤ 14 := by
  unfold insForm at h
  split at h
  · cases h
  · omega
section
variable {s : JS} {regs l : List Int} {want : List Ty} {k : Nat} {x c : Int} {u u' t : Ty}
theorem jargs_e (hx : l[k]? = some x) (hu : want[k]? = some u) (h : jval s x = .error c) : jargs' s regs (l.drop k) (want.drop k) = .error c := by
  rw [drop_cons hx, drop_cons hu, jargs', ebind_e h]
theorem jargs_n (hx : l[k]? = some x) (hu : want[k]? = some u) (h : jval s x = .ok t) (hn : u.ren regs = none) : jargs' s regs (l.drop k) (want.drop k) = .error 9 := by
  rw [drop_cons hx, drop_cons hu, jargs', ebind_o h, hn]
theorem jargs_d (hx : l[k]? = some x) (hu : want[k]? = some u) (h : jval s x = .ok t) (hn : u.ren regs = some u') (hd : t ≠ u') : jargs' s regs (l.drop k) (want.drop k) = .error 9 := by
  rw [drop_cons hx, drop_cons hu, jargs', ebind_o h, hn]; exact if_pos hd
theorem jargs_s (hx : l[k]? = some x) (hu : want[k]? = some u) (h : jval s x = .ok t) (hn : u.ren regs = some u') (hd : t = u') : jargs' s regs (l.drop k) (want.drop k) = jargs' s regs (l.drop (k + 1)) (want.drop (k + 1)) := by
  rw [drop_cons hx, drop_cons hu, jargs', ebind_o h, hn]; exact if_neg (fun h => h hd)
theorem jargs_z (h : l.length ≤ k) : jargs' s regs (l.drop k) (want.drop k) = .ok () := by
  rw [List.drop_of_length_le h, jargs']
  intro k l u w h; cases h
end
section
variable {m : Module} {f : Fun} {s : JS} {x : Ins}
theorem jins_1 (h : x.op = 1 ∨ x.op = 12) : jins m f s x = (jput s number) := by
  unfold jins; rw [if_pos (by omega)]
theorem jins_2 (h : x.op = 2) : jins m f s x = (ebind (jkind s x.a 1) fun _ => ebind (jkind s x.b 1) fun _ => jput s number) := by
  unfold jins; rw [if_neg (by omega), if_pos (by omega)]
theorem jins_3 (h : x.op = 3) : jins m f s x = (if s.h.length = 16 ∨ s.l.length = 80 then .error 2 else .ok ⟨s.h ++ [true], s.l ++ [.mk 2 s.h.length []]⟩) := by
  unfold jins; rw [if_neg (by omega), if_neg (by omega), if_pos (by omega)]
theorem jins_4 (h : x.op = 4) : jins m f s x = (ebind (jat s x.a 2) fun t => if t.r < f.regs then .error 11 else .ok ⟨s.h.set t.r.toNat false, s.l⟩) := by
  unfold jins; rw [if_neg (by omega), if_neg (by omega), if_neg (by omega), if_pos (by omega)]
theorem jins_5 (h : x.op = 5) : jins m f s x = (jtuple s x) := by
  unfold jins; rw [if_neg (by omega), if_neg (by omega), if_neg (by omega), if_neg (by omega), if_pos (by omega)]
theorem jins_6 (h : x.op = 6) : jins m f s x = (ebind (jat s x.a 3) fun t => ebind (jfield t x.k) fun u => jput s u) := by
  unfold jins; rw [if_neg (by omega), if_neg (by omega), if_neg (by omega), if_neg (by omega), if_neg (by omega), if_pos (by omega)]
theorem jins_7 (h : x.op = 7) : jins m f s x = (ebind (jat s x.a 3) fun t => ebind (jfield t x.k) fun u => ebind (jval s x.b) fun v => if u ≠ v then .error 9 else .ok s) := by
  unfold jins; rw [if_neg (by omega), if_neg (by omega), if_neg (by omega), if_neg (by omega), if_neg (by omega), if_neg (by omega), if_pos (by omega)]
theorem jins_8 (h : x.op = 8) : jins m f s x = (ebind (jat s x.a 2) fun t => ebind (jkind s x.b 1) fun _ => jput s (.mk 4 t.r [])) := by
  unfold jins; rw [if_neg (by omega), if_neg (by omega), if_neg (by omega), if_neg (by omega), if_neg (by omega), if_neg (by omega), if_neg (by omega), if_pos (by omega)]
theorem jins_9 (h : x.op = 9) : jins m f s x = (ebind (jat s x.a 4) fun _ => ebind (jkind s x.b 1) fun _ => jput s number) := by
  unfold jins; rw [if_neg (by omega), if_neg (by omega), if_neg (by omega), if_neg (by omega), if_neg (by omega), if_neg (by omega), if_neg (by omega), if_neg (by omega), if_pos (by omega)]
theorem jins_10 (h : x.op = 10) : jins m f s x = (ebind (jat s x.a 4) fun _ => ebind (jkind s x.b 1) fun _ => ebind (jkind s x.c 1) fun _ => .ok s) := by
  unfold jins; rw [if_neg (by omega), if_neg (by omega), if_neg (by omega), if_neg (by omega), if_neg (by omega), if_neg (by omega), if_neg (by omega), if_neg (by omega), if_neg (by omega), if_pos (by omega)]
theorem jins_11 (h : x.op = 11) : jins m f s x = (ebind (jat s x.a 4) fun _ => jput s number) := by
  unfold jins; rw [if_neg (by omega), if_neg (by omega), if_neg (by omega), if_neg (by omega), if_neg (by omega), if_neg (by omega), if_neg (by omega), if_neg (by omega), if_neg (by omega), if_neg (by omega), if_pos (by omega)]
theorem jins_13 (h : x.op = 13) : jins m f s x = (ebind (jkind s x.a 1) fun _ => .ok s) := by
  unfold jins; rw [if_neg (by omega), if_neg (by omega), if_neg (by omega), if_neg (by omega), if_neg (by omega), if_neg (by omega), if_neg (by omega), if_neg (by omega), if_neg (by omega), if_neg (by omega), if_neg (by omega), if_pos (by omega)]
theorem jins_14 (h : x.op = 14) : jins m f s x = (jcall m s x) := by
  unfold jins; rw [if_neg (by omega), if_neg (by omega), if_neg (by omega), if_neg (by omega), if_neg (by omega), if_neg (by omega), if_neg (by omega), if_neg (by omega), if_neg (by omega), if_neg (by omega), if_neg (by omega), if_neg (by omega)]
theorem jput_yes {t : Ty} (h : s.l.length ≠ 80) : jput s t = .ok ⟨s.h, s.l ++ [t]⟩ := if_neg h
theorem jput_no {t : Ty} (h : s.l.length = 80) : jput s t = .error 2 := if_pos h
theorem jfields_e {q : Nat} {k c : Int} {ts : List Ty} (hx : x.args[q]? = some k) (hd : jfields s x.args = ebind (jfields s (x.args.drop q)) fun l => .ok (ts ++ l)) (h : jval s k = .error c) : jfields s x.args = .error c := by
  rw [hd, drop_cons hx, jfields, ebind_e h]; rfl
theorem jfields_s {q : Nat} {k : Int} {t : Ty} {ts : List Ty} (hx : x.args[q]? = some k) (hd : jfields s x.args = ebind (jfields s (x.args.drop q)) fun l => .ok (ts ++ l)) (h : jval s k = .ok t) : jfields s x.args = ebind (jfields s (x.args.drop (q + 1))) fun l => .ok ((ts ++ [t]) ++ l) := by
  rw [hd, drop_cons hx, jfields, ebind_o h]
  cases jfields s (x.args.drop (q + 1)) with
  | error c => rfl
  | ok l => simp [ebind]
theorem jfields_z {q : Nat} {ts : List Ty} (hd : jfields s x.args = ebind (jfields s (x.args.drop q)) fun l => .ok (ts ++ l)) (h : x.args.length ≤ q) : jfields s x.args = .ok ts := by
  rw [hd, List.drop_of_length_le h, jfields]; simp [ebind]
end
theorem kept_s (l : List Int) (n : Nat) : keptB l (n + 1) = (keptB l n && decide (l[n]? = some (n : Int))) := by
  unfold keptB; rw [List.range_succ, List.all_append]; simp
theorem kept_no {l : List Int} {n q : Nat} (hq : q < n) (h : l[q]? ≠ some (q : Int)) : keptB l n = false := by
  unfold keptB
  rw [List.all_eq_false]
  exact ⟨q, List.mem_range.2 hq, by simpa using h⟩
theorem upTo_s (n : Nat) : upTo (n + 1) = upTo n ++ [(n : Int)] := by unfold upTo; rw [List.range_succ, List.map_append]; rfl
section
variable {f : Fun} {s : JS} {t : To} {b : Block} {e : Tail}
theorem jto_2 (hb : f.blocks[t.block.toNat]? = some b) (h : (t.regs.length : Int) ≠ b.regs) : jto f s t = .error 2 := by unfold jto; rw [hb]; exact if_pos h
theorem jto_11 (hb : f.blocks[t.block.toNat]? = some b) (h : ¬ (t.regs.length : Int) ≠ b.regs) (h2 : keptB t.regs f.regs.toNat = false) : jto f s t = .error 11 := by unfold jto; rw [hb]; simp only; rw [if_neg h, if_pos h2]
theorem jto_p (hb : f.blocks[t.block.toNat]? = some b) (h : ¬ (t.regs.length : Int) ≠ b.regs) (h2 : keptB t.regs f.regs.toNat = true) (h3 : passGo s.h [] t.regs ≠ 0) : jto f s t = .error (passGo s.h [] t.regs) := by unfold jto; rw [hb]; simp only; rw [if_neg h, if_neg (by rw [h2]; decide), if_pos h3]
theorem jto_a (hb : f.blocks[t.block.toNat]? = some b) (h : ¬ (t.regs.length : Int) ≠ b.regs) (h2 : keptB t.regs f.regs.toNat = true) (h3 : passGo s.h [] t.regs = 0) : jto f s t = jargs s t.args b.params t.regs := by unfold jto; rw [hb]; simp only; rw [if_neg h, if_neg (by rw [h2]; decide), if_neg (fun h => h h3)]
theorem jend_1 (h : e.op = 1) : jend f s e = jto f s e.yes := by unfold jend; rw [if_pos h]
theorem jend_2 (h : e.op = 2) : jend f s e = ebind (jkind s e.a 1) fun _ => ebind (jto f s e.yes) fun _ => jto f s e.no := by unfold jend; rw [if_neg (by omega), if_pos h]
theorem jend_3 (h : e.op = 3) : jend f s e = ebind (jargs s e.args f.results (upTo f.regs.toNat)) fun _ => if f.regs < (heldL s.h).length then .error 12 else .ok () := by unfold jend; rw [if_neg (by omega), if_neg (by omega)]
theorem toForm_b {n : Nat} (h : toForm n t true = 0) : 0 ≤ t.block ∧ t.block < n := by
  unfold toForm at h
  simp at h; omega
theorem endForm_op {n : Nat} (h : endForm n e = 0) : 1 ≤ e.op ∧ e.op ≤ 3 ∧ toForm n e.yes (decide (e.op ≠ 3)) = 0 ∧ toForm n e.no (decide (e.op = 2)) = 0 := by
  unfold endForm at h
  split at h
  · cases h
  · split at h
    · cases h
    · split at h
      · cases h
      · unfold orC at h
        split at h
        · rename_i h1; exact absurd h h1
        · rename_i h1; exact ⟨by omega, by omega, Classical.not_not.1 h1, h⟩
end
/-! ### A code that is told is not 0 -/
def NZ {α : Type} (x : Except Int α) : Prop := ∀ c, x = .error c → c ≠ 0
theorem NZ.e {α : Type} {c : Int} (h : c ≠ 0) : NZ (.error c : Except Int α) := fun _ h' => by cases h'; exact h
theorem NZ.o {α : Type} (a : α) : NZ (.ok a : Except Int α) := fun _ h' => by cases h'
theorem NZ.bind {α β : Type} {x : Except Int α} {f : α → Except Int β} (h1 : NZ x) (h2 : ∀ a, x = .ok a → NZ (f a)) : NZ (ebind x f) := by
  cases x with
  | error e => exact fun c h => by cases h; exact h1 _ rfl
  | ok a => exact h2 a rfl
theorem NZ.ite {α : Type} {p : Prop} [Decidable p] {a b : Except Int α} (h1 : NZ a) (h2 : NZ b) : NZ (if p then a else b) := by
  split
  · exact h1
  · exact h2
theorem jval_nz (s : JS) (k : Int) : NZ (jval s k) := by
  unfold jval
  split
  · exact .e (by decide)
  · split
    · exact .e (by decide)
    · exact .o _
theorem jkind_nz (s : JS) (k kind : Int) : NZ (jkind s k kind) := by
  refine .bind (jval_nz s k) fun t _ => ?_
  split
  · exact .e (by decide)
  · exact .o _
theorem jat_nz (s : JS) (k kind : Int) : NZ (jat s k kind) := by
  refine .bind (jkind_nz s k kind) fun t _ => ?_
  split
  · exact .e (by decide)
  · exact .o _
theorem jput_nz (s : JS) (t : Ty) : NZ (jput s t) := by
  unfold jput
  split
  · exact .e (by decide)
  · exact .o _
theorem jargs'_nz (s : JS) (regs : List Int) : ∀ (l : List Int) (want : List Ty), NZ (jargs' s regs l want)
  | [], [] => by unfold jargs'; exact .o _
  | [], _ :: _ => by unfold jargs'; exact .o _
  | _ :: _, [] => by unfold jargs'; exact .o _
  | k :: l, u :: want => by
    unfold jargs'
    refine .bind (jval_nz s k) fun t _ => ?_
    split
    · exact .e (by decide)
    · split
      · exact .e (by decide)
      · exact jargs'_nz s regs l want
theorem jargs_nz (s : JS) (l : List Int) (want : List Ty) (regs : List Int) : NZ (jargs s l want regs) := by
  unfold jargs
  split
  · exact .e (by decide)
  · exact jargs'_nz s regs l want
theorem jfield_nz (t : Ty) (k : Int) : NZ (jfield t k) := by
  unfold jfield
  split
  · exact .e (by decide)
  · exact .o _
theorem jregs_nz (h : List Bool) : ∀ (l p : List Int), NZ (jregs h p l)
  | [], _ => by unfold jregs; exact .o _
  | r :: l, p => by
    unfold jregs
    split
    · exact .e (by decide)
    · split
      · exact .e (by decide)
      · exact jregs_nz h l _
theorem jfields_nz (s : JS) : ∀ (l : List Int), NZ (jfields s l)
  | [] => by unfold jfields; exact .o _
  | k :: l => by
    unfold jfields
    exact .bind (jval_nz s k) fun _ _ => .bind (jfields_nz s l) fun _ _ => .o _
theorem jcall_nz (m : Module) (s : JS) (x : Ins) : NZ (jcall m s x) := by
  unfold jcall
  split
  · exact .e (by decide)
  · split
    · exact .e (by decide)
    · refine .bind (jregs_nz _ _ _) fun _ _ => .bind (jargs_nz _ _ _ _) fun _ _ => ?_
      split
      · exact .e (by decide)
      · exact .o _
theorem jins_nz (m : Module) (f : Fun) (s : JS) (x : Ins) : NZ (jins m f s x) := by
  unfold jins jtuple
  repeat' (first | exact jput_nz _ _ | exact jcall_nz _ _ _ | exact .o _ | exact .e (by decide) | refine .bind (jkind_nz _ _ _) fun _ _ => ?_ | refine .bind (jat_nz _ _ _) fun _ _ => ?_ | refine .bind (jfield_nz _ _) fun _ _ => ?_ | refine .bind (jval_nz _ _) fun _ _ => ?_ | refine .bind (jfields_nz _ _) fun _ _ => ?_ | refine .ite ?_ ?_)
theorem jIns_ok {m : Module} {f : Fun} {s : JS} {x : Ins} (h : (jIns m f s x).1 = 0) : insForm m.funcs.length x = 0 ∧ jins m f s x = .ok (jIns m f s x).2 := by
  unfold jIns at h ⊢
  split at h
  · rename_i hf; exact absurd h hf
  · rename_i hf
    rw [if_neg hf]
    refine ⟨Classical.not_not.1 hf, ?_⟩
    cases hj : jins m f s x with
    | error c => rw [hj] at h; exact absurd h (jins_nz m f s x c hj)
    | ok s' => rfl
theorem jIns_no {m : Module} {f : Fun} {s : JS} {x : Ins} (h : (jIns m f s x).1 ≠ 0) : (jIns m f s x).2 = s := by
  unfold jIns at h ⊢
  split
  · rfl
  · rename_i hf
    rw [if_neg hf] at h
    cases hj : jins m f s x with
    | error c => rfl
    | ok s' => rw [hj] at h; exact absurd rfl h
theorem jIns_step {m : Module} {f : Fun} {s : JS} {x : Ins} (h : (jIns m f s x).1 = 0) : JStep x s (jIns m f s x).2 := by
  obtain ⟨h1, h2⟩ := jIns_ok h
  exact jins_step (insForm_op h1) h2
end Go.Lir
