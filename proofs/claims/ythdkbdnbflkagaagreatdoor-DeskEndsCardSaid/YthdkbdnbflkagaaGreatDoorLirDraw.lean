/- Regions that draw their order: one canonical order stands for all of them. -/
import Derived.Test.YthdkbdnbflkagaaGreatDoorLirSound
namespace Go.Lir

def opT : Operand → List Nat
  | .tmp t => [t]
  | _ => []
def opoT : Option Operand → List Nat
  | some x => opT x
  | none => []

def LO.uses : LO → List Nat
  | .mov _ x | .un _ _ x | .nilc _ x | .fld _ x _ | .load1 _ x | .loadn _ _ x | .len _ x | .slen _ x | .ext _ x _ | .fldv _ x _ | .fldn _ x _ _ | .box _ _ x | .conv _ _ x | .mki _ _ x => opT x
  | .pick _ c x y => opT c ++ opT x ++ opT y
  | .bin _ _ _ x y | .idx _ _ x y | .idxa _ _ _ x y | .sidx _ x y | .mnx _ _ x y | .store1 x y | .storen _ x y => opT x ++ opT y
  | .alloc .. => []
  | .call _ _ xs => xs.flatMap opT
  | .callv _ x xs => opT x ++ xs.flatMap opT
  | .build _ _ ps | .buildS _ _ _ _ ps => ps.flatMap fun p => opT p.2.2
  | .mkfn _ _ xs => xs.flatMap opT
  | .sub _ _ x a b c => opT x ++ opoT a ++ opoT b ++ opoT c
  | .ssub _ x a b => opT x ++ opoT a ++ opoT b
  | .raw o => o.op.operands.toList.flatMap opT

def LO.quiet : LO → Bool
  | .mov .. | .pick .. | .un .. | .bin .. | .nilc .. | .fld .. | .load1 .. | .loadn .. | .idx .. | .idxa .. | .len .. | .slen .. | .sidx .. | .ext .. | .fldv .. | .fldn .. | .build .. | .mkfn ..
  | .sub .. | .ssub .. | .mnx .. | .conv .. | .mki .. => true
  | _ => false

/-- What a quiet operation makes. -/
def qv (P : Program) (ρ : Env) (w : World) : LO → Value → Prop
  | .mov _ x, v => v = ρ.ev x
  | .pick _ c x y, v => ∃ b, ρ.ev c = .bool b ∧ v = (if b then ρ.ev x else ρ.ev y)
  | .un _ op x, v => ∀ w0, (Op.unary op (ρ.ev x)).run P w0 = .ok v w0
  | .bin _ op T x y, v => ∀ w0, (do eqGuard op T x y (ρ.ev x) (ρ.ev y); binOp op T (ρ.ev x) (ρ.ev y)).run P w0 = .ok v w0
  | .nilc _ x, v => ∃ a, ρ.ev x = .pointer (some a) ∧ v = .pointer (some a)
  | .fld _ x off, v => ∃ a, ρ.ev x = .pointer (some a) ∧ v = .pointer (some (a.add off))
  | .load1 _ x, v => ∃ a, ρ.ev x = .pointer (some a) ∧ w.cell? a = some v
  | .loadn _ n x, v => ∃ a cs, ρ.ev x = .pointer (some a) ∧ cellsAt w a n cs ∧ v = .agg ⟨cs⟩
  | .idx _ es x i, v => ∃ a len cap k n, ρ.ev x = .slice (some a) len cap ∧ ρ.ev i = .int k n ∧ 0 ≤ n ∧ n < len ∧ v = .pointer (some (a.add (n.toNat * es)))
  | .idxa _ m es x i, v => ∃ a k n, ρ.ev x = .pointer (some a) ∧ ρ.ev i = .int k n ∧ 0 ≤ n ∧ n < (m : Int) ∧ v = .pointer (some (a.add (n.toNat * es)))
  | .len _ x, v => ∃ a n c, ρ.ev x = .slice a n c ∧ v = .int .i64 n
  | .slen _ x, v => ∃ s, ρ.ev x = .string s ∧ v = .int .i64 s.size
  | .sidx _ x i, v => ∃ s k n b, ρ.ev x = .string s ∧ ρ.ev i = .int k n ∧ 0 ≤ n ∧ s[n.toNat]? = some b ∧ v = .int .u8 b.toNat
  | .ext _ x i, v => ∃ vs, ρ.ev x = .tuple vs ∧ vs[i]? = some v
  | .fldv _ x off, v => ∃ cs, ρ.ev x = .agg cs ∧ cs[off]? = some v
  | .fldn _ x off n, v => ∃ cs, ρ.ev x = .agg cs ∧ v = .agg (cs.extract off (off + n))
  | .build _ z ps, v => ∃ cs, fillL z (ps.map fun p => (p.1, p.2.1, ρ.ev p.2.2)) = some cs ∧ v = .agg ⟨cs⟩
  | .mkfn _ f caps, v => v = .func (.func f) #[] ⟨caps.map ρ.ev⟩
  | .sub _ es x lo hi mx, v => ∃ a len cap l h m, ρ.ev x = .slice a len cap ∧ bnd ρ cap mx m ∧ bnd ρ len hi h ∧ bnd ρ 0 lo l ∧ m ≤ cap ∧ h ≤ m ∧ l ≤ h ∧
      v = .slice (if m = l then a else a.map (·.add (l * es))) (h - l) (m - l)
  | .ssub _ x lo hi, v => ∃ s l h, ρ.ev x = .string s ∧ bnd ρ s.size hi h ∧ bnd ρ 0 lo l ∧ h ≤ s.size ∧ l ≤ h ∧ v = .string (s.extract l h)
  | .mnx _ isMax x y, v => ∃ k k' a b, ρ.ev x = .int k a ∧ ρ.ev y = .int k' b ∧ v = .int k (if isMax then (if a < b then b else a) else (if b < a then b else a))
  | .conv _ k x, v => ∃ k' n, ρ.ev x = .int k' n ∧ v = .int k (k.wrap n)
  | .mki _ T x, v => v = .iface T (ρ.ev x)
  | _, _ => False

theorem quiet_wp {P : Program} {ρ : Env} {w : World} {K : KT} {Q : QT} {o : LO} (h : o.quiet = true) : o.wp P ρ w K Q ↔ ∃ v, qv P ρ w o v ∧ K (updo ρ o.dst v) w := by
  cases o <;> simp only [LO.quiet, Bool.false_eq_true] at h <;> simp only [LO.wp, qv, LO.dst, updo]
  all_goals (constructor <;> intro h)
  case mov.mp => exact ⟨_, rfl, h⟩
  case mov.mpr => obtain ⟨v, rfl, h⟩ := h; exact h
  case pick.mp => obtain ⟨b, h1, h2⟩ := h; exact ⟨_, ⟨b, h1, rfl⟩, h2⟩
  case pick.mpr => obtain ⟨v, ⟨b, h1, rfl⟩, h2⟩ := h; exact ⟨b, h1, h2⟩
  case nilc.mp => obtain ⟨a, h1, h2⟩ := h; exact ⟨_, ⟨a, h1, rfl⟩, h2⟩
  case nilc.mpr => obtain ⟨v, ⟨a, h1, rfl⟩, h2⟩ := h; exact ⟨a, h1, h2⟩
  case fld.mp => obtain ⟨a, h1, h2⟩ := h; exact ⟨_, ⟨a, h1, rfl⟩, h2⟩
  case fld.mpr => obtain ⟨v, ⟨a, h1, rfl⟩, h2⟩ := h; exact ⟨a, h1, h2⟩
  case load1.mp => obtain ⟨a, v, h1, h2, h3⟩ := h; exact ⟨v, ⟨a, h1, h2⟩, h3⟩
  case load1.mpr => obtain ⟨v, ⟨a, h1, h2⟩, h3⟩ := h; exact ⟨a, v, h1, h2, h3⟩
  case loadn.mp => obtain ⟨a, cs, h1, h2, h3⟩ := h; exact ⟨_, ⟨a, cs, h1, h2, rfl⟩, h3⟩
  case loadn.mpr => obtain ⟨v, ⟨a, cs, h1, h2, rfl⟩, h3⟩ := h; exact ⟨a, cs, h1, h2, h3⟩
  case idx.mp => obtain ⟨a, l, c, k, n, h1, h2, h3, h4, h5⟩ := h; exact ⟨_, ⟨a, l, c, k, n, h1, h2, h3, h4, rfl⟩, h5⟩
  case idx.mpr => obtain ⟨v, ⟨a, l, c, k, n, h1, h2, h3, h4, rfl⟩, h5⟩ := h; exact ⟨a, l, c, k, n, h1, h2, h3, h4, h5⟩
  case idxa.mp => obtain ⟨a, k, n, h1, h2, h3, h4, h5⟩ := h; exact ⟨_, ⟨a, k, n, h1, h2, h3, h4, rfl⟩, h5⟩
  case idxa.mpr => obtain ⟨v, ⟨a, k, n, h1, h2, h3, h4, rfl⟩, h5⟩ := h; exact ⟨a, k, n, h1, h2, h3, h4, h5⟩
  case len.mp => obtain ⟨a, n, c, h1, h2⟩ := h; exact ⟨_, ⟨a, n, c, h1, rfl⟩, h2⟩
  case len.mpr => obtain ⟨v, ⟨a, n, c, h1, rfl⟩, h2⟩ := h; exact ⟨a, n, c, h1, h2⟩
  case slen.mp => obtain ⟨s, h1, h2⟩ := h; exact ⟨_, ⟨s, h1, rfl⟩, h2⟩
  case slen.mpr => obtain ⟨v, ⟨s, h1, rfl⟩, h2⟩ := h; exact ⟨s, h1, h2⟩
  case sidx.mp => obtain ⟨s, k, n, b, h1, h2, h3, h4, h5⟩ := h; exact ⟨_, ⟨s, k, n, b, h1, h2, h3, h4, rfl⟩, h5⟩
  case sidx.mpr => obtain ⟨v, ⟨s, k, n, b, h1, h2, h3, h4, rfl⟩, h5⟩ := h; exact ⟨s, k, n, b, h1, h2, h3, h4, h5⟩
  case ext.mp => obtain ⟨vs, v, h1, h2, h3⟩ := h; exact ⟨v, ⟨vs, h1, h2⟩, h3⟩
  case ext.mpr => obtain ⟨v, ⟨vs, h1, h2⟩, h3⟩ := h; exact ⟨vs, v, h1, h2, h3⟩
  case fldv.mp => obtain ⟨cs, v, h1, h2, h3⟩ := h; exact ⟨v, ⟨cs, h1, h2⟩, h3⟩
  case fldv.mpr => obtain ⟨v, ⟨cs, h1, h2⟩, h3⟩ := h; exact ⟨cs, v, h1, h2, h3⟩
  case fldn.mp => obtain ⟨cs, h1, h2⟩ := h; exact ⟨_, ⟨cs, h1, rfl⟩, h2⟩
  case fldn.mpr => obtain ⟨v, ⟨cs, h1, rfl⟩, h2⟩ := h; exact ⟨cs, h1, h2⟩
  case build.mp => obtain ⟨cs, h1, h2⟩ := h; exact ⟨_, ⟨cs, h1, rfl⟩, h2⟩
  case build.mpr => obtain ⟨v, ⟨cs, h1, rfl⟩, h2⟩ := h; exact ⟨cs, h1, h2⟩
  case mkfn.mp => exact ⟨_, rfl, h⟩
  case mkfn.mpr => obtain ⟨v, rfl, h⟩ := h; exact h
  case sub.mp => obtain ⟨a, n, c, l, hh, m, h1, h2, h3, h4, h5, h6, h7, h8⟩ := h; exact ⟨_, ⟨a, n, c, l, hh, m, h1, h2, h3, h4, h5, h6, h7, rfl⟩, h8⟩
  case sub.mpr => obtain ⟨v, ⟨a, n, c, l, hh, m, h1, h2, h3, h4, h5, h6, h7, rfl⟩, h8⟩ := h; exact ⟨a, n, c, l, hh, m, h1, h2, h3, h4, h5, h6, h7, h8⟩
  case ssub.mp => obtain ⟨s, l, hh, h1, h2, h3, h4, h5, h6⟩ := h; exact ⟨_, ⟨s, l, hh, h1, h2, h3, h4, h5, rfl⟩, h6⟩
  case ssub.mpr => obtain ⟨v, ⟨s, l, hh, h1, h2, h3, h4, h5, rfl⟩, h6⟩ := h; exact ⟨s, l, hh, h1, h2, h3, h4, h5, h6⟩
  case mnx.mp => obtain ⟨k, k', a, b, h1, h2, h3⟩ := h; exact ⟨_, ⟨k, k', a, b, h1, h2, rfl⟩, h3⟩
  case mnx.mpr => obtain ⟨v, ⟨k, k', a, b, h1, h2, rfl⟩, h3⟩ := h; exact ⟨k, k', a, b, h1, h2, h3⟩
  case conv.mp => obtain ⟨k', n, h1, h2⟩ := h; exact ⟨_, ⟨k', n, h1, rfl⟩, h2⟩
  case conv.mpr => obtain ⟨v, ⟨k', n, h1, rfl⟩, h2⟩ := h; exact ⟨k', n, h1, h2⟩
  case mki.mp => exact ⟨_, rfl, h⟩
  case mki.mpr => obtain ⟨v, rfl, h⟩ := h; exact h

theorem ev_congr {ρ ρ' : Env} {x : Operand} (h : ∀ s ∈ opT x, ρ s = ρ' s) : ρ.ev x = ρ'.ev x := by
  cases x <;> first | rfl | exact h _ (by simp [opT])
theorem bnd_congr {ρ ρ' : Env} {x : Option Operand} {d n : Nat} (h : ∀ s ∈ opoT x, ρ s = ρ' s) (hb : bnd ρ d x n) : bnd ρ' d x n := by
  cases x with
  | none => exact hb
  | some x => simp only [bnd] at hb ⊢; rw [← ev_congr (ρ := ρ) (ρ' := ρ') h]; exact hb
theorem map_ev_congr {ρ ρ' : Env} {xs : List Operand} (h : ∀ s ∈ xs.flatMap opT, ρ s = ρ' s) : xs.map ρ.ev = xs.map ρ'.ev := by
  refine List.map_congr_left fun x hx => ev_congr fun s hs => h s ?_
  exact List.mem_flatMap.2 ⟨x, hx, hs⟩
theorem map_part_congr {ρ ρ' : Env} {xs : List (Nat × Nat × Operand)} (h : ∀ s ∈ xs.flatMap (fun p => opT p.2.2), ρ s = ρ' s) :
    (xs.map fun p => (p.1, p.2.1, ρ.ev p.2.2)) = xs.map fun p => (p.1, p.2.1, ρ'.ev p.2.2) := by
  refine List.map_congr_left fun x hx => ?_
  rw [ev_congr (ρ := ρ) (ρ' := ρ') fun s hs => h s (List.mem_flatMap.2 ⟨x, hx, hs⟩)]

theorem qv_congr {P : Program} {ρ ρ' : Env} {w : World} {o : LO} {v : Value} (h : ∀ s ∈ o.uses, ρ s = ρ' s) (hv : qv P ρ w o v) : qv P ρ' w o v := by
  cases o <;> simp only [qv] at hv ⊢ <;> simp only [LO.uses, List.mem_append] at h
  case mov => rw [← ev_congr h]; exact hv
  case pick => rw [← ev_congr fun s hs => h s (.inl (.inl hs)), ← ev_congr fun s hs => h s (.inl (.inr hs)), ← ev_congr fun s hs => h s (.inr hs)]; exact hv
  case un => rw [← ev_congr h]; exact hv
  case bin => rw [← ev_congr fun s hs => h s (.inl hs), ← ev_congr fun s hs => h s (.inr hs)]; exact hv
  case nilc => rw [← ev_congr h]; exact hv
  case fld => rw [← ev_congr h]; exact hv
  case load1 => rw [← ev_congr h]; exact hv
  case loadn => rw [← ev_congr h]; exact hv
  case idx => rw [← ev_congr fun s hs => h s (.inl hs), ← ev_congr fun s hs => h s (.inr hs)]; exact hv
  case idxa => rw [← ev_congr fun s hs => h s (.inl hs), ← ev_congr fun s hs => h s (.inr hs)]; exact hv
  case len => rw [← ev_congr h]; exact hv
  case slen => rw [← ev_congr h]; exact hv
  case sidx => rw [← ev_congr fun s hs => h s (.inl hs), ← ev_congr fun s hs => h s (.inr hs)]; exact hv
  case ext => rw [← ev_congr h]; exact hv
  case fldv => rw [← ev_congr h]; exact hv
  case fldn => rw [← ev_congr h]; exact hv
  case build => rw [← map_part_congr h]; exact hv
  case mkfn => rw [← map_ev_congr h]; exact hv
  case sub =>
    rw [← ev_congr fun s hs => h s (.inl (.inl (.inl hs)))]
    obtain ⟨a, n, c, l, hh, m, h1, h2, h3, h4, h5⟩ := hv
    exact ⟨a, n, c, l, hh, m, h1, bnd_congr (fun s hs => h s (.inr hs)) h2, bnd_congr (fun s hs => h s (.inl (.inr hs))) h3, bnd_congr (fun s hs => h s (.inl (.inl (.inr hs)))) h4, h5⟩
  case ssub =>
    rw [← ev_congr fun s hs => h s (.inl (.inl hs))]
    obtain ⟨s, l, hh, h1, h2, h3, h4⟩ := hv
    exact ⟨s, l, hh, h1, bnd_congr (fun s hs => h s (.inr hs)) h2, bnd_congr (fun s hs => h s (.inl (.inr hs))) h3, h4⟩
  case mnx => rw [← ev_congr fun s hs => h s (.inl hs), ← ev_congr fun s hs => h s (.inr hs)]; exact hv
  case conv => rw [← ev_congr h]; exact hv
  case mki => rw [← ev_congr h]; exact hv
  all_goals exact hv.elim

theorem arr_ev_congr {ρ ρ' : Env} {xs : Array Operand} (h : ∀ s ∈ xs.toList.flatMap opT, ρ s = ρ' s) : xs.map ρ.ev = xs.map ρ'.ev := by
  apply Array.ext'; simpa using map_ev_congr h
theorem opt_ev_congr {ρ ρ' : Env} {x : Option Operand} (h : ∀ s ∈ opoT x, ρ s = ρ' s) : x.map ρ.ev = x.map ρ'.ev := by
  cases x with
  | none => rfl
  | some x => simp only [Option.map_some]; rw [ev_congr (ρ := ρ) (ρ' := ρ') h]

/-- The raw operations that the draw theorem takes: calls of builtins, make, and the like. -/
def rawOk : Op → Bool
  | .call ⟨.builtin _, _, _⟩ | .call ⟨.value (.func _), _, _⟩ | .makeSlice .. | .convert .. | .box .. | .load .. => true
  | _ => false

theorem exec_congr {ρ ρ' : Env} {o : Oper} (hr : rawOk o.op = true) (h : ∀ s ∈ o.op.operands.toList.flatMap opT, ρ s = ρ' s) : execOp ρ.ev o = execOp ρ'.ev o := by
  obtain ⟨dst, op, T, pos, af, g⟩ := o
  cases op <;> simp only [rawOk, Bool.false_eq_true] at hr <;> simp only [Op.operands] at h
  case call c =>
    obtain ⟨ce, xs, ts⟩ := c
    cases ce with
    | invoke => simp at hr
    | builtin b =>
      simp only [execOp, resolve]
      rw [arr_ev_congr (by simpa [Call.operands] using h)]
    | value f =>
      cases f <;> simp at hr
      rename_i f
      simp only [execOp, resolve]
      have e0 : ρ.ev (.func f) = ρ'.ev (.func f) := rfl
      have e1 : xs.map ρ.ev = xs.map ρ'.ev := arr_ev_congr (fun s hs => h s (by simpa [Call.operands, opT] using hs))
      rw [e0, e1]
  case makeSlice T l c =>
    simp only [execOp]
    rw [ev_congr (x := l) (ρ := ρ) (ρ' := ρ') (fun s hs => h s (by simp [hs])), ev_congr (x := c) (ρ := ρ) (ρ' := ρ') (fun s hs => h s (by simp [hs]))]
  case convert => simp only [execOp]; rw [ev_congr (ρ := ρ) (ρ' := ρ') (fun s hs => h s (by simpa using hs))]
  case box => simp only [execOp]; rw [ev_congr (ρ := ρ) (ρ' := ρ') (fun s hs => h s (by simpa using hs))]
  case load => simp only [execOp]; rw [ev_congr (ρ := ρ) (ρ' := ρ') (fun s hs => h s (by simpa using hs))]

def LO.takes : LO → Bool
  | .raw o => rawOk o.op
  | _ => true

/-- An operation over another environment that agrees on what it uses. -/
theorem wp_congr {P : Program} {ρ ρ' : Env} {w : World} {o : LO} {K K' : KT} {Q Q' : QT} (ht : o.takes = true) (h : ∀ s ∈ o.uses, ρ s = ρ' s)
    (hk : ∀ v w', K (updo ρ o.dst v) w' → K' (updo ρ' o.dst v) w') (hq : ∀ e w', e ≠ .normal → Q e ρ w' → Q' e ρ' w') (hw : o.wp P ρ w K Q) : o.wp P ρ' w K' Q' := by
  by_cases hqt : o.quiet = true
  · rw [quiet_wp hqt] at hw ⊢
    obtain ⟨v, h1, h2⟩ := hw
    exact ⟨v, qv_congr h h1, hk _ _ h2⟩
  · have hp : ∀ d e w', callPost K Q d ρ w e w' → (∀ v w', K (updo ρ d v) w' → K' (updo ρ' d v) w') → callPost K' Q' d ρ' w e w' := by
      intro d e w' hc hk
      cases e with
      | returned v => exact hk _ _ hc
      | panicked ch => exact hq _ _ (by simp) hc
      | outgrown => exact hq _ _ (by simp) hc
    cases o <;> simp only [LO.quiet, not_true_eq_false] at hqt <;> simp only [LO.wp] at hw ⊢ <;> simp only [LO.uses, List.mem_append] at h <;> simp only [LO.dst, updo] at hk
    case store1 =>
      obtain ⟨a, c, h1, h2, h3, h4, h5⟩ := hw
      have e1 := ev_congr (ρ := ρ) (ρ' := ρ') fun s hs => h s (.inl hs)
      have e2 := ev_congr (ρ := ρ) (ρ' := ρ') fun s hs => h s (.inr hs)
      rw [← e1, ← e2]
      exact ⟨a, c, h1, h2, h3, h4, hk undef _ h5⟩
    case storen =>
      obtain ⟨a, cs, w', h1, h2, h3, h4, h5⟩ := hw
      have e1 := ev_congr (ρ := ρ) (ρ' := ρ') fun s hs => h s (.inl hs)
      have e2 := ev_congr (ρ := ρ) (ρ' := ρ') fun s hs => h s (.inr hs)
      rw [← e1, ← e2]
      exact ⟨a, cs, w', h1, h2, h3, h4, hk undef _ h5⟩
    case alloc => exact hk _ _ hw
    case box => rw [← ev_congr h]; exact hk _ _ hw
    case call => rw [← map_ev_congr h]; exact hw.mono fun e w' hc => hp _ e w' hc hk
    case callv =>
      obtain ⟨f, fst, cap, fn, h1, h2, h3, h4, h5⟩ := hw
      rw [← ev_congr (ρ := ρ) (ρ' := ρ') fun s hs => h s (.inl hs), ← map_ev_congr (ρ := ρ) (ρ' := ρ') fun s hs => h s (.inr hs)]
      exact ⟨f, fst, cap, fn, h1, h2, h3, h4, h5.mono fun e w' hc => hp _ e w' hc hk⟩
    case buildS =>
      rw [← map_part_congr h]
      obtain ⟨cs, h1, h2⟩ := hw
      exact ⟨cs, h1, hk _ _ h2⟩
    case raw o =>
      unfold rawWp at hw ⊢
      rw [← exec_congr ht h]
      split at hw
      · exact hk _ _ hw
      · exact hk _ _ hw
      · exact hw.mono fun e w' hc => by
          cases e with
          | returned v => exact hk _ _ hc
          | panicked ch => exact hq _ _ (by simp) hc
          | outgrown => exact hq _ _ (by simp) hc
      · exact hw.mono fun v w' hc => hk _ _ hc
      · exact hq _ _ (by simp) hw
      · exact hw.elim

theorem callPost_mono {K K' : KT} {Q Q' : QT} {d : Option Nat} {ρ : Env} {w : World} (hk : ∀ ρ w, K ρ w → K' ρ w) (hq : ∀ e ρ w, e ≠ .normal → Q e ρ w → Q' e ρ w) : ∀ e w', callPost K Q d ρ w e w' → callPost K' Q' d ρ w e w' := by
  intro e w' h
  cases e with
  | returned v => exact hk _ _ h
  | panicked ch => exact hq _ _ _ (by simp) h
  | outgrown => exact hq _ _ _ (by simp) h

theorem wp_monoK {P : Program} {ρ : Env} {w : World} {o : LO} {K K' : KT} {Q Q' : QT} (hk : ∀ ρ w, K ρ w → K' ρ w) (hq : ∀ e ρ w, e ≠ .normal → Q e ρ w → Q' e ρ w) (h : o.wp P ρ w K Q) : o.wp P ρ w K' Q' := by
  by_cases hqt : o.quiet = true
  · rw [quiet_wp hqt] at h ⊢
    obtain ⟨v, h1, h2⟩ := h
    exact ⟨v, h1, hk _ _ h2⟩
  · cases o <;> simp only [LO.quiet, not_true_eq_false] at hqt <;> simp only [LO.wp] at h ⊢
    case store1 => obtain ⟨a, c, h1, h2, h3, h4, h5⟩ := h; exact ⟨a, c, h1, h2, h3, h4, hk _ _ h5⟩
    case storen => obtain ⟨a, c, w', h1, h2, h3, h4, h5⟩ := h; exact ⟨a, c, w', h1, h2, h3, h4, hk _ _ h5⟩
    case alloc => exact hk _ _ h
    case box => exact hk _ _ h
    case call => exact h.mono (callPost_mono hk hq)
    case callv => obtain ⟨f, fst, cap, fn, h1, h2, h3, h4, h5⟩ := h; exact ⟨f, fst, cap, fn, h1, h2, h3, h4, h5.mono (callPost_mono hk hq)⟩
    case buildS => obtain ⟨cs, h1, h2⟩ := h; exact ⟨cs, h1, hk _ _ h2⟩
    case raw o =>
      unfold rawWp at h ⊢
      split at h
      · exact hk _ _ h
      · exact hk _ _ h
      · exact h.mono fun e w' hc => by
          cases e with
          | returned v => exact hk _ _ hc
          | panicked ch => exact hq _ _ _ (by simp) hc
          | outgrown => exact hq _ _ _ (by simp) hc
      · exact h.mono fun v w' hc => hk _ _ hc
      · exact hq _ _ _ (by simp) h
      · exact h.elim

/-! ### Guarded operations -/

def GO.uses (g : GO) : List Nat := (match g.g with | some (s, _) => [s] | none => []) ++ g.o.uses
def GO.dst (g : GO) : Option Nat := g.o.dst

def gqv (P : Program) (ρ : Env) (w : World) (g : GO) (v : Value) : Prop := match g.g with
  | none => qv P ρ w g.o v
  | some (s, b) => if wants (ρ s) b then qv P ρ w g.o v else v = undef

theorem gqv_congr {P : Program} {ρ ρ' : Env} {w : World} {g : GO} {v : Value} (h : ∀ s ∈ g.uses, ρ s = ρ' s) (hv : gqv P ρ w g v) : gqv P ρ' w g v := by
  obtain ⟨g, o⟩ := g
  cases g with
  | none => exact qv_congr (fun s hs => h s (by simp [GO.uses, hs])) hv
  | some p =>
    obtain ⟨s, b⟩ := p
    simp only [gqv] at hv ⊢
    rw [← h s (by simp [GO.uses])]
    split
    · rename_i hw; rw [if_pos hw] at hv; exact qv_congr (fun s hs => h s (by simp [GO.uses, hs])) hv
    · rename_i hw; rw [if_neg hw] at hv; exact hv

theorem quiet_opsWp {P : Program} {ρ : Env} {w : World} {Q : QT} {g : GO} {l : List GO} (h : g.o.quiet = true) :
    opsWp P (g :: l) Q ρ w ↔ ∃ v, gqv P ρ w g v ∧ opsWp P l Q (updo ρ g.dst v) w := by
  obtain ⟨g, o⟩ := g
  cases g with
  | none => simp only [opsWp, gqv]; exact quiet_wp h
  | some p =>
    obtain ⟨s, b⟩ := p
    simp only [opsWp, gqv]
    split
    · exact quiet_wp h
    · constructor
      · intro h; exact ⟨_, rfl, h⟩
      · rintro ⟨v, rfl, h⟩; exact h

theorem opsWp_congr {P : Program} {ρ ρ' : Env} {w : World} {g : GO} {l l' : List GO} {Q Q' : QT} (ht : g.o.takes = true) (h : ∀ s ∈ g.uses, ρ s = ρ' s)
    (hk : ∀ v w', opsWp P l Q (updo ρ g.dst v) w' → opsWp P l' Q' (updo ρ' g.dst v) w') (hq : ∀ e w', e ≠ .normal → Q e ρ w' → Q' e ρ' w') (hw : opsWp P (g :: l) Q ρ w) : opsWp P (g :: l') Q' ρ' w := by
  obtain ⟨g, o⟩ := g
  cases g with
  | none => exact wp_congr ht (fun s hs => h s (by simp [GO.uses, hs])) hk hq hw
  | some p =>
    obtain ⟨s, b⟩ := p
    simp only [opsWp] at hw ⊢
    rw [← h s (by simp [GO.uses])]
    split
    · rename_i hg; rw [if_pos hg] at hw; exact wp_congr ht (fun s hs => h s (by simp [GO.uses, hs])) hk hq hw
    · rename_i hg; rw [if_neg hg] at hw; exact hk _ _ hw

/-! ### One canonical order -/

/-- A number, and: none: quiet; some none: all that stands ahead must have been done; some (some fl): of those of fl (and of what reads no memory) it need not. -/
abbrev CI := Nat × Option (Option (List Nat))

def LO.pureQ : LO → Bool
  | .load1 .. | .loadn .. => false
  | o => o.quiet

theorem qv_pure {P : Program} {ρ : Env} {w w' : World} {o : LO} {v : Value} (h : o.pureQ = true) (hv : qv P ρ w o v) : qv P ρ w' o v := by
  cases o <;> first | exact hv | (simp [LO.pureQ] at h; done)
theorem gqv_pure {P : Program} {ρ : Env} {w w' : World} {g : GO} {v : Value} (h : g.o.pureQ = true) (hv : gqv P ρ w g v) : gqv P ρ w' g v := by
  obtain ⟨g, o⟩ := g
  cases g with
  | none => exact qv_pure h hv
  | some p =>
    simp only [gqv] at hv ⊢
    split
    · rename_i hw; rw [if_pos hw] at hv; exact qv_pure h hv
    · rename_i hw; rw [if_neg hw] at hv; exact hv

def maskOf (acc : List Nat) (e : List Nat) : Nat := e.foldl (fun m j => m ||| 2 ^ j ||| acc.getD j 0) 0
def masksGo : List (List Nat) → List Nat → List Nat
  | [], acc => acc
  | e :: es, acc => masksGo es (acc ++ [maskOf acc e])
def masks (es : List (List Nat)) : List Nat := masksGo es []

def closedX (es : List (List Nat)) (X : List Nat) : Prop := ∀ k ∈ X, ∀ e ∈ es.getD k [], e ∈ X

theorem maskOf_bit (acc : List Nat) (k : Nat) : ∀ (e : List Nat) (m0 : Nat), (e.foldl (fun m j => m ||| 2 ^ j ||| acc.getD j 0) m0).testBit k = true → m0.testBit k = true ∨ ∃ j ∈ e, k = j ∨ (acc.getD j 0).testBit k = true := by
  intro e
  induction e with
  | nil => intro m0 h; exact .inl h
  | cons j e ih =>
    intro m0 h
    rcases ih _ h with h | ⟨j', hj', h⟩
    · simp only [Nat.testBit_or, Bool.or_eq_true] at h
      rcases h with (h | h) | h
      · exact .inl h
      · rw [Nat.testBit_two_pow] at h
        exact .inr ⟨j, by simp, .inl (by simpa using (of_decide_eq_true h).symm)⟩
      · exact .inr ⟨j, by simp, .inr h⟩
    · exact .inr ⟨j', by simp [hj'], h⟩

theorem masksGo_spec (all : List (List Nat)) : ∀ (es pre : List (List Nat)) (acc : List Nat), all = pre ++ es → acc.length = pre.length →
    (∀ i, ∀ j, (acc.getD i 0).testBit j = true → ∀ X, closedX all X → (∀ e ∈ all.getD i [], e ∈ X) → j ∈ X) →
    ∀ i j, ((masksGo es acc).getD i 0).testBit j = true → ∀ X, closedX all X → (∀ e ∈ all.getD i [], e ∈ X) → j ∈ X := by
  intro es
  induction es with
  | nil => intro pre acc _ _ h; exact h
  | cons e es ih =>
    intro pre acc hall hlen h
    refine ih (pre ++ [e]) (acc ++ [maskOf acc e]) (by simp [hall]) (by simp [hlen]) ?_
    intro i j hb X hX he
    simp only [List.getD_eq_getElem?_getD, List.getElem?_append] at hb
    split at hb
    · exact h i j (by simpa [List.getD_eq_getElem?_getD] using hb) X hX he
    · rename_i hi
      by_cases hi' : i = acc.length
      · subst hi'
        simp only [Nat.sub_self, List.getElem?_cons_zero, Option.getD_some] at hb
        have hei : all.getD acc.length [] = e := by rw [hlen, hall]; simp [List.getD_eq_getElem?_getD]
        rw [hei] at he
        rcases maskOf_bit acc j e 0 hb with hb | ⟨j', hj', rfl | hb⟩
        · simp at hb
        · exact he _ hj'
        · exact h j' j hb X hX (hX j' (he j' hj'))
      · rw [List.getElem?_eq_none (by simp; omega)] at hb
        simp at hb

theorem masks_spec {es : List (List Nat)} {i j : Nat} (h : ((masks es).getD i 0).testBit j = true) {X : List Nat} (hX : closedX es X) (he : ∀ e ∈ es.getD i [], e ∈ X) : j ∈ X :=
  masksGo_spec es es [] [] rfl rfl (by intro i j h; simp at h) i j h X hX he

section
variable (P : Program) (gs : List GO)

def gat (i : Nat) : GO := gs.getD i GO.nop

def panicQ (Q : QT) : QT := fun e _ w' => ∀ ρ'', Q e ρ'' w'

def canonWp : List CI → QT → Env → World → Prop
  | [], Q, ρ, w => Q .normal ρ w
  | (i, none) :: rest, Q, ρ, w => opsWp P [gat gs i] (thenQ (canonWp rest Q) Q) ρ w
  | (i, some none) :: rest, Q, ρ, w => opsWp P [gat gs i] (thenQ (canonWp rest Q) Q) ρ w
  | (i, some (some fl)) :: rest, Q, ρ, w =>
    opsWp P [gat gs i] (thenQ (fun ρ' w' => (∀ q ∈ fl, gqv P ρ w' (gat gs q) (ρ ((gat gs q).dst.getD 0))) ∧ canonWp rest Q ρ' w') (panicQ Q)) ρ w
end

def indep (a b : GO) : Bool := (match b.dst with | some d => !a.uses.contains d && !(a.dst == some d) | none => true)
def unused (a b : GO) : Bool := (match a.dst with | some d => !b.uses.contains d | none => true)

def pairOk (gs : List GO) (ms : List Nat) (a b : CI) : Bool :=
  let r := (ms.getD b.1 0).testBit a.1
  match a.2, b.2 with
  | none, some none => r
  | none, some (some fl) => r || ((fl.contains a.1 || (gat gs a.1).o.pureQ) && indep (gat gs a.1) (gat gs b.1) && unused (gat gs a.1) (gat gs b.1))
  | some _, _ => r
  | none, none => indep (gat gs a.1) (gat gs b.1) && (r || unused (gat gs a.1) (gat gs b.1))

def oneOk (gs : List GO) (a : CI) : Bool := decide (a.1 < gs.length) && (match a.2 with
  | none => (gat gs a.1).o.quiet && (match (gat gs a.1).dst with | some d => !(gat gs a.1).uses.contains d | none => false)
  | some _ => (gat gs a.1).o.takes)

def pairsOk (gs : List GO) (ms : List Nat) : List CI → Bool
  | [] => true
  | a :: l => oneOk gs a && l.all (fun b => pairOk gs ms a b && !(a.1 == b.1)) && pairsOk gs ms l

def drawOk (gs : List GO) (es : List (List Nat)) (C : List CI) : Bool :=
  decide (es.length = gs.length) && pairsOk gs (masks es) C && (List.range gs.length).all fun i => (C.map (·.1)).contains i

structure J (P : Program) (gs : List GO) (es : List (List Nat)) (C : List CI) (Q : QT) (X : List Nat) (ρS : Env) (w : World) (D rest : List CI) (ρC : Env) : Prop where
  hC : C = D ++ rest
  hX1 : ∀ i ∈ X, ∃ k, (i, k) ∈ D
  hX2 : ∀ c ∈ D, c.2.isSome = true → c.1 ∈ X
  hcl : closedX es X
  hslot : ∀ s, (∀ c ∈ D, c.1 ∉ X → (gat gs c.1).dst ≠ some s) → ρS s = ρC s
  hpend : ∀ c ∈ D, c.1 ∉ X → gqv P ρC w (gat gs c.1) (ρC ((gat gs c.1).dst.getD 0))
  hcan : canonWp P gs rest Q ρC w

theorem pairsOk_split {gs : List GO} {ms : List Nat} : ∀ {D rest : List CI}, pairsOk gs ms (D ++ rest) = true → ∀ a ∈ D, ∀ b ∈ rest, pairOk gs ms a b = true ∧ a.1 ≠ b.1 := by
  intro D
  induction D with
  | nil => intro rest _ a ha; cases ha
  | cons c D ih =>
    intro rest h a ha b hb
    simp only [List.cons_append, pairsOk, Bool.and_eq_true] at h
    rcases List.mem_cons.1 ha with rfl | ha
    · have := List.all_eq_true.1 h.1.2 b (by simp [hb])
      simp only [Bool.and_eq_true, Bool.not_eq_true', beq_eq_false_iff_ne] at this
      exact this
    · exact ih h.2 a ha b hb

theorem pairsOk_one {gs : List GO} {ms : List Nat} : ∀ {C : List CI}, pairsOk gs ms C = true → ∀ a ∈ C, oneOk gs a = true := by
  intro C
  induction C with
  | nil => intro _ a ha; cases ha
  | cons c C ih =>
    intro h a ha
    simp only [pairsOk, Bool.and_eq_true] at h
    rcases List.mem_cons.1 ha with rfl | ha
    · exact h.1.1
    · exact ih h.2 a ha

/-- Of two that are in the list one stands ahead of the other. -/
theorem pairsOk_two {gs : List GO} {ms : List Nat} : ∀ {C : List CI}, pairsOk gs ms C = true → ∀ a ∈ C, ∀ b ∈ C, a = b ∨ (pairOk gs ms a b = true ∧ a.1 ≠ b.1) ∨ (pairOk gs ms b a = true ∧ b.1 ≠ a.1) := by
  intro C
  induction C with
  | nil => intro _ a ha; cases ha
  | cons c C ih =>
    intro h a ha b hb
    simp only [pairsOk, Bool.and_eq_true] at h
    have hall : ∀ x ∈ C, pairOk gs ms c x = true ∧ c.1 ≠ x.1 := by
      intro x hx
      have := List.all_eq_true.1 h.1.2 x hx
      simpa [Bool.and_eq_true] using this
    rcases List.mem_cons.1 ha with hac | ha
    · rcases List.mem_cons.1 hb with hbc | hb
      · exact .inl (hac.trans hbc.symm)
      · rw [hac]; exact .inr (.inl (hall b hb))
    · rcases List.mem_cons.1 hb with hbc | hb
      · rw [hbc]; exact .inr (.inr (hall a ha))
      · exact ih h.2 a ha b hb

theorem indep_spec {a b : GO} (h : indep a b = true) {d : Nat} (hd : b.dst = some d) : d ∉ a.uses ∧ a.dst ≠ some d := by
  unfold indep at h
  rw [hd] at h
  simp only [Bool.and_eq_true, Bool.not_eq_true', List.contains_eq_mem, decide_eq_false_iff_not, beq_eq_false_iff_ne] at h
  exact h
theorem unused_spec {a b : GO} (h : unused a b = true) {d : Nat} (hd : a.dst = some d) : d ∉ b.uses := by
  unfold unused at h
  rw [hd] at h
  simpa using h

theorem updo_other {ρ : Env} {d : Option Nat} {v : Value} {s : Nat} (h : d ≠ some s) : updo ρ d v s = ρ s := by
  cases d with
  | none => rfl
  | some d =>
    have : s ≠ d := fun e => h (by rw [e])
    simp only [updo, upd]
    cases hb : Nat.beq s d
    · rfl
    · exact absurd (Nat.eq_of_beq_eq_true hb) this
theorem updo_same {ρ : Env} {v : Value} {s : Nat} : updo ρ (some s) v s = v := by
  simp [updo, upd, Nat.beq_refl]

/-- The canonical run goes ahead over what is quiet. -/
theorem J.advance {P : Program} {gs : List GO} {es : List (List Nat)} {C : List CI} {Q : QT} {X : List Nat} {ρS : Env} {w : World} (hok : pairsOk gs (masks es) C = true) :
    ∀ (rest D : List CI) (ρC : Env), J P gs es C Q X ρS w D rest ρC → ∃ D' rest' ρC', J P gs es C Q X ρS w D' rest' ρC' ∧ (rest' = [] ∨ ∃ f fl r, rest' = (f, some fl) :: r) := by
  intro rest
  induction rest with
  | nil => intro D ρC h; exact ⟨D, [], ρC, h, .inl rfl⟩
  | cons c rest ih =>
    intro D ρC h
    obtain ⟨i, k⟩ := c
    cases k with
    | some fl => exact ⟨D, _, ρC, h, .inr ⟨i, fl, rest, rfl⟩⟩
    | none =>
      have hiC : (i, none) ∈ C := by rw [h.hC]; simp
      have h1 := pairsOk_one hok _ hiC
      simp only [oneOk, Bool.and_eq_true] at h1
      obtain ⟨_, hq, hd⟩ := h1
      cases hdst : (gat gs i).dst with
      | none => simp [hdst] at hd
      | some d =>
        simp only [hdst, Bool.not_eq_true', List.contains_eq_mem, decide_eq_false_iff_not] at hd
        have hcan := h.hcan
        simp only [canonWp] at hcan
        obtain ⟨v, hv, hcan⟩ := (quiet_opsWp hq).1 hcan
        simp only [opsWp, thenQ] at hcan
        have hsplit := pairsOk_split (D := D) (rest := (i, none) :: rest) (by rw [← h.hC]; exact hok)
        have hiX : i ∉ X := by
          intro hx
          obtain ⟨k, hk⟩ := h.hX1 i hx
          exact (hsplit _ hk (i, none) (by simp)).2 rfl
        -- what is pending ahead of i
        have hind : ∀ c ∈ D, c.1 ∉ X → d ∉ (gat gs c.1).uses ∧ (gat gs c.1).dst ≠ some d := by
          intro c hc hcX
          have hp := (hsplit c hc (i, none) (by simp)).1
          have hcn : c.2 = none := by
            cases hk : c.2 with
            | none => rfl
            | some fl => exact absurd (h.hX2 c hc (by simp [hk])) hcX
          simp only [pairOk, hcn, Bool.and_eq_true] at hp
          exact indep_spec hp.1 hdst
        refine ih (D ++ [(i, none)]) (updo ρC (gat gs i).dst v) ?_
        refine ⟨by rw [h.hC]; simp, ?_, ?_, h.hcl, ?_, ?_, hcan⟩
        · intro j hj; obtain ⟨k, hk⟩ := h.hX1 j hj; exact ⟨k, by simp [hk]⟩
        · intro c hc hs
          rcases List.mem_append.1 hc with hc | hc
          · exact h.hX2 c hc hs
          · simp only [List.mem_singleton] at hc; subst hc; simp at hs
        · intro s hs
          have hds : (gat gs i).dst ≠ some s := hs (i, none) (by simp) hiX
          rw [updo_other hds]
          exact h.hslot s fun c hc => hs c (by simp [hc])
        · intro c hc hcX
          rcases List.mem_append.1 hc with hc | hc
          · obtain ⟨h2, h3⟩ := hind c hc hcX
            have he : ∀ s ∈ (gat gs c.1).uses, ρC s = updo ρC (gat gs i).dst v s := by
              intro s hs
              rw [updo_other]
              rw [hdst]
              intro e
              simp only [Option.some.injEq] at e
              subst e; exact h2 hs
            have hdc : updo ρC (gat gs i).dst v ((gat gs c.1).dst.getD 0) = ρC ((gat gs c.1).dst.getD 0) := by
              rw [updo_other]
              rw [hdst]
              intro e
              simp only [Option.some.injEq] at e
              have hcC := pairsOk_one hok c (by rw [h.hC]; simp [hc])
              have hcn : c.2 = none := by
                cases hk : c.2 with
                | none => rfl
                | some fl => exact absurd (h.hX2 c hc (by simp [hk])) hcX
              simp only [oneOk, hcn, Bool.and_eq_true] at hcC
              cases hdc : (gat gs c.1).dst with
              | none => simp [hdc] at hcC
              | some d' => rw [hdc] at e h3; simp at e; subst e; exact h3 rfl
            rw [hdc]
            exact gqv_congr he (h.hpend c hc hcX)
          · simp only [List.mem_singleton] at hc
            subst hc
            have he : ∀ s ∈ (gat gs i).uses, ρC s = updo ρC (gat gs i).dst v s := by
              intro s hs
              rw [updo_other]
              rw [hdst]
              intro e
              simp only [Option.some.injEq] at e
              subst e; exact hd hs
            have hval : updo ρC (gat gs i).dst v ((gat gs i).dst.getD 0) = v := by rw [hdst]; exact updo_same
            simp only [hval]
            exact gqv_congr he hv

theorem draw_step {P : Program} {gs : List GO} {es : List (List Nat)} {C : List CI} {Q : QT} (hlen : es.length = gs.length) (hok : pairsOk gs (masks es) C = true) (hall : ∀ i, i < gs.length → ∃ k, (i, k) ∈ C) :
    ∀ (l X : List Nat) (ρS : Env) (w : World) (D rest : List CI) (ρC : Env), Lin es X l → J P gs es C Q X ρS w D rest ρC → opsWp P (l.map (gat gs)) Q ρS w := by
  intro l
  induction l with
  | nil =>
    intro X ρS w D rest ρC hl hJ
    obtain ⟨D, rest, ρC, hJ, hr⟩ := J.advance hok rest D ρC hJ
    simp only [Lin] at hl
    have hX : ∀ i, i < gs.length → i ∈ X := fun i hi => hl i (by omega)
    have hone := pairsOk_one hok
    have hrest : rest = [] := by
      rcases hr with hr | ⟨f, fl, r, hr⟩
      · exact hr
      · exfalso
        have hf := hone (f, some fl) (by rw [hJ.hC, hr]; simp)
        simp only [oneOk, Bool.and_eq_true, decide_eq_true_eq] at hf
        obtain ⟨k, hk⟩ := hJ.hX1 f (hX f hf.1)
        exact (pairsOk_split (D := D) (rest := rest) (by rw [← hJ.hC]; exact hok) _ hk (f, some fl) (by rw [hr]; simp)).2 rfl
    have hpe : ρS = ρC := funext fun s => hJ.hslot s fun c hc hcX => by
      have hf := hone c (by rw [hJ.hC]; simp [hc])
      simp only [oneOk, Bool.and_eq_true, decide_eq_true_eq] at hf
      exact absurd (hX c.1 hf.1) hcX
    have hcan := hJ.hcan
    rw [hrest] at hcan
    simp only [canonWp] at hcan
    rw [hpe]
    exact hcan
  | cons i l ih =>
    intro X ρS w D rest ρC hl hJ
    obtain ⟨D, rest, ρC, hJ, hr⟩ := J.advance hok rest D ρC hJ
    simp only [Lin] at hl
    obtain ⟨hil, hiX, hie, hl⟩ := hl
    obtain ⟨k, hiC⟩ := hall i (by omega)
    have hone := pairsOk_one hok
    have hcl' : closedX es (i :: X) := by
      intro j hj e he
      rcases List.mem_cons.1 hj with rfl | hj
      · exact List.mem_cons.2 (.inr (hie e he))
      · exact List.mem_cons.2 (.inr (hJ.hcl j hj e he))
    have hanc : ∀ j, ((masks es).getD i 0).testBit j = true → j ∈ X := fun j hj => masks_spec hj hJ.hcl hie
    have hpq : ∀ c ∈ D, c.1 ∉ X → c.2 = none := by
      intro c hc hcX
      cases hk : c.2 with
      | none => rfl
      | some fl => exact absurd (hJ.hX2 c hc (by simp [hk])) hcX
    rw [hJ.hC] at hiC
    simp only [List.map_cons]
    rcases List.mem_append.1 hiC with hiD | hiR
    · -- it was done in the canonical run
      have hkn : k = none := hpq (i, k) hiD hiX
      subst hkn
      have ho := hone (i, none) (by rw [hJ.hC]; simp [hiD])
      simp only [oneOk, Bool.and_eq_true] at ho
      obtain ⟨_, hq, hd⟩ := ho
      have hp := hJ.hpend (i, none) hiD hiX
      simp only at hp
      cases hdst : (gat gs i).dst with
      | none => simp [hdst] at hd
      | some d =>
        simp only [hdst, Bool.not_eq_true', List.contains_eq_mem, decide_eq_false_iff_not] at hd
        rw [hdst, Option.getD_some] at hp
        have huse : ∀ s ∈ (gat gs i).uses, ρC s = ρS s := by
          intro s hs
          refine (hJ.hslot s fun c hc hcX hcd => ?_).symm
          have hcn := hpq c hc hcX
          have hcC : c ∈ C := by rw [hJ.hC]; simp [hc]
          have hiC' : (i, none) ∈ C := by rw [hJ.hC]; simp [hiD]
          rcases pairsOk_two hok c hcC (i, none) hiC' with rfl | ⟨h1, _⟩ | ⟨h1, _⟩
          · rw [hdst] at hcd; simp only [Option.some.injEq] at hcd; subst hcd; exact hd hs
          · simp only [pairOk, hcn, Bool.and_eq_true, Bool.or_eq_true] at h1
            rcases h1.2 with h2 | h2
            · exact hcX (hanc _ h2)
            · exact unused_spec h2 hcd hs
          · simp only [pairOk, hcn, Bool.and_eq_true] at h1
            exact (indep_spec h1.1 hcd).1 hs
        refine (quiet_opsWp hq).2 ⟨ρC d, gqv_congr huse hp, ?_⟩
        refine ih (i :: X) _ w D rest ρC hl ⟨hJ.hC, ?_, ?_, hcl', ?_, ?_, hJ.hcan⟩
        · intro j hj
          rcases List.mem_cons.1 hj with rfl | hj
          · exact ⟨none, hiD⟩
          · exact hJ.hX1 j hj
        · intro c hc hs; exact List.mem_cons.2 (.inr (hJ.hX2 c hc hs))
        · intro s hs
          by_cases hsd : s = d
          · subst hsd; rw [hdst, updo_same]
          · rw [updo_other (by rw [hdst]; intro e; simp only [Option.some.injEq] at e; exact hsd e.symm)]
            refine hJ.hslot s fun c hc hcX => ?_
            by_cases hci : c.1 = i
            · rw [hci, hdst]; intro e; simp only [Option.some.injEq] at e; exact hsd e.symm
            · exact hs c hc (by simp [hci, hcX])
        · intro c hc hcX
          exact hJ.hpend c hc fun h => hcX (List.mem_cons.2 (.inr h))
    · -- it stands ahead: it is the next one
      rcases hr with hr | ⟨f, fl, r, hr⟩
      · rw [hr] at hiR; cases hiR
      · subst hr
        have hfX : f ∉ X := by
          intro hx
          obtain ⟨k', hk'⟩ := hJ.hX1 f hx
          exact (pairsOk_split (D := D) (rest := (f, some fl) :: r) (by rw [← hJ.hC]; exact hok) _ hk' (f, some fl) (by simp)).2 rfl
        have hif : (i, k) = (f, some fl) := by
          rcases List.mem_cons.1 hiR with h | h
          · exact h
          · exfalso
            have hsp := pairsOk_split (D := D ++ [(f, some fl)]) (rest := r) (by rw [hJ.hC] at hok; simpa using hok)
            have hp := (hsp (f, some fl) (by simp) (i, k) h).1
            simp only [pairOk] at hp
            exact hfX (hanc f hp)
        simp only [Prod.mk.injEq] at hif
        obtain ⟨rfl, rfl⟩ := hif
        have ho := hone (i, some fl) (by rw [hJ.hC]; simp)
        simp only [oneOk, Bool.and_eq_true] at ho
        have hsp := pairsOk_split (D := D) (rest := (i, some fl) :: r) (by rw [← hJ.hC]; exact hok)
        -- behind the fenced operation
        have done : ∀ (v : Value) (w' : World), (∀ c ∈ D, c.1 ∉ X → (indep (gat gs c.1) (gat gs i) = true ∧ unused (gat gs c.1) (gat gs i) = true) ∧ gqv P ρC w' (gat gs c.1) (ρC ((gat gs c.1).dst.getD 0))) →
            canonWp P gs r Q (updo ρC (gat gs i).dst v) w' → opsWp P (l.map (gat gs)) Q (updo ρS (gat gs i).dst v) w' := by
          intro v w' hst hk
          refine ih (i :: X) _ w' (D ++ [(i, some fl)]) r _ hl ⟨by rw [hJ.hC]; simp, ?_, ?_, hcl', ?_, ?_, hk⟩
          · intro j hj
            rcases List.mem_cons.1 hj with rfl | hj
            · exact ⟨some fl, by simp⟩
            · obtain ⟨k, hk⟩ := hJ.hX1 j hj; exact ⟨k, by simp [hk]⟩
          · intro c hc hs
            rcases List.mem_append.1 hc with hc | hc
            · exact List.mem_cons.2 (.inr (hJ.hX2 c hc hs))
            · simp only [List.mem_singleton] at hc; subst hc; simp
          · intro s hs
            by_cases hsd : (gat gs i).dst = some s
            · rw [hsd, updo_same, updo_same]
            · rw [updo_other hsd, updo_other hsd]
              refine hJ.hslot s fun c hc hcX => hs c (by simp [hc]) ?_
              intro hm
              rcases List.mem_cons.1 hm with h | h
              · exact (hsp c hc (i, some fl) (by simp)).2 h
              · exact hcX h
          · intro c hc hcX
            rcases List.mem_append.1 hc with hc | hc
            · have hcX' : c.1 ∉ X := fun h => hcX (List.mem_cons.2 (.inr h))
              obtain ⟨⟨h2, h3⟩, hs⟩ := hst c hc hcX'
              have hcC := hone c (by rw [hJ.hC]; simp [hc])
              simp only [oneOk, hpq c hc hcX', Bool.and_eq_true] at hcC
              have hind : ∀ s, ((s ∈ (gat gs c.1).uses) ∨ (gat gs c.1).dst = some s) → (gat gs i).dst ≠ some s := by
                intro s hs hd
                have := indep_spec h2 hd
                rcases hs with hs | hs
                · exact this.1 hs
                · exact this.2 hs
              have hdc : updo ρC (gat gs i).dst v ((gat gs c.1).dst.getD 0) = ρC ((gat gs c.1).dst.getD 0) := by
                cases hd : (gat gs c.1).dst with
                | none => simp [hd] at hcC
                | some d' => rw [updo_other (hind _ (.inr (by rw [hd]; rfl)))]
              rw [hdc]
              exact gqv_congr (fun s hs => (updo_other (hind s (.inl hs))).symm) hs
            · simp only [List.mem_singleton] at hc
              subst hc
              exact absurd (List.mem_cons.2 (.inl rfl)) hcX
        have hcan := hJ.hcan
        cases fl with
        | none =>
          have hnone : ∀ c ∈ D, ¬ (c.1 ∉ X) := by
            intro c hc hcX
            have hp := (hsp c hc (i, some none) (by simp)).1
            simp only [pairOk, hpq c hc hcX] at hp
            exact hcX (hanc _ hp)
          have hpe : ρS = ρC := funext fun s => hJ.hslot s fun c hc hcX => absurd hcX (hnone c hc)
          simp only [canonWp] at hcan
          refine opsWp_congr ho.2 (fun s hs => by rw [hpe]) ?_ ?_ hcan
          · intro v w' hk
            simp only [opsWp, thenQ] at hk
            exact done v w' (fun c hc hcX => absurd hcX (hnone c hc)) hk
          · intro e w' hne hq
            rw [hpe]
            cases e <;> first | exact hq | exact absurd rfl hne
        | some fl =>
          simp only [canonWp] at hcan
          have hfloat : ∀ c ∈ D, c.1 ∉ X → (c.1 ∈ fl ∨ (gat gs c.1).o.pureQ = true) ∧ indep (gat gs c.1) (gat gs i) = true ∧ unused (gat gs c.1) (gat gs i) = true := by
            intro c hc hcX
            have hp := (hsp c hc (i, some (some fl)) (by simp)).1
            simp only [pairOk, hpq c hc hcX, Bool.or_eq_true, Bool.and_eq_true] at hp
            rcases hp with hp | ⟨⟨h1, h2⟩, h3⟩
            · exact absurd (hanc _ hp) hcX
            · exact ⟨h1.imp (by simp) id, h2, h3⟩
          refine opsWp_congr ho.2 (fun s hs => (hJ.hslot s fun c hc hcX hcd => unused_spec (hfloat c hc hcX).2.2 hcd hs).symm) ?_ ?_ hcan
          · intro v w' hk
            simp only [opsWp, thenQ] at hk
            obtain ⟨hst, hk⟩ := hk
            refine done v w' (fun c hc hcX => ?_) hk
            obtain ⟨h1, h2, h3⟩ := hfloat c hc hcX
            refine ⟨⟨h2, h3⟩, ?_⟩
            rcases h1 with h1 | h1
            · exact hst c.1 h1
            · exact gqv_pure h1 (hJ.hpend c hc hcX)
          · intro e w' hne hq
            have hq' : panicQ Q e ρC w' := by cases e <;> first | exact hq | exact absurd rfl hne
            exact hq' ρS

/-- A region that draws its order: one canonical order stands for all. -/
theorem draw_canon {P : Program} {gs : List GO} {es : List (List Nat)} {Q : QT} {ρ : Env} {w : World} (C : List CI) (hok : drawOk gs es C = true) (h : canonWp P gs C Q ρ w.drew) : (LC.draw gs es).wp P Q ρ w := by
  simp only [drawOk, Bool.and_eq_true, decide_eq_true_eq] at hok
  obtain ⟨⟨hlen, hp⟩, hall⟩ := hok
  intro l hl
  refine draw_step hlen hp ?_ l [] ρ w.drew [] C ρ hl ⟨by simp, (by simp), (by simp), (fun k hk => absurd hk (by simp)), (fun s _ => rfl), (by simp), h⟩
  intro i hi
  have := List.all_eq_true.1 hall i (by simpa using hi)
  simp only [List.contains_eq_mem, decide_eq_true_eq, List.mem_map] at this
  obtain ⟨⟨j, k⟩, hc, rfl⟩ := this
  exact ⟨k, hc⟩

/-- Where nothing floats: just the operations in that order. -/
theorem canon_plain {P : Program} {gs : List GO} {Q : QT} : ∀ (C : List CI), (C.all fun c => match c.2 with | some (some _) => false | _ => true) = true → ∀ ρ w, opsWp P (C.map fun c => gat gs c.1) Q ρ w → canonWp P gs C Q ρ w := by
  intro C
  induction C with
  | nil => intro _ ρ w h; exact h
  | cons c C ih =>
    intro hc ρ w h
    simp only [List.all_cons, Bool.and_eq_true] at hc
    obtain ⟨i, k⟩ := c
    have key : ∀ {g : GO} {l : List GO} {K : KT} {ρ w}, (∀ ρ w, opsWp P l Q ρ w → K ρ w) → opsWp P (g :: l) Q ρ w → opsWp P [g] (thenQ K Q) ρ w := by
      intro g l K ρ w hk h
      have hwp : ∀ {o : LO} {ρ w}, o.wp P ρ w (opsWp P l Q) Q → o.wp P ρ w (opsWp P [] (thenQ K Q)) (thenQ K Q) := by
        intro o ρ w h
        exact wp_monoK (fun ρ w h => hk ρ w h) (fun e ρ w hne h => by cases e <;> first | exact h | exact absurd rfl hne) h
      obtain ⟨g, o⟩ := g
      cases g with
      | none => exact hwp h
      | some p =>
        obtain ⟨s, b⟩ := p
        simp only [opsWp] at h ⊢
        split
        · rename_i hg; rw [if_pos hg] at h; exact hwp h
        · rename_i hg; rw [if_neg hg] at h; exact hk _ _ h
    simp only [List.map_cons] at h
    cases k with
    | none => exact key (fun ρ w h => ih hc.2 ρ w h) h
    | some fl =>
      cases fl with
      | some fl => simp at hc
      | none => exact key (fun ρ w h => ih hc.2 ρ w h) h

/-- The same, over the list itself. -/
theorem draw_plain {P : Program} {gs : List GO} {es : List (List Nat)} {Q : QT} {ρ : Env} {w : World} (C : List CI) (hok : drawOk gs es C = true)
    (hpl : (C.all fun c => match c.2 with | some (some _) => false | _ => true) = true) (h : opsWp P (C.map fun c => gat gs c.1) Q ρ w.drew) : (LC.draw gs es).wp P Q ρ w :=
  draw_canon C hok (canon_plain C hpl _ _ h)

end Go.Lir
