/- The lowering of single operations is sound. -/
import Derived.Test.YthdkbdnbflkagaaGreatDoorLir
namespace Go.Lir

section
variable {P : Program} {o : Oper} {ρ : Env} {w w' : World} {K : KT} {Q : QT} {v : Value}

theorem raw_val (h : (execOp ρ.ev o).run P w = .ok (.value v) w') (hk : K (updo ρ o.dst v) w') : rawWp P o ρ w K Q := by
  unfold rawWp; rw [h]; exact hk
theorem raw_skip (h : (execOp ρ.ev o).run P w = .ok .skip w') (hk : K (updo ρ o.dst undef) w') : rawWp P o ρ w K Q := by
  unfold rawWp; rw [h]; exact hk
end

theorem run_typeInfo (P : Program) (T : TypeId) (i : TypeInfo) (w : World) (h : P.info? T = some i) : (typeInfo T).run P w = .ok i w := by
  simp [typeInfo, h]
theorem run_sizeOf' (P : Program) (T : TypeId) (n : Nat) (w : World) (h : sizeT P T = some n) : (sizeOf T).run P w = .ok n w := by
  unfold sizeT at h
  cases hi : P.info? T with
  | none => simp [hi] at h
  | some i => simp [hi] at h; simp [sizeOf, run_typeInfo P T i w hi, h]
theorem run_zeroValue' (P : Program) (T : TypeId) (z : Value) (w : World) (h : zeroT P T = some z) : (zeroValue T).run P w = .ok z w := by
  unfold zeroT at h
  cases hi : P.info? T with
  | none => simp [hi] at h
  | some i => simp [hi] at h; simp [zeroValue, run_typeInfo P T i w hi, h]
theorem run_underlying' (P : Program) (T : TypeId) (d : TypeDesc) (w : World) (h : P.underlying T = some d) : (underlying T).run P w = .ok d w := by
  simp [underlying, h]
theorem run_isAgg_scalar (P : Program) (T : TypeId) (w : World) (h : scalarT P T = true) : (isAgg T).run P w = .ok false w := by
  unfold scalarT at h
  cases hu : P.underlying T with
  | none => simp [hu] at h
  | some d => simp [isAgg, run_underlying' P T d w hu]; cases d <;> simp [hu] at h ⊢
theorem run_isAgg_agg (P : Program) (T : TypeId) (w : World) (h : aggT P T = true) : (isAgg T).run P w = .ok true w := by
  unfold aggT at h
  cases hu : P.underlying T with
  | none => simp [hu] at h
  | some d => simp [isAgg, run_underlying' P T d w hu]; cases d <;> simp [hu] at h ⊢

theorem add_zero_addr (a : Addr) : a.add 0 = a := rfl

theorem run_part (P : Program) (T : TypeId) (cs : Array Value) (off : Nat) (v : Value) (w : World) (h : scalarT P T = true) (hv : cs[off]? = some v) :
    (part T cs off).run P w = .ok v w := by
  simp [part, run_isAgg_scalar P T w h, hv]
theorem run_partn (P : Program) (T : TypeId) (cs : Array Value) (off n : Nat) (w : World) (h : aggT P T = true) (hn : sizeT P T = some n) :
    (part T cs off).run P w = .ok (.agg (cs.extract off (off + n))) w := by
  simp [part, run_isAgg_agg P T w h, run_sizeOf' P T n w hn]

theorem splice_list (v : List Value) : ∀ (k off : Nat) (cs : Array Value), off + k + v.length ≤ cs.size →
    ((v.zipIdx k).foldl (fun cs (c, j) => cs.setIfInBounds (off + j) c) cs).toList = cs.toList.take (off + k) ++ (v ++ cs.toList.drop (off + k + v.length)) := by
  induction v with
  | nil => intro k off cs h; simp
  | cons c v ih =>
    intro k off cs h
    simp only [List.zipIdx_cons, List.foldl_cons]
    simp only [List.length_cons] at h
    rw [show off + k + (c :: v).length = off + (k + 1) + v.length by simp; omega, ih (k + 1) off _ (by simp; omega)]
    have hsz : cs.toList.length = cs.size := Array.length_toList
    have hl : off + k < cs.toList.length := by omega
    simp only [Array.toList_setIfInBounds]
    generalize cs.toList = l at hsz hl ⊢
    rw [← Nat.add_assoc, List.set_eq_take_append_cons_drop, if_pos hl]
    have hm : (l.take (off + k)).length = off + k := by simp; omega
    have e1 : List.take (off + k + 1) (l.take (off + k) ++ c :: l.drop (off + k + 1)) = l.take (off + k) ++ [c] := by
      rw [List.take_append, hm, List.take_of_length_le (by omega), show off + k + 1 - (off + k) = 1 by omega]; rfl
    have e2 : List.drop (off + k + 1 + v.length) (l.take (off + k) ++ c :: l.drop (off + k + 1)) = l.drop (off + k + 1 + v.length) := by
      rw [List.drop_append, hm, List.drop_of_length_le (by omega), show off + k + 1 + v.length - (off + k) = v.length + 1 by omega]
      simp [Nat.add_comm, Nat.add_left_comm, Nat.add_assoc]
    rw [e1, e2]
    simp

theorem fill_fillL (place : Nat → Option (Nat × Nat)) (ρ : Env) : ∀ (ps : List (Nat × Operand)) (l : List (Nat × Nat × Operand)) (cells : Array Value) (cs : List Value),
    partsT place ps = some l → fillL cells.toList (l.map fun p => (p.1, p.2.1, ρ.ev p.2.2)) = some cs →
    Instr.fill place cells (ps.map fun p => (p.1, ρ.ev p.2)) = some ⟨cs⟩ := by
  intro ps
  induction ps with
  | nil => intro l cells cs h1 h2; simp [partsT] at h1; subst h1; simp [fillL] at h2; subst h2; simp [Instr.fill]
  | cons p ps ih =>
    obtain ⟨i, x⟩ := p
    intro l cells cs h1 h2
    simp only [partsT] at h1
    split at h1
    · rename_i off s r hpl hr
      simp only [Option.some.injEq] at h1
      subst h1
      simp only [List.map_cons, fillL] at h2
      split at h2
      · rename_i hc
        have hlen : (ρ.ev x).cells.toList.length = s := by simpa using hc.1
        have hsz : cells.toList.length = cells.size := Array.length_toList
        simp only [List.map_cons, Instr.fill, hpl]
        rw [if_neg (by have h4 := hc.2; have h3 : (ρ.ev x).cells.size = s := hc.1; simp only [Bool.or_eq_true, decide_eq_true_eq]; rintro (h | h); exact h h3; omega)]
        refine ih r _ cs hr ?_
        have := splice_list (ρ.ev x).cells.toList 0 off cells (by have := hc.2; omega)
        rw [← Array.foldl_toList, Array.toList_zipIdx, this, Nat.add_zero, hlen]
        exact h2
      · cases h2
    · cases h1

section
variable {P : Program} {ρ : Env} {w : World} {K : KT} {Q : QT}

theorem run_loadCells_cells (a : Addr) (n : Nat) (cs : List Value) (h : cellsAt w a n cs) : (loadCells a n).run P w = .ok ⟨cs⟩ w := by
  obtain ⟨hl, hc⟩ := h
  subst hl
  exact run_loadCells_list (P := P) (w := w) a cs (fun j v hj => by
    have : j < cs.length := by
      rcases Nat.lt_or_ge j cs.length with h | h
      · exact h
      · simp [List.getElem?_eq_none h] at hj
    rw [hc j this, hj])

theorem scalar_not_agg {T : TypeId} (h : aggT P T = true) : scalarT P T = false := by
  unfold aggT at h; unfold scalarT
  cases hu : P.underlying T with
  | none => rfl
  | some d => cases d <;> simp [hu] at h ⊢

theorem calls_post {f : FuncId} {args : Array Value} {d : Option Nat} (h : Calls P f args w (callPost K Q d ρ w)) :
    Calls P f args w fun
      | .returned v, w'' => K (updo ρ d v) w''
      | .panicked chain, w'' => Q (.panic chain) ρ w''
      | .outgrown, _ => Q .outgrown ρ w :=
  h.mono fun e w' h => by cases e <;> exact h

theorem run_callFunc {f : FuncId} {fn : Func} (args : Array Value) (hf : P.funcs[f]? = some fn) (hb : fn.body.isSome = true) (hn : (fn.name == "runtime.NumGoroutine") = false) :
    (callFunc f args).run P w = .ok (.enter f args) w := by
  have hb' : fn.body.isNone = false := by cases h : fn.body <;> simp_all
  simp only [callFunc, Sem.run_bind, run_program, Result.andThen_ok, hf, hn, hb']
  rfl

theorem raw_call_sound {d : Option Nat} {T : TypeId} {pos : String} {af : Array Edge} {g : Option (Nat × Bool)} {x : Operand} {xs : Array Operand} {ts : Array TypeId} {f : FuncId} {fst cap : Array Value} {fn : Func}
    (hx : ρ.ev x = .func (.func f) fst cap) (hf : P.funcs[f]? = some fn) (hb : fn.body.isSome = true) (hn : (fn.name == "runtime.NumGoroutine") = false)
    (h : Calls P f (fst ++ ⟨xs.toList.map ρ.ev⟩ ++ cap) w (callPost K Q d ρ w)) :
    rawWp P ⟨d, .call ⟨.value x, xs, ts⟩, T, pos, af, g⟩ ρ w K Q := by
  have e : (execOp ρ.ev ⟨d, .call ⟨.value x, xs, ts⟩, T, pos, af, g⟩).run P w = .ok (.enter f (fst ++ xs.map ρ.ev ++ cap)) w := by
    simp only [execOp, resolve, hx, Deferred.ofValue, Sem.run_bind, Sem.run_pure, Result.andThen_ok, invoke]
    rw [run_callFunc _ hf hb hn]
  unfold rawWp
  rw [e]
  have he : (⟨xs.toList.map ρ.ev⟩ : Array Value) = xs.map ρ.ev := by
    apply Array.ext'; simp
  rw [he] at h
  exact calls_post h

theorem goFunc_spec {f : FuncId} (h : goFunc P f = true) : ∃ fn, P.funcs[f]? = some fn ∧ fn.body.isSome = true ∧ (fn.name == "runtime.NumGoroutine") = false := by
  unfold goFunc at h
  cases hf : P.funcs[f]? with
  | none => simp [hf] at h
  | some fn => exact ⟨fn, rfl, by simpa [hf] using h⟩

theorem fieldOf_spec {S f off t} (h : fieldOf P S f = some (off, t)) : ∃ fs fl, P.underlying S = some (.struct fs) ∧ fs[f]? = some fl ∧ fl.offset = off ∧ fl.type = t := by
  unfold fieldOf at h
  split at h
  · rename_i fs hu
    cases hf : fs[f]? with
    | none => simp [hf] at h
    | some fl => simp [hf] at h; exact ⟨fs, fl, hu, hf, h.1, h.2⟩
  · cases h
theorem elemT_spec {T e} (h : elemT P T = some e) : P.underlying T = some (.slice e) := by
  unfold elemT at h; split at h <;> simp_all
theorem arrT_spec {T n e} (h : arrT P T = some (n, e)) : P.underlying T = some (.array n e) := by
  unfold arrT at h; split at h <;> simp_all
theorem isStrT_spec {T} (h : isStrT P T = true) : P.underlying T = some .string := by
  unfold isStrT at h; split at h <;> simp_all

theorem mapM_places (fs : List Field) (w : World) (h : ∀ f ∈ fs, (sizeT P f.type).isSome = true) :
    (fs.mapM (fun f => do pure (f.offset, ← sizeOf f.type) : Field → Sem (Nat × Nat))).run P w = .ok (fs.map fun f => (f.offset, (sizeT P f.type).getD 0)) w := by
  induction fs with
  | nil => simp
  | cons f fs ih =>
    have hf := h f (by simp)
    obtain ⟨n, hn⟩ := Option.isSome_iff_exists.1 hf
    simp only [List.mapM_cons, Sem.run_bind, run_sizeOf' P f.type n w hn, Result.andThen_ok, Sem.run_pure, ih (fun x hx => h x (by simp [hx])), List.map_cons, hn, Option.getD_some]
end

theorem partsT_mono {pl pl' : Nat → Option (Nat × Nat)} (hp : ∀ i x, pl i = some x → pl' i = some x) : ∀ (ps : List (Nat × Operand)) l, partsT pl ps = some l → partsT pl' ps = some l := by
  intro ps
  induction ps with
  | nil => intro l h; exact h
  | cons p ps ih =>
    obtain ⟨i, x⟩ := p
    intro l h
    simp only [partsT] at h ⊢
    split at h
    · rename_i o s r h1 h2
      rw [hp _ _ h1, ih _ h2]; exact h
    · cases h

theorem intT_spec {P : Program} {T k} (h : intT P T = some k) : P.underlying T = some (.int k) := by
  unfold intT at h; split at h <;> simp_all
theorem ifaceT_spec {P : Program} {T} (h : ¬ ifaceT P T = true) : ∃ d, P.underlying T = some d ∧ ∀ ms, d ≠ .interface ms := by
  unfold ifaceT at h
  split at h
  · simp at h
  · rename_i d hd hu; exact ⟨d, hu, fun ms hm => hd ms (by rw [← hm])⟩
  · simp at h

theorem run_sliceBound {P : Program} {w : World} {k : IntKind} {n y : Nat} {c : BoundsCode} (h : n ≤ y) : (Instr.sliceBound (.int k n) y c).run P w = .ok n w := by
  have : (n : Int) ≤ y := by omega
  simp [Instr.sliceBound, asIntOf, this]

theorem run_sliceBounds {P : Program} {w : World} {ρ : Env} {isS : Bool} {len cap : Nat} {lo hi mx : Option Operand} {l h m : Nat} (hm : bnd ρ cap mx m) (hh : bnd ρ len hi h) (hl : bnd ρ 0 lo l)
    (h1 : m ≤ cap) (h2 : h ≤ m) (h3 : l ≤ h) (hmx : mx.isSome = true → hi.isSome = true) :
    (Instr.sliceBounds isS len cap (lo.map ρ.ev) (hi.map ρ.ev) (mx.map ρ.ev)).run P w = .ok (l, h, m) w := by
  cases mx with
  | none =>
    simp only [bnd] at hm; subst hm
    cases hi with
    | none =>
      simp only [bnd] at hh; subst hh
      cases lo with
      | none => simp only [bnd] at hl; subst hl; simp [Instr.sliceBounds]
      | some x => obtain ⟨k, hx⟩ := hl; simp [Instr.sliceBounds, hx, run_sliceBound h3]
    | some y =>
      obtain ⟨k, hy⟩ := hh
      cases lo with
      | none => simp only [bnd] at hl; subst hl; simp [Instr.sliceBounds, hy, run_sliceBound h2]
      | some x => obtain ⟨k, hx⟩ := hl; simp [Instr.sliceBounds, hy, hx, run_sliceBound h2, run_sliceBound h3]
  | some z =>
    obtain ⟨k, hz⟩ := hm
    cases hi with
    | none => simp at hmx
    | some y =>
      obtain ⟨k, hy⟩ := hh
      cases lo with
      | none => simp only [bnd] at hl; subst hl; simp [Instr.sliceBounds, hz, hy, run_sliceBound h1, run_sliceBound h2]
      | some x => obtain ⟨k, hx⟩ := hl; simp [Instr.sliceBounds, hz, hy, hx, run_sliceBound h1, run_sliceBound h2, run_sliceBound h3]

theorem lower_sound0 {P : Program} {o : Oper} {ρ : Env} {w : World} {K : KT} {Q : QT} (h : (lowerOp0 P o).wp P ρ w K Q) : rawWp P o ρ w K Q := by
  obtain ⟨dst, op, T, pos, af, g⟩ := o
  cases dst with
  | none =>
    cases op
    all_goals try exact h
    case store T x v =>
      simp only [lowerOp0] at h
      split at h
      · rename_i hs hz
        obtain ⟨a, c, hx, hc, hf, ho, hk⟩ := h
        refine raw_skip (w' := w.setCell a (ρ.ev v)) ?_ hk
        have hcs : (ρ.ev v).cells = #[ρ.ev v] := by cases hv : ρ.ev v <;> simp_all [Value.cells, oneC]
        have ho' : (ρ.ev v).oneCell' = true := by cases hv : ρ.ev v <;> simp_all [Value.oneCell', oneC]
        simp [execOp, Instr.storeAt, Instr.sureAddr, hx, storeVar, run_sizeOf' P T 1 w hz, hcs, storeCells, add_zero_addr, run_store P w a _ .plain ho', hc, hf]
      · rename_i n hs hz
        split at h
        · rename_i ha
          obtain ⟨a, cs, w', hx, hv, hn, hst, hk⟩ := h
          refine raw_skip (w' := w') ?_ hk
          simp [execOp, Instr.storeAt, Instr.sureAddr, hx, hv, storeVar, run_sizeOf' P T n w hz, Value.cells, hn, hst]
        · exact h
      · exact h
    case call c =>
      obtain ⟨callee, xs, ts⟩ := c
      cases callee with
      | invoke => exact h
      | builtin => exact h
      | value f =>
        cases f with
        | const => exact h
        | global => exact h
        | func f =>
          simp only [lowerOp0] at h
          split at h
          · rename_i hg
            obtain ⟨fn, h1, h2, h3⟩ := goFunc_spec hg
            exact raw_call_sound (fst := #[]) (cap := #[]) rfl h1 h2 h3 (by simpa [LO.wp] using h)
          · exact h
        | tmp f =>
          obtain ⟨f, fst, cap, fn, hx, h1, h2, h3, h4⟩ := h
          exact raw_call_sound hx h1 h2 h3 h4
  | some d =>
    cases op
    all_goals try exact h
    case pick c x y =>
      obtain ⟨b, hb, hk⟩ := h
      refine raw_val (w' := w) ?_ hk
      simp [execOp, hb, asBool]
    case unOp op T x =>
      obtain ⟨v, hb, hk⟩ := h
      have hb := hb w
      exact raw_val (w' := w) (by simp [execOp, hb]) hk
    case binOp op T x y T' =>
      obtain ⟨v, hb, hk⟩ := h
      have hb := hb w
      refine raw_val (w' := w) ?_ hk
      simp only [execOp, Sem.run_bind] at hb ⊢
      rw [hb]; rfl
    case nilCheck x =>
      obtain ⟨a, hx, hk⟩ := h
      refine raw_val (w' := w) ?_ hk
      simp [execOp, hx]
    case extract x i =>
      obtain ⟨vs, v, hx, hv, hk⟩ := h
      refine raw_val (w' := w) ?_ hk
      simp [execOp, Instr.extract, hx, hv]
    case load T x =>
      simp only [lowerOp0] at h
      split at h
      · rename_i hs
        obtain ⟨a, v, hx, hv, hk⟩ := h
        refine raw_val (w' := w) (v := v) ?_ hk
        simp [execOp, Instr.loadAt, Instr.sureAddr, hx, loadVar, run_isAgg_scalar P T w hs, hv]
      · split at h
        · rename_i hs n hn
          split at h
          · rename_i ha
            obtain ⟨a, cs, hx, hv, hk⟩ := h
            refine raw_val (w' := w) ?_ hk
            simp [execOp, Instr.loadAt, Instr.sureAddr, hx, loadVar, run_isAgg_agg P T w ha, run_sizeOf' P T n w hn, run_loadCells_cells (P := P) a n cs hv]
          · exact h
        · exact h
    case fieldAddr S x f =>
      simp only [lowerOp0] at h
      split at h
      · rename_i off t hf
        split at h
        · rename_i n hn
          obtain ⟨a, hx, hk⟩ := h
          obtain ⟨fs, fl, hu, hfl, rfl, rfl⟩ := fieldOf_spec hf
          refine raw_val (w' := w) ?_ hk
          simp [execOp, Instr.fieldAt, run_underlying' P S _ w hu, hfl, Instr.sureAddr, hx, fieldPlace, run_sizeOf' P fl.type _ w hn]
        · exact h
      · exact h
    case field S x f =>
      simp only [lowerOp0] at h
      split at h
      · rename_i off t hf
        obtain ⟨fs, fl, hu, hfl, rfl, rfl⟩ := fieldOf_spec hf
        split at h
        · rename_i hs
          obtain ⟨cs, v, hx, hv, hk⟩ := h
          refine raw_val (w' := w) (v := v) ?_ hk
          simp [execOp, Instr.field, run_underlying' P S _ w hu, hfl, asAgg, hx, run_part P fl.type cs fl.offset v w hs hv]
        · split at h
          · rename_i n hn
            split at h
            · rename_i ha
              obtain ⟨cs, hx, hk⟩ := h
              refine raw_val (w' := w) ?_ hk
              simp [execOp, Instr.field, run_underlying' P S _ w hu, hfl, asAgg, hx, run_partn P fl.type cs fl.offset n w ha hn]
            · exact h
          · exact h
      · exact h
    case indexAddr T x i =>
      simp only [lowerOp0] at h
      split at h
      · rename_i e he
        have hu := elemT_spec he
        split at h
        · rename_i s hs
          obtain ⟨a, len, cap, k, n, hx, hi, h0, hl, hk⟩ := h
          refine raw_val (w' := w) ?_ hk
          simp [execOp, Instr.indexAt, asIntOf, hi, hx, run_underlying' P T _ w hu, h0, hl, run_sizeOf' P e s w hs]
        · exact h
      · split at h
        · rename_i hn m e he
          have hu := arrT_spec he
          split at h
          · rename_i s hs
            obtain ⟨a, k, n, hx, hi, h0, hl, hk⟩ := h
            refine raw_val (w' := w) ?_ hk
            simp [execOp, Instr.indexAt, asIntOf, hi, hx, run_underlying' P T _ w hu, h0, hl, run_sizeOf' P e s w hs, Instr.sureAddr]
          · exact h
        · exact h
    case index T x i =>
      simp only [lowerOp0] at h
      split at h
      · rename_i hs
        have hu := isStrT_spec hs
        obtain ⟨s, k, n, b, hx, hi, h0, hl, hk⟩ := h
        refine raw_val (w' := w) ?_ hk
        simp [execOp, Instr.index, asIntOf, hi, hx, run_underlying' P T _ w hu, h0, hl]
      · exact h
    case alloc T =>
      simp only [lowerOp0] at h
      split at h
      · rename_i z hz
        refine raw_val (v := .pointer (some ⟨w.heap.size, 0, none⟩)) (w' := w.alloc (.cells z.cells T)) ?_ h
        simp [execOp, Instr.alloc, run_zeroValue' P T z w hz, newVar, newRow]
      · exact h
    case makeFunc fn fst caps =>
      cases fn with
      | func f =>
        simp only [lowerOp0] at h
        split at h
        · rename_i hz
          have : fst = #[] := Array.size_eq_zero_iff.1 hz
          subst this
          refine raw_val (v := .func (.func f) #[] ⟨caps.toList.map ρ.ev⟩) (w' := w) ?_ h
          have he : (⟨caps.toList.map ρ.ev⟩ : Array Value) = caps.map ρ.ev := by apply Array.ext'; simp
          simp [execOp, Instr.makeFunc, he]
        · exact h
      | _ => exact h
    case slice T x lo hi mx =>
      simp only [lowerOp0] at h
      split at h
      · rename_i e he
        have hu := elemT_spec he
        split at h
        · rename_i s hs
          split at h
          · exact h
          · rename_i hmx
            obtain ⟨a, len, cap, l, hh, m, hx, hm, hhi, hlo, h1, h2, h3, hk⟩ := h
            refine raw_val (w' := w) ?_ hk
            simp only [execOp, Instr.sliceAt, Sem.run_bind, run_underlying' P T _ w hu, Result.andThen_ok, Instr.slice, hx, run_sliceBounds (P := P) (w := w) (isS := true) hm hhi hlo h1 h2 h3 (by cases mx <;> cases hi <;> simp_all), run_sizeOf' P e s w hs, Sem.run_pure]
        · exact h
      · split at h
        · rename_i hc
          simp only [Bool.and_eq_true] at hc
          have hu := isStrT_spec hc.1
          have hmx : mx = none := by simpa using hc.2
          subst hmx
          obtain ⟨s, l, hh, hx, hhi, hlo, h2, h3, hk⟩ := h
          refine raw_val (w' := w) ?_ hk
          have hb := run_sliceBounds (P := P) (w := w) (isS := false) (mx := none) (m := s.size) (cap := s.size) rfl hhi hlo (Nat.le_refl _) h2 h3 (by simp)
          simp only [Option.map_none] at hb
          simp only [execOp, Instr.sliceAt, Sem.run_bind, run_underlying' P T _ w hu, Result.andThen_ok, Instr.slice, hx, Option.map_none, Option.isSome_none, Bool.false_eq_true, if_false, hb, Sem.run_pure]
        · exact h
    case convert S T x =>
      simp only [lowerOp0] at h
      split at h
      · rename_i k k' hs ht
        obtain ⟨k2, n, hx, hk⟩ := h
        refine raw_val (w' := w) ?_ hk
        simp [execOp, convert, run_underlying' P S _ w (intT_spec hs), run_underlying' P T _ w (intT_spec ht), hx, Conv.intToInt]
      · exact h
    case makeInterface T x =>
      simp only [lowerOp0] at h
      split at h
      · exact h
      · rename_i hi
        refine raw_val (w' := w) (v := .iface T (ρ.ev x)) ?_ h
        obtain ⟨d', hd, hd'⟩ := ifaceT_spec hi
        simp only [execOp, Instr.makeInterface, Sem.run_bind, run_underlying' P T _ w hd, Result.andThen_ok]
        cases d' <;> first | rfl | exact (hd' _ rfl).elim
    case build T ps =>
      simp only [lowerOp0] at h
      split at h
      · rename_i z pl hz hpl
        split at h
        · rename_i l hl
          obtain ⟨cs, hf, hk⟩ := h
          have hfill := fill_fillL pl ρ ps.toList l z.cells cs hl hf
          refine raw_val (w' := w) ?_ hk
          have hm : (ps.map fun p => (p.1, ρ.ev p.2)).toList = ps.toList.map fun p => (p.1, ρ.ev p.2) := by simp
          unfold placesT at hpl
          split at hpl
          · rename_i fs hu
            split at hpl
            · rename_i hall
              simp only [Option.some.injEq] at hpl
              have hall' : ∀ f ∈ fs.toList, (sizeT P f.type).isSome = true := List.all_eq_true.1 hall
              have hpl2 : ∀ i x, pl i = some x → ((fs.toList.map fun f => (f.offset, (sizeT P f.type).getD 0)).toArray)[i]? = some x := by
                intro i x hx
                subst hpl
                simp only [Option.bind_eq_some_iff, Option.map_eq_some_iff] at hx
                obtain ⟨f, hf, s, hs, rfl⟩ := hx
                simp [hf, hs]
              have hfill := fill_fillL _ ρ ps.toList l z.cells cs (partsT_mono hpl2 _ _ hl) hf
              simp only [execOp, Instr.build, Sem.run_bind, run_zeroValue' P T z w hz, run_underlying' P T _ w hu, Result.andThen_ok, Array.mapM_eq_mapM_toList, Sem.run_map, mapM_places fs.toList w hall', hm, hfill, Sem.run_pure]
            · cases hpl
          · rename_i n e hu
            simp only [Option.map_eq_some_iff] at hpl
            obtain ⟨s, hs, rfl⟩ := hpl
            simp only [execOp, Instr.build, Sem.run_bind, run_zeroValue' P T z w hz, run_underlying' P T _ w hu, Result.andThen_ok, run_sizeOf' P e s w hs, hm, hfill, Sem.run_pure]
          · cases hpl
        · exact h
      · exact h
    case buildSlice T n ps =>
      simp only [lowerOp0] at h
      split at h
      · rename_i e he
        have hu := elemT_spec he
        split at h
        · rename_i z s hz hs
          split at h
          · rename_i l hl
            split at h
            · rename_i hc
              obtain ⟨hs0, hn0, hns, hzs⟩ := hc
              obtain ⟨cs, hf, hk⟩ := h
              have hm : (ps.map fun p => (p.1, ρ.ev p.2)).toList = ps.toList.map fun p => (p.1, ρ.ev p.2) := by simp
              have hz0 : (((Array.range (n * s)).map (z.cells[· % z.cells.size]!)) : Array Value).toList = (List.range (n * s)).map fun i => z.cells.toList.getD (i % s) default := by
                simp [hzs]
                intro a _
                rw [Array.getElem!_eq_getD, Array.getD_eq_getD_getElem?]
              have hfill := fill_fillL _ ρ ps.toList l ((Array.range (n * s)).map (z.cells[· % z.cells.size]!)) cs hl (by rw [hz0]; exact hf)
              refine raw_val (w' := w.alloc (.cells ⟨cs⟩ e)) (v := .slice (some ⟨w.heap.size, 0, none⟩) n n) ?_ hk
              have hne : ¬ (n * s = 0) := by have := Nat.mul_pos hn0 hs0; omega
              have hle : ¬ (n * s > 2 ^ 24) := by omega
              simp only [execOp, Instr.buildSlice, Sem.run_bind, run_underlying' P T _ w hu, Result.andThen_ok, run_sizeOf' P e s w hs, if_neg hle, if_neg hne, run_zeroValue' P e z w hz, hm, hfill, Sem.run_pure, newRow, run_newObj]
              rfl
            · exact h
          · exact h
        · exact h
      · exact h
    case call c =>
      obtain ⟨callee, xs, ts⟩ := c
      cases callee with
      | invoke => exact h
      | builtin b => 
        cases b
        all_goals try exact h
        case min =>
          simp only [lowerOp0] at h
          split at h
          · rename_i x y hxs
            have hxs' : xs = #[x, y] := by apply Array.ext'; simpa using hxs
            subst hxs'
            obtain ⟨k, k', a, b, hx, hy, hk⟩ := h
            refine raw_val (w' := w) ?_ hk
            simp [execOp, resolve, invoke, builtin, Builtin.min_, Builtin.min2, hx, hy]
          · exact h
        case max =>
          simp only [lowerOp0] at h
          split at h
          · rename_i x y hxs
            have hxs' : xs = #[x, y] := by apply Array.ext'; simpa using hxs
            subst hxs'
            obtain ⟨k, k', a, b, hx, hy, hk⟩ := h
            refine raw_val (w' := w) ?_ hk
            simp [execOp, resolve, invoke, builtin, Builtin.max_, Builtin.max2, hx, hy]
          · exact h
        case len =>
          simp only [lowerOp0] at h
          split at h
          · rename_i x T hxs hts
            have hxs' : xs = #[x] := by apply Array.ext'; simpa using hxs
            have hts' : ts = #[T] := by apply Array.ext'; simpa using hts
            subst hxs' hts'
            split at h
            · rename_i hs
              have hu := isStrT_spec hs
              obtain ⟨s, hx, hk⟩ := h
              refine raw_val (w' := w) ?_ hk
              simp [execOp, resolve, invoke, builtin, Builtin.len_, hx, run_underlying' P T _ w hu, goInt]
            · split at h
              · rename_i he
                obtain ⟨e, he⟩ := Option.isSome_iff_exists.1 he
                have hu := elemT_spec he
                obtain ⟨a, n, c, hx, hk⟩ := h
                refine raw_val (w' := w) ?_ hk
                simp [execOp, resolve, invoke, builtin, Builtin.len_, hx, run_underlying' P T _ w hu, goInt]
              · exact h
          · exact h
      | value f =>
        cases f with
        | const => exact h
        | global => exact h
        | func f =>
          simp only [lowerOp0] at h
          split at h
          · rename_i hg
            obtain ⟨fn, h1, h2, h3⟩ := goFunc_spec hg
            exact raw_call_sound (fst := #[]) (cap := #[]) rfl h1 h2 h3 (by simpa [LO.wp] using h)
          · exact h
        | tmp f =>
          obtain ⟨f, fst, cap, fn, hx, h1, h2, h3, h4⟩ := h
          exact raw_call_sound hx h1 h2 h3 h4


theorem raw_strip {P : Program} {o : Oper} {ρ : Env} {w : World} {K : KT} {Q : QT} (h : rawWp P (strip o) ρ w K Q) : rawWp P o ρ w K Q := h

theorem lower_sound {P : Program} {o : Oper} {ρ : Env} {w : World} {K : KT} {Q : QT} (h : (lowerOp P o).wp P ρ w K Q) : rawWp P o ρ w K Q := by
  refine lower_sound0 ?_
  unfold lowerOp at h
  cases hl : lowerOp0 P o <;> rw [hl] at h <;> first | exact h | exact raw_strip h

/-! ### Regions and code -/

structure GO where
  g : Option (Nat × Bool)
  o : LO

def wants (v : Value) (b : Bool) : Bool := match v with
  | .bool b' => b' == b
  | _ => false

def opsWp (P : Program) : List GO → QT → Env → World → Prop
  | [], Q, ρ, w => Q .normal ρ w
  | ⟨none, o⟩ :: l, Q, ρ, w => o.wp P ρ w (opsWp P l Q) Q
  | ⟨some (s, b), o⟩ :: l, Q, ρ, w => if wants (ρ s) b then o.wp P ρ w (opsWp P l Q) Q else opsWp P l Q (updo ρ o.dst undef) w

def lowerG (P : Program) (ops : Array Oper) (o : Oper) : GO :=
  ⟨o.guard.bind fun p => ((ops[p.1]?).bind (·.dst)).map fun s => (s, p.2), lowerOp P o⟩

def okG (n : Nat) (ops : Array Oper) (o : Oper) : Bool :=
  (match o.dst with | some d => decide (d < n) | none => true) &&
  (match o.guard with
   | some (j, _) => (match (ops[j]?).bind (·.dst) with | some s => decide (s < n) | none => false)
   | none => true)

theorem lower_dst0 (P : Program) (o : Oper) : (lowerOp0 P o).dst = o.dst := by
  obtain ⟨dst, op, T, pos, af, g⟩ := o
  cases dst with
  | none =>
    unfold lowerOp0
    dsimp only
    repeat' split
    all_goals rfl
  | some d =>
    unfold lowerOp0
    dsimp only
    repeat' split
    all_goals rfl

theorem lower_dst (P : Program) (o : Oper) : (lowerOp P o).dst = o.dst := by
  rw [← lower_dst0 P o]
  unfold lowerOp
  cases lowerOp0 P o <;> rfl

theorem wants_yielded {n : Nat} {ρ : Env} {ds : List Deferred} {a : Act} {ops : Array Oper} {j s : Nat} {b : Bool} (hr : Rel n ρ ds a)
    (hj : (ops[j]?).bind (·.dst) = some s) (hs : s < n) : (yielded ops a.tmps j == some b) = wants (ρ s) b := by
  have h1 : a.tmps[s]? = some (ρ s) := by
    have := hr.2.1 s
    rw [Array.getD_eq_getD_getElem?] at this
    have hlt : s < a.tmps.size := by rw [hr.1]; exact hs
    rw [Array.getElem?_eq_getElem hlt] at this ⊢
    simpa using this
  simp only [yielded, hj, Option.bind_some, h1]
  cases hv : ρ s <;> simp [wants]

theorem wanted_lower {P : Program} {n : Nat} {ρ : Env} {ds : List Deferred} {a : Act} {ops : Array Oper} {o : Oper} (hr : Rel n ρ ds a) (ho : okG n ops o = true) :
    (∀ (l : List GO) (Q : QT) (w : World), opsWp P (lowerG P ops o :: l) Q ρ w → if Region.wanted o (yielded ops a.tmps) then (lowerOp P o).wp P ρ w (opsWp P l Q) Q else opsWp P l Q (updo ρ o.dst undef) w) := by
  intro l Q w h
  unfold lowerG at h
  unfold okG at ho
  cases hg : o.guard with
  | none =>
    rw [hg] at h
    simp only [Option.bind_none, opsWp] at h
    simp only [Region.wanted, hg, if_true]
    exact h
  | some p =>
    obtain ⟨j, b⟩ := p
    rw [hg] at h ho
    simp only [Bool.and_eq_true] at ho
    obtain ⟨_, ho⟩ := ho
    cases hs : (ops[j]?).bind (·.dst) with
    | none => simp [hs] at ho
    | some s =>
      simp only [hs, decide_eq_true_eq] at ho
      simp only [Option.bind_some, hs, Option.map_some, opsWp, lower_dst] at h
      simp only [Region.wanted, hg, wants_yielded hr hs ho]
      exact h

theorem okG_dst {n : Nat} {ops : Array Oper} {o : Oper} (h : okG n ops o = true) : ∀ x, o.dst = some x → x < n := by
  intro x hx
  unfold okG at h
  simp only [hx, Bool.and_eq_true, decide_eq_true_eq] at h
  exact h.1

theorem upon_mono {P : Program} {o : Oper} {a : Act} {K K' : Act → World → Prop} {Q : Exit → Act → World → Prop} (hk : ∀ a w, K a w → K' a w) (r : Result Next) (h : o.upon P a K Q r) : o.upon P a K' Q r := by
  cases r with
  | ok n w =>
    cases n <;> first | exact hk _ _ h | exact h | skip
    · refine Calls.mono h fun e w h => ?_
      cases e <;> first | exact hk _ _ h | exact h
    · exact Rows.mono h fun v w h => hk _ _ h
  | halt x w => cases x <;> exact h

theorem list_sound {P : Program} {n : Nat} {ds : List Deferred} {ops : Array Oper} {Q : QT} : ∀ (l : List Nat) (ρ : Env) (a : Act) (w : World), Rel n ρ ds a →
    (∀ i ∈ l, ∃ o, ops[i]? = some o ∧ okG n ops o = true) →
    opsWp P (l.filterMap fun i => (ops[i]?).map (lowerG P ops)) Q ρ w → wpOps P ops (liftQ n ds Q) l a w := by
  intro l
  induction l with
  | nil => intro ρ a w hr _ h; exact ⟨ρ, hr, h⟩
  | cons i l ih =>
    intro ρ a w hr hok h
    obtain ⟨o, ho, hg⟩ := hok i (by simp)
    have hok' : ∀ i ∈ l, ∃ o, ops[i]? = some o ∧ okG n ops o = true := fun i hi => hok i (by simp [hi])
    simp only [List.filterMap_cons, ho, Option.map_some] at h
    have h' := wanted_lower hr hg _ Q w h
    simp only [wpOps, ho]
    split
    · rename_i hw
      rw [if_pos hw] at h'
      have h1 := raw_sound (ds := ds) hr (okG_dst hg) (lower_sound h')
      exact .inl (upon_mono (fun a w ⟨ρ, hr, h⟩ => ih ρ a w hr hok' h) _ h1)
    · rename_i hw
      rw [if_neg hw] at h'
      exact ih _ _ w (hr.put _ _ (okG_dst hg)) hok' h'

inductive LC where
  | skip
  | ops (l : List GO)
  | draw (gs : List GO) (es : List (List Nat))
  | seq (a b : LC)
  | cond (c : Operand) (a b : LC)
  | block (id : Nat) (a : LC)
  | loop (a : LC)
  | exit (id : Nat)
  | ret
  | bad

/-- The order of a region that draws: each operation behind those that its edges name; all of them. -/
def Lin (es : List (List Nat)) : List Nat → List Nat → Prop
  | X, [] => ∀ i, i < es.length → i ∈ X
  | X, i :: l => i < es.length ∧ i ∉ X ∧ (∀ e ∈ es.getD i [], e ∈ X) ∧ Lin es (i :: X) l

def plainEdge (i : Nat) (e : Edge) : Bool := decide (e.on < i) && (match e.ground with | .textOnly _ => false | .gcOnly _ => false | _ => true)
def edgesOk (os : List Oper) : Bool := (os.zipIdx).all fun p => p.1.after.toList.all (plainEdge p.2)

/-- An order in which each is behind all that bind it. -/
def topo (m : Region.Mode) (os : Array Oper) : List Nat → List Nat → Bool
  | seen, [] => (List.range os.size).all fun i => seen.contains i
  | seen, i :: r => (match os[i]? with
    | some o => o.after.toList.all (fun e => !Region.binds m e || seen.contains e.on && decide (e.on < os.size))
    | none => false) && topo m os (i :: seen) r
def backEdge (i : Nat) (e : Edge) : Bool := !Region.binds .any e || decide (e.on < i)
def edgesTopo (os : Array Oper) : Bool := (os.toList.zipIdx.all fun p => p.1.after.toList.all (backEdge p.2)) && topo .text os [] (Region.linearise .text os 0) && topo .gc os [] (Region.linearise .gc os 0) && topo .any os [] (Region.linearise .any os 0)
def edgesAll (os : Array Oper) : Bool := edgesOk os.toList || edgesTopo os
def plainEs (os : Array Oper) : List (List Nat) := os.toList.map fun o => (o.after.toList.filter (Region.binds .any)).map (·.on)
def GO.nop : GO := ⟨none, .mov 0 (.const undef)⟩

def lowerC (P : Program) (n : Nat) : Code → LC
  | .skip => .skip
  | .region _ ops false => if ops.toList.all (okG n ops) then .ops (ops.toList.map (lowerG P ops)) else .bad
  | .region _ ops true => if ops.toList.all (okG n ops) && edgesAll ops then .draw (ops.toList.map (lowerG P ops)) (plainEs ops) else .bad
  | .seq a b => .seq (lowerC P n a) (lowerC P n b)
  | .cond c a b => .cond c (lowerC P n a) (lowerC P n b)
  | .block id a => .block id (lowerC P n a)
  | .loop a => .loop (lowerC P n a)
  | .exit id => .exit id
  | .ret => .ret
  | _ => .bad

def thenQ (K : KT) (Q : QT) : QT
  | .normal, ρ, w => K ρ w
  | e, ρ, w => Q e ρ w
def blockQ (id : Nat) (Q : QT) : QT
  | .exit id', ρ, w => if id' = id then Q .normal ρ w else Q (.exit id') ρ w
  | e, ρ, w => Q e ρ w

def LC.wp (P : Program) : LC → QT → Env → World → Prop
  | .skip, Q, ρ, w => Q .normal ρ w
  | .ops l, Q, ρ, w => opsWp P l Q ρ w
  | .draw gs es, Q, ρ, w => ∀ l, Lin es [] l → opsWp P (l.map fun i => gs.getD i GO.nop) Q ρ w.drew
  | .seq a b, Q, ρ, w => a.wp P (thenQ (b.wp P Q) Q) ρ w
  | .cond c a b, Q, ρ, w => ∃ t, ρ.ev c = .bool t ∧ (if t then a.wp P Q ρ w else b.wp P Q ρ w)
  | .block id a, Q, ρ, w => a.wp P (blockQ id Q) ρ w
  | .loop a, Q, ρ, w => ∃ (I : Env → World → Prop) (μ : Env → World → Nat), I ρ w ∧ ∀ ρ w, I ρ w → a.wp P (thenQ (fun ρ' w' => I ρ' w' ∧ μ ρ' w' < μ ρ w) Q) ρ w
  | .exit id, Q, ρ, w => Q (.exit id) ρ w
  | .ret, Q, ρ, w => Q .ret ρ w
  | .bad, _, _, _ => False

theorem filterMap_mem_congr {α β : Type} {f g : α → Option β} : ∀ {l : List α}, (∀ x ∈ l, f x = g x) → l.filterMap f = l.filterMap g := by
  intro l
  induction l with
  | nil => intro _; rfl
  | cons a l ih => intro h; simp only [List.filterMap_cons, h a (by simp), ih (fun x hx => h x (by simp [hx]))]

theorem sched_mem {ops : Array Oper} {mixed : Bool} {t : Nat} : ∀ i ∈ Region.schedule mixed ops t, ∃ o, ops[i]? = some o := by
  have key : ∀ (m : Region.Mode) fuel t listed acc, (∀ i ∈ acc, ∃ o, ops[i]? = some o) → ∀ i ∈ Region.linearise.go m ops fuel t listed acc, ∃ o, ops[i]? = some o := by
    intro m fuel
    induction fuel with
    | zero => intro t listed acc h i hi; simp [Region.linearise.go] at hi; exact h i hi
    | succ fuel ih =>
      intro t listed acc h i hi
      simp only [Region.linearise.go] at hi
      split at hi
      · rename_i j hj
        refine ih _ _ (j :: acc) ?_ i hi
        intro k hk
        rcases List.mem_cons.1 hk with rfl | hk
        · have := List.mem_of_getElem? hj
          simp only [List.mem_filter, List.mem_range] at this
          exact ⟨ops[k], by simp [this.1]⟩
        · exact h k hk
      · exact h i (by simpa using hi)
  intro i hi
  unfold Region.schedule at hi
  split at hi
  · exact key _ _ _ _ [] (by simp) i hi
  · exact key _ _ _ _ [] (by simp) i hi

theorem nodup_below : ∀ (n : Nat) (X : List Nat), X.Nodup → (∀ x ∈ X, x < n) → X.length ≤ n := by
  intro n
  induction n with
  | zero =>
    intro X _ h
    cases X with
    | nil => simp
    | cons x X => exact absurd (h x (by simp)) (by omega)
  | succ n ih =>
    intro X hnd h
    have h1 := ih (X.erase n) (hnd.erase n) (fun x hx => by
      have := (List.Nodup.mem_erase_iff hnd).1 hx
      have := h x this.2
      omega)
    by_cases hm : n ∈ X
    · rw [List.length_erase_of_mem hm] at h1; omega
    · rw [List.erase_of_not_mem hm] at h1; omega

theorem edgesOk_spec {os : Array Oper} (h : edgesOk os.toList = true) {i : Nat} {o : Oper} (ho : os[i]? = some o) {e : Edge} (he : e ∈ o.after) : plainEdge i e = true := by
  unfold edgesOk at h
  have := List.all_eq_true.1 h (o, i) (by rw [List.mem_zipIdx_iff_getElem?]; simpa using ho)
  exact List.all_eq_true.1 this e (by simpa using he)

/-- Wherever one is not listed, one is ready. -/
def Prog (m : Region.Mode) (os : Array Oper) : Prop := ∀ X : List Nat, (∃ i, i < os.size ∧ i ∉ X) → ∃ i o, os[i]? = some o ∧ i ∉ X ∧ ∀ e ∈ o.after, Region.binds m e = true → e.on ∈ X ∧ e.on < os.size

theorem prog_plain {os : Array Oper} (h : edgesOk os.toList = true) : Prog .any os := by
  rintro X ⟨i, hi, hX⟩
  induction i using Nat.strongRecOn with
  | _ i ih =>
    by_cases hall : ∀ j, j < i → j ∈ X
    · refine ⟨i, os[i], by simp [hi], hX, fun e he _ => ?_⟩
      have hp := edgesOk_spec h (i := i) (o := os[i]) (by simp [hi]) he
      unfold plainEdge at hp
      simp only [Bool.and_eq_true, decide_eq_true_eq] at hp
      exact ⟨hall _ hp.1, by omega⟩
    · have ⟨j, hj⟩ := Classical.not_forall.1 hall
      have ⟨hj1, hj2⟩ := Classical.not_imp.1 hj
      exact ih j hj1 (by omega) hj2

theorem prog_topo {m : Region.Mode} {os : Array Oper} : ∀ {r seen : List Nat}, topo m os seen r = true → ∀ X : List Nat, (∀ i ∈ seen, i ∈ X) → (∃ i, i < os.size ∧ i ∉ X) → ∃ i o, os[i]? = some o ∧ i ∉ X ∧ ∀ e ∈ o.after, Region.binds m e = true → e.on ∈ X ∧ e.on < os.size
  | [], seen, h, X, hs, ⟨i, hi, hX⟩ => by
    have := List.all_eq_true.1 h i (List.mem_range.2 hi)
    exact absurd (hs i (by simpa using this)) hX
  | i :: r, seen, h, X, hs, hx => by
    simp only [topo, Bool.and_eq_true] at h
    obtain ⟨h1, h2⟩ := h
    by_cases hi : i ∈ X
    · exact prog_topo h2 X (fun j hj => (List.mem_cons.1 hj).elim (fun e => e ▸ hi) (hs j)) hx
    · split at h1
      · rename_i o ho
        refine ⟨i, o, ho, hi, fun e he hb => ?_⟩
        have := List.all_eq_true.1 h1 e (by simpa using he)
        rw [hb] at this
        simp only [Bool.not_true, Bool.false_or, Bool.and_eq_true, decide_eq_true_eq] at this
        exact ⟨hs _ (by simpa using this.1), this.2⟩
      · cases h1
theorem binds_any {m : Region.Mode} {e : Edge} (h : Region.binds .any e = true) : Region.binds m e = true := by
  unfold Region.binds at h ⊢
  split at h <;> simp_all
theorem edgesAll_back {os : Array Oper} (h : edgesAll os = true) {i : Nat} {o : Oper} (ho : os[i]? = some o) {e : Edge} (he : e ∈ o.after) (hb : Region.binds .any e = true) : e.on < i := by
  unfold edgesAll at h
  rw [Bool.or_eq_true] at h
  rcases h with h | h
  · have hp := edgesOk_spec h ho he
    unfold plainEdge at hp
    simp only [Bool.and_eq_true, decide_eq_true_eq] at hp
    exact hp.1
  · unfold edgesTopo at h
    simp only [Bool.and_eq_true] at h
    have := List.all_eq_true.1 h.1.1.1 (o, i) (by rw [List.mem_zipIdx_iff_getElem?]; simpa using ho)
    have := List.all_eq_true.1 this e (by simpa using he)
    unfold backEdge at this
    rw [hb] at this
    simpa using this

theorem lin_go {os : Array Oper} (m : Region.Mode) (hback : ∀ (i : Nat) (o : Oper), os[i]? = some o → ∀ e ∈ o.after, Region.binds .any e = true → e.on < i) (hprog : Prog m os) : ∀ (fuel t : Nat) (listed : Array Bool) (acc X : List Nat), listed.size = os.size → (∀ i, i < os.size → (listed.getD i false = true ↔ i ∈ X)) →
    (∀ i ∈ X, i < os.size) → X.Nodup → os.size ≤ fuel + X.length →
    ∃ l, Region.linearise.go m os fuel t listed acc = acc.reverse ++ l ∧ Lin (plainEs os) X l := by
  intro fuel
  induction fuel with
  | zero =>
    intro t listed acc X hsz hX hlt hnd hf
    refine ⟨[], by simp [Region.linearise.go], ?_⟩
    intro i hi
    simp only [plainEs, List.length_map, Array.length_toList] at hi
    rcases Decidable.em (i ∈ X) with hc | hc
    · exact hc
    · have := nodup_below os.size (i :: X) (List.nodup_cons.2 ⟨hc, hnd⟩) (by intro j hj; rcases List.mem_cons.1 hj with rfl | hj; exact hi; exact hlt j hj)
      simp at this; omega
  | succ fuel ih =>
    intro t listed acc X hsz hX hlt hnd hf
    simp only [Region.linearise.go]
    split
    · rename_i i hi
      have hm := List.mem_of_getElem? hi
      simp only [List.mem_filter, List.mem_range, Bool.and_eq_true] at hm
      obtain ⟨hilt, hnl, hr⟩ := hm
      have hget : os[i]? = some os[i] := by simp [hilt]
      rw [hget] at hr
      simp only [Option.map_some, Option.getD_some] at hr
      have hiX : i ∉ X := by
        intro hc
        have := (hX i hilt).2 hc
        simp [Array.getD, hsz, hilt] at hnl this
        simp [this] at hnl
      obtain ⟨l, h1, h2⟩ := ih (t / _) (listed.setIfInBounds i true) (i :: acc) (i :: X) (by simp [hsz]) (by
        intro j hj
        have := hX j hj
        by_cases hij : i = j
        · subst hij; simp [Array.getD, hsz, hj]
        · rw [Array.getD_eq_getD_getElem?, Array.getElem?_setIfInBounds_ne hij, ← Array.getD_eq_getD_getElem?, this]
          simp [Ne.symm hij]) (by intro j hj; rcases List.mem_cons.1 hj with rfl | hj; exact hilt; exact hlt j hj) (List.nodup_cons.2 ⟨hiX, hnd⟩) (by simp; omega)
      refine ⟨i :: l, by rw [h1]; simp, by simpa [plainEs] using hilt, hiX, ?_, h2⟩
      intro e he
      simp only [plainEs, List.getD_eq_getElem?_getD, List.getElem?_map, Array.getElem?_toList, hget, Option.map_some, Option.getD_some, List.mem_map, List.mem_filter] at he
      obtain ⟨ed, ⟨hed, hb⟩, rfl⟩ := he
      have hed' : ed ∈ os[i].after := by simpa using hed
      have hp := hback i _ hget ed hed' hb
      have := Array.all_eq_true_iff_forall_mem.1 hr ed hed'
      simp only [binds_any hb, Bool.not_true, Bool.false_or] at this
      exact (hX ed.on (by omega)).1 this
    · rename_i hi
      refine ⟨[], by simp, ?_⟩
      intro i hi'
      simp only [plainEs, List.length_map, Array.length_toList] at hi'
      rcases Decidable.em (i ∈ X) with hc | hc
      · exact hc
      exfalso
      obtain ⟨j, o, hj, hjX, hjr⟩ := hprog X ⟨i, hi', hc⟩
      have hjlt : j < os.size := (Array.getElem?_eq_some_iff.1 hj).1
      have hmem : j ∈ (List.range os.size).filter fun i => !listed.getD i true && ((os[i]?).map (·.after.all fun e => !Region.binds m e || listed.getD e.on false)).getD false := by
        simp only [List.mem_filter, List.mem_range, Bool.and_eq_true]
        refine ⟨hjlt, ?_, ?_⟩
        · have := mt (hX j hjlt).1 hjX
          simp [Array.getD, hsz, hjlt] at this ⊢
          simpa using this
        · rw [hj]
          simp only [Option.map_some, Option.getD_some]
          rw [Array.all_eq_true_iff_forall_mem]
          intro e he
          cases hb : Region.binds m e with
          | false => rfl
          | true =>
            obtain ⟨h1, h2⟩ := hjr e he hb
            have := (hX e.on h2).2 h1
            simp [this]
      have hlen : 0 < ((List.range os.size).filter fun i => !listed.getD i true && ((os[i]?).map (·.after.all fun e => !Region.binds m e || listed.getD e.on false)).getD false).length :=
        List.length_pos_of_mem hmem
      rw [List.getElem?_eq_none_iff] at hi
      have := Nat.mod_lt t hlen
      omega

theorem lin_mode {os : Array Oper} {m : Region.Mode} {t : Nat} (h : edgesAll os = true) (hp : Prog m os) : Lin (plainEs os) [] (Region.linearise m os t) := by
  obtain ⟨l, h1, h2⟩ := lin_go m (fun i o ho e he hb => edgesAll_back h ho he hb) hp os.size t (Array.replicate os.size false) [] [] (by simp) (by intro i hi; simp [Array.getD, hi]) (by simp) (by simp) (by simp)
  unfold Region.linearise
  rw [h1]
  simpa using h2
theorem sched_lin {os : Array Oper} {mixed : Bool} {t : Nat} (h : edgesAll os = true) : Lin (plainEs os) [] (Region.schedule mixed os t) := by
  have h' := h
  unfold edgesAll at h'
  rw [Bool.or_eq_true] at h'
  rcases h' with h' | h'
  · have hdep : Region.departs os = false := by
      cases hd : Region.departs os with
      | false => rfl
      | true =>
        unfold Region.departs at hd
        rw [Array.any_eq_true] at hd
        obtain ⟨i, hi, hd⟩ := hd
        rw [Array.any_eq_true] at hd
        obtain ⟨j, hj, hd⟩ := hd
        have hp := edgesOk_spec h' (i := i) (o := os[i]) (by simp [hi]) (e := os[i].after[j]) (by simp)
        unfold plainEdge at hp
        unfold Region.binds at hd
        cases hg : os[i].after[j].ground <;> simp [hg] at hp hd
    unfold Region.schedule
    rw [hdep]
    simp only [Bool.not_false, Bool.or_true, if_true]
    exact lin_mode h (prog_plain h')
  · unfold edgesTopo at h'
    simp only [Bool.and_eq_true] at h'
    have hany := fun X hX => prog_topo h'.2 X (fun _ h => (List.not_mem_nil h).elim) hX
    have htext := fun X hX => prog_topo h'.1.1.2 X (fun _ h => (List.not_mem_nil h).elim) hX
    have hgc := fun X hX => prog_topo h'.1.2 X (fun _ h => (List.not_mem_nil h).elim) hX
    unfold Region.schedule
    split
    · exact lin_mode h hany
    · split
      · exact lin_mode h htext
      · exact lin_mode h hgc

theorem range_filterMap {α β : Type} (g : α → β) : ∀ (l pre : List α), (List.range' pre.length l.length).filterMap (fun i => ((pre ++ l)[i]?).map g) = l.map g := by
  intro l
  induction l with
  | nil => intro pre; simp
  | cons x l ih =>
    intro pre
    have := ih (pre ++ [x])
    simp only [List.length_append, List.length_singleton, List.append_assoc, List.singleton_append] at this
    simp only [List.length_cons, List.range'_succ, List.filterMap_cons, List.map_cons]
    simp [this]

theorem lowerC_sound {P : Program} {n : Nat} {ds : List Deferred} : ∀ (c : Code) (Q : QT) (ρ : Env) (a : Act) (w : World), Rel n ρ ds a → (lowerC P n c).wp P Q ρ w → c.wp P (liftQ n ds Q) a w := by
  have hokall : ∀ ops : Array Oper, ops.toList.all (okG n ops) = true → ∀ (i : Nat) (o : Oper), ops[i]? = some o → okG n ops o = true := by
    intro ops h i o hi
    exact List.all_eq_true.1 h o (by rw [← Array.getElem?_toList] at hi; exact List.mem_of_getElem? hi)
  intro c
  induction c with
  | skip => intro Q ρ a w hr h; exact wp_skip ⟨ρ, hr, h⟩
  | region id ops draw =>
    intro Q ρ a w hr h
    cases draw with
    | false =>
      simp only [lowerC] at h
      split at h
      · rename_i hall
        refine wp_region ?_
        refine list_sound _ ρ a w hr ?_ ?_
        · intro i hi
          have hi' : i < ops.size := by simpa using hi
          exact ⟨ops[i], by simp [hi'], hokall ops hall i _ (by simp [hi'])⟩
        · have e : ((List.range ops.size).filterMap fun i => (ops[i]?).map (lowerG P ops)) = ops.toList.map (lowerG P ops) := by
            have := range_filterMap (lowerG P ops) ops.toList []
            simpa [List.range_eq_range'] using this
          rw [e]; exact h
      · exact h.elim
    | true =>
      simp only [lowerC] at h
      split at h
      · rename_i hall
        simp only [Bool.and_eq_true] at hall
        refine wp_region_draw fun t => ?_
        have h' := h _ (sched_lin (mixed := P.follows .mixedOrders) (t := t) hall.2)
        refine list_sound _ ρ a _ hr ?_ ?_
        · intro i hi
          obtain ⟨o, ho⟩ := sched_mem i hi
          exact ⟨o, ho, hokall ops hall.1 i o ho⟩
        · have e : ((Region.schedule (P.follows .mixedOrders) ops t).filterMap fun i => (ops[i]?).map (lowerG P ops)) =
              (Region.schedule (P.follows .mixedOrders) ops t).map fun i => (ops.toList.map (lowerG P ops)).getD i GO.nop := by
            rw [← List.filterMap_eq_map]
            refine filterMap_mem_congr ?_
            intro i hi
            obtain ⟨o, ho⟩ := sched_mem i hi
            have ho' : ops.toList[i]? = some o := by simpa using ho
            simp [ho, List.getD_eq_getElem?_getD]
          rw [e]
          exact h'
      · exact h.elim
  | seq x y ihx ihy =>
    intro Q ρ a w hr h
    refine wp_seq ?_
    refine wp_mono (ihx _ ρ a w hr h) ?_
    rintro e a w ⟨ρ, hr, h⟩
    cases e with
    | normal => exact ihy _ ρ a w hr h
    | _ => exact ⟨ρ, hr, h⟩
  | cond c x y ihx ihy =>
    intro Q ρ a w hr h
    obtain ⟨t, hc, h⟩ := h
    refine wp_cond (t := t) (by rw [hr.ev]; exact hc) ?_
    cases t
    · exact ihy _ ρ a w hr h
    · exact ihx _ ρ a w hr h
  | block id x ih =>
    intro Q ρ a w hr h
    refine wp_block ?_
    refine wp_mono (ih _ ρ a w hr h) ?_
    rintro e a w ⟨ρ, hr, h⟩
    cases e with
    | exit id' =>
      simp only [blockQ] at h
      simp only [Exit.inBlock]
      split
      · rename_i he; rw [if_pos he] at h; exact ⟨ρ, hr, h⟩
      · rename_i he; rw [if_neg he] at h; exact ⟨ρ, hr, h⟩
    | _ => exact ⟨ρ, hr, h⟩
  | loop x ih =>
    intro Q ρ a w hr h
    obtain ⟨I, μ, h0, hround⟩ := h
    refine wp_loop (liftK n ds I) (fun a w => μ (fun i => a.tmps.getD i undef) w) ⟨ρ, hr, h0⟩ ?_
    rintro a w ⟨ρ, hr, hI⟩
    have he : (fun i => a.tmps.getD i undef) = ρ := funext hr.2.1
    refine wp_mono (ih _ ρ a w hr (hround ρ w hI)) ?_
    rintro e a' w' ⟨ρ', hr', h⟩
    cases e with
    | normal =>
      have he' : (fun i => a'.tmps.getD i undef) = ρ' := funext hr'.2.1
      refine ⟨⟨ρ', hr', h.1⟩, ?_⟩
      simp only [he, he']
      exact h.2
    | _ => exact ⟨ρ', hr', h⟩
  | exit id => intro Q ρ a w hr h; exact wp_exit ⟨ρ, hr, h⟩
  | ret => intro Q ρ a w hr h; exact wp_ret ⟨ρ, hr, h⟩
  | rangeFunc => intro Q ρ a w hr h; exact h.elim
  | scope => intro Q ρ a w hr h; exact h.elim
  | label => intro Q ρ a w hr h; exact h.elim
  | goto => intro Q ρ a w hr h; exact h.elim
  | refuse => intro Q ρ a w hr h; exact h.elim

/-! ### Entering a function -/

def argEnv (l : List Value) : Env := fun i => l.getD i undef

def packV : List Value → Value
  | [v] => v
  | l => .tuple ⟨l⟩

/-- What a result variable in memory holds. -/
def Holds (P : Program) (w : World) (a : Addr) (T : TypeId) (v : Value) : Prop :=
  (scalarT P T = true ∧ w.cell? a = some v) ∨ (aggT P T = true ∧ ∃ n cs, sizeT P T = some n ∧ cellsAt w a n cs ∧ v = .agg ⟨cs⟩)

def resWp (P : Program) (w : World) (ρ : Env) : List ResultVar → List Value → (Value → Prop) → Prop
  | [], acc, R => R (packV acc.reverse)
  | .tmp t :: rs, acc, R => resWp P w ρ rs (ρ t :: acc) R
  | .cell a T :: rs, acc, R => ∃ ad v, ρ a = .pointer (some ad) ∧ Holds P w ad T v ∧ resWp P w ρ rs (v :: acc) R

def retQ (P : Program) (rs : List ResultVar) (R : Ending → World → Prop) : QT
  | .normal, ρ, w => resWp P w ρ rs [] fun v => R (.returned v) w
  | .ret, ρ, w => resWp P w ρ rs [] fun v => R (.returned v) w
  | .panic chain, _, w => R (.panicked chain) w
  | .outgrown, _, w => R .outgrown w
  | _, _, _ => False

theorem holds_run {P : Program} {w : World} {a : Addr} {T : TypeId} {v : Value} (h : Holds P w a T v) : (loadVar T a).run P w = .ok v w := by
  rcases h with ⟨hs, hc⟩ | ⟨ha, n, cs, hn, hc, rfl⟩
  · simp [loadVar, run_isAgg_scalar P T w hs, hc]
  · simp [loadVar, run_isAgg_agg P T w ha, run_sizeOf' P T n w hn, run_loadCells_cells (P := P) a n cs hc]

theorem resWp_run {P : Program} {w : World} {ρ : Env} (f : ResultVar → Sem Value) (h1 : ∀ t, f (.tmp t) = pure (ρ t)) (h2 : ∀ a t, f (.cell a t) = (do loadVar t (← asAddr (ρ a)))) :
    ∀ (rs : List ResultVar) (acc : List Value) (R : Value → Prop), resWp P w ρ rs acc R → ∃ vs, (rs.mapM f).run P w = .ok vs w ∧ R (packV (acc.reverse ++ vs)) := by
  intro rs
  induction rs with
  | nil => intro acc R h; exact ⟨[], by simp, by simpa [resWp] using h⟩
  | cons r rs ih =>
    intro acc R h
    cases r with
    | tmp t =>
      obtain ⟨vs, h3, h4⟩ := ih _ R h
      refine ⟨ρ t :: vs, ?_, by simpa using h4⟩
      simp only [List.mapM_cons, Sem.run_bind, Sem.run_pure, Result.andThen_ok, h1, h3]
    | cell a T =>
      obtain ⟨ad, v, ha, hv, h⟩ := h
      obtain ⟨vs, h3, h4⟩ := ih _ R h
      refine ⟨v :: vs, ?_, by simpa using h4⟩
      simp only [List.mapM_cons, Sem.run_bind, Sem.run_pure, Result.andThen_ok, h2, ha, asAddr, holds_run hv, h3]

theorem resWp_results {P : Program} {w : World} {ρ : Env} {fn : Func} {tmps : Array Value} {R : Value → Prop} (ht : ∀ i, tmps.getD i undef = ρ i)
    (h : resWp P w ρ fn.results.toList [] R) : ∃ v, (results fn tmps).run P w = .ok v w ∧ R v := by
  unfold results
  obtain ⟨vs, h1, h2⟩ := resWp_run (ρ := ρ) (fun
    | .tmp t => pure (tmps.getD t undef)
    | .cell a t => do loadVar t (← asAddr (tmps.getD a undef))) (fun t => by simp only [ht]) (fun a t => by simp only [ht]) _ _ _ h
  simp only [List.reverse_nil, List.nil_append] at h2
  refine ⟨packV vs, ?_, h2⟩
  simp only [Array.mapM_eq_mapM_toList, Sem.run_bind, Sem.run_map]
  refine Eq.trans (congrArg (fun r => ((Result.andThen r _).andThen _)) h1) ?_
  simp only [Result.andThen_ok, Sem.run_pure]
  match vs with
  | [] => rfl
  | [v] => rfl
  | v :: u :: vs => simp [packV]

theorem retQ_body {P : Program} {fn : Func} {n : Nat} {R : Ending → World → Prop} {e : Exit} {a : Act} {w : World}
    (h : liftQ n [] (retQ P fn.results.toList R) e a w) : bodyPost P fn R e a w := by
  obtain ⟨ρ, hr, h⟩ := h
  cases e with
  | normal => obtain ⟨v, h1, h2⟩ := resWp_results hr.2.1 h; exact ⟨hr.2.2, v, h1, h2⟩
  | ret => obtain ⟨v, h1, h2⟩ := resWp_results hr.2.1 h; exact ⟨hr.2.2, v, h1, h2⟩
  | panic ch => exact ⟨hr.2.2, h⟩
  | outgrown => exact h
  | exit => exact h
  | goto => exact h

theorem argEnv_rel (args : Array Value) (n : Nat) (h : args.size ≤ n) (ds : List Deferred) : Rel n (argEnv args.toList) ds { tmps := args ++ Array.replicate (n - args.size) undef, defers := ds } := by
  refine ⟨by simp; omega, fun i => ?_, rfl⟩
  simp only [argEnv, Array.getD_eq_getD_getElem?, List.getD_eq_getElem?_getD, Array.getElem?_append, Array.getElem?_replicate, Array.getElem?_toList]
  split
  · rfl
  · rename_i hi
    rw [Array.getElem?_eq_none (by omega)]
    split <;> simp

theorem calls_of_lir {P : Program} {f : FuncId} {fn : Func} {c : Code} {args : List Value} {w : World} {R : Ending → World → Prop} {lc : LC} {rs : List ResultVar}
    (hf : P.funcs[f]? = some fn) (hb : fn.body = some c) (hl : lowerC P fn.ntmps c = lc) (hrs : fn.results.toList = rs) (hn : Nat.ble args.length fn.ntmps = true)
    (h : lc.wp P (retQ P rs R) (argEnv args) w) : Calls P f ⟨args⟩ w R := by
  refine calls_of_wp hf hb ?_
  subst hl hrs
  have hn' : args.length ≤ fn.ntmps := Nat.le_of_ble_eq_true hn
  exact wp_mono (lowerC_sound (ds := []) c _ _ _ _ (argEnv_rel ⟨args⟩ fn.ntmps hn' []) h) fun e a w h => retQ_body h

/-- A function, lowered. -/
def lowF (P : Program) (fn : Func) : Option LC := fn.body.map (lowerC P fn.ntmps)

theorem calls_of_low {P : Program} {f : FuncId} {fn : Func} {args : List Value} {w : World} {R : Ending → World → Prop} {lc : LC} {rs : List ResultVar}
    (hf : P.funcs[f]? = some fn) (hl : lowF P fn = some lc) (hrs : fn.results.toList = rs) (hn : Nat.ble args.length fn.ntmps = true)
    (h : lc.wp P (retQ P rs R) (argEnv args) w) : Calls P f ⟨args⟩ w R := by
  unfold lowF at hl
  cases hb : fn.body with
  | none => simp [hb] at hl
  | some c => simp only [hb, Option.map_some, Option.some.injEq] at hl; exact calls_of_lir hf hb hl hrs hn h

end Go.Lir
