/- Evaluation is sound: make, what is outside the program's text, every operation. -/
import Derived.Test.YthdkbdnbflkagaaGreatDoorEvV
namespace Go.Lir
set_option linter.unusedVariables false
set_option linter.unusedSimpArgs false
section
variable {P : Program} {c : Cn} {φ : Ph} {σ : Tr2 V} {A : AW} {ρ : Env} {w : World} {K : KT} {Q Q' : QT} {v : V} {u : Value}
theorem make_lays {d : Nat} {Ts : TypeId} {x y : Operand} {Ty : TypeId} {pos : String} {af : Array Edge} {g : Option (Nat × Bool)} {e es nb : Nat} {z : List Value} {kn km : IntKind} {n m : Nat} (hel : elInfo P Ts = some (e, es, nb, z)) (hx : exV σ x = .i kn (.ofNat n)) (hy : exV σ y = .i km (.ofNat m)) (hnm : n ≤ m) (hbig : m * nb ≤ 281474976710656) :
    Lays P (.raw ⟨some d, .makeSlice Ts x y, Ty, pos, af, g⟩) σ A d (.l A.n 0 n m) (.cl e (List.replicate m (z.map ofC)).flatten) := by
  refine lays_cl (hvL n m) fun φ ρ w K Q he h => ?_
  have hx' := ev_ok he x
  have hy' := ev_ok he y
  rw [hx] at hx'
  rw [hy] at hy'
  generalize hu : ρ.ev x = u at hx'
  generalize hu' : ρ.ev y = u' at hy'
  cases hx'
  cases hy'
  obtain ⟨i, zv, hun, hi, hz, rfl, rfl, hzc, hes, hnb, hzl⟩ := elInfo_spec hel
  have hzs : zv.cells.size = i.size := by rw [← Array.length_toList, hzc]; exact hzl
  have hle : m ≤ 281474976710656 := Nat.le_trans (Nat.le_mul_of_pos_right _ hnb) hbig
  have hwr : IntKind.i64.wrap (Int.ofNat n) = n := wrap_i64 (by simp only [Int.ofNat_eq_natCast]; omega) (by simp only [Int.ofNat_eq_natCast]; omega)
  have hwr' : IntKind.i64.wrap (Int.ofNat m) = m := wrap_i64 (by simp only [Int.ofNat_eq_natCast]; omega) (by simp only [Int.ofNat_eq_natCast]; omega)
  have hfl := repl_flatten hzl hes m
  have hb : (i.bytes : Int) * m ≤ 281474976710656 := by
    have := Int.ofNat_le.2 hbig
    rw [Int.natCast_mul] at this
    rw [Int.mul_comm]; exact this
  have hlarge : ((m : Int) < 0 || decide ((i.bytes : Int) * (m : Int) > 2 ^ 48)) = false := by
    simp only [Bool.or_eq_false_iff, decide_eq_false_iff_not]; omega
  refine raw_val (v := .slice (some ⟨w.heap.size, 0, none⟩) n m) (w' := w.alloc (.cells ⟨(List.replicate m z).flatten⟩ e)) ?_ ((h _ (repl_ok _ _ (by simpa using VRs.map (φ := φ) (f := ofC) (g := id) (fun x => VR.ofC x) z) m)).2 n m rfl)
  simp only [execOp, Instr.makeSlice, Sem.run_bind, run_underlying' P Ts _ w hun, Result.andThen_ok, hu, hu', asInt, asIntOf, Sem.run_pure, run_typeInfo P e i _ hi, hwr, hwr', hlarge, Bool.false_or]
  have hc2 : (decide ((n : Int) < 0) || decide ((n : Int) > (m : Int))) = false := by simp only [Bool.or_eq_false_iff, decide_eq_false_iff_not]; omega
  rw [hc2]
  simp only [Bool.false_eq_true, if_false, Sem.run_bind, run_askRoom, Result.andThen_ok, run_sizeOf' P e i.size w (by simp [sizeT, hi]), Int.toNat_natCast]
  by_cases hnz : m * i.size = 0
  · rw [if_pos hnz]
    have hn0 : m = 0 := by
      rcases Nat.mul_eq_zero.1 hnz with h | h
      · exact h
      · omega
    subst hn0
    simp only [Sem.run_pure, Result.andThen_ok, newRow, Sem.run_bind, run_newObj, Nat.zero_mul]
    have hr0 : Array.range 0 = #[] := rfl
    rw [hr0, Array.map_empty]
    rfl
  · rw [if_neg hnz]
    simp only [Sem.run_bind, run_zeroValue' P e zv _ (by simp [zeroT, hi, hz]), Sem.run_pure, Result.andThen_ok, newRow, run_newObj]
    have harr : ((Array.range (m * i.size)).map (zv.cells[· % zv.cells.size]!) : Array Value) = ⟨(List.replicate m z).flatten⟩ := by
      apply Array.ext'
      rw [← hfl]
      simp [hzs, ← hzc]
      intro a _
      rw [Array.getElem!_eq_getD, Array.getD_eq_getD_getElem?]
    rw [harr]
    rfl
/-- What oMake comes to. -/
theorem make_inv {d : Nat} {Ts : TypeId} {x y : Operand} {r : ER} (hr : oMake P A σ d Ts x y = r) (hn : r ≠ .no) : ∃ e es nb z kn km n m, elInfo P Ts = some (e, es, nb, z) ∧ exV σ x = .i kn (.ofNat n) ∧ exV σ y = .i km (.ofNat m) ∧ n ≤ m ∧ m * nb ≤ 281474976710656 ∧ r = putV ⟨A.t.set (.cl e (List.replicate m (z.map ofC)).flatten) A.n, A.n + 1⟩ σ d (.l A.n 0 n m) := by
  unfold oMake at hr
  rw [ex_eq, ex_eq] at hr
  cases hx : exV σ x <;> rw [hx] at hr <;> try exact absurd hr.symm hn
  rename_i kn n
  cases n with
  | negSucc n => exact absurd hr.symm hn
  | ofNat n =>
    cases hy : exV σ y <;> rw [hy] at hr <;> try exact absurd hr.symm hn
    rename_i km m
    cases m with
    | negSucc m => exact absurd hr.symm hn
    | ofNat m =>
      cases hel : elInfo P Ts with
      | none => rw [hel] at hr; exact absurd hr.symm hn
      | some q =>
        obtain ⟨e, es, nb, z⟩ := q
        rw [hel] at hr
        replace hr : orN (Nat.ble n m) (orN (Nat.ble (m * nb) 281474976710656) (mapk z fun z => replk z m fun l => fN e fun e => newB A (.cl e l) fun b A => putV A σ d (.l b 0 n m))) = r := hr
        cases h1 : Nat.ble n m with
        | false => rw [h1] at hr; exact absurd hr.symm hn
        | true =>
          rw [h1] at hr
          cases h2 : Nat.ble (m * nb) 281474976710656 with
          | false => rw [h2] at hr; exact absurd hr.symm hn
          | true =>
            rw [h2] at hr
            replace hr : (mapk z fun z => replk z m fun l => fN e fun e => newB A (.cl e l) fun b A => putV A σ d (.l b 0 n m)) = r := hr
            rw [mapk_eq, replk_eq, fN_eq, newB_eq] at hr
            exact ⟨e, es, nb, z, kn, km, n, m, rfl, rfl, rfl, Nat.le_of_ble_eq_true h1, Nat.le_of_ble_eq_true h2, hr.symm⟩
theorem post_no {r : ER} (h : Post c Q r) : r ≠ .no := by rintro rfl; exact h
theorem make_ok (hb : Bs c φ A w) (he : EnvR φ σ ρ) {d : Nat} {Ts : TypeId} {x y : Operand} {Ty : TypeId} {pos : String} {af : Array Edge} {g : Option (Nat × Bool)} (h : Post c (thenQ K Q) (oMake P A σ d Ts x y)) : rawWp P ⟨some d, .makeSlice Ts x y, Ty, pos, af, g⟩ ρ w K Q := by
  obtain ⟨e, es, nb, z, kn, km, n, m, h1, h2, h3, h4, h5, h6⟩ := make_inv rfl (post_no h)
  rw [h6] at h
  exact lays_ok (make_lays h1 h2 h3 h4 h5) hb he h
/-! ### What is outside the program's text -/
def ExOk (P : Program) (f : FuncId) (k : ExK) : Prop := ∃ fn, P.funcs[f]? = some fn ∧ (fn.name == "runtime.NumGoroutine") = false ∧ fn.body.isNone = true ∧ Extern.findNext fn = none ∧ (match k with
  | .same => Extern.find fn = some Extern.AbiNoEscape.same
  | .find => Extern.find fn = some Extern.BytealgIndexByte.indexByte
  | .make e => ∃ ps t, Extern.find fn = some (Extern.BytealgMakeNoZero.makeNoZero ps #[t]) ∧ P.underlying t = some (.slice e))
def EOk (P : Program) (E : FuncId → Option ExK) : Prop := ∀ f k, E f = some k → ExOk P f k
theorem ext_raw {fn : Func} {f : FuncId} {d : Nat} {xs : Array Operand} {ts : Array TypeId} {Ty : TypeId} {pos : String} {af : Array Edge} {g : Option (Nat × Bool)} {ex : Array Value → Sem Value} {r : Value} {w' : World} (h1 : P.funcs[f]? = some fn) (h2 : (fn.name == "runtime.NumGoroutine") = false) (h3 : fn.body.isNone = true) (h4 : Extern.findNext fn = none) (h5 : Extern.find fn = some ex) (h6 : (ex ⟨xs.toList.map ρ.ev⟩).run P w = .ok r w') (hk : K (upd ρ d r) w') :
    rawWp P ⟨some d, .call ⟨.value (.func f), xs, ts⟩, Ty, pos, af, g⟩ ρ w K Q := by
  refine raw_val (v := r) (w' := w') ?_ hk
  have hr := run_callFunc_extern (P := P) h1 h2 h3 h4 h5 ⟨xs.toList.map ρ.ev⟩ w
  rw [h6] at hr
  have e0 : ρ.ev (.func f) = .func (.func f) #[] #[] := rfl
  have e1 : (⟨xs.toList.map ρ.ev⟩ : Array Value) = xs.map ρ.ev := by apply Array.ext'; simp
  rw [e1] at hr
  have e2 : (resolve ρ.ev ⟨.value (.func f), xs, ts⟩ Ty).run P w = .ok ⟨.fn (.func f) #[], xs.map ρ.ev⟩ w := by
    simp [resolve, Deferred.ofValue, e0]
  simp only [execOp, Sem.run_bind, e2, Result.andThen_ok, invoke]
  simpa [callFunc] using hr
theorem findk_ok {ch : UInt8} {k : Option Nat → ER} : ∀ (l : List UInt8) (i : Nat), Post c Q (findk l ch.toNat i k) → ∃ r, Post c Q (k r) ∧ (match r with | some j => i ≤ j ∧ Lib.indexByte l ch = ((j - i : Nat) : Int) | none => Lib.indexByte l ch = -1)
  | [], i, h => ⟨none, h, rfl⟩
  | b :: l, i, h => by
    rcases orE_ok (show Post c Q (orE (Nat.beq b.toNat ch.toNat) (fN i fun i => k (some i)) (findk l ch.toNat (.succ i) k)) from h) with ⟨h1, hB⟩ | ⟨h1, h⟩
    · rw [fN_eq] at hB
      have : b = ch := UInt8.toNat_inj.1 (Nat.eq_of_beq_eq_true h1)
      clear h
      subst this
      refine ⟨some i, hB, Nat.le_refl _, ?_⟩
      simp [Lib.indexByte]
    · have hne : b ≠ ch := by rintro rfl; simp [Nat.beq_refl] at h1
      obtain ⟨r, h2, h3⟩ := findk_ok l (i + 1) h
      refine ⟨r, h2, ?_⟩
      cases r with
      | none => simp [Lib.indexByte, hne, h3]
      | some j =>
        obtain ⟨h4, h5⟩ := h3
        refine ⟨by omega, ?_⟩
        have h6 : ((((j - (i + 1) : Nat) : Int)) == -1) = false := by
          rw [beq_eq_false_iff_ne]; omega
        simp only [Lib.indexByte, h5, h6, Bool.false_eq_true, if_false]
        rw [if_neg (by simpa using hne)]
        omega
theorem ext1_ok {f : FuncId} {k : ExK} (hE : ExOk P f k) (hb : Bs c φ A w) (he : EnvR φ σ ρ) {d : Nat} {xs : Array Operand} {ts : Array TypeId} {Ty : TypeId} {pos : String} {af : Array Edge} {g : Option (Nat × Bool)} (h : Post c (thenQ K Q) (oExt1 A σ d k xs.toList)) : rawWp P ⟨some d, .call ⟨.value (.func f), xs, ts⟩, Ty, pos, af, g⟩ ρ w K Q := by
  obtain ⟨fn, h1, h2, h3, h4, h5⟩ := hE
  unfold oExt1 at h
  rw [exs_eq] at h
  have hx := evs_ok he xs.toList
  generalize xs.toList.map (exV σ) = l at h hx
  generalize hm : xs.toList.map ρ.ev = m at hx
  cases k with
  | same =>
    cases hx with
    | nil => exact False.elim h
    | cons hv ht =>
      cases ht with
      | cons _ _ => exact False.elim h
      | nil =>
        exact ext_raw h1 h2 h3 h4 h5 (by rw [hm]; rfl) (put_ok hb he hv h)
  | find =>
    cases hx with
    | nil => exact False.elim h
    | @cons v u l m hv ht =>
      cases ht with
      | nil => exact False.elim h
      | @cons v' u' l m hv' ht' =>
        cases ht' with
        | cons _ _ => exact False.elim h
        | nil =>
          obtain ⟨s, _, rfl, h⟩ := toS_ok (show Post c (thenQ K Q) (toS v fun s => toI v' fun k c => orN (eqK k .u8) (match c with
            | .ofNat c => orN (Nat.blt c 256) (findk s c 0 fun r => match r with
              | some i => putV A σ d (.i .i64 (.ofNat i))
              | none => putV A σ d (.i .i64 (.negSucc 0)))
            | _ => .no)) from h) hv
          obtain ⟨kd, n, _, rfl, h⟩ := toI_ok h hv'
          obtain ⟨g1, h⟩ := orN_ok h
          have g1 := eqK_eq g1
          cases n with
          | negSucc n => exact False.elim h
          | ofNat n =>
            obtain ⟨g2, h⟩ := orN_ok (show Post c (thenQ K Q) (orN (Nat.blt n 256) (findk s n 0 fun r => match r with
              | some i => putV A σ d (.i .i64 (.ofNat i))
              | none => putV A σ d (.i .i64 (.negSucc 0)))) from h)
            rw [nblt, decide_eq_true_eq] at g2
            have g3 : (Int.ofNat n).toNat.toUInt8.toNat = n := by
              show (UInt8.ofNat n).toNat = n
              rw [UInt8.toNat_ofNat']; omega
            have hrun := Lib.run_indexByteString (P := P) ⟨s.toArray⟩ (Int.ofNat n) w
            have hdl : (⟨s.toArray⟩ : ByteArray).data.toList = s := rfl
            rw [hdl] at hrun
            rw [← g3] at h
            obtain ⟨r, g4, g5⟩ := findk_ok s 0 h
            refine ext_raw h1 h2 h3 h4 h5 (r := .int .i64 (Lib.indexByte s (Int.ofNat n).toNat.toUInt8)) (w' := w) (by rw [hm, g1]; exact hrun) ?_
            cases r with
            | none => rw [g5]; exact put_ok hb he (.i _ _) g4
            | some j => rw [g5.2, Nat.sub_zero]; exact put_ok hb he (.i _ _) g4
  | make e =>
    obtain ⟨ps, t, h5, ht5⟩ := h5
    cases hx with
    | nil => exact False.elim h
    | @cons v u l m hv ht =>
      cases ht with
      | cons _ _ => cases hv <;> (first | exact False.elim h | (rename_i kd n; cases kd <;> cases n <;> exact False.elim h) | (rename_i kd n _ _ _ _ _; cases kd <;> cases n <;> exact False.elim h) | (rename_i kd n _ _ _ _; cases kd <;> cases n <;> exact False.elim h))
      | nil =>
        cases hv
        case i kd n =>
          cases kd
          case i64 =>
            cases n with
            | negSucc n => exact False.elim h
            | ofNat n =>
              obtain ⟨g1, h⟩ := orN_ok (show Post c (thenQ K Q) (orN (Nat.ble n 281474976710656) (replk [.u] n fun cs => newB A (.op e 1 cs) fun b A => putV A σ d (.l b 0 n n))) from h)
              have g1 := Nat.le_of_ble_eq_true g1
              obtain ⟨cs, hrun, hle, _⟩ := Lib.run_makeNoZero (P := P) w ps t e ht5 n g1
              rw [replk_eq] at h
              have hl : (List.replicate n [V.u]).flatten.length = n := by simp
              refine ext_raw h1 h2 h3 h4 h5 (by rw [hm]; exact hrun) ?_
              obtain ⟨ψ, k1, k2, k3, k4, h⟩ := new_ok (es := 1) (room := cs.size) (w' := w.drew.drew.alloc (.cells cs e)) hb h (((fr_alloc w.drew.drew _).drew).drew) (fun ψ hle' => ⟨_, rfl, rfl, by omega, hb.wr.fr.size, cs.toList, blk_alloc w.drew.drew cs.toList e, by rw [hl]; simpa using hle, by simp, by
                rw [hl]
                have hlen : (cs.toList.take n).length = n := by simp; omega
                have key : ∀ (n : Nat) (m : List Value), m.length = n → VRs ψ (List.replicate n [V.u]).flatten m := by
                  intro n
                  induction n with
                  | zero => intro m hm; rw [List.length_eq_zero_iff] at hm; subst hm; exact .nil
                  | succ n ih =>
                    intro m hm
                    cases m with
                    | nil => simp at hm
                    | cons y m =>
                      rw [List.replicate_succ, List.flatten_cons]
                      exact .cons (.u y) (ih m (by simpa using hm))
                exact key n _ hlen⟩)
              exact put_ok k2 (he.up k1) (.l k3 fun y hy => by
                rw [k4 y hy]
                refine ⟨rfl, ?_⟩
                unfold RoomOk
                rw [if_neg (by simp)]
                exact ⟨hle, by simp⟩) h
          all_goals (cases n <;> exact False.elim h)
        all_goals exact False.elim h
end
end Go.Lir
