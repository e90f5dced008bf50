/- Evaluation is sound: the operations that are left as they are. -/
import Derived.Test.YthdkbdnbflkagaaGreatDoorEvQ
import Derived.Lib.MakeNoZero
import Derived.Lib.Bytealg
namespace Go.Lir
set_option linter.unusedVariables false
set_option linter.unusedSimpArgs false
section
variable {P : Program} {c : Cn} {φ : Ph} {σ : Tr2 V} {A : AW} {ρ : Env} {w : World} {K : KT} {Q Q' : QT} {v : V} {u : Value}
theorem isStrT_eq {T : TypeId} (h : isStrT P T = true) : P.underlying T = some .string := isStrT_spec h
theorem bytes_ok (l : List UInt8) : VRs φ (l.map ucellV) (l.map fun b => Value.int .u8 b.toNat) := VRs.map (fun b => .i _ _) l
theorem app_ok (hb : Bs c φ A w) (he : EnvR φ σ ρ) {d : Option Nat} {x y : Operand} {Ts Ts2 Ty : TypeId} {pos : String} {af : Array Edge} {g : Option (Nat × Bool)} (h : Post c (thenQ K Q) (oApp P A σ d Ts Ts2 x y)) : rawWp P ⟨d, .call ⟨.builtin .append, #[x, y], #[Ts, Ts2]⟩, Ty, pos, af, g⟩ ρ w K Q := by
  unfold oApp at h
  rw [ex_eq, ex_eq] at h
  have hy := ev_ok he y
  generalize exV σ y = v' at h hy
  generalize hu : ρ.ev y = u' at hy
  cases hy
  case l0 =>
    obtain ⟨ht, h⟩ := orN_ok (show Post c (thenQ K Q) (orN (isSlT P Ts2) (appTo P A σ d Ts (exV σ x) [] 0)) from h)
    exact appTo_ok hb he (.inl (isSlT_ok ht)) (ev_ok he x) (by rw [hu]; rfl) (m2 := []) (fun e es nb z _ => ⟨fun w' _ => by rw [hu]; rfl, by simp⟩) .nil h
  case lz a cp =>
    obtain ⟨ht, h⟩ := orN_ok (show Post c (thenQ K Q) (orN (isSlT P Ts2) (appTo P A σ d Ts (exV σ x) [] 0)) from h)
    exact appTo_ok hb he (.inl (isSlT_ok ht)) (ev_ok he x) (by rw [hu]; rfl) (m2 := []) (fun e es nb z _ => ⟨fun w' _ => by rw [hu]; simp only [Builtin.firstCells, Nat.zero_mul]; rfl, by simp⟩) .nil h
  case s l =>
    obtain ⟨ht, h⟩ := orN_ok (show Post c (thenQ K Q) (orN (isStrT P Ts2) (match elInfo P Ts with
      | some (_, es, _, _) => orN (Nat.beq es 1) (bytesk l fun cs => fN l.length fun n => appTo P A σ d Ts (exV σ x) cs n)
      | none => .no)) from h)
    cases hel : elInfo P Ts with
    | none => rw [hel] at h; exact False.elim h
    | some q =>
      obtain ⟨e, es, nb, z⟩ := q
      rw [hel] at h
      obtain ⟨h1, h⟩ := orN_ok (show Post c (thenQ K Q) (orN (Nat.beq es 1) (bytesk l fun cs => fN l.length fun n => appTo P A σ d Ts (exV σ x) cs n)) from h)
      have h1 := Nat.eq_of_beq_eq_true h1
      rw [bytesk_eq, fN_eq] at h
      have hs := Lib.run_firstCells_string (P := P) (w := w)
      refine appTo_ok hb he (.inr (isStrT_eq ht)) (ev_ok he x) (by rw [hu]; show Result.ok _ _ = _; rw [tx_size]) (m2 := l.map fun b => Value.int .u8 b.toNat) (fun e' es' nb' z' he' => ?_) (bytes_ok l) h
      rw [hel] at he'
      cases he'
      subst h1
      refine ⟨fun w' _ => ?_, by simp⟩
      rw [hu]
      have := Lib.run_firstCells_string (P := P) w' 1 ⟨l.toArray⟩
      rw [Lib.strCells_eq, tx_size] at this
      exact this
  case l b o n cp cp' a h1 h2 =>
    obtain ⟨ht, h⟩ := orN_ok (show Post c (thenQ K Q) (orN (isSlT P Ts2) (match elInfo P Ts with
      | some (_, es, _, _) => cellsB (atB A b) fun cs => dropk cs o fun cs => takek cs (n * es) fun cs => orN (lenB cs (n * es)) (appTo P A σ d Ts (exV σ x) cs n)
      | none => .no)) from h)
    cases hel : elInfo P Ts with
    | none => rw [hel] at h; exact False.elim h
    | some q =>
      obtain ⟨e, es, nb, z⟩ := q
      rw [hel] at h
      obtain ⟨y', T, cs, m, h3, h4, h5, h⟩ := cells_ok hb (show Post c (thenQ K Q) (cellsB (atB A b) fun cs => dropk cs o fun cs => takek cs (n * es) fun cs => orN (lenB cs (n * es)) (appTo P A σ d Ts (exV σ x) cs n)) from h)
      rw [dropk_eq, takek_eq] at h
      obtain ⟨h6, h⟩ := orN_ok h
      have h6 := lenB_eq _ _ h6
      obtain ⟨ha, _⟩ := h2 y' h3
      subst ha
      have h7 := (h5.drop o).take (n * es)
      have h8 : (((m.take cs.length).drop o).take (n * es)) = ((m.drop o).take (n * es)) := by
        have h9 := h7.len
        rw [h6] at h9
        rw [List.drop_take, List.take_take]
        congr 1
        simp only [List.length_take, List.length_drop] at h6 h9
        omega
      rw [h8] at h7
      have h9 := h7.len
      rw [h6] at h9
      refine appTo_ok hb he (.inl (isSlT_ok ht)) (ev_ok he x) (by rw [hu]; rfl) (m2 := (m.drop o).take (n * es)) (fun e' es' nb' z' he' => ?_) h7 h
      rw [hel] at he'
      cases he'
      refine ⟨fun w' hw' => ?_, h9.symm⟩
      rw [hu]
      simp only [Builtin.firstCells]
      exact run_loadCells_cells _ _ _ ((h4.of_same (hw' _ h4.lt)).cells rfl h9.symm)
  all_goals exact False.elim h
theorem unbyte_ok {k : List UInt8 → ER} : ∀ (l : List V) (m : List Value), VRs φ l m → Post c Q (unbyte l k) → ∃ t : List UInt8, m = t.map (fun b => Value.int .u8 b.toNat) ∧ Post c Q (k t)
  | [], _, .nil, h => ⟨[], rfl, h⟩
  | v :: l, _, .cons (u := u) (m := m) hv ht, h => by
    cases hv
    case i kd n =>
      cases kd
      case u8 =>
        cases n with
        | ofNat n =>
          obtain ⟨hn, h⟩ := orN_ok (show Post c Q (orN (Nat.blt n 256) (unbyte l fun l => k (UInt8.ofNat n :: l))) from h)
          rw [nblt, decide_eq_true_eq] at hn
          obtain ⟨t, h1, h⟩ := unbyte_ok l m ht h
          refine ⟨UInt8.ofNat n :: t, ?_, h⟩
          rw [List.map_cons, h1]
          congr 2
          rw [UInt8.toNat_ofNat']
          simp only [Int.ofNat_eq_natCast, Int.natCast_inj]
          omega
        | negSucc n => exact False.elim h
      all_goals (cases n <;> exact False.elim h)
    all_goals exact False.elim h
theorem repl_ok (z : List V) (zs : List Value) (hz : VRs φ z zs) : ∀ n, VRs φ (List.replicate n z).flatten (List.replicate n zs).flatten
  | 0 => .nil
  | n + 1 => by rw [List.replicate_succ, List.replicate_succ, List.flatten_cons, List.flatten_cons]; exact hz.app (repl_ok z zs hz n)
theorem replk_eq (z : List V) (k : List V → ER) : ∀ n, replk z n k = k (List.replicate n z).flatten
  | 0 => rfl
  | n + 1 => by
    rw [replk, replk_eq z _ n, appk_eq]
    congr 1
/-- append's other kin: nothing is asked of what it was. -/
theorem none_ok (hb : Bs c φ A w) (he : EnvR φ σ ρ) {d : Nat} {Ts Ty : TypeId} {pos : String} {af : Array Edge} {g : Option (Nat × Bool)} (h : Post c (thenQ K Q) (oNone P A σ d Ts)) : rawWp P ⟨some d, .buildSlice Ts 0 #[], Ty, pos, af, g⟩ ρ w K Q := by
  unfold oNone at h
  cases hel : elInfo P Ts with
  | none => rw [hel] at h; exact False.elim h
  | some q =>
    obtain ⟨e, es, nb, z⟩ := q
    rw [hel] at h
    replace h : Post c (thenQ K Q) (fN e fun e => newB A (.cl e []) fun b A => putV A σ d (.l b 0 0 0)) := h
    rw [fN_eq] at h
    obtain ⟨i, zv, hu, hi, hz, rfl, rfl, hzc, hes, hnb, hzl⟩ := elInfo_spec hel
    refine raw_val (v := .slice (some ⟨w.heap.size, 0, none⟩) 0 0) (w' := w.alloc (.cells ⟨[]⟩ e)) ?_ ?_
    · simp only [execOp, Instr.buildSlice, Sem.run_bind, run_underlying' P Ts _ w hu, Result.andThen_ok, run_sizeOf' P e i.size w (by simp [sizeT, hi])]
      simp [Instr.fill, newRow]
      have hr0 : Array.range 0 = #[] := rfl
      rw [hr0, Array.map_empty]
    · obtain ⟨ψ, g1, g2, g3, g4, h⟩ := new_ok (es := 0) (room := 0) hb h (fr_alloc w _) (fun ψ hle => ⟨_, rfl, rfl, hb.wr.fr.size, [], blk_alloc w [] e, .nil⟩)
      exact put_ok g2 (he.up g1) (.l g3 fun y hy => by rw [g4 y hy]; exact ⟨rfl, by unfold RoomOk; rw [if_pos rfl]⟩) h
theorem cap_ok (hb : Bs c φ A w) (he : EnvR φ σ ρ) {d : Nat} {x : Operand} {T Ty : TypeId} {pos : String} {af : Array Edge} {g : Option (Nat × Bool)} (h : Post c (thenQ K Q) (oCap P A σ d T x)) : rawWp P ⟨some d, .call ⟨.builtin .cap, #[x], #[T]⟩, Ty, pos, af, g⟩ ρ w K Q := by
  unfold oCap at h
  rw [ex_eq] at h
  obtain ⟨ht, h⟩ := orN_ok h
  obtain ⟨e, ht⟩ := isSlT_ok ht
  have hx := ev_ok he x
  generalize exV σ x = v at h hx
  generalize hu : ρ.ev x = u at hx
  cases hx
  case l0 =>
    refine raw_val (v := .int .i64 0) (w' := w) ?_ (put_ok hb he (.i _ _) h)
    simp [execOp, resolve, invoke, builtin, hu, Builtin.cap_, run_underlying' P T _ w ht, goInt]
  all_goals exact False.elim h
theorem copy_ok (hb : Bs c φ A w) (he : EnvR φ σ ρ) {d : Option Nat} {x y : Operand} {T T2 Ty : TypeId} {pos : String} {af : Array Edge} {g : Option (Nat × Bool)} (h : Post c (thenQ K Q) (oCopy P A σ d T x y)) : rawWp P ⟨d, .call ⟨.builtin .copy, #[x, y], #[T, T2]⟩, Ty, pos, af, g⟩ ρ w K Q := by
  unfold oCopy at h
  rw [ex_eq, ex_eq] at h
  obtain ⟨ht, h⟩ := orN_ok h
  obtain ⟨hs, h⟩ := orN_ok h
  obtain ⟨e, ht⟩ := isSlT_ok ht
  have hx := ev_ok he x
  have hy := ev_ok he y
  generalize exV σ x = v at h hx
  generalize hu : ρ.ev x = u at hx
  generalize exV σ y = v' at h hy
  generalize hu' : ρ.ev y = u' at hy
  cases hy
  case l0 =>
    cases hx
    case l b o n cp cp' a h1 h2 =>
      refine raw_val (v := .int .i64 0) (w' := w) ?_ (putO_ok hb he (.i _ _) h)
      have hss : (elemT P T).isSome = true := by simp [elemT, ht]
      obtain ⟨n0, hn0⟩ : ∃ n0, sizeT P e = some n0 := by
        unfold elSz elemT at hs; rw [ht] at hs; exact Option.isSome_iff_exists.1 hs
      simp [execOp, resolve, invoke, builtin, hu, hu', Builtin.copy_, run_underlying' P T _ w ht, goInt, Builtin.lenOf, Builtin.firstCells, run_sizeOf' P e n0 w hn0, storeCells]
    all_goals exact False.elim h
  all_goals exact False.elim h
theorem panic_ok (hb : Bs c φ A w) (he : EnvR φ σ ρ) {d : Option Nat} {x : Operand} {Ty : TypeId} {pos : String} {af : Array Edge} {g : Option (Nat × Bool)} (h : Post c (thenQ K Q) (oPanic A σ x)) : rawWp P ⟨d, .panic x, Ty, pos, af, g⟩ ρ w K Q := by
  unfold oPanic at h
  rw [ex_eq] at h
  have hx := ev_ok he x
  generalize exV σ x = v at h hx
  generalize hu : ρ.ev x = u at hx
  cases hx
  case ic T v u hv =>
    unfold rawWp
    have e : (execOp ρ.ev ⟨d, .panic x, Ty, pos, af, g⟩).run P w = .halt (.panic (.iface T u)) w := by
      simp [execOp, Instr.panic, hu, goPanic, Sem.run]
    rw [e]
    exact h φ ρ w _ hb (.ic hv) he
  all_goals exact False.elim h
end
end Go.Lir
