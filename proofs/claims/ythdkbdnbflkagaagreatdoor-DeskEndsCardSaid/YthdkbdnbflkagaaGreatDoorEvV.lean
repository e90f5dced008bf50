/- Evaluation is sound: what is left of the operations. -/
import Derived.Test.YthdkbdnbflkagaaGreatDoorEvU
import Derived.Lib.OthersKept
import Derived.Lib.ConvBytes
namespace Go.Lir
set_option linter.unusedVariables false
set_option linter.unusedSimpArgs false
section
variable {P : Program} {c : Cn} {φ : Ph} {σ : Tr2 V} {A : AW} {ρ : Env} {w : World} {K : KT} {Q Q' : QT} {v : V} {u : Value}
theorem sdata_ok (hb : Bs c φ A w) (he : EnvR φ σ ρ) {d : Nat} {x : Operand} {ts : Array TypeId} {Ty : TypeId} {pos : String} {af : Array Edge} {g : Option (Nat × Bool)} (h : Post c (thenQ K Q) (oSdata A σ d x)) : rawWp P ⟨some d, .call ⟨.builtin .unsafeSliceData, #[x], ts⟩, Ty, pos, af, g⟩ ρ w K Q := by
  unfold oSdata at h
  rw [ex_eq] at h
  have hx := ev_ok he x
  generalize exV σ x = v at h hx
  generalize hu : ρ.ev x = u at hx
  cases hx
  case l b o n cp cp' a h1 h2 =>
    have hk := hb.wr.bk b
    dsimp only at h
    unfold atB at h
    generalize A.t.get .dd b = bk at h hk
    cases bk with
    | op T es cs =>
      obtain ⟨hn, h⟩ := orN_ok (show Post c (thenQ K Q) (orN (Nat.blt 0 n) (putV A σ d (.p b o))) from h)
      rw [nblt, decide_eq_true_eq] at hn
      obtain ⟨y, hy, hes, hz, _⟩ := hk
      obtain ⟨ha, hr⟩ := h2 y hy
      unfold RoomOk at hr
      rw [if_neg (by rw [hes]; exact hz)] at hr
      have hcp : cp' ≠ 0 := by omega
      refine raw_val (v := .pointer (some a)) (w' := w) ?_ (put_ok hb he (.p h1 fun x hx => (h2 x hx).1) h)
      have := Lib.run_unsafeSliceData_row (P := P) w ts Ty a n cp' hcp
      simp only [execOp, resolve, Sem.run_bind, Sem.run_pure, Result.andThen_ok, invoke, builtin]
      have e1 : (#[x].map ρ.ev) = #[.slice (some a) n cp'] := by simp [hu]
      rw [e1, this]; rfl
    | dd => exact False.elim h
    | cl T cs => exact False.elim h
    | ro T cs => exact False.elim h
    | it s i => exact False.elim h
  all_goals exact False.elim h
theorem isPtrTo_ok {T e : TypeId} (h : isPtrTo P T e = true) : P.underlying T = some (.pointer e) := by
  unfold isPtrTo at h
  split at h
  · rename_i e' hu; rw [hu, Nat.eq_of_beq_eq_true h]
  · cases h
theorem ustr_ok (hb : Bs c φ A w) (he : EnvR φ σ ρ) {d : Nat} {x y : Operand} {T T2 Ty : TypeId} {pos : String} {af : Array Edge} {g : Option (Nat × Bool)} (h : Post c (thenQ K Q) (oUstr P A σ d T x y)) : rawWp P ⟨some d, .call ⟨.builtin .unsafeString, #[x, y], #[T, T2]⟩, Ty, pos, af, g⟩ ρ w K Q := by
  unfold oUstr at h
  rw [ex_eq, ex_eq] at h
  obtain ⟨b, o, a, _, h1, h2, h3, h⟩ := toP_ok h (ev_ok he x)
  have hy := ev_ok he y
  generalize exV σ y = v at h hy
  generalize hu : ρ.ev y = u at hy
  cases hy
  case i kd n =>
    cases kd
    case i64 =>
      cases n with
      | negSucc n => exact False.elim h
      | ofNat n =>
        have hk := hb.wr.bk b
        dsimp only at h
        unfold atB at h
        generalize A.t.get .dd b = bk at h hk
        cases bk with
        | dd => exact False.elim h
        | cl T cs => exact False.elim h
        | ro T cs => exact False.elim h
        | it s i => exact False.elim h
        | op e es cs =>
          obtain ⟨y', hy, hes, hz, hc, m, hm, hlm, hroom, hvm⟩ := hk
          have ha := h2 y' hy
          subst ha
          obtain ⟨g1, h⟩ := orN_ok (show Post c (thenQ K Q) (orN (isPtrTo P T e) (orN (Nat.beq (P.cellsOf e) 1) (orN (Nat.blt 0 n) (orN (Nat.ble n 140737488355328) (dropk cs o fun cs => takek cs n fun cs => orN (lenB cs n) (unbyte cs fun l => A.t.setk .dd b fun t => putV ⟨t, A.n⟩ σ d (.s l))))))) from h)
          obtain ⟨g2, h⟩ := orN_ok h
          obtain ⟨g3, h⟩ := orN_ok h
          obtain ⟨g4, h⟩ := orN_ok h
          rw [dropk_eq, takek_eq] at h
          obtain ⟨g5, h⟩ := orN_ok h
          have g1 := isPtrTo_ok g1
          have g2 := Nat.eq_of_beq_eq_true g2
          rw [nblt, decide_eq_true_eq] at g3
          have g4 := Nat.le_of_ble_eq_true g4
          have g5 := lenB_eq _ _ g5
          have h7 := (hvm.drop o).take n
          have h8 : (((m.take cs.length).drop o).take n) = ((m.drop o).take n) := by
            have h9 := h7.len
            rw [g5] at h9
            rw [List.drop_take, List.take_take]
            congr 1
            simp only [List.length_take, List.length_drop] at g5 h9
            omega
          rw [h8] at h7
          have h9 := h7.len
          rw [g5] at h9
          obtain ⟨t, ht, h⟩ := unbyte_ok _ _ h7 h
          rw [Tr2.setk_eq] at h
          have htl : t.length = n := by
            have := congrArg List.length ht
            rw [List.length_map] at this
            omega
          have hcell : ∀ j z, t[j]? = some z → w.cell? ((⟨y'.c, o, none⟩ : Addr).add j) = some (.int .u8 z.toNat) := by
            intro j z hj
            have hlt := (List.getElem?_eq_some_iff.1 hj).1
            have e1 : ((m.drop o).take n)[j]? = some (.int .u8 z.toNat) := by rw [ht, List.getElem?_map, hj]; rfl
            rw [List.getElem?_take_of_lt (by omega), List.getElem?_drop] at e1
            rw [add_addr]
            exact hm.cell e1
          have hml : o + t.length ≤ m.length := by
            simp only [List.length_take, List.length_drop] at h9
            omega
          have hrun := run_ustr (P := P) (w := w) T T2 Ty e g1 g2 y'.c o m.length (blk_shape (H := w.heap) hm) t (by intro h0; rw [h0] at htl; simp at htl; omega) hml (by omega) hcell
          refine raw_val (v := .string ⟨t.toArray⟩) (w' := w.freeze ⟨y'.c, o, none⟩ t.length) ?_ ?_
          · simp only [execOp, resolve, Sem.run_bind, Sem.run_pure, Result.andThen_ok, invoke, builtin]
            have e1 : (#[x, y].map ρ.ev) = #[.pointer (some ⟨y'.c, o, none⟩), .int .i64 t.length] := by simp [h1, hu, htl]
            rw [e1, hrun]; rfl
          · obtain ⟨ψ, k1, k2, k3, k4, k5⟩ := hb.wr.kill b
            have hfr := freeze_fr w ⟨y'.c, o, none⟩ t.length
            have hne : ∀ j y2, ψ.f j = some y2 → y2.c ≠ y'.c := by
              intro j y2 hj hcc
              by_cases ejb : j = b
              · subst ejb; rw [k4] at hj; cases hj
              · rw [k5 j ejb] at hj; exact ejb (hb.wr.inj j b y2 y' hj hy hcc)
            have hw : WR ψ ⟨A.t.set .dd b, A.n⟩ c.w0 (w.freeze ⟨y'.c, o, none⟩ t.length) :=
              ⟨k3.hi, fun j => (k3.bk j).up (.refl ψ) (fun y2 hj => hfr.same _ (k3.lt (b := j) hj) (hne j y2 hj)), k3.inj, k3.fr.trans hfr (fun q hq hF => by have h6 := k3.fr.size; have : q = y'.c := hF; omega)⟩
            exact put_ok (hb.same k1 hw rfl k2) (he.up k1) (.s _) h
    all_goals (cases n <;> exact False.elim h)
  all_goals exact False.elim h
theorem isUnsT_ok {T : TypeId} (h : isUnsT P T = true) : P.underlying T = some .unsafePointer := by unfold isUnsT at h; split at h <;> simp_all
theorem ptrTo_ok {T : TypeId} {k : TypeId → ER} (h : Post c Q (ptrTo P T k)) : ∃ e, P.underlying T = some (.pointer e) ∧ Post c Q (k e) := by
  unfold ptrTo at h
  split at h
  · rename_i e hu; exact ⟨e, hu, h⟩
  · exact False.elim h
theorem convert_ok (hb : Bs c φ A w) (he : EnvR φ σ ρ) {d : Nat} {x : Operand} {S T Ty : TypeId} {pos : String} {af : Array Edge} {g : Option (Nat × Bool)} (h : Post c (thenQ K Q) (oConvert P A σ d S T x)) : rawWp P ⟨some d, .convert S T x, Ty, pos, af, g⟩ ρ w K Q := by
  unfold oConvert at h
  rw [ex_eq] at h
  have hx := ev_ok he x
  generalize exV σ x = v at h hx
  generalize hu : ρ.ev x = u at hx
  cases hx
  case p b o a h1 h2 =>
    obtain ⟨h0, hA⟩ := orN_ok (show Post c (thenQ K Q) (orN (Nat.beq o 0) (match atB A b with
      | .cl T0 cs => orN (Nat.blt 0 cs.length) (orE (isUnsT P T) (ptrTo P S fun e => match sizeT P e with
          | some (_ + 1) => putV A σ d (.p b o)
          | _ => .no) (orN (isUnsT P S) (ptrTo P T fun e => match sizeT P e with
          | some _ => orN (liesAt P P.depth T0 (cs.length / P.cellsOf T0) 0 e 1) (putV A σ d (.p b o))
          | none => .no)))
      | _ => .no)) from h)
    have h0 := Nat.eq_of_beq_eq_true h0
    clear h
    subst h0
    have hk := hb.wr.bk b
    unfold atB at hA
    generalize A.t.get .dd b = bk at hA hk
    cases bk with
    | dd => exact False.elim hA
    | op T es cs => exact False.elim hA
    | ro T cs => exact False.elim hA
    | it s i => exact False.elim hA
    | cl T0 cs =>
      obtain ⟨y', hy, hz, hc, m, hm, hvm⟩ := hk
      have ha := h2 y' hy
      subst ha
      have hl := hvm.len
      dsimp only at hA
      obtain ⟨g1, hB⟩ := orN_ok hA
      rw [nblt, decide_eq_true_eq] at g1
      rcases orE_ok hB with ⟨g2, hC⟩ | ⟨g2, hC⟩
      · obtain ⟨e, g3, hD⟩ := ptrTo_ok hC
        cases hs : sizeT P e with
        | none => rw [hs] at hD; exact False.elim hD
        | some n =>
          cases n with
          | zero => rw [hs] at hD; exact False.elim hD
          | succ n =>
            rw [hs] at hD
            refine raw_val (v := .pointer (some ⟨y'.c, 0, none⟩)) (w' := w) ?_ (put_ok hb he (.p h1 h2) hD)
            obtain ⟨j, ht, hj⟩ : ∃ j, P.info? e = some j ∧ j.size ≠ 0 := by
              unfold sizeT at hs
              rw [Option.map_eq_some_iff] at hs
              obtain ⟨j, h1, h2⟩ := hs
              exact ⟨j, h1, by omega⟩
            have := Lib.run_to_unsafe (P := P) (w := w) ⟨y'.c, 0, none⟩ g3 (isUnsT_ok g2) ht hj (blk_shape (H := w.heap) hm) (by simp only; omega)
            simp only [execOp, hu, Sem.run_bind, this]
            rfl
      · obtain ⟨g3, hC'⟩ := orN_ok hC
        obtain ⟨e, g4, hD⟩ := ptrTo_ok hC'
        cases hs : sizeT P e with
        | none => rw [hs] at hD; exact False.elim hD
        | some n =>
          rw [hs] at hD
          obtain ⟨g5, hE⟩ := orN_ok (show Post c (thenQ K Q) (orN (liesAt P P.depth T0 (cs.length / P.cellsOf T0) 0 e 1) (putV A σ d (.p b 0))) from hD)
          refine raw_val (v := .pointer (some ⟨y'.c, 0, none⟩)) (w' := w) ?_ (put_ok hb he (.p h1 h2) hE)
          obtain ⟨j, hue, _⟩ := Option.map_eq_some_iff.1 hs
          have := Lib.run_from_unsafe (P := P) (w := w) ⟨y'.c, 0, none⟩ (isUnsT_ok g3) g4 hue (blk_shape (H := w.heap) hm) (by rw [← hl]; exact g5)
          simp only [execOp, hu, Sem.run_bind, this]
          rfl
  case s l =>
    obtain ⟨g1, h⟩ := orN_ok (show Post c (thenQ K Q) (orN (isStrT P S) (orN (isBytesT P T) (match elemT P T with
      | some e => bytesk l fun cs => fN e fun e => fN l.length fun n => newB A (.op e 1 cs) fun b A => putV A σ d (.l b 0 n n)
      | none => .no))) from h)
    obtain ⟨g2, h⟩ := orN_ok h
    cases hel : elemT P T with
    | none => rw [hel] at h; exact False.elim h
    | some e =>
      rw [hel] at h
      replace h : Post c (thenQ K Q) (bytesk l fun cs => fN e fun e => fN l.length fun n => newB A (.op e 1 cs) fun b A => putV A σ d (.l b 0 n n)) := h
      rw [bytesk_eq, fN_eq, fN_eq] at h
      have hue := elemT_spec hel
      have hu8 : P.underlying e = some (.int .u8) := by
        unfold isBytesT at g2
        rw [hue] at g2
        dsimp only at g2
        split at g2
        · assumption
        · cases g2
      have hrun := Lib.run_convert_string_bytes (P := P) w S T e ⟨l.toArray⟩ (isStrT_eq g1) hue hu8
      rw [tx_size] at hrun
      refine raw_val (v := _) (w' := _) (by simp only [execOp, hu, Sem.run_bind, hrun]; rfl) ?_
      have hge := grownCap_ge w l.length 0 e
      have hcl : (Lib.bytesCells w e ⟨l.toArray⟩).toList = l.map (fun b => Value.int .u8 b.toNat) ++ List.replicate (grownCap w l.length 0 e - l.length) (.int .u8 0) := by
        unfold Lib.bytesCells
        rw [tx_size]
        simp
      have hsz : (Lib.bytesCells w e ⟨l.toArray⟩).size = grownCap w l.length 0 e := by
        rw [← Array.length_toList, hcl]; simp; omega
      have hfr : Fr NF w (Lib.bytesWorld w e ⟨l.toArray⟩) := ⟨rfl, rfl, rfl, by rw [Lib.bytesWorld_size]; omega, fun b hb _ => Lib.bytesWorld_at_old w e _ b hb⟩
      have hblk : Blk (Lib.bytesWorld w e ⟨l.toArray⟩).heap w.heap.size e (l.map (fun b => Value.int .u8 b.toNat) ++ List.replicate (grownCap w l.length 0 e - l.length) (.int .u8 0)) := by
        refine ⟨((Lib.bytesCells w e ⟨l.toArray⟩).size, (Lib.bytesCells w e ⟨l.toArray⟩).size + 1), ?_, ?_, ?_⟩
        · rw [Lib.bytesWorld_at_new, ← hcl]
        · intro i hi hi2
          simp only at hi hi2
          rw [← hcl, Array.length_toList]; exact hi
        · simp only; omega
      obtain ⟨ψ, k1, k2, k3, k4, h⟩ := new_ok (es := 1) (room := grownCap w l.length 0 e) hb h hfr (fun ψ hle => ⟨_, rfl, rfl, by omega, hb.wr.fr.size, _, hblk, by simp, by simp; omega, by
        rw [List.length_map]
        rw [List.take_left' (by simp)]
        exact bytes_ok l⟩)
      exact put_ok k2 (he.up k1) (.l k3 fun y hy => by
        rw [k4 y hy]
        refine ⟨rfl, ?_⟩
        unfold RoomOk
        rw [if_neg (by simp)]
        exact ⟨hge, by simp⟩) h
  all_goals exact False.elim h
theorem index_ok (hb : Bs c φ A w) (he : EnvR φ σ ρ) {d : Nat} {x i : Operand} {T Ty : TypeId} {pos : String} {af : Array Edge} {g : Option (Nat × Bool)} (h : Post c (thenQ K Q) (oIndex P A σ d T x i)) : rawWp P ⟨some d, .index T x i, Ty, pos, af, g⟩ ρ w K Q := by
  unfold oIndex at h
  rw [ex_eq, ex_eq] at h
  obtain ⟨l, m, _, h1, h2, h⟩ := toAg_ok h (ev_ok he x)
  obtain ⟨kd, n, _, h3, h⟩ := toN_ok h (ev_ok he i)
  cases ht : arrT P T with
  | none => rw [ht] at h; exact False.elim h
  | some q =>
    obtain ⟨len, e⟩ := q
    rw [ht] at h
    obtain ⟨g1, h⟩ := orN_ok (show Post c (thenQ K Q) (orN (Nat.blt n len) (orN (scalarT P e) (match sizeT P e with
      | some s => orN (Nat.beq s 1) (nthk l n .no fun v => putV A σ d v)
      | none => .no))) from h)
    obtain ⟨g2, h⟩ := orN_ok h
    rw [nblt, decide_eq_true_eq] at g1
    cases hs : sizeT P e with
    | none => rw [hs] at h; exact False.elim h
    | some s =>
      rw [hs] at h
      obtain ⟨g3, h⟩ := orN_ok (show Post c (thenQ K Q) (orN (Nat.beq s 1) (nthk l n .no fun v => putV A σ d v)) from h)
      have g3 := Nat.eq_of_beq_eq_true g3
      subst g3
      rw [nthk_eq] at h
      cases ho : l[n]? with
      | none => rw [ho] at h; exact False.elim h
      | some v =>
        rw [ho] at h
        obtain ⟨u, hu, hv⟩ := h2.get ho
        refine raw_val (v := u) (w' := w) ?_ (put_ok hb he hv h)
        have hua := arrT_spec ht
        have hp := run_part P e ⟨m⟩ n u w g2 (by simpa using hu)
        simp only [execOp, Instr.index, asIntOf, h3, h1, Sem.run_bind, Sem.run_pure, Result.andThen_ok, run_underlying' P T _ w hua]
        rw [if_pos ⟨by omega, by omega⟩]
        simp only [Sem.run_bind, run_sizeOf' P e 1 w hs, Result.andThen_ok, Int.toNat_natCast, Nat.mul_one, hp, Sem.run_pure]
theorem bound_ok (hb : Bs c φ A w) (he : EnvR φ σ ρ) {d f : Nat} {fs : Array Operand} {Ty : TypeId} {pos : String} {af : Array Edge} {g : Option (Nat × Bool)} (h : Post c (thenQ K Q) (oBound A σ d f fs.toList)) : rawWp P ⟨some d, .makeFunc (.func f) fs #[], Ty, pos, af, g⟩ ρ w K Q := by
  unfold oBound at h
  rw [exs_eq] at h
  have e : (⟨fs.toList.map ρ.ev⟩ : Array Value) = fs.map ρ.ev := by apply Array.ext'; simp
  refine raw_val (v := .func (.func f) ⟨fs.toList.map ρ.ev⟩ #[]) (w' := w) ?_ (put_ok hb he (.fn (evs_ok he _) .nil) h)
  rw [e]
  simp [execOp, Instr.makeFunc]
theorem range_ok (hb : Bs c φ A w) (he : EnvR φ σ ρ) {d : Nat} {x : Operand} {T Ty : TypeId} {pos : String} {af : Array Edge} {g : Option (Nat × Bool)} (h : Post c (thenQ K Q) (oRange P A σ d T x)) : rawWp P ⟨some d, .range T x, Ty, pos, af, g⟩ ρ w K Q := by
  unfold oRange at h
  rw [ex_eq] at h
  obtain ⟨l, _, h1, h⟩ := toS_ok h (ev_ok he x)
  obtain ⟨g1, h⟩ := orN_ok h
  refine raw_val (v := _) (w' := _) (by simp only [execOp, h1, Sem.run_bind, run_range_string w T _ (isStrT_eq g1)]; rfl) ?_
  obtain ⟨ψ, k1, k2, k3, k4, h⟩ := new_ok (es := 0) (room := 0) hb h (fr_alloc w (.stringIter ⟨l.toArray⟩ 0)) (fun ψ hle => ⟨_, rfl, rfl, hb.wr.fr.size, World.iter_heap w _ 0⟩)
  exact put_ok k2 (he.up k1) (.p k3 fun y hy => by rw [k4 y hy]) h
theorem next_ok (hb : Bs c φ A w) (he : EnvR φ σ ρ) {d : Nat} {x : Operand} {Ty : TypeId} {pos : String} {af : Array Edge} {g : Option (Nat × Bool)} (h : Post c (thenQ K Q) (oNext A σ d x)) : rawWp P ⟨some d, .next x true, Ty, pos, af, g⟩ ρ w K Q := by
  unfold oNext at h
  rw [ex_eq] at h
  obtain ⟨b, o, a, _, h1, h2, h3, h⟩ := toP_ok h (ev_ok he x)
  obtain ⟨h0, hA⟩ := orN_ok h
  have h0 := Nat.eq_of_beq_eq_true h0
  clear h
  subst h0
  have hk := hb.wr.bk b
  unfold atB at hA
  generalize A.t.get .dd b = bk at hA hk
  cases bk with
  | dd => exact False.elim hA
  | op T es cs => exact False.elim hA
  | ro T cs => exact False.elim hA
  | cl T cs => exact False.elim hA
  | it l i =>
    obtain ⟨y', hy, hz, hc, hm⟩ := hk
    have ha := h2 y' hy
    subst ha
    dsimp only at hA
    rcases orE_ok hA with ⟨g1, hB⟩ | ⟨g1, hB⟩
    · have g1 := Nat.le_of_ble_eq_true g1
      refine raw_val (v := .tuple #[.bool false]) (w' := w) ?_ (put_ok hb he (.tu (.cons (.b _) .nil)) hB)
      have := Lib.run_next_end_at (P := P) w y'.c ⟨l.toArray⟩ i Ty hm (by rw [tx_size]; omega)
      simp only [execOp, h1, Sem.run_bind, this]; rfl
    · rw [nthB_eq] at hB
      cases ho : l[i]? with
      | none => rw [ho] at hB; exact False.elim hB
      | some ch =>
        rw [ho] at hB
        replace hB : Post c (thenQ K Q) (fN ch.toNat fun n => orN (Nat.blt n 128) (A.t.setk (.it l (.succ i)) b fun t => putV ⟨t, A.n⟩ σ d (.tu [.b true, .i .i64 (.ofNat i), .i .i32 (.ofNat n)]))) := hB
        rw [fN_eq] at hB
        obtain ⟨g2, hC⟩ := orN_ok hB
        rw [nblt, decide_eq_true_eq] at g2
        rw [Tr2.setk_eq] at hC
        have hlt : i < (⟨l.toArray⟩ : ByteArray).size := by rw [tx_size]; exact (List.getElem?_eq_some_iff.1 ho).1
        have hget : (⟨l.toArray⟩ : ByteArray)[i]'hlt = ch := by
          have h9 := tx_get l i
          rw [getElem?_pos (⟨l.toArray⟩ : ByteArray) i hlt, ho] at h9
          simpa using h9
        have := Lib.run_next_ascii_at (P := P) w y'.c ⟨l.toArray⟩ i Ty hm hlt (by rw [hget]; exact g2)
        rw [hget] at this
        refine raw_val (v := _) (w' := _) (by simp only [execOp, h1, Sem.run_bind, this]; rfl) ?_
        have hlt2 : y'.c < w.heap.size := hb.wr.lt hy
        have hfr : Fr (· = y'.c) w (w.iterAt y'.c ⟨l.toArray⟩ (i + 1)) := ⟨rfl, rfl, rfl, by rw [Lib.iterAt_size]; exact Nat.le_refl _, fun j _ hne => Lib.iterAt_other w y'.c j _ _ hne⟩
        obtain ⟨ψ, k1, k2, k3⟩ := hb.wr.store (k := .it l (i + 1)) hy hc hfr (fun ψ hle => ⟨y', rfl, hz, hc, Lib.iterAt_heap w y'.c _ i _ hm⟩)
        exact put_ok (hb.same k1 k2 rfl k3) (he.up k1) (.tu (.cons (.b _) (.cons (.i _ _) (.cons (.i _ _) .nil)))) hC
theorem notIf_ok {T : TypeId} (h : notIf P T = true) : ∃ D, P.underlying T = some D ∧ ∀ m, D ≠ .interface m := by
  unfold notIf at h
  split at h
  · cases h
  · rename_i D hn hu; exact ⟨D, hu, fun m e => hn m (by rw [← e])⟩
  · cases h
theorem assert_ok (hb : Bs c φ A w) (he : EnvR φ σ ρ) {d : Nat} {x : Operand} {xT T Ty : TypeId} {pos : String} {af : Array Edge} {g : Option (Nat × Bool)} (h : Post c (thenQ K Q) (oAssert P A σ d T x)) : rawWp P ⟨some d, .typeAssert x xT T true, Ty, pos, af, g⟩ ρ w K Q := by
  unfold oAssert at h
  rw [ex_eq] at h
  have hx := ev_ok he x
  generalize exV σ x = v at h hx
  generalize hu : ρ.ev x = u at hx
  cases hx
  case ic T' a u hv =>
    obtain ⟨g1, h⟩ := orN_ok (show Post c (thenQ K Q) (orN (notIf P T) (orE (Nat.beq T' T) (putV A σ d (.tu [a, .b true])) (match zeroT P T with
      | some _ => putV A σ d (.tu [.u, .b false])
      | none => .no))) from h)
    obtain ⟨D, hd, hi⟩ := notIf_ok g1
    rcases orE_ok h with ⟨g2, hB⟩ | ⟨g2, h⟩
    · have g2 := Nat.eq_of_beq_eq_true g2
      clear h
      subst g2
      refine raw_val (v := .tuple #[u, .bool true]) (w' := w) ?_ (put_ok hb he (.tu (.cons hv (.cons (.b _) .nil))) hB)
      simp only [execOp, Instr.typeAssert, hu, Sem.run_bind, run_underlying' P T' D w hd, Result.andThen_ok]
      cases D <;> first | (exact absurd rfl (hi _)) | simp
    · rw [nbeq, decide_eq_false_iff_not] at g2
      cases hz : zeroT P T with
      | none => rw [hz] at h; exact False.elim h
      | some z =>
        rw [hz] at h
        refine raw_val (v := .tuple #[z, .bool false]) (w' := w) ?_ (put_ok hb he (.tu (.cons (.u _) (.cons (.b _) .nil))) h)
        simp only [execOp, Instr.typeAssert, hu, Sem.run_bind, run_underlying' P T D w hd, Result.andThen_ok]
        cases D <;> first | (exact absurd rfl (hi _)) | simp [g2, run_zeroValue' P T z w hz]
  all_goals exact False.elim h
end
end Go.Lir
