/- Evaluation is sound: parts of slices, calls, append. -/
import Derived.Test.YthdkbdnbflkagaaGreatDoorEvN
namespace Go.Lir
set_option linter.unusedVariables false
set_option linter.unusedSimpArgs false
section
variable {P : Program} {c : Cn} {φ : Ph} {σ : Tr2 V} {A : AW} {ρ : Env} {w : World} {K : KT} {Q Q' : QT} {v : V} {u : Value}
theorem sub_ok (hb : Bs c φ A w) (he : EnvR φ σ ρ) {d es : Nat} {x : Operand} {lo hi mx : Option Operand} (h : Post c (thenQ K Q) (oSub A σ d es x lo hi mx)) : (LO.sub d es x lo hi mx).wp P ρ w K Q := by
  unfold oSub at h
  rw [ex_eq] at h
  have hx := ev_ok he x
  generalize exV σ x = v at h hx
  generalize hu : ρ.ev x = u at hx
  cases hx
  case l0 =>
    obtain ⟨m, h1, h⟩ := bn_ok he (show Post c (thenQ K Q) (bn σ 0 mx fun m => bn σ 0 hi fun h => bn σ 0 lo fun l => orN (Nat.beq m 0) (orN (Nat.beq h 0) (orN (Nat.beq l 0) (putV A σ d .l0)))) from h)
    obtain ⟨hh, h2, h⟩ := bn_ok he h
    obtain ⟨l, h3, h⟩ := bn_ok he h
    obtain ⟨e1, h⟩ := orN_ok h
    obtain ⟨e2, h⟩ := orN_ok h
    obtain ⟨e3, h⟩ := orN_ok h
    have e1 := Nat.eq_of_beq_eq_true e1
    have e2 := Nat.eq_of_beq_eq_true e2
    have e3 := Nat.eq_of_beq_eq_true e3
    refine ⟨none, 0, 0, l, hh, m, hu, h1, h2, h3, by omega, by omega, by omega, ?_⟩
    have ev : Value.slice (if m = l then none else Option.map (fun a : Addr => a.add (l * es)) none) (hh - l) (m - l) = .slice none 0 0 := by
      rw [e1, e2, e3]; simp
    rw [ev]
    exact put_ok hb he .l0 h
  case l b o n cp cp' a h1 h2 =>
    have hk := hb.wr.bk b
    have closed : ∀ y, φ.f b = some y → y.es = 0 → Post c (thenQ K Q) (bn σ cp mx fun m => bn σ n hi fun h => bn σ 0 lo fun l => orN (Nat.ble m cp) (orN (Nat.ble h m) (orN (Nat.ble l h)
        (fN (h - l) fun n => fN (m - l) fun c => orE (Nat.beq m l) (putV A σ d (.l b o n c)) (fN (o + l * es) fun o => putV A σ d (.l b o n c)))))) → (LO.sub d es x lo hi mx).wp P ρ w K Q := by
      intro y hy hz h
      obtain ⟨ha, hr⟩ := h2 y hy
      unfold RoomOk at hr
      rw [if_pos hz] at hr
      subst hr
      obtain ⟨m, g1, h⟩ := bn_ok he h
      obtain ⟨hh, g2, h⟩ := bn_ok he h
      obtain ⟨l, g3, h⟩ := bn_ok he h
      obtain ⟨e1, h⟩ := orN_ok h
      obtain ⟨e2, h⟩ := orN_ok h
      obtain ⟨e3, h⟩ := orN_ok h
      rw [fN_eq, fN_eq] at h
      refine ⟨some a, n, _, l, hh, m, hu, g1, g2, g3, Nat.le_of_ble_eq_true e1, Nat.le_of_ble_eq_true e2, Nat.le_of_ble_eq_true e3, ?_⟩
      rcases orE_ok h with ⟨e4, h⟩ | ⟨e4, h⟩
      · have e4 := Nat.eq_of_beq_eq_true e4
        rw [if_pos e4]
        exact put_ok hb he (.l h1 fun x hx => ⟨(h2 x hx).1, by
          rw [hy] at hx; cases hx
          unfold RoomOk; rw [if_pos hz]⟩) h
      · rw [nbeq, decide_eq_false_iff_not] at e4
        rw [if_neg e4]
        rw [fN_eq] at h
        exact put_ok hb he (.l h1 fun x hx => by
          rw [hy] at hx; cases hx
          refine ⟨by show a.add _ = _; rw [ha, add_addr], ?_⟩
          unfold RoomOk; rw [if_pos hz]) h
    dsimp only at h
    unfold atB at h
    generalize A.t.get .dd b = bk at h hk
    cases bk with
    | dd => exact False.elim h
    | it s i => exact False.elim h
    | cl T cs => obtain ⟨y, hy, hz, _⟩ := hk; exact closed y hy hz h
    | ro T cs => obtain ⟨y, hy, hz, _⟩ := hk; exact closed y hy hz h
    | op T es' cs =>
      obtain ⟨y, hy, hes, hz, _⟩ := hk
      obtain ⟨ha, hr⟩ := h2 y hy
      unfold RoomOk at hr
      rw [if_neg (by rw [hes]; exact hz), hes] at hr
      cases mx with
      | some _ => exact False.elim h
      | none =>
        obtain ⟨hh, g2, h⟩ := bn_ok he (show Post c (thenQ K Q) (bn σ n hi fun h => bn σ 0 lo fun l => orN (Nat.beq es es') (orN (Nat.ble h n) (orN (Nat.ble l h) (match l with
          | .zero => fN h fun h => putV A σ d (.l b o h cp)
          | .succ l => orE (Nat.blt (.succ l) n) (fN (o + (.succ l) * es) fun o => fN (h - .succ l) fun h => putV A σ d (.l b o h 0)) (putV A σ d .lz))))) from h)
        obtain ⟨l, g3, h⟩ := bn_ok he h
        obtain ⟨e1, h⟩ := orN_ok h
        obtain ⟨e2, h⟩ := orN_ok h
        obtain ⟨e3, h⟩ := orN_ok h
        have e1 := Nat.eq_of_beq_eq_true e1
        have e2 := Nat.le_of_ble_eq_true e2
        have e3 := Nat.le_of_ble_eq_true e3
        refine ⟨some a, n, cp', l, hh, cp', hu, rfl, g2, g3, Nat.le_refl _, by omega, e3, ?_⟩
        cases l with
        | zero =>
          replace h : Post c (thenQ K Q) (fN hh fun h => putV A σ d (.l b o h cp)) := h
          rw [fN_eq] at h
          have ev : (if cp' = 0 then some a else Option.map (fun a : Addr => a.add (0 * es)) (some a)) = some a := by
            split
            · rfl
            · rw [Nat.zero_mul]; rfl
          rw [ev, Nat.sub_zero, Nat.sub_zero]
          exact put_ok hb he (.l h1 fun x hx => ⟨(h2 x hx).1, by
            rw [hy] at hx; cases hx
            unfold RoomOk; rw [if_neg (by rw [hes]; exact hz), hes]; exact ⟨by omega, hr.2⟩⟩) h
        | succ l =>
          rcases orE_ok (show Post c (thenQ K Q) (orE (Nat.blt (.succ l) n) (fN (o + (.succ l) * es) fun o => fN (hh - .succ l) fun h => putV A σ d (.l b o h 0)) (putV A σ d .lz)) from h) with ⟨e4, h⟩ | ⟨e4, h⟩
          · rw [nblt, decide_eq_true_eq] at e4
            rw [fN_eq, fN_eq] at h
            rw [if_neg (by omega)]
            exact put_ok hb he (.l h1 fun x hx => by
              rw [hy] at hx; cases hx
              refine ⟨by show a.add _ = _; rw [ha, add_addr], ?_⟩
              unfold RoomOk; rw [if_neg (by rw [hes]; exact hz), hes]
              refine ⟨by omega, ?_⟩
              rw [← e1] at hr ⊢
              have h5 : (l + 1) * es + (cp' - (l + 1)) * es = cp' * es := by rw [← Nat.add_mul]; congr 1; omega
              rw [Nat.add_assoc, h5]; exact hr.2) h
          · rw [nblt, decide_eq_false_iff_not] at e4
            have h6 : hh - (l + 1) = 0 := by omega
            rw [h6]
            have ev : ∃ a', (if cp' = l + 1 then some a else Option.map (fun a : Addr => a.add ((l + 1) * es)) (some a)) = some a' := by
              split
              · exact ⟨_, rfl⟩
              · exact ⟨_, rfl⟩
            obtain ⟨a', ev⟩ := ev
            rw [ev]
            exact put_ok hb he (.lz _ _) h
  all_goals exact False.elim h
/-! ### Calls -/
def PostC (c : Cn) (R : Ending → World → Prop) : CR → Prop
  | .rt v A => ∀ φ w u, Bs c φ A w → VR φ v u → R (.returned u) w
  | .pn v A => ∀ φ w u, Bs c φ A w → VR φ v u → R (.panicked [{ v := u, recovered := false }]) w
  | .no => False
def XOk (P : Program) (X : FuncId → List V → AW → CR) : Prop := ∀ (c : Cn) (f : FuncId) (l : List V) (A : AW) (φ : Ph) (w : World) (l' : List Value) (R : Ending → World → Prop), Bs c φ A w → VRs φ l l' → PostC c R (X f l A) → Calls P f ⟨l'⟩ w R
/-- What a call leaves as it is. -/
def Cn.push (c : Cn) (σ : Tr2 V) (ρ : Env) : Cn := ⟨c.w0, fun v u => c.S v u ∨ ∃ t, v = σ.get .u t ∧ u = ρ t, c.R⟩
theorem Bs.push (hb : Bs c φ A w) (he : EnvR φ σ ρ) : Bs (c.push σ ρ) φ A w := ⟨hb.wr, hb.free, fun v u h => h.elim (hb.keep v u) (by rintro ⟨t, rfl, rfl⟩; exact he t), hb.res⟩
theorem Bs.pop (hb : Bs (c.push σ ρ) φ A w) : Bs c φ A w ∧ EnvR φ σ ρ := ⟨⟨hb.wr, hb.free, fun v u h => hb.keep v u (.inl h), hb.res⟩, fun t => hb.keep _ _ (.inr ⟨t, rfl, rfl⟩)⟩
theorem back_ok {d : Option Nat} {r : CR} {w1 : World} (h : Post c (thenQ K Q) (backC A σ d r)) : PostC (c.push σ ρ) (callPost K Q d ρ w1) r := by
  cases r with
  | rt v A' => exact fun φ' w' u hb hv => putO_ok hb.pop.1 hb.pop.2 hv h
  | pn v A' => exact fun φ' w' u hb hv => h φ' ρ w' u hb.pop.1 hv hb.pop.2
  | no => exact False.elim h
variable {X : FuncId → List V → AW → CR}
theorem call_ok (hX : XOk P X) (hb : Bs c φ A w) (he : EnvR φ σ ρ) {d : Option Nat} {f : FuncId} {xs : List Operand} (h : Post c (thenQ K Q) (oCall X A σ d f xs)) : (LO.call d f xs).wp P ρ w K Q := by
  unfold oCall at h
  rw [exs_eq] at h
  exact hX _ f _ A φ w _ _ (hb.push he) (evs_ok he xs) (back_ok h)
theorem callv_ok (hX : XOk P X) (hb : Bs c φ A w) (he : EnvR φ σ ρ) {d : Option Nat} {x : Operand} {xs : List Operand} (h : Post c (thenQ K Q) (oCallv P X A σ d x xs)) : (LO.callv d x xs).wp P ρ w K Q := by
  unfold oCallv at h
  rw [ex_eq, exs_eq] at h
  have hx := ev_ok he x
  generalize exV σ x = v at h hx
  generalize hu : ρ.ev x = u at hx
  cases hx
  case fn f a cp a' cp' h1 h2 =>
    replace h : Post c (thenQ K Q) (appk (xs.map (exV σ)) cp fun l => appk a l fun l => orN (goFunc P f) (backC A σ d (X f l A))) := h
    rw [appk_eq, appk_eq] at h
    obtain ⟨hg, h⟩ := orN_ok h
    unfold goFunc at hg
    rw [Option.any_eq_true] at hg
    obtain ⟨fn, g1, g2⟩ := hg
    rw [Bool.and_eq_true, Bool.not_eq_true'] at g2
    refine ⟨f, ⟨a'⟩, ⟨cp'⟩, fn, hu, g1, g2.1, g2.2, ?_⟩
    have e : (Array.mk a' ++ Array.mk (List.map ρ.ev xs) ++ Array.mk cp' : Array Value) = ⟨a' ++ (xs.map ρ.ev ++ cp')⟩ := by simp
    rw [e]
    exact hX _ f _ A φ w _ _ (hb.push he) (h1.app ((evs_ok he xs).app h2)) (back_ok h)
  all_goals exact False.elim h
/-! ### append -/
theorem run_appF {w : World} {Ts Ts2 Ty e es nb : Nat} {z : List Value} (hel : elInfo P Ts = some (e, es, nb, z)) (hts : (∃ e2, P.underlying Ts2 = some (.slice e2)) ∨ P.underlying Ts2 = some .string)
    {base : Option Addr} {n cap n2 : Nat} {v2 : Value} {m m2 : List Value} (hl2 : (Builtin.lenOf v2).run P w = .ok n2 w) (hf2 : ∀ w' : World, (∀ b, b < w.heap.size → w'.heap[b]? = w.heap[b]?) → (Builtin.firstCells es n2 v2).run P w' = .ok ⟨m2⟩ w')
    (hf1 : ∀ w' : World, (∀ b, b < w.heap.size → w'.heap[b]? = w.heap[b]?) → (Builtin.firstCells es n (.slice base n cap)).run P w' = .ok ⟨m⟩ w') (hb : (n + n2) * nb ≤ 140737488355328) :
    (n + n2 ≤ cap → ∀ a w', base = some a → (storeCells (a.add (n * es)) m2).run P w = .ok () w' → (Builtin.append_ #[Ts, Ts2] Ty #[.slice base n cap, v2]).run P w = .ok (.slice base (n + n2) cap) w') ∧
    (base = none → n + n2 ≤ cap → (Builtin.append_ #[Ts, Ts2] Ty #[.slice base n cap, v2]).run P w = .ok (.slice base (n + n2) cap) w) ∧
    (cap < n + n2 → ∃ (nc : Nat) (zs : List Value), n + n2 ≤ nc ∧ zs.length = (nc - (n + n2)) * es ∧ (Builtin.append_ #[Ts, Ts2] Ty #[.slice base n cap, v2]).run P w = .ok (.slice (some ⟨w.heap.size, 0, none⟩) (n + n2) nc) (w.drew.alloc (.cells ⟨m ++ m2 ++ zs⟩ e))) := by
  obtain ⟨i, zv, hu, hi, hz, rfl, rfl, hzc, hes, hnb, hzl⟩ := elInfo_spec hel
  have hsz : (sizeOf e).run P w = .ok i.size w := by simp [sizeOf, run_typeInfo P e i w hi]
  have hzs : zv.cells.size = i.size := by rw [← Array.length_toList, hzc]; exact hzl
  have hsmall : n + n2 ≤ 140737488355328 := Nat.le_trans (Nat.le_mul_of_pos_right _ hnb) hb
  refine ⟨fun hroom a w' ha hst => ?_, fun ha hroom => ?_, fun hcap => ?_⟩
  · subst ha
    have h2 := hf2 w (fun _ _ => rfl)
    simp only [Builtin.append_, List.getElem?_toArray, List.getElem?_cons_zero, List.getElem?_cons_succ, Sem.run_bind, run_underlying' P Ts _ w hu, Result.andThen_ok, hsz]
    rcases hts with ⟨e2, hd⟩ | hd
    all_goals
      simp only [run_underlying' P Ts2 _ w hd, Sem.run_pure, Result.andThen_ok, Bool.false_eq_true, if_false, hl2, hroom, if_true, Bool.not_false, Sem.run_bind]
      rw [h2]
      simp only [Result.andThen_ok, hst]
  · subst ha
    have h2 := hf2 w (fun _ _ => rfl)
    simp only [Builtin.append_, List.getElem?_toArray, List.getElem?_cons_zero, List.getElem?_cons_succ, Sem.run_bind, run_underlying' P Ts _ w hu, Result.andThen_ok, hsz]
    rcases hts with ⟨e2, hd⟩ | hd
    all_goals
      simp only [run_underlying' P Ts2 _ w hd, Sem.run_pure, Result.andThen_ok, Bool.false_eq_true, if_false, hl2, hroom, if_true, Bool.not_false, Sem.run_bind]
      rw [h2]
      rfl
  · have hq : Question.forced (.appendCap (n + n2) cap e) = false := rfl
    let nc := Question.cut (.appendCap (n + n2) cap e) (w.tape w.drawn (.appendCap (n + n2) cap e))
    have hnc : n + n2 ≤ nc := by simp only [nc, Question.cut]; omega
    have h1 := hf1 w.drew (fun _ _ => rfl)
    have h2 := hf2 w.drew (fun _ _ => rfl)
    have hgs := growslice_fits hcap hb
    refine ⟨nc, (Builtin.zeroCells zv.cells (nc - (n + n2))).toList, hnc, by rw [zeroCells_list, hzs], ?_⟩
    have hw : ({ w with drawn := w.drawn + 1 } : World) = w.drew := rfl
    simp only [Builtin.append_, List.getElem?_toArray, List.getElem?_cons_zero, List.getElem?_cons_succ, Sem.run_bind, run_underlying' P Ts _ w hu, Result.andThen_ok, hsz]
    have hnr : ¬ (n + n2 ≤ cap) := by omega
    have hnx : ¬ (Builtin.nextslicecap (n + n2) cap * i.bytes > 2 ^ 48) := by omega
    rcases hts with ⟨e2, hd⟩ | hd
    all_goals
      simp only [run_underlying' P Ts2 _ w hd, Result.andThen_ok, Sem.run_pure, Bool.false_eq_true, if_false, hl2, Sem.run_ite, if_neg hnr, Sem.run_bind, run_typeInfo P e i _ hi, if_neg hnx]
    all_goals
     simp only [run_choose, hq, Bool.false_eq_true, if_false, Result.andThen_ok, run_askRoom, hw]
     rw [h1]
     simp only [Result.andThen_ok, Bool.not_false, if_true]
     rw [h2]
     simp only [Result.andThen_ok, run_zeroValue' P e zv _ (by simp [zeroT, hi, hz]), newRow, Sem.run_bind, run_newObj, Sem.run_pure]
     rw [if_neg (by rintro ⟨_, h | h⟩; exact h; omega)]
     have ea : (⟨m⟩ ++ ⟨m2⟩ ++ Builtin.zeroCells zv.cells (nc - (n + n2)) : Array Value) = ⟨m ++ m2 ++ (Builtin.zeroCells zv.cells (nc - (n + n2))).toList⟩ := by apply Array.ext'; simp
     rw [← ea]
     rfl
end
end Go.Lir
