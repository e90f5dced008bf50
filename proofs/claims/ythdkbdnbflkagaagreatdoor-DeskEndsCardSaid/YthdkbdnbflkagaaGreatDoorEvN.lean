/- Evaluation is sound: numbers, texts, comparisons, parts of slices. -/
import Derived.Test.YthdkbdnbflkagaaGreatDoorEvM
import Derived.Test.YthdkbdnbflkagaaGreatDoorLirTab
import Derived.Test.YthdkbdnbflkagaaGreatDoorLirEnd
namespace Go.Lir
set_option linter.unusedVariables false
set_option linter.unusedSimpArgs false
section
variable {P : Program} {c : Cn} {φ : Ph} {σ : Tr2 V} {A : AW} {ρ : Env} {w : World} {K : KT} {Q Q' : QT} {v : V} {u : Value}
theorem un_ok (hb : Bs c φ A w) (he : EnvR φ σ ρ) {d : Nat} {op : UnOp} {x : Operand} (h : Post c (thenQ K Q) (oUn A σ d op x)) : (LO.un d op x).wp P ρ w K Q := by
  unfold oUn at h
  rw [ex_eq] at h
  have hx := ev_ok he x
  generalize exV σ x = v at h hx
  generalize hu : ρ.ev x = u at hx
  cases op
  case not =>
    cases hx
    case b b => cases b <;> exact ⟨_, fun w0 => by rw [hu]; rfl, put_ok hb he (.b _) h⟩
    all_goals exact False.elim h
  case neg =>
    cases hx
    case i k n =>
      replace h : Post c (thenQ K Q) (fI (wr k (Int.sub 0 n)) fun n => putV A σ d (.i k n)) := h
      rw [fI_eq, wr_eq] at h
      exact ⟨_, fun w0 => by rw [hu]; rfl, put_ok hb he (.i _ _) h⟩
    all_goals exact False.elim h
  case xor =>
    cases hx
    case i k n =>
      replace h : Post c (thenQ K Q) (orN k.signed (fI (bitI .xor k (-1) n) fun n => putV A σ d (.i k n))) := h
      obtain ⟨hs, h⟩ := orN_ok h
      rw [fI_eq] at h
      exact ⟨_, fun w0 => by rw [hu]; simp [Op.unary, Op.intBits, bitI, hs], put_ok hb he (.i _ _) h⟩
    all_goals exact False.elim h
  case plus => cases hx <;> exact False.elim h
theorem fI_ok {x : Int} {f : Int → ER} (h : Post c Q (fI x f)) : Post c Q (f x) := by rw [fI_eq] at h; exact h
theorem fB_ok {x : Bool} {f : Bool → ER} (h : Post c Q (fB x f)) : Post c Q (f x) := by rw [fB_eq] at h; exact h
theorem eqK_eq {k k' : IntKind} (h : eqK k k' = true) : k = k' := by cases k <;> cases k' <;> first | rfl | (simp [eqK] at h)
/-- What two values come to. -/
def Bins (P : Program) (op : BinOp) (T : TypeId) (x y : Operand) (a b : Value) (v : Value) : Prop := ∀ w0, (do eqGuard op T x y a b; binOp op T a b).run P w0 = .ok v w0
theorem bI_ok {op : BinOp} {k : IntKind} {a b : Int} {T : TypeId} {x y : Operand} {f : V → ER} (h : Post c Q (bI op k a b f)) : ∃ v u, VR φ v u ∧ Bins P op T x y (.int k a) (.int k b) u ∧ Post c Q (f v) := by
  cases op
  case add => have h := fI_ok (c := c) (Q := Q) (x := wr k (Int.add a b)) (f := fun n => f (.i k n)) h; rw [wr_eq] at h; exact ⟨_, _, .i _ _, fun w0 => by simp [eqGuard, binOp, Op.intArith], h⟩
  case sub => have h := fI_ok (c := c) (Q := Q) (x := wr k (Int.sub a b)) (f := fun n => f (.i k n)) h; rw [wr_eq] at h; exact ⟨_, _, .i _ _, fun w0 => by simp [eqGuard, binOp, Op.intArith]; rfl, h⟩
  case mul => have h := fI_ok (c := c) (Q := Q) (x := wr k (Int.mul a b)) (f := fun n => f (.i k n)) h; rw [wr_eq] at h; exact ⟨_, _, .i _ _, fun w0 => by simp [eqGuard, binOp, Op.intArith], h⟩
  case quo =>
    rcases orE_ok (show Post c Q (orE (eqI b 0) .no (fI (wr k (a.tdiv b)) fun n => f (.i k n))) from h) with ⟨_, h⟩ | ⟨h0, h⟩
    · exact False.elim h
    · rw [eqI_eq, decide_eq_false_iff_not] at h0
      have h := fI_ok (c := c) (Q := Q) (x := wr k (a.tdiv b)) (f := fun n => f (.i k n)) h; rw [wr_eq] at h; exact ⟨_, _, .i _ _, fun w0 => by simp [eqGuard, binOp, Op.intDiv, h0], h⟩
  case rem =>
    rcases orE_ok (show Post c Q (orE (eqI b 0) .no (fI (a.tmod b) fun n => f (.i k n))) from h) with ⟨_, h⟩ | ⟨h0, h⟩
    · exact False.elim h
    · rw [eqI_eq, decide_eq_false_iff_not] at h0
      have h := fI_ok (c := c) (Q := Q) (x := a.tmod b) (f := fun n => f (.i k n)) h; exact ⟨_, _, .i _ _, fun w0 => by simp [eqGuard, binOp, Op.intDiv, h0], h⟩
  case and => have h := fI_ok (c := c) (Q := Q) (x := bitI .and k a b) (f := fun n => f (.i k n)) h; exact ⟨_, _, .i _ _, fun w0 => by simp [eqGuard, binOp, Op.intBits, bitI], h⟩
  case or => have h := fI_ok (c := c) (Q := Q) (x := bitI .or k a b) (f := fun n => f (.i k n)) h; exact ⟨_, _, .i _ _, fun w0 => by simp [eqGuard, binOp, Op.intBits, bitI], h⟩
  case xor => have h := fI_ok (c := c) (Q := Q) (x := bitI .xor k a b) (f := fun n => f (.i k n)) h; exact ⟨_, _, .i _ _, fun w0 => by simp [eqGuard, binOp, Op.intBits, bitI], h⟩
  case andNot => have h := fI_ok (c := c) (Q := Q) (x := bitI .andNot k a b) (f := fun n => f (.i k n)) h; exact ⟨_, _, .i _ _, fun w0 => by simp [eqGuard, binOp, Op.intBits, bitI], h⟩
  case eql => have h := fB_ok (c := c) (Q := Q) (x := eqI a b) (f := fun x => f (.b x)) h; rw [eqI_eq] at h; exact ⟨_, _, .b _, fun w0 => by by_cases hp : a = b <;> simp [eqGuard, binOp, Op.intCmp, hp], h⟩
  case neq => have h := fB_ok (c := c) (Q := Q) (x := !eqI a b) (f := fun x => f (.b x)) h; rw [eqI_eq] at h; exact ⟨_, _, .b _, fun w0 => by by_cases hp : a = b <;> simp [eqGuard, binOp, Op.intCmp, hp], h⟩
  case lss => have h := fB_ok (c := c) (Q := Q) (x := ltI a b) (f := fun x => f (.b x)) h; rw [ltI_eq] at h; exact ⟨_, _, .b _, fun w0 => by by_cases hp : a < b <;> simp [eqGuard, binOp, Op.intCmp, hp], h⟩
  case gtr => have h := fB_ok (c := c) (Q := Q) (x := ltI b a) (f := fun x => f (.b x)) h; rw [ltI_eq] at h; exact ⟨_, _, .b _, fun w0 => by by_cases hp : b < a <;> simp [eqGuard, binOp, Op.intCmp, hp], h⟩
  case leq => have h := fB_ok (c := c) (Q := Q) (x := !ltI b a) (f := fun x => f (.b x)) h; rw [ltI_eq] at h; exact ⟨_, _, .b _, fun w0 => by by_cases hp : b < a <;> simp [eqGuard, binOp, Op.intCmp, hp] <;> omega, h⟩
  case geq => have h := fB_ok (c := c) (Q := Q) (x := !ltI a b) (f := fun x => f (.b x)) h; rw [ltI_eq] at h; exact ⟨_, _, .b _, fun w0 => by by_cases hp : a < b <;> simp [eqGuard, binOp, Op.intCmp, hp] <;> omega, h⟩
  all_goals exact False.elim h
theorem bSh_ok {op : BinOp} {k k' : IntKind} {a b : Int} {T : TypeId} {x y : Operand} {f : V → ER} (h : Post c Q (bSh op k a b f)) : ∃ v u, VR φ v u ∧ Bins P op T x y (.int k a) (.int k' b) u ∧ Post c Q (f v) := by
  unfold bSh at h
  rcases orE_ok h with ⟨_, h⟩ | ⟨h0, h⟩
  · exact False.elim h
  · rw [ltI_eq, decide_eq_false_iff_not] at h0
    cases op
    case shl =>
      replace h : Post c Q (fI (wr k (a * 2 ^ (min b.toNat k.bits))) fun n => f (.i k n)) := h
      have h := fI_ok h; rw [wr_eq] at h; exact ⟨_, _, .i _ _, fun w0 => by simp [eqGuard, binOp, Op.shift, h0], h⟩
    case shr =>
      replace h : Post c Q (fI (a.fdiv (2 ^ (min b.toNat k.bits))) fun n => f (.i k n)) := h
      have h := fI_ok h; exact ⟨_, _, .i _ _, fun w0 => by simp [eqGuard, binOp, Op.shift, h0], h⟩
    all_goals exact False.elim h
theorem bS_ok {op : BinOp} {a b : List UInt8} {T : TypeId} {x y : Operand} {f : V → ER} (h : Post c Q (bS op a b f)) : ∃ v u, VR φ v u ∧ Bins P op T x y (.string ⟨a.toArray⟩) (.string ⟨b.toArray⟩) u ∧ Post c Q (f v) := by
  have e : ∀ c : List UInt8, (⟨c.toArray⟩ : ByteArray).toList = c := fun c => Lib.toList_data _
  have e3 : (a == b) = decide (a = b) := by by_cases h : a = b <;> simp [h]
  cases op
  case add =>
    replace h : Post c Q (orN (Nat.ble (a.length + b.length) 9223372036854775807) (appk a b fun l => f (.s l))) := h
    obtain ⟨hl, h⟩ := orN_ok h
    have hl := Nat.le_of_ble_eq_true hl
    rw [appk_eq] at h
    refine ⟨_, _, .s _, fun w0 => ?_, h⟩
    have := run_string_add_sum (P := P) w0 (⟨a.toArray⟩ : ByteArray) ⟨b.toArray⟩ (by simpa [ByteArray.size] using hl)
    rw [ByteArray.mk_append_mk] at this
    simpa [eqGuard, binOp] using this
  case eql => have h := fB_ok (c := c) (Q := Q) (x := sameS a b) (f := fun x => f (.b x)) h; rw [sameS_eq] at h; exact ⟨_, _, .b _, fun w0 => by simp [eqGuard, binOp, Op.stringOp, e, e3], h⟩
  case neq => have h := fB_ok (c := c) (Q := Q) (x := !sameS a b) (f := fun x => f (.b x)) h; rw [sameS_eq] at h; exact ⟨_, _, .b _, fun w0 => by by_cases hp : a = b <;> simp [eqGuard, binOp, Op.stringOp, e, hp], h⟩
  all_goals exact False.elim h
theorem eqq_ok {op : BinOp} {r : Bool} {T : TypeId} {x y : Operand} {a b : Value} {f : V → ER} (he : Bins P .eql T x y a b (.bool r)) (hn : Bins P .neq T x y a b (.bool (!r))) (h : Post c Q (eqq op r f)) : ∃ v u, VR φ v u ∧ Bins P op T x y a b u ∧ Post c Q (f v) := by
  cases op
  case eql => have h := fB_ok (c := c) (Q := Q) (x := r) (f := fun x => f (.b x)) h; exact ⟨_, _, .b _, he, h⟩
  case neq => have h := fB_ok (c := c) (Q := Q) (x := !r) (f := fun x => f (.b x)) h; exact ⟨_, _, .b _, hn, h⟩
  all_goals exact False.elim h
theorem isBoolT_ok {T : TypeId} (h : isBoolT P T = true) : P.underlying T = some .bool := by unfold isBoolT at h; split at h <;> simp_all
theorem isPtrT_ok {T : TypeId} (h : isPtrT P T = true) : ∃ e, P.underlying T = some (.pointer e) := by unfold isPtrT at h; split at h <;> simp_all
theorem isSlT_ok {T : TypeId} (h : isSlT P T = true) : ∃ e, P.underlying T = some (.slice e) := by unfold isSlT at h; split at h <;> simp_all
theorem isIfT_ok {T : TypeId} (h : isIfT P T = true) : ∃ e, P.underlying T = some (.interface e) := by unfold isIfT at h; split at h <;> simp_all
theorem isPtrS_ok {T : TypeId} (h : isPtrS P T = true) : ∃ e, P.underlying T = some (.pointer e) ∧ (sizeT P e).isSome = true := by unfold isPtrS at h; split at h <;> simp_all
theorem xorB_eq (a b : Bool) : xorB a b = (a == b) := by cases a <;> cases b <;> rfl
theorem run_equal_pp {T e : TypeId} {a : Addr} {w0 : World} (ht : P.underlying T = some (.pointer e)) (hs : (sizeT P e).isSome = true) : (Op.equal T (.pointer (some a)) (.pointer (some a))).run P w0 = .ok true w0 := by
  obtain ⟨n, hn⟩ := Option.isSome_iff_exists.1 hs
  obtain ⟨j, hte, _⟩ := Option.map_eq_some_iff.1 hn
  have := Lib.run_neq_ptr_same (P := P) w0 a ht hte
  unfold binOp at this
  simp only [Sem.run_bind] at this
  cases hr : (Op.equal T (.pointer (some a)) (.pointer (some a))).run P w0 with
  | ok r w1 =>
    rw [hr] at this
    simp only [Result.andThen_ok, Sem.run_pure, Result.ok.injEq, Value.bool.injEq] at this
    rw [this.2]
    cases r <;> simp_all
  | halt x w1 => rw [hr] at this; simp [Result.andThen] at this
theorem eqGuard_nil {op : BinOp} {T : TypeId} {x y : Operand} {w0 : World} (hc : (isCn x || isCn y) = true) : (eqGuard op T x y .nilIface .nilIface).run P w0 = .ok () w0 := by
  unfold eqGuard
  cases x <;> cases y <;> first | (simp [isCn] at hc; done) | (split <;> simp)
theorem bin_ok (hb : Bs c φ A w) (he : EnvR φ σ ρ) {d T : Nat} {op : BinOp} {x y : Operand} (h : Post c (thenQ K Q) (oBin P A σ d op T x y)) : (LO.bin d op T x y).wp P ρ w K Q := by
  unfold oBin at h
  rw [ex_eq, ex_eq] at h
  have hx := ev_ok he x
  have hy := ev_ok he y
  generalize hxx : exV σ x = v at h hx
  generalize hyy : exV σ y = v' at h hy
  generalize hu : ρ.ev x = u at hx
  generalize hu' : ρ.ev y = u' at hy
  have fin : (∃ v u2, VR φ v u2 ∧ Bins P op T x y u u' u2 ∧ Post c (thenQ K Q) (putV A σ d v)) → (LO.bin d op T x y).wp P ρ w K Q := by
    rintro ⟨v, u2, h1, h2, h3⟩
    exact ⟨u2, fun w0 => by rw [hu, hu']; exact h2 w0, put_ok hb he h1 h3⟩
  cases hx
  case i k a =>
    cases hy
    case i k' b =>
      rcases orE_ok (show Post c (thenQ K Q) (orE (isSh op) (bSh op k a b (putV A σ d)) (orN (eqK k k') (bI op k a b (putV A σ d)))) from h) with ⟨_, h⟩ | ⟨_, h⟩
      · exact fin (bSh_ok h)
      · obtain ⟨h1, h9⟩ := orN_ok h
        have := eqK_eq h1
        subst this
        exact fin (bI_ok h9)
    all_goals exact False.elim h
  case s a =>
    cases hy
    case s b => exact fin (bS_ok h)
    all_goals exact False.elim h
  case b a =>
    cases hy
    case b b =>
      obtain ⟨ht, h⟩ := orN_ok (show Post c (thenQ K Q) (orN (isBoolT P T) (eqq op (xorB a b) (putV A σ d))) from h)
      have ht := isBoolT_ok ht
      rw [xorB_eq] at h
      refine fin (eqq_ok (fun w0 => ?_) (fun w0 => ?_) h)
      · simp [eqGuard, binOp, run_equal_bool ht]
      · simp [eqGuard, binOp, run_equal_bool ht]
    all_goals exact False.elim h
  case p0 =>
    cases hy
    case p0 =>
      obtain ⟨ht, h⟩ := orN_ok (show Post c (thenQ K Q) (orN (isPtrT P T) (eqq op true (putV A σ d))) from h)
      obtain ⟨e, ht⟩ := isPtrT_ok ht
      refine fin (eqq_ok (fun w0 => ?_) (fun w0 => ?_) h) <;> simp [eqGuard, binOp, run_equal_pnil ht]
    all_goals exact False.elim h
  case p b o a h1 h2 =>
    cases hy
    case p0 =>
      obtain ⟨ht, h⟩ := orN_ok (show Post c (thenQ K Q) (orN (isPtrT P T) (eqq op false (putV A σ d))) from h)
      obtain ⟨e, ht⟩ := isPtrT_ok ht
      refine fin (eqq_ok (fun w0 => ?_) (fun w0 => ?_) h) <;> simp [eqGuard, binOp, run_equal_pnil ht]
    case p b' o' a' h1' h2' =>
      obtain ⟨ht, h⟩ := orN_ok (show Post c (thenQ K Q) (orN (isPtrS P T) (orN (Nat.beq b b') (orN (Nat.beq o o') (match atB A b with
        | .dd => .no
        | _ => eqq op true (putV A σ d))))) from h)
      obtain ⟨e, ht, hs⟩ := isPtrS_ok ht
      obtain ⟨e1, h8⟩ := orN_ok h
      obtain ⟨e2, h9⟩ := orN_ok h8
      have e1 := Nat.eq_of_beq_eq_true e1
      have e2 := Nat.eq_of_beq_eq_true e2
      subst e1 e2
      clear h h8
      have h := h9
      clear h9
      have hk := hb.wr.bk b
      obtain ⟨y', hy', h⟩ : ∃ y, φ.f b = some y ∧ Post c (thenQ K Q) (eqq op true (putV A σ d)) := by
        unfold atB at h
        generalize A.t.get .dd b = bk at h hk
        cases bk with
        | dd => exact False.elim h
        | cl T cs => obtain ⟨y, hy, _⟩ := hk; exact ⟨y, hy, h⟩
        | op T es cs => obtain ⟨y, hy, _⟩ := hk; exact ⟨y, hy, h⟩
        | ro T cs => obtain ⟨y, hy, _⟩ := hk; exact ⟨y, hy, h⟩
        | it s i => obtain ⟨y, hy, _⟩ := hk; exact ⟨y, hy, h⟩
      have ea : a' = a := (h2' y' hy').trans (h2 y' hy').symm
      subst ea
      refine fin (eqq_ok (fun w0 => ?_) (fun w0 => ?_) h) <;> simp [eqGuard, binOp, run_equal_pp ht hs]
    all_goals exact False.elim h
  case l0 =>
    cases hy
    case l0 =>
      obtain ⟨ht, h⟩ := orN_ok (show Post c (thenQ K Q) (orN (isSlT P T) (eqq op true (putV A σ d))) from h)
      obtain ⟨e, ht⟩ := isSlT_ok ht
      refine fin (eqq_ok (fun w0 => ?_) (fun w0 => ?_) h) <;> simp [eqGuard, binOp, run_equal_nil ht]
    all_goals exact False.elim h
  case l b o n cp cp' a h1 h2 =>
    cases hy
    case l0 =>
      obtain ⟨ht, h⟩ := orN_ok (show Post c (thenQ K Q) (orN (isSlT P T) (eqq op false (putV A σ d))) from h)
      obtain ⟨e, ht⟩ := isSlT_ok ht
      refine fin (eqq_ok (fun w0 => ?_) (fun w0 => ?_) h) <;> simp [eqGuard, binOp, run_equal_nil ht]
    all_goals exact False.elim h
  case lz a cp =>
    cases hy
    case l0 =>
      obtain ⟨ht, h⟩ := orN_ok (show Post c (thenQ K Q) (orN (isSlT P T) (eqq op false (putV A σ d))) from h)
      obtain ⟨e, ht⟩ := isSlT_ok ht
      refine fin (eqq_ok (fun w0 => ?_) (fun w0 => ?_) h) <;> simp [eqGuard, binOp, run_equal_nil ht]
    all_goals exact False.elim h
  case n0 =>
    cases hy
    case n0 =>
      obtain ⟨hc, h⟩ := orN_ok (show Post c (thenQ K Q) (orN (isCn x || isCn y) (orN (isIfT P T) (eqq op true (putV A σ d)))) from h)
      obtain ⟨ht, h⟩ := orN_ok h
      obtain ⟨e, ht⟩ := isIfT_ok ht
      refine fin (eqq_ok (fun w0 => ?_) (fun w0 => ?_) h) <;> simp [eqGuard_nil hc, binOp, run_equal_inil ht]
    all_goals exact False.elim h
  case ic U a a' ha =>
    cases hy
    case n0 =>
      obtain ⟨ht, h⟩ := orN_ok (show Post c (thenQ K Q) (orN (isIfT P T) (eqq op false (putV A σ d))) from h)
      obtain ⟨e, ht⟩ := isIfT_ok ht
      refine fin (eqq_ok (fun w0 => ?_) (fun w0 => ?_) h) <;> simp [eqGuard, binOp, run_equal_iface ht]
    all_goals exact False.elim h
  all_goals exact False.elim h
end
end Go.Lir
