/- What is outside the program's text; a truth value is told. -/
import Derived.Test.YthdkbdnbflkagaaGreatDoorFcT
import Derived.Test.YthdkbdnbflkagaaGreatDoorEvY
namespace Go.Proofs.YthdkbdnbflkagaaGreatDoor
open Go.Lir
noncomputable section
def exE (f : Nat) : Option ExK := match Nat.beq f 52 with
  | true => some .find
  | false => match Nat.beq f 94 with
    | true => some .same
    | false => match Nat.beq f 116 with
      | true => some (.make 5)
      | false => none
theorem exE_ok : EOk Tryz.prog exE := by
  intro f k h
  unfold exE at h
  split at h
  · rename_i hb; cases h; obtain rfl := Nat.eq_of_beq_eq_true hb
    exact ⟨_, Tryz.func52, by kernel_rfl, by kernel_rfl, by kernel_rfl, by show Extern.find _ = some _; kernel_rfl⟩
  · split at h
    · rename_i hb; cases h; obtain rfl := Nat.eq_of_beq_eq_true hb
      exact ⟨_, Tryz.func94, by kernel_rfl, by kernel_rfl, by kernel_rfl, by show Extern.find _ = some _; kernel_rfl⟩
    · split at h
      · rename_i hb; cases h; obtain rfl := Nat.eq_of_beq_eq_true hb
        exact ⟨_, Tryz.func116, by kernel_rfl, by kernel_rfl, by kernel_rfl, #[3], 34, by kernel_rfl, by kernel_rfl⟩
      · cases h
theorem fcs_ok : TbOk Tryz.prog fcs := tb_ok fcT
def isT : CR → Bool
  | .rt (.b true) _ => true
  | _ => false
def A0 : AW := ⟨Tr2.mk0 .dd 13, 0⟩
theorem isT_ok {r : CR} (h : isT r = true) : ∃ A, r = .rt (.b true) A := by
  unfold isT at h
  split at h
  · exact ⟨_, rfl⟩
  · cases h
theorem bs0 (w : World) : Bs ⟨w, fun _ _ => False, fun _ => False⟩ ⟨fun _ => none, fun _ => False⟩ A0 w :=
  ⟨⟨fun _ _ => rfl, fun b => by
    have : (Tr2.mk0 Bk.dd 13).get .dd b = .dd := by
      have key : ∀ (n k : Nat), (Tr2.mk0 Bk.dd n).get .dd k = .dd := by
        intro n
        induction n with
        | zero => intro k; rfl
        | succ n ih =>
          intro k
          rw [Tr2.mk0, Tr2.get_nd]
          cases Nat.beq k 0 with
          | true => rfl
          | false =>
            cases Nat.beq (k % 2) 1 with
            | true => exact ih _
            | false => exact ih _
      exact key 13 b
    show BR _ _ _ _ ((Tr2.mk0 Bk.dd 13).get .dd b)
    rw [this]; rfl, fun b b' x y h => (by cases h), Fr.refl _ _⟩, fun _ _ h => h, fun _ _ h => h.elim, fun _ h => h.elim⟩
/-- What is evaluated to true returns true. -/
theorem true_of {X : FuncId → List V → AW → CR} (hX : XOk Tryz.prog X) {f : FuncId} {l : List V} {l' : List Value} {w : World} (hl : VRs ⟨fun _ => none, fun _ => False⟩ l l') (h : isT (X f l A0) = true) : Rets Tryz.prog f l' w fun v w' => v = .bool true ∧ Fr NF w w' := by
  obtain ⟨A, hA⟩ := isT_ok h
  refine hX _ f l A0 _ w l' _ (bs0 w) hl ?_
  rw [hA]
  intro φ w' u hb hv
  cases hv
  exact ⟨_, rfl, rfl, hb.wr.fr⟩
/-- Calls of which the outcome is known are not evaluated again. -/
def callM (M : FuncId → List V → AW → Option CR) : Nat → FuncId → List V → AW → CR
  | 0, _, _, _ => .no
  | n + 1, f, l, A => match M f l A with
    | some r => r
    | none => call1 Tryz.prog exE (callM M n) 300 fcs f l A
def MOk (M : FuncId → List V → AW → Option CR) : Prop := ∀ f l A r, M f l A = some r → ∃ X, XOk Tryz.prog X ∧ X f l A = r
theorem callM_ok {M : FuncId → List V → AW → Option CR} (hM : MOk M) : ∀ n, XOk Tryz.prog (callM M n)
  | 0 => fun c f l A φ w l' R hb hl h => False.elim h
  | n + 1 => fun c f l A φ w l' R hb hl h => by
    unfold callM at h
    split at h
    · rename_i r hr
      obtain ⟨X, h1, h2⟩ := hM _ _ _ _ hr
      exact h1 c f l A φ w l' R hb hl (by rw [h2]; exact h)
    · exact call1_ok exE_ok (callM_ok hM n) fcs_ok hb hl h
def eqA (A A' : AW) : Bool := match Nat.beq A.n A'.n with
  | true => eqT eqB A.t A'.t
  | false => false
theorem eqA_ok {A A' : AW} (h : eqA A A' = true) : A = A' := by
  obtain ⟨t, n⟩ := A
  obtain ⟨t', n'⟩ := A'
  unfold eqA at h
  split at h
  · rename_i hn
    have e1 := Nat.eq_of_beq_eq_true hn
    have e2 := eqT_ok eqB_ok _ _ h
    simp only at e1 e2
    rw [e1, e2]
  · cases h
/-- One call, with what it comes to. -/
structure Known where
  f : FuncId
  l : List V
  A : AW
  v : V
  B : AW
def Known.chk (k : Known) (r : CR) : Bool := match r with
  | .rt v B => match eqv v k.v with
    | true => eqA B k.B
    | false => false
  | _ => false
theorem chk_ok {k : Known} {r : CR} (h : k.chk r = true) : r = .rt k.v k.B := by
  unfold Known.chk at h
  split at h
  · split at h
    · rename_i hv
      rw [eqv_ok _ _ hv, eqA_ok h]
    · cases h
  · cases h
def memo : List Known → FuncId → List V → AW → Option CR
  | [], _, _, _ => none
  | k :: ks, f, l, A => match Nat.beq f k.f with
    | false => memo ks f l A
    | true => match eqvs l k.l with
      | false => memo ks f l A
      | true => match eqA A k.A with
        | false => memo ks f l A
        | true => some (.rt k.v k.B)
theorem memo_ok : ∀ {ks : List Known}, (∀ k ∈ ks, ∃ X, XOk Tryz.prog X ∧ X k.f k.l k.A = .rt k.v k.B) → MOk (memo ks)
  | [], _, f, l, A, r, h => by cases h
  | k :: ks, hk, f, l, A, r, h => by
    have rest := memo_ok (ks := ks) (fun q hq => hk q (List.mem_cons.2 (.inr hq))) f l A r
    unfold memo at h
    split at h
    · exact rest h
    · rename_i h1
      split at h
      · exact rest h
      · rename_i h2
        split at h
        · exact rest h
        · rename_i h3
          cases h
          obtain ⟨X, hX, hr⟩ := hk k (List.mem_cons.2 (.inl rfl))
          have e1 := Nat.eq_of_beq_eq_true h1
          have e2 := eqvs_ok _ _ h2
          have e3 := eqA_ok h3
          refine ⟨X, hX, ?_⟩
          rw [e1, e2, e3]; exact hr
/-- Nothing lies there. -/
def nt (n : Nat) : Tr2 Bk := Tr2.mk0 .dd n
end
end Go.Proofs.YthdkbdnbflkagaaGreatDoor
