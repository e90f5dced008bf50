/- DeskEnds: it returns true. -/
import Derived.Test.YthdkbdnbflkagaaGreatDoorEndsB
namespace Go.Proofs.YthdkbdnbflkagaaGreatDoor
open Go.Lir
noncomputable section
/-- Calls, where the concrete run is known. -/
def X4 (f : FuncId) (l : List V) (A : AW) : CR := match Nat.beq f 4 with
  | true => (match l with
    | [] => .rt (.b true) A
    | _ => .no)
  | false => callE Tryz.prog exE 300 fcs 3 f l A
theorem X4_ok : XOk Tryz.prog X4 := by
  intro c f l A φ w l' R hb hl h
  unfold X4 at h
  split at h
  · rename_i hf
    obtain rfl := Nat.eq_of_beq_eq_true hf
    cases hl with
    | cons _ _ => exact False.elim h
    | nil =>
      refine Calls.mono begun_c ?_
      rintro e w' ⟨v, rfl, rfl, hfr⟩
      exact h φ w' _ (hb.fr0 hfr) (.b true)
  · exact callE_ok exE_ok fcs_ok 3 c f l A φ w l' R hb hl h
def ends (k : Int) : Bool := isT (call1 Tryz.prog exE X4 300 fcs 3 [.i .i64 k] A0)
theorem ends_neg (m : Nat) : ends (.negSucc m) = true := by kernel_rfl
theorem ends_0 : ends (.ofNat 0) = true := by kernel_rfl
theorem ends_1 : ends (.ofNat 1) = true := by kernel_rfl
theorem ends_2 : ends (.ofNat 2) = true := by kernel_rfl
theorem ends_3 : ends (.ofNat 3) = true := by kernel_rfl
theorem ends_4 : ends (.ofNat 4) = true := by kernel_rfl
theorem ends_5 : ends (.ofNat 5) = true := by kernel_rfl
theorem ends_6 : ends (.ofNat 6) = true := by kernel_rfl
theorem ends_7 : ends (.ofNat 7) = true := by kernel_rfl
theorem ends_8 : ends (.ofNat 8) = true := by kernel_rfl
theorem ends_big (m : Nat) : ends (.ofNat (Nat.succ (Nat.succ (Nat.succ (Nat.succ (Nat.succ (Nat.succ (Nat.succ (Nat.succ (Nat.succ m)))))))))) = true := by kernel_rfl
theorem ends_all : ∀ k : Int, ends k = true
  | .negSucc m => ends_neg m
  | .ofNat 0 => ends_0
  | .ofNat 1 => ends_1
  | .ofNat 2 => ends_2
  | .ofNat 3 => ends_3
  | .ofNat 4 => ends_4
  | .ofNat 5 => ends_5
  | .ofNat 6 => ends_6
  | .ofNat 7 => ends_7
  | .ofNat 8 => ends_8
  | .ofNat (m + 9) => ends_big m
theorem deskEnds_c (k : Int) {w : World} : Rets Tryz.prog 3 [.int .i64 k] w fun v w' => v = .bool true ∧ Fr NF w w' := by
  have hX : XOk Tryz.prog fun f l A => call1 Tryz.prog exE X4 300 fcs f l A := fun c f l A φ w l' R hb hl h => call1_ok exE_ok X4_ok fcs_ok hb hl h
  exact true_of hX (.cons (.i _ _) .nil) (ends_all k)
end
end Go.Proofs.YthdkbdnbflkagaaGreatDoor
