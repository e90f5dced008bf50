/- Lowered code is evaluated over states of which the room of appended slices is left open (plain functions). -/
import Derived.Test.YthdkbdnbflkagaaGreatDoorLirBld
namespace Go.Lir
set_option linter.unusedVariables false
noncomputable section

/-- Values; blocks bear numbers of their own. -/
inductive V where
  | i (k : IntKind) (n : Int)
  | b (x : Bool)
  | s (l : List UInt8)
  | p0
  | p (b o : Nat)
  | l0
  | l (b o n c : Nat)
  | lz
  | ag (l : List V)
  | tu (l : List V)
  | n0
  | ic (T : TypeId) (v : V)
  | f0
  | fn (f : FuncId) (a c : List V)
  | u

/-- A tree that holds what numbers stand for. -/
inductive Tr2 (α : Type) where
  | lf
  | nd (l : Tr2 α) (v : α) (r : Tr2 α)

/-- A block: gone; all its cells; its first cells (it may have more), with the cells of an element; only read. -/
inductive Bk where
  | dd
  | cl (T : TypeId) (cs : List V)
  | op (T : TypeId) (es : Nat) (cs : List V)
  | ro (T : TypeId) (cs : List V)
  | it (s : List UInt8) (i : Nat)

structure AW where
  t : Tr2 Bk
  n : Nat

inductive ER where
  | nm (σ : Tr2 V) (A : AW)
  | rt (σ : Tr2 V) (A : AW)
  | ex (id : Nat) (σ : Tr2 V) (A : AW)
  | pn (v : V) (σ : Option (Tr2 V)) (A : AW)
  | no

inductive CR where
  | rt (v : V) (A : AW)
  | pn (v : V) (A : AW)
  | no

section
variable {α β : Type}
def Tr2.get (d : α) (t : Tr2 α) : Nat → α :=
  Tr2.rec (motive := fun _ => Nat → α) (fun _ => d) (fun _ v _ gl gr k => Bool.rec (motive := fun _ => α) (Bool.rec (motive := fun _ => α) (gr (Nat.pred (Nat.div k (nat_lit 2)))) (gl (Nat.div k (nat_lit 2))) (Nat.beq (Nat.mod k (nat_lit 2)) (nat_lit 1))) v (Nat.beq k (nat_lit 0))) t
def Tr2.getk (d : α) (t : Tr2 α) : Nat → (α → β) → β :=
  Tr2.rec (motive := fun _ => Nat → (α → β) → β) (fun _ c => c d) (fun _ v _ gl gr k c => Bool.rec (motive := fun _ => β) (Bool.rec (motive := fun _ => β) (gr (Nat.pred (Nat.div k (nat_lit 2))) c) (gl (Nat.div k (nat_lit 2)) c) (Nat.beq (Nat.mod k (nat_lit 2)) (nat_lit 1))) (c v) (Nat.beq k (nat_lit 0))) t
def Tr2.set (x : α) : Tr2 α → Nat → Tr2 α
  | .lf, _ => .lf
  | .nd l v r, k => bif Nat.beq k 0 then .nd l x r else bif Nat.beq (k % 2) 1 then .nd (l.set x (k / 2)) v r else .nd l v (r.set x (k / 2 - 1))
def Tr2.setk (x : α) (t : Tr2 α) : Nat → (Tr2 α → β) → β :=
  Tr2.rec (motive := fun _ => Nat → (Tr2 α → β) → β) (fun _ c => c .lf) (fun l v r sl sr k c => Bool.rec (motive := fun _ => β) (Bool.rec (motive := fun _ => β) (sr (Nat.pred (Nat.div k (nat_lit 2))) fun r' => c (.nd l v r')) (sl (Nat.div k (nat_lit 2)) fun l' => c (.nd l' v r)) (Nat.beq (Nat.mod k (nat_lit 2)) (nat_lit 1))) (c (.nd l x r)) (Nat.beq k (nat_lit 0))) t
def Tr2.mk0 (d : α) : Nat → Tr2 α
  | 0 => .lf
  | n + 1 => .nd (mk0 d n) d (mk0 d n)
theorem brec {b : Bool} {x y : β} : (Bool.rec (motive := fun _ => β) y x b : β) = bif b then x else y := by cases b <;> rfl
theorem Tr2.get_nd (d : α) (l : Tr2 α) (v : α) (r : Tr2 α) (k : Nat) : (Tr2.nd l v r).get d k = bif Nat.beq k 0 then v else bif Nat.beq (k % 2) 1 then l.get d (k / 2) else r.get d (k / 2 - 1) := by
  show Bool.rec (motive := fun _ => α) (Bool.rec (motive := fun _ => α) (r.get d (Nat.pred (Nat.div k 2))) (l.get d (Nat.div k 2)) (Nat.beq (Nat.mod k 2) 1)) v (Nat.beq k 0) = _
  rw [brec, brec]; rfl
theorem Tr2.getk_eq (d : α) : ∀ (t : Tr2 α) (k : Nat) (c : α → β), t.getk d k c = c (t.get d k)
  | .lf, k, c => rfl
  | .nd l v r, k, c => by
    show Bool.rec (motive := fun _ => β) (Bool.rec (motive := fun _ => β) (r.getk d (Nat.pred (Nat.div k 2)) c) (l.getk d (Nat.div k 2) c) (Nat.beq (Nat.mod k 2) 1)) (c v) (Nat.beq k 0) = c (Bool.rec (motive := fun _ => α) (Bool.rec (motive := fun _ => α) (r.get d (Nat.pred (Nat.div k 2))) (l.get d (Nat.div k 2)) (Nat.beq (Nat.mod k 2) 1)) v (Nat.beq k 0))
    cases Nat.beq k 0 with
    | true => rfl
    | false =>
      cases Nat.beq (Nat.mod k 2) 1 with
      | true => exact Tr2.getk_eq d l _ c
      | false => exact Tr2.getk_eq d r _ c

/-- A number, made plain ahead of what follows. -/
def fN (x : Nat) (c : Nat → β) : β := match x with
  | .zero => c .zero
  | .succ n => c (.succ n)
def fI (x : Int) (c : Int → β) : β := match x with
  | .ofNat n => fN n fun n => c (.ofNat n)
  | .negSucc n => fN n fun n => c (.negSucc n)
def fB (x : Bool) (c : Bool → β) : β := match x with
  | true => c true
  | false => c false
def fL (l : List α) (c : List α → β) : β := match l with
  | [] => c []
  | x :: l => fL l fun l => c (x :: l)
theorem fN_eq (x : Nat) (c : Nat → β) : fN x c = c x := by cases x <;> rfl
theorem fI_eq (x : Int) (c : Int → β) : fI x c = c x := by cases x <;> simp [fI, fN_eq]
theorem fB_eq (x : Bool) (c : Bool → β) : fB x c = c x := by cases x <;> rfl
theorem fL_eq : ∀ (l : List α) (c : List α → β), fL l c = c l
  | [], c => rfl
  | x :: l, c => by rw [fL, fL_eq l]
theorem Tr2.setk_eq (x : α) : ∀ (t : Tr2 α) (k : Nat) (c : Tr2 α → β), t.setk x k c = c (t.set x k)
  | .lf, k, c => rfl
  | .nd l v r, k, c => by
    show Bool.rec (motive := fun _ => β) (Bool.rec (motive := fun _ => β) (r.setk x (Nat.pred (Nat.div k 2)) fun r' => c (.nd l v r')) (l.setk x (Nat.div k 2) fun l' => c (.nd l' v r)) (Nat.beq (Nat.mod k 2) 1)) (c (.nd l x r)) (Nat.beq k 0) = _
    rw [Tr2.set]
    cases Nat.beq k 0 with
    | true => rfl
    | false =>
      show Bool.rec (motive := fun _ => β) _ _ (Nat.beq (k % 2) 1) = _
      cases Nat.beq (k % 2) 1 with
      | true => exact Tr2.setk_eq x l _ _
      | false => exact Tr2.setk_eq x r _ _
/-- What was set is there, or nothing is; all else stays. -/
theorem Tr2.get_set (d x : α) : ∀ (t : Tr2 α) (k j : Nat), (j ≠ k ∧ (t.set x k).get d j = t.get d j) ∨ (j = k ∧ ((t.set x k).get d j = x ∨ (t.set x k).get d j = d))
  | .lf, k, j => by
    by_cases h : j = k
    · exact .inr ⟨h, .inr rfl⟩
    · exact .inl ⟨h, rfl⟩
  | .nd l v r, k, j => by
    have hb : ∀ a b : Nat, Nat.beq a b = decide (a = b) := fun a b => by
      by_cases h : a = b
      · subst h; simp [Nat.beq_refl]
      · simp only [h, decide_false]; cases hc : Nat.beq a b with
        | false => rfl
        | true => exact absurd (Nat.eq_of_beq_eq_true hc) h
    simp only [Tr2.set, hb]
    by_cases hk : k = 0
    · subst hk
      simp only [decide_true, cond_true, Tr2.get_nd, hb]
      by_cases hj : j = 0
      · subst hj; right; exact ⟨rfl, .inl rfl⟩
      · left; refine ⟨hj, ?_⟩; simp only [hj, decide_false, cond_false]
    · simp only [hk, decide_false, cond_false]
      by_cases hm : k % 2 = 1
      · simp only [hm, decide_true, cond_true, Tr2.get_nd, hb]
        by_cases hj : j = 0
        · subst hj; left; exact ⟨fun h => hk h.symm, by simp⟩
        · by_cases hjm : j % 2 = 1
          · simp only [hj, hjm, decide_false, decide_true, cond_false, cond_true]
            rcases Tr2.get_set d x l (k / 2) (j / 2) with ⟨h1, h2⟩ | ⟨h1, h2⟩
            · exact .inl ⟨fun h => h1 (by rw [h]), h2⟩
            · exact .inr ⟨by omega, h2⟩
          · simp only [hj, hjm, decide_false, cond_false]
            exact .inl ⟨fun h => hjm (by rw [h]; exact hm), by first | rfl | trivial⟩
      · simp only [hm, decide_false, cond_false, Tr2.get_nd, hb]
        by_cases hj : j = 0
        · subst hj; left; exact ⟨fun h => hk h.symm, by simp⟩
        · by_cases hjm : j % 2 = 1
          · simp only [hj, hjm, decide_false, decide_true, cond_false, cond_true]
            exact .inl ⟨fun h => hm (by rw [← h]; exact hjm), by first | rfl | trivial⟩
          · simp only [hj, hjm, decide_false, cond_false]
            rcases Tr2.get_set d x r (k / 2 - 1) (j / 2 - 1) with ⟨h1, h2⟩ | ⟨h1, h2⟩
            · exact .inl ⟨fun h => h1 (by rw [h]), h2⟩
            · exact .inr ⟨by omega, h2⟩
end
end
end Go.Lir
