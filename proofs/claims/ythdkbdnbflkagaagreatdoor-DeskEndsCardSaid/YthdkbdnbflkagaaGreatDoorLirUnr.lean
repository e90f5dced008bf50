/- A loop that is gone through so many times: round by round, without an invariant. -/
import Derived.Test.YthdkbdnbflkagaaGreatDoorLirMore
namespace Go.Lir
theorem exists_least {p : Nat → Prop} (h : ∃ k, p k) : ∃ k, p k ∧ ∀ j, p j → k ≤ j := by
  obtain ⟨n, hn⟩ := h
  induction n using Nat.strongRecOn with
  | _ n ih =>
    by_cases hm : ∃ m, m < n ∧ p m
    · obtain ⟨m, h1, h2⟩ := hm
      exact ih m h1 h2
    · exact ⟨n, hn, fun j hj => Nat.le_of_not_lt fun hlt => hm ⟨j, hlt, hj⟩⟩
/-- n + 1 rounds at most. -/
def loopW (P : Program) (a : LC) (Q : QT) : Nat → Env → World → Prop
  | 0, ρ, w => a.wp P (thenQ (fun _ _ => False) Q) ρ w
  | k + 1, ρ, w => a.wp P (thenQ (loopW P a Q k) Q) ρ w
theorem s_unroll {P : Program} {a : LC} {Q : QT} {ρ : Env} {w : World} (n : Nat) (h : loopW P a Q n ρ w) : (LC.loop a).wp P Q ρ w := by
  classical
  refine ⟨fun ρ w => ∃ k, loopW P a Q k ρ w, fun ρ w => if h : ∃ k, loopW P a Q k ρ w then Classical.choose (exists_least h) else 0, ⟨n, h⟩, fun ρ w hI => ?_⟩
  obtain ⟨h1, h2⟩ := Classical.choose_spec (exists_least hI)
  generalize hk : Classical.choose (exists_least hI) = k at h1 h2
  cases k with
  | zero =>
    refine LC.wp_mono (thenQ_mono (fun _ _ h => h.elim) fun _ _ _ h => h) h1
  | succ k =>
    refine LC.wp_mono (thenQ_mono (fun ρ' w' h => ⟨⟨k, h⟩, ?_⟩) fun _ _ _ h => h) h1
    have h' : ∃ k, loopW P a Q k ρ' w' := ⟨k, h⟩
    have hI' : ∃ k, loopW P a Q k ρ w := hI
    show (if h : ∃ k, loopW P a Q k ρ' w' then Classical.choose (exists_least h) else 0) < (if h : ∃ k, loopW P a Q k ρ w then Classical.choose (exists_least h) else 0)
    rw [dif_pos h', dif_pos hI', hk]
    have := (Classical.choose_spec (exists_least h')).2 k h
    omega
end Go.Lir
