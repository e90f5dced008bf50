/- The statement TypesBack: the plain law. -/
import Derived.Test.YtanlkfeogoganaaDoorTyFun
namespace Go.Lir
def rot (f : Nat → Nat) : List Int := (List.range 16).map fun i => ((f i : Nat) : Int)
theorem rot_len (f : Nat → Nat) : (rot f).length = 16 := by simp [rot]
theorem rot_get (f : Nat → Nat) {i : Nat} (h : i < 16) : (rot f).getD i 0 = (f i : Int) := by
  unfold rot
  rw [List.getD_eq_getElem?_getD, List.getElem?_map, List.getElem?_range h]; rfl
def thereN (k i : Nat) : Nat := (i + k) % 16
def backN (k j : Nat) : Nat := (j + 16 - k) % 16
def onN (m i : Nat) : Nat := (i * 3 + m) % 16
theorem rot_comp {f g h : Nat → Nat} (hf : ∀ i, i < 16 → f i < 16) (hh : ∀ i, i < 16 → h i = g (f i)) : ∀ i : Nat, i < (rot f).length → 0 ≤ (rot f).getD i 0 ∧ (rot f).getD i 0 < (rot g).length ∧ 0 ≤ (rot g).getD ((rot f).getD i 0).toNat 0 ∧ i < (rot h).length ∧ (rot h).getD i 0 = (rot g).getD ((rot f).getD i 0).toNat 0 := by
  intro i hi
  rw [rot_len] at hi
  have h1 := hf i hi
  rw [rot_get f hi, rot_get h hi, rot_len, rot_len, Int.toNat_natCast, rot_get g h1, hh i hi]
  omega
theorem types_back {fields : Nat} {k m : Nat} (hk : k < 16) (t : Ty) : (t.ren (rot (thereN k)) = none → t.wrong fields 16 ≠ 0) ∧
    (∀ u, t.ren (rot (thereN k)) = some u → u.ren (rot (backN k)) = some t ∧ (∃ w, u.ren (rot (onN m)) = some w ∧ t.ren (rot fun i => onN m (thereN k i)) = some w) ∧ u.wrong fields 16 = t.wrong fields 16 ∧ ∀ left, u.deepB left = t.deepB left) := by
  have hl : ∀ f, ((rot f).length : Int) = 16 := fun f => by rw [rot_len]; rfl
  refine ⟨fun h => ?_, fun u hu => ⟨?_, ?_, ?_, fun left => Ty.ren_deep t u left hu⟩⟩
  · have := Ty.ren_none (fields := fields) (f := rot (thereN k)) (fun i hi => by rw [rot_len] at hi; rw [rot_get _ hi]; omega) t h
    rw [hl] at this; exact this
  · obtain ⟨v, h1, h2⟩ := Ty.ren_ren (g := rot (backN k)) (h := rot fun i => i) (rot_comp (fun i hi => by unfold thereN; omega) (fun i hi => by unfold backN thereN; omega)) t u hu
    rw [Ty.ren_id (fun i hi => by rw [rot_len] at hi; rw [rot_get _ hi]) t v h2] at h1
    exact h1
  · exact Ty.ren_ren (g := rot (onN m)) (h := rot fun i => onN m (thereN k i)) (rot_comp (fun i hi => by unfold thereN; omega) (fun i hi => rfl)) t u hu
  · have := Ty.ren_wrong (fields := fields) (f := rot (thereN k)) (fun i hi => by rw [rot_len] at hi; rw [rot_get _ hi, rot_len]; unfold thereN; omega) t u hu
    rw [hl] at this; exact this
end Go.Lir
