/- Strings and bytes; parts of an array that is a value. -/
import Derived.Test.YtanlkfeogoganaaDoorLirRep
import Derived.Laws.IdiomStrings
namespace Go.Lir
def ucell (b : UInt8) : List Value := [.int .u8 (b.toNat : Int)]
def u8R : Rep UInt8 := Rep.lit (fun b => .int .u8 (b.toNat : Int)) (fun _ => rfl)
theorem u8R_out {c : Cx} {cs : List Value} {b : UInt8} (h : u8R.at c cs b) : cs = [.int .u8 (b.toNat : Int)] := h
theorem Rep.LR.u8 {r : Rep UInt8} {H : Heap} {K : Nat → Prop} {css : List (List Value)} {l : List UInt8} (hr : r = u8R) (h : r.LR H K css l) : css = l.map ucell := by
  subst hr
  apply List.ext_getElem?
  intro m
  rw [List.getElem?_map]
  rcases Nat.lt_or_ge m l.length with hm | hm
  · obtain ⟨d, h4, h5⟩ := h.2 m _ (List.getElem?_eq_getElem hm)
    have h5 : d = [_] := h5
    rw [h4, List.getElem?_eq_getElem hm, h5]; rfl
  · rw [List.getElem?_eq_none (by rw [h.1]; exact hm), List.getElem?_eq_none hm]; rfl
section
variable {P : Program} {l : List GO} {Q : QT} {ρ : Env} {w : World} {c : Cx} {L : List Res} {v : Value}
end
end Go.Lir
