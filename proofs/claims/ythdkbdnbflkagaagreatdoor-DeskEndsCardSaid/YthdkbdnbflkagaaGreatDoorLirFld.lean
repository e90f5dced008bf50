/- A codec of a struct of any number of fields, field by field. -/
import Derived.Test.YthdkbdnbflkagaaGreatDoorLirCod
namespace Go.Lir
/-- What is read of some of a struct's fields. -/
structure Fld (P : Program) (T : TypeId) (α : Type) where
  rd : Heap → List Value → α → Prop
  stay : ∀ (H H' : Heap) cs x, rd H cs x → (∀ b, b < H.size → H'[b]? = H[b]?) → rd H' cs x
  open_ : ∀ {Hd : Type} (enc : TypeId × Value → Hd) (w : World) (fuel : Nat) (cs : List Value) (y : DataW Hd × List MemPlace), DataW.trod enc P w 0 (fun _ => true) true fuel T cs = some y → Fits P T y.1 → ∃ x, rd w.heap cs x
def Fld.none {P : Program} {T : TypeId} : Fld P T Unit := ⟨fun _ _ _ => True, fun _ _ _ _ h _ => h, fun _ _ _ _ _ _ _ => ⟨(), trivial⟩⟩
def Fld.more {P : Program} {T t : TypeId} {α β : Type} {i o s : Nat} (c : Cod P t α) (h : fieldAt P T i = some (o, s, t)) (f : Fld P T β) : Fld P T (α × β) where
  rd := fun H cs x => c.rd H ((cs.drop o).take s) x.1 ∧ f.rd H cs x.2
  stay := fun H H' cs x h hH => ⟨c.stay _ _ _ _ h.1 hH, f.stay _ _ _ _ h.2 hH⟩
  open_ := fun enc w fuel cs y hy hfit => by
    obtain ⟨_, n, z, g, u⟩ := struct_part hy h hfit
    obtain ⟨a, ha⟩ := c.open_ enc w _ _ _ g u
    obtain ⟨b, hb⟩ := f.open_ enc w _ _ _ hy hfit
    exact ⟨(a, b), ha, hb⟩
/-- The struct. The first field's place is asked so that its number of cells is known. -/
def Fld.cod {P : Program} {T t : TypeId} {α : Type} {o s : Nat} (f : Fld P T α) (h0 : fieldAt P T 0 = some (o, s, t)) (n : Nat) (hn : P.cellsOf T = n) : Cod P T α where
  es := n
  rd := fun H cs x => cs.length = n ∧ f.rd H cs x
  size := hn
  len := fun _ _ _ h => h.1
  stay := fun H H' cs x h hH => ⟨h.1, f.stay _ _ _ _ h.2 hH⟩
  open_ := fun enc w fuel cs y hy hfit => by
    obtain ⟨hl, _⟩ := struct_part hy h0 hfit
    obtain ⟨a, ha⟩ := f.open_ enc w _ _ _ hy hfit
    exact ⟨a, by rw [hl, hn], ha⟩
end Go.Lir
