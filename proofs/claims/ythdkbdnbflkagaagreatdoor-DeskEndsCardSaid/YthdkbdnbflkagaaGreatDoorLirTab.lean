/- Strings put together; a table that was laid; own rows of strings. -/
import Derived.Test.YthdkbdnbflkagaaGreatDoorLirStr
import Derived.Lib.LaidTab
import Derived.Lib.Strings
import Derived.Laws.Concat
import Derived.Below
import Derived.Sort.Grow
import Derived.Deep.Draws
namespace Go.Lir
section
variable {P : Program} {l : List GO} {Q : QT} {ρ : Env} {w : World} {c : Cx} {L : List Res} {v : Value}
theorem s_sadd {d T : Nat} {x y : Operand} {a b : List UInt8} (hx : ρ.ev x = .string ⟨a.toArray⟩) (hy : ρ.ev y = .string ⟨b.toArray⟩) (hl : a.length + b.length ≤ 9223372036854775807)
    (h : opsWp P l Q (upd ρ d (.string ⟨(a ++ b).toArray⟩)) w) : opsWp P (⟨none, .bin d .add T x y⟩ :: l) Q ρ w :=
  ⟨_, fun w0 => by
    rw [hx, hy]
    have := run_string_add_sum (P := P) w0 (⟨a.toArray⟩ : ByteArray) ⟨b.toArray⟩ (by simpa [ByteArray.size] using hl)
    rw [ByteArray.mk_append_mk] at this
    simpa [eqGuard, binOp] using this, h⟩
theorem s_seql {d T : Nat} {x y : Operand} {a b : List UInt8} (hx : ρ.ev x = .string ⟨a.toArray⟩) (hy : ρ.ev y = .string ⟨b.toArray⟩)
    (h : opsWp P l Q (upd ρ d (.bool (decide (a = b)))) w) : opsWp P (⟨none, .bin d .eql T x y⟩ :: l) Q ρ w :=
  ⟨_, fun w0 => by
    rw [hx, hy]
    have e : ∀ c : List UInt8, (⟨c.toArray⟩ : ByteArray).toList = c := fun c => Lib.toList_data _
    have e2 : (a == b) = decide (a = b) := by by_cases h : a = b <;> simp [h]
    simp [eqGuard, binOp, Op.stringOp, e, e2], h⟩
theorem s_seqt {d T : Nat} {x y : Operand} {a b : List UInt8} (hx : ρ.ev x = .string ⟨a.toArray⟩) (hy : ρ.ev y = .string ⟨b.toArray⟩) (hab : a = b)
    (h : opsWp P l Q (upd ρ d (.bool true)) w) : opsWp P (⟨none, .bin d .eql T x y⟩ :: l) Q ρ w :=
  s_seql hx hy (by rw [decide_eq_true hab]; exact h)
theorem below_fr {w w' : World} (h : Go.RowKit.Below w.heap.size w w') : Fr NF w w' := ⟨h.os, h.tape, h.output, h.size, fun b hb _ => h.block b hb⟩
theorem grow_fr (w : World) (k : Nat) (os : Array Obj) : Fr NF w (Go.Sort.grow (w.drewN k) os) :=
  ⟨rfl, rfl, rfl, by simp [Go.Sort.grow], fun b hb _ => by simp only [Go.Sort.grow, World.heap_drewN]; rw [Array.getElem?_append_left hb]⟩
/-- The table lies in what is only read. -/
def TabK (P : Program) (c : Cx) (name : String) (k : IntKind) (zs : List Int) : Prop := ∃ g, c.K g ∧ ∀ w : World, w.heap[g]? = c.H0[g]? → Lib.TabIs P w name k zs
theorem TabK.up {name : String} {k : IntKind} {zs : List Int} {c' : Cx} (h : TabK P c name k zs) (hle : c.Le c') : TabK P c' name k zs := by
  obtain ⟨g, h1, h2⟩ := h
  exact ⟨g, (hle.K g h1).1, fun w hw => h2 w (hw.trans (hle.K g h1).2)⟩
theorem TabK.now {name : String} {k : IntKind} {zs : List Int} (h : TabK P c name k zs) (hS : St c w L) : Lib.TabIs P w name k zs := by
  obtain ⟨g, h1, h2⟩ := h
  exact h2 w (hS.1.same g h1)
theorem TabK.top {name : String} {k : IntKind} {zs : List Int} (h : Lib.TabIs P w name k zs) : TabK P (Cx.top w) name k zs := by
  unfold Lib.TabIs World.var? at h
  cases hg : P.globalNamed name with
  | none => simp [hg] at h
  | some g =>
    simp only [hg, Option.bind_some] at h
    have hlt : g < w.heap.size := by
      rcases Nat.lt_or_ge g w.heap.size with h' | h'
      · exact h'
      · rw [Array.getElem?_eq_none h'] at h; simp at h
    refine ⟨g, hlt, fun w' hw' => ?_⟩
    have hw2 : w'.heap[g]? = w.heap[g]? := hw'
    unfold Lib.TabIs World.var?
    simp only [hg, Option.bind_some]
    rw [hw2]; exact h
/-- An own slice of strings: its cells. -/
theorem St.strs {T : TypeId} {i : Nat} {css : List (List Value)} {xs : List ByteArray} (hS : St c w L) (hi : nth L i = some (sl T 1 v css)) (hl : strR.ls c css xs) :
    ∃ a cap, v = .slice a xs.length cap ∧ xs.length ≤ cap ∧ (xs = [] ∨ ∃ b off, a = some ⟨b, off, none⟩ ∧ b < w.heap.size ∧ ∀ (j : Nat) x, xs[j]? = some x → w.cell? ⟨b, off + j, none⟩ = some (.string x)) := by
  obtain ⟨F, hA⟩ := hS.res hi
  have hA : Sl w.heap T 1 v F css := hA
  obtain ⟨h0, a, cap, hv, hlc, hc⟩ := hA.toR
  refine ⟨a, cap, by rw [hv, hl.1], by rw [← hl.1]; exact hlc, ?_⟩
  rcases hc with hc | ⟨b, off, ha, _, hb, hat⟩
  · exact .inl (List.eq_nil_of_length_eq_zero (by rw [← hl.1, hc]; rfl))
  · refine .inr ⟨b, off, ha, hb, fun j x hx => ?_⟩
    obtain ⟨d, h1, h2⟩ := hl.2 j x hx
    have h2 : d = [.string x] := h2
    have := At.cell (hat j d h1) (j := 0) (u := .string x) (by rw [h2]; rfl)
    rw [Nat.mul_one, Nat.add_zero] at this
    exact this
end
end Go.Lir
