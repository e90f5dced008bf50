/- The statement HeapDoes: what came in. -/
import Derived.Test.YtocllfbfogcbgaaHeapDoes
import Derived.Test.YtocllfbfogcbgaaLirCod
namespace Go.Proofs.Ytocllfbfogcbgaa
open Go.Lir
abbrev hsInt : Cod Try.prog 3 Int := Cod.int .i64 (by kernel_rfl) (by kernel_rfl)
abbrev hsLong : Cod Try.prog 2 Int := Cod.int .i64 (by kernel_rfl) (by kernel_rfl)
abbrev hsInts : Cod Try.prog 32 (List Int) := Cod.slice hsInt (by kernel_rfl) (by kernel_rfl) (by decide)
abbrev hStepC : Cod Try.prog 94 (Int × Int × Int × Int × List Int) := Cod.st5 (o0 := 0) (s0 := 1) (o1 := 1) (s1 := 1) (o2 := 2) (s2 := 1) (o3 := 3) (s3 := 1) (o4 := 4) (s4 := 1) hsInt hsInt hsInt hsLong hsInts (by kernel_rfl) (by kernel_rfl) (by kernel_rfl) (by kernel_rfl) (by kernel_rfl) 5 (by kernel_rfl)
abbrev hStepsC : Cod Try.prog 83 (List (Int × Int × Int × Int × List Int)) := Cod.slice hStepC (by kernel_rfl) (by kernel_rfl) (by decide)
abbrev hValC : Cod Try.prog 85 (Int × Int × Int × Int) := Cod.st4 (o0 := 0) (s0 := 1) (o1 := 1) (s1 := 1) (o2 := 2) (s2 := 1) (o3 := 3) (s3 := 1) hsInt hsInt hsInt hsLong (by kernel_rfl) (by kernel_rfl) (by kernel_rfl) (by kernel_rfl) 4 (by kernel_rfl)
theorem hVal_rd {H : Heap} {c : Array Value} {x : Int × Int × Int × Int} (h : hValC.rd H c.toList x) : ∃ odd : Val, Value.agg c = odd.v := by
  obtain ⟨h0, h1, h2, h3, h4⟩ := h
  obtain ⟨a, b, d, e, hc⟩ := len4 h0
  obtain ⟨l⟩ := c
  simp only at hc
  subst hc
  have h1 : [a] = [_] := h1.1
  have h2 : [b] = [_] := h2.1
  have h3 : [d] = [_] := h3.1
  have h4 : [e] = [_] := h4.1
  simp only [List.cons.injEq, and_true] at h1 h2 h3 h4
  exact ⟨⟨x.1, x.2.1, x.2.2.1, x.2.2.2⟩, by rw [h1, h2, h3, h4]; rfl⟩
theorem hStep_rd {H : Heap} {c : List Value} {x : Int × Int × Int × Int × List Int} (h : hStepC.rd H c x) : ∃ s : HStep, c = s.cells ∧ SlR H 1 s.vl (fun _ => True) (s.l.map icell) := by
  obtain ⟨h0, h1, h2, h3, h4, h5⟩ := h
  obtain ⟨a, b, d, e, f, hc⟩ := len5 h0
  subst hc
  have h1 : [a] = [_] := h1.1
  have h2 : [b] = [_] := h2.1
  have h3 : [d] = [_] := h3.1
  have h4 : [e] = [_] := h4.1
  simp only [List.cons.injEq, and_true] at h1 h2 h3 h4
  have h5 : hsInts.rd H [f] x.2.2.2.2 := h5
  exact ⟨⟨x.1, x.2.1, x.2.2.1, x.2.2.2.1, f, x.2.2.2.2⟩, by rw [h1, h2, h3, h4]; rfl, (ints_rd h5).1⟩
theorem heapDoes_rd (n : Int) {vL : Value} {c : Array Value} {x : List (Int × Int × Int × Int × List Int)} {y : Int × Int × Int × Int} {w : World} (h : hStepsC.rd w.heap [vL] x) (h2 : hValC.rd w.heap c.toList y) :
    Rets Try.prog Law_HeapDoes [.int .i64 n, vL, .agg c] w fun v w' => v = .bool true ∧ Fr NF w w' := by
  obtain ⟨odd, ho⟩ := hVal_rd h2
  obtain ⟨st, h3, _, _, h4⟩ := slice_rd (hStepC.rd w.heap) h HStep.cells (fun s => SlR w.heap 1 s.vl (fun _ => True) (s.l.map icell)) fun d x hx => hStep_rd hx
  rw [ho]
  exact (heapDoes_c n odd (St.top w) (FzS.top h3) fun x hx => FzS.top (h4 x hx)).mono fun v w' ⟨h, L, h2⟩ => ⟨h, h2.fr⟩
end Go.Proofs.Ytocllfbfogcbgaa
