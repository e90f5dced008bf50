/- The statement HeapApart: what came in. -/
import Derived.Test.YtocllfbfogcbgaaHeapApart
namespace Go.Proofs.Ytocllfbfogcbgaa
open Go.Lir
abbrev longssC : Cod Try.prog 118 (List (List Int)) := Cod.slice longsC (by kernel_rfl) (by kernel_rfl) (by decide)
theorem row_rd {H : Heap} {c : List Value} {x : List Int} (h : longsC.rd H c x) : ∃ r : Value × List Int, c = rowC r ∧ SlR H 1 r.1 (fun _ => True) (r.2.map icell) := by
  obtain ⟨v, hv⟩ := len1 (longsC.len _ _ _ h)
  subst hv
  exact ⟨(v, x), rfl, (ints_rd h).1⟩
theorem heapApart_rd (n at_ part z : Int) {vL : Value} {x : List (List Int)} {w : World} (h : longssC.rd w.heap [vL] x) :
    Rets Try.prog Law_HeapApart [.int .i64 n, vL, .int .i64 at_, .int .i64 part, .int .i64 z] w fun v w' => v = .bool true ∧ Fr NF w w' := by
  obtain ⟨st, h3, _, _, h4⟩ := slice_rd (longsC.rd w.heap) h rowC (fun r => SlR w.heap 1 r.1 (fun _ => True) (r.2.map icell)) fun d x hx => row_rd hx
  exact (heapApart_c n at_ part z (St.top w) (FzS.top h3) fun x hx => FzS.top (h4 x hx)).mono fun v w' ⟨h, L, h2⟩ => ⟨h, h2.fr⟩
end Go.Proofs.Ytocllfbfogcbgaa
