/- Strings and bytes; parts of an array that is a value. -/
import Derived.Test.YthdkbdnbflkagaaGreatDoorLirRep
import Derived.Laws.IdiomStrings
namespace Go.Lir
def ucell (b : UInt8) : List Value := [.int .u8 (b.toNat : Int)]
def u8R : Rep UInt8 := Rep.lit (fun b => .int .u8 (b.toNat : Int)) (fun _ => rfl)
theorem u8R_out {c : Cx} {cs : List Value} {b : UInt8} (h : u8R.at c cs b) : cs = [.int .u8 (b.toNat : Int)] := h
theorem u8R_ls {c : Cx} (l : List UInt8) : u8R.ls c (l.map ucell) l := ⟨by simp, fun m x hx => ⟨ucell x, by rw [List.getElem?_map, hx]; rfl, rfl⟩⟩
theorem Rep.LR.u8 {r : Rep UInt8} {H : Heap} {K : Nat → Prop} {css : List (List Value)} {l : List UInt8} (hr : r = u8R) (h : r.LR H K css l) : css = l.map ucell := by
  subst hr
  apply List.ext_getElem?
  intro m
  rw [List.getElem?_map]
  rcases Nat.lt_or_ge m l.length with hm | hm
  · obtain ⟨d, h4, h5⟩ := h.2 m _ (List.getElem?_eq_getElem hm)
    have h5 : d = [_] := h5
    rw [h4, List.getElem?_eq_getElem hm, h5]; rfl
  · rw [List.getElem?_eq_none (by rw [h.1]; exact hm), List.getElem?_eq_none hm]; rfl
section
variable {P : Program} {l : List GO} {Q : QT} {ρ : Env} {w : World} {c : Cx} {L : List Res} {v : Value}
theorem ucells_flat (s : List UInt8) : (s.map ucell).flatten = s.map fun b => Value.int .u8 (b.toNat : Int) := by
  induction s with
  | nil => rfl
  | cons b s ih => simp [ucell, ih]
/-- []byte(s) -/
theorem s_bytes {d src dst e Ty : Nat} {x : Operand} {s : ByteArray} (hs : P.underlying src = some .string) (hd : P.underlying dst = some (.slice e)) (he : P.underlying e = some (.int .u8)) (hS : St c w L) (hx : ρ.ev x = .string s)
    (h : ∀ v' w', St c w' (sl e 1 v' (s.data.toList.map ucell) :: L) → opsWp P l Q (upd ρ d v') w') : opsWp P (⟨none, .raw ⟨some d, .convert src dst x, Ty, "", #[], none⟩⟩ :: l) Q ρ w := by
  have hr := run_bytes_of_string (P := P) w src dst e s hs hd he
  have hge := grownCap_ge w s.size 0 e
  generalize hcap : grownCap w s.size 0 e = cap at hr hge
  refine raw_val (v := .slice (some ⟨w.heap.size, 0, none⟩) s.size cap) (w' := w.drew.alloc (.cells (bytesRow s cap) e ((bytesRow s cap).size, (bytesRow s cap).size + 1))) ?_ ?_
  · simp only [execOp, hx, Sem.run_bind, hr, Result.andThen_ok, Sem.run_pure]
  · have hsz : s.data.size = s.size := rfl
    have hrow : (bytesRow s cap).size = cap := by simp [bytesRow]; omega
    refine h _ _ (hS.new (F' := (· = w.heap.size)) ?_ (((Fr.refl NF w).drew').then0 (fr_alloc w.drew _)) fun b hb => by omega)
    refine ⟨by intro q hq; obtain ⟨b, _, rfl⟩ := List.mem_map.1 hq; rfl, .inr ⟨w.heap.size, 0, cap, (bytesRow s cap).toList, ?_, ?_, ?_, ?_, ?_, fun _ => Iff.rfl⟩⟩
    · have : (List.map ucell s.data.toList).length = s.size := by rw [List.length_map, Array.length_toList]; rfl
      rw [this]
    · have : (List.map ucell s.data.toList).length = s.size := by rw [List.length_map, Array.length_toList]; rfl
      rw [this]; exact hge
    · refine ⟨((bytesRow s cap).size, (bytesRow s cap).size + 1), ?_, ?_⟩
      · show (w.heap.push _)[w.heap.size]? = _
        rw [Array.getElem?_push_size]
      · refine ⟨fun i h1 h2 => ?_, by simp⟩
        simp only [Array.length_toList] at *; omega
    · simp [hrow]
    · intro i hi
      rw [ucells_flat]
      simp only [List.length_map, Array.length_toList, Nat.mul_one] at hi
      rw [Nat.zero_add, Array.getElem?_toList, bytesRow_at s cap i hi, List.getElem?_map, Array.getElem?_toList, Array.getElem?_eq_getElem hi]; rfl
theorem loadCells_at {w : World} {b o n : Nat} {cs : List Value} (hl : cs.length = n) (h : ∀ j u, cs[j]? = some u → w.cell? ⟨b, o + j, none⟩ = some u) : (loadCells ⟨b, o, none⟩ n).run P w = .ok ⟨cs⟩ w := by
  refine run_loadCells_cells _ _ _ ⟨hl, fun j hj => ?_⟩
  rw [add_addr, List.getElem?_eq_getElem (by omega)]
  exact h j _ (List.getElem?_eq_getElem (by omega))
/-- string(b), of bytes that are read. -/
theorem s_string {d src dst e Ty : Nat} {x : Operand} {s : List UInt8} (hs : P.underlying src = some (.slice e)) (he : P.underlying e = some (.int .u8)) (hd : P.underlying dst = some .string) (hS : St c w L) (hx : ρ.ev x = v) (hK : u8R.sl c v s)
    (h : opsWp P l Q (upd ρ d (.string ⟨s.toArray⟩)) w) : opsWp P (⟨none, .raw ⟨some d, .convert src dst x, Ty, "", #[], none⟩⟩ :: l) Q ρ w := by
  obtain ⟨css, h1, h2, h3⟩ := hK
  have h1 := FzS.now h1 hS
  have hcs := h2.u8 rfl
  obtain ⟨h0, a, cap, hv, hlc, hc⟩ := h1
  refine raw_val (v := .string ⟨s.toArray⟩) (w' := w) ?_ h
  simp only [execOp, hx, Sem.run_bind]
  have : (convert src dst v).run P w = .ok (.string ⟨s.toArray⟩) w := by
    rcases hc with hc | ⟨b, off, ha, hF, hb, hat⟩
    · have hsn : s = [] := List.eq_nil_of_length_eq_zero (by rw [← h2.1, hc]; rfl)
      subst hsn hc hv
      rw [run_convert_bytes_string w src dst e a _ cap hs he hd]
      cases a with
      | none => simp [Conv.bytesToString, Sem.run_pure]; rfl
      | some a =>
        have := run_bytesToString (P := P) w a 0 cap [] (by simp [loadCells, loadCellsFrom, Sem.run_pure])
        exact this
    · subst ha hv
      have hl : css.length = s.length := h2.1
      rw [hl]
      have := run_convert_bytes_back (P := P) w src dst e ⟨b, off, none⟩ cap s hs he hd (fun j hj => by
        rw [add_addr]
        have hm : css[j]? = some (ucell s[j]) := by rw [hcs, List.getElem?_map, List.getElem?_eq_getElem hj]; rfl
        have := (hat j _ hm).cell (j := 0) (u := .int .u8 (s[j].toNat : Int)) rfl
        have hr1 : u8R.es = 1 := rfl
        rw [hr1, Nat.mul_one, Nat.add_zero] at this
        exact this)
      exact this
  rw [this]; rfl
/-- A part of an array that is a value. -/
theorem s_idxv {d T Ty e n : Nat} {x y : Operand} {k : IntKind} {m : Int} {cs : List Value} {u : Value} (hT : P.underlying T = some (.array n e)) (he : scalarT P e = true) (hsz : sizeT P e = some 1) (hx : ρ.ev x = .agg ⟨cs⟩) (hy : ρ.ev y = .int k m) (h0 : 0 ≤ m) (hm : m < n) (hu : cs[m.toNat]? = some u)
    (h : opsWp P l Q (upd ρ d u) w) : opsWp P (⟨none, .raw ⟨some d, .index T x y, Ty, "", #[], none⟩⟩ :: l) Q ρ w := by
  refine raw_val (v := u) (w' := w) ?_ h
  simp only [execOp, hx, hy, Instr.index, Sem.run_bind, asIntOf, Sem.run_pure, Result.andThen_ok, run_underlying' P T _ w hT]
  rw [if_pos ⟨h0, hm⟩]
  simp only [Sem.run_bind, run_sizeOf' P e 1 w hsz, Result.andThen_ok, Nat.mul_one, run_part P e ⟨cs⟩ _ _ w he (by simpa using hu)]
end
end Go.Lir
