/- What strings.Builder does with its own address (steps); a string behind own bytes. -/
import Derived.Test.YthdkbdnbflkagaaGreatDoorLirStr
import Derived.Lib.Builder
import Derived.Lib.UnsafeStr
import Derived.Laws.Externs
import Derived.Lib.AppendStr
import Derived.Test.YthdkbdnbflkagaaGreatDoorLirTx
namespace Go.Lir
set_option linter.unusedVariables false
section
variable {P : Program} {l : List GO} {Q : QT} {ρ : Env} {w : World} {c : Cx} {L : List Res} {v : Value}
theorem s_pne_f {d T te n : Nat} {x y : Operand} {a : Addr} (hp : P.underlying T = some (.pointer te)) (hsz : sizeT P te = some n) (hx : ρ.ev x = .pointer (some a)) (hy : ρ.ev y = .pointer (some a))
    (h : opsWp P l Q (upd ρ d (.bool false)) w) : opsWp P (⟨none, .bin d .neq T x y⟩ :: l) Q ρ w :=
  ⟨_, fun w0 => by
    rw [hx, hy]
    obtain ⟨j, hte, _⟩ := Option.map_eq_some_iff.1 hsz
    have := Lib.run_neq_ptr_same w0 a hp hte
    simp [eqGuard, this], h⟩
/-- A closure, with what it holds. -/
theorem s_mkfnv {d f : Nat} {caps : List Operand} {u : List Value} (hu : caps.map ρ.ev = u) (h : opsWp P l Q (upd ρ d (.func (.func f) #[] ⟨u⟩)) w) : opsWp P (⟨none, .mkfn d f caps⟩ :: l) Q ρ w := by
  subst hu; exact h
theorem blk_shape {H : Heap} {b T : Nat} {cs : List Value} {w : World} (h : Blk w.heap b T cs) : w.shape? b = some (T, cs.length) := by
  obtain ⟨fz, h1, _⟩ := h
  simp [World.shape?, h1]
theorem s_toU {d T U t Ty n : Nat} {x : Operand} {i b : Nat} {cs : List Value} {T0 : TypeId} (hs : P.underlying T = some (.pointer t)) (hd : P.underlying U = some .unsafePointer) (hsz : sizeT P t = some (n + 1)) (hS : St c w L)
    (hi : nth L i = some (blk b T0 cs)) (hc : 0 < cs.length) (hx : ρ.ev x = .pointer (some ⟨b, 0, none⟩)) (h : opsWp P l Q (upd ρ d (.pointer (some ⟨b, 0, none⟩))) w) : opsWp P (⟨none, .raw ⟨some d, .convert T U x, Ty, "", #[], none⟩⟩ :: l) Q ρ w := by
  refine raw_val (v := .pointer (some ⟨b, 0, none⟩)) (w' := w) ?_ h
  obtain ⟨j, ht, hj⟩ : ∃ j, P.info? t = some j ∧ j.size ≠ 0 := by
    unfold sizeT at hsz
    rw [Option.map_eq_some_iff] at hsz
    obtain ⟨j, h1, h2⟩ := hsz
    exact ⟨j, h1, by omega⟩
  have hb := hS.blkAt hi
  have := Lib.run_to_unsafe (P := P) (w := w) ⟨b, 0, none⟩ hs hd ht hj (blk_shape (H := w.heap) hb) hc
  simp only [execOp, hx, Sem.run_bind, this]
  rfl
theorem s_fromU {d T U u Ty n : Nat} {x : Operand} {i b : Nat} {cs : List Value} {T0 : TypeId} (hs : P.underlying T = some .unsafePointer) (hd : P.underlying U = some (.pointer u)) (hsz : sizeT P u = some n) (hS : St c w L)
    (hi : nth L i = some (blk b T0 cs)) (hl : liesAt P P.depth T0 (cs.length / P.cellsOf T0) 0 u 1 = true) (hx : ρ.ev x = .pointer (some ⟨b, 0, none⟩)) (h : opsWp P l Q (upd ρ d (.pointer (some ⟨b, 0, none⟩))) w) : opsWp P (⟨none, .raw ⟨some d, .convert T U x, Ty, "", #[], none⟩⟩ :: l) Q ρ w := by
  refine raw_val (v := .pointer (some ⟨b, 0, none⟩)) (w' := w) ?_ h
  obtain ⟨j, hu, _⟩ := Option.map_eq_some_iff.1 hsz
  have hb := hS.blkAt hi
  have := Lib.run_from_unsafe (P := P) (w := w) ⟨b, 0, none⟩ hs hd hu (blk_shape (H := w.heap) hb) hl
  simp only [execOp, hx, Sem.run_bind, this]
  rfl
theorem s_noesc {d f U Ty : Nat} {x : Operand} {fn : Func} (hf : P.funcs[f]? = some fn) (hname : (fn.name == "runtime.NumGoroutine") = false) (hb : fn.body.isNone = true) (hn : Extern.findNext fn = none) (he : Extern.find fn = some Extern.AbiNoEscape.same) (hx : ρ.ev x = v)
    (h : opsWp P l Q (upd ρ d v) w) : opsWp P (⟨none, .raw ⟨some d, .call ⟨.value (.func f), #[x], #[U]⟩, Ty, "", #[], none⟩⟩ :: l) Q ρ w := by
  refine raw_val (v := v) (w' := w) ?_ h
  have hr := run_callFunc_extern (P := P) hf hname hb hn he #[v] w
  have h9 : (Extern.AbiNoEscape.same #[v]).run P w = .ok v w := rfl
  rw [h9] at hr
  have e0 : ρ.ev (.func f) = .func (.func f) #[] #[] := rfl
  have e1 : (#[x].map ρ.ev) = #[v] := by simp [hx]
  have e2 : (resolve ρ.ev ⟨.value (.func f), #[x], #[U]⟩ Ty).run P w = .ok ⟨.fn (.func f) #[], #[v]⟩ w := by
    simp [resolve, Deferred.ofValue, e0, hx]
  simp only [execOp, Sem.run_bind, e2, Result.andThen_ok, invoke]
  simpa [callFunc] using hr
/-- What a string may give to be appended. -/
theorem src_str (w : World) (t : List UInt8) : Src P w 1 (.string ⟨t.toArray⟩) (t.map ucell) := by
  have hf : (t.map ucell).flatten = Lib.byteCells t := by
    induction t with
    | nil => rfl
    | cons x t ih => rw [List.map_cons, List.flatten_cons, ih]; rfl
  refine ⟨?_, ?_, ?_, fun w' _ => ?_⟩
  · have e : (⟨t.toArray⟩ : ByteArray).size = t.length := tx_size t
    simp [Builtin.lenOf, e]
  · intro c hc; obtain ⟨x, _, rfl⟩ := List.mem_map.1 hc; rfl
  · intro c hc u hu; obtain ⟨x, _, rfl⟩ := List.mem_map.1 hc; simp [ucell] at hu; subst hu; rfl
  · have := Lib.run_firstCells_string (P := P) w' 1 ⟨t.toArray⟩
    rw [Lib.strCells_eq, tx_size] at this
    rw [List.length_map, hf]
    exact this
/-- append(b, s...) -/
theorem s_appStr {d Ts Ts2 Ty T nb i : Nat} {z : List Value} {x y : Operand} {css : List (List Value)} {t : List UInt8} (hel : elInfo P Ts = some (T, 1, nb, z)) (hts : P.underlying Ts2 = some .string) (hS : St c w L) (hx : ρ.ev x = v) (hy : ρ.ev y = .string ⟨t.toArray⟩)
    (hi : nth L i = some (sl T 1 v css)) (hb : (css.length + t.length) * nb ≤ 140737488355328)
    (h : ∀ v' w', St c w' (L.set i (sl T 1 v' (css ++ t.map ucell))) → opsWp P l Q (upd ρ d v') w') : opsWp P (⟨none, .raw ⟨some d, .call ⟨.builtin .append, #[x, y], #[Ts, Ts2]⟩, Ty, "", #[], none⟩⟩ :: l) Q ρ w :=
  s_appE hel (.inr hts) hS hx hy hi (src_str w t) (by rw [List.length_map]; exact hb) h
theorem liesAt_bytes {e : TypeId} (hc : P.cellsOf e = 1) (count off n : Nat) (hn : off + n ≤ count) : liesAt P P.depth e count off e n = true := by
  have hd : P.depth = (2 * (P.types.size + Made.depth) + 1) + 1 := rfl
  rw [hd]
  simp only [liesAt, Bool.or_eq_true]
  left
  rw [hd]
  simp [rowAt, hc, hn, sameLayout, Nat.mod_one]
/-- unsafe.SliceData and unsafe.String of own bytes: they are the string, and no more one's own. -/
theorem s_sdata {d T Ty n cp : Nat} {x : Operand} {a : Addr} (hx : ρ.ev x = .slice (some a) n cp) (hc : cp ≠ 0) (h : opsWp P l Q (upd ρ d (.pointer (some a))) w) : opsWp P (⟨none, .raw ⟨some d, .call ⟨.builtin .unsafeSliceData, #[x], #[T]⟩, Ty, "", #[], none⟩⟩ :: l) Q ρ w := by
  refine raw_val (v := .pointer (some a)) (w' := w) ?_ h
  have := Lib.run_unsafeSliceData_row (P := P) w #[T] Ty a n cp hc
  simp only [execOp, resolve, Sem.run_bind, Sem.run_pure, Result.andThen_ok, invoke, builtin]
  have e1 : (#[x].map ρ.ev) = #[.slice (some a) n cp] := by simp [hx]
  rw [e1, this]; rfl
theorem run_ustr (pt it ty e : TypeId) (hp : P.underlying pt = some (.pointer e)) (hc : P.cellsOf e = 1) (g off cells : Nat) (hsh : w.shape? g = some (e, cells)) (l : List UInt8) (h0 : l ≠ []) (hn : off + l.length ≤ cells) (h63 : l.length ≤ 9223372036854775807)
    (hcell : ∀ j x, l[j]? = some x → w.cell? ((⟨g, off, none⟩ : Addr).add j) = some (.int .u8 x.toNat)) :
    (Builtin.unsafeString_ #[pt, it] ty #[.pointer (some ⟨g, off, none⟩), .int .i64 l.length]).run P w = .ok (.string ⟨l.toArray⟩) (w.freeze ⟨g, off, none⟩ l.length) := by
  have hl : l.length ≠ 0 := by simpa using h0
  have hlb := Lib.run_loadBytes (P := P) w l ⟨g, off, none⟩ .empty hcell
  have hlies := liesAt_bytes (P := P) hc (cells / P.cellsOf e) off l.length (by rw [hc]; simpa using hn)
  have h63' : ¬ (9223372036854775807 : Int) < (l.length : Int) := by omega
  have hdef : Builtin.unsafeString_ #[pt, it] ty #[.pointer (some ⟨g, off, none⟩), .int .i64 l.length] =
      (do
        let n ← asInt (.int .i64 l.length)
        if n < 0 then runtimePanic (.error "unsafe.String: len out of range")
        if n > IntKind.i64.max then unsupported (.unsafePointer "String: a length above the largest int")
        if n = 0 then pure (.string .empty)
        else if ← variablesAt ⟨g, off, none⟩ (← elemOf pt) n.toNat then do
          let s ← loadBytes ⟨g, off, none⟩ .empty n.toNat
          freeze ⟨g, off, none⟩ n.toNat
          pure (.string s)
        else unsupported (.unsafePointer "String: not so many bytes at ptr")) := rfl
  rw [hdef]
  have hmax : IntKind.i64.max = 9223372036854775807 := rfl
  have hneg : ¬ (l.length : Int) < 0 := by omega
  simp [asInt, asIntOf, hmax, h63', hneg, hl, variablesAt, hsh, elemOf, run_underlying hp, hlies, hlb]
theorem freeze_fr (w : World) (a : Addr) (n : Nat) : Fr (· = a.block) w (w.freeze a n) := by
  unfold World.freeze
  split
  · exact (Fr.refl _ _)
  · refine ⟨rfl, rfl, rfl, by simp, fun b hb hne => ?_⟩
    simp only
    rw [Array.getElem?_modify, if_neg (fun e => hne e.symm)]
theorem s_ustr {d pt it Ty e i g off cp : Nat} {x y : Operand} {t : List UInt8} (hp : P.underlying pt = some (.pointer e)) (hc : P.cellsOf e = 1) (hS : St c w L) (hi : nth L i = some (sl e 1 (.slice (some ⟨g, off, none⟩) t.length cp) (t.map ucell))) (h0 : t ≠ []) (h63 : t.length ≤ 140737488355328)
    (hx : ρ.ev x = .pointer (some ⟨g, off, none⟩)) (hy : ρ.ev y = .int .i64 t.length)
    (h : ∀ w', St c w' (L.set i emp) → opsWp P l Q (upd ρ d (.string ⟨t.toArray⟩)) w') : opsWp P (⟨none, .raw ⟨some d, .call ⟨.builtin .unsafeString, #[x, y], #[pt, it]⟩, Ty, "", #[], none⟩⟩ :: l) Q ρ w := by
  obtain ⟨F, hr, hd, hst⟩ := hS.step hi
  obtain ⟨h1, ⟨h2, _⟩ | ⟨b, o, cap, arr, h2, h3, h4, h5, h6, h7⟩⟩ := hr
  · cases h2
  · simp only [Value.slice.injEq, Option.some.injEq, Addr.mk.injEq] at h2
    obtain ⟨⟨rfl, rfl, _⟩, h8, rfl⟩ := h2
    rw [List.length_map] at h3
    have hcell : ∀ j z, t[j]? = some z → w.cell? ((⟨g, off, none⟩ : Addr).add j) = some (.int .u8 z.toNat) := by
      intro j z hj
      have hlt := (List.getElem?_eq_some_iff.1 hj).1
      have h9 := h6 j (by rw [List.length_map]; omega)
      have hf : (t.map ucell).flatten[j]? = some (.int .u8 z.toNat) := by
        have := flatten_get h1 (m := j) (j := 0) (c := ucell z) (by rw [List.getElem?_map, hj]; rfl) (by decide)
        rw [Nat.mul_one, Nat.add_zero] at this
        rw [this]; rfl
      rw [hf] at h9
      rw [add_addr]
      exact h4.cell h9
    have hrun := run_ustr (P := P) (w := w) pt it Ty e hp hc g off arr.length (blk_shape (H := w.heap) h4) t h0 (by omega) (by omega) hcell
    refine raw_val (v := .string ⟨t.toArray⟩) (w' := w.freeze ⟨g, off, none⟩ t.length) ?_ ?_
    · simp only [execOp, resolve, Sem.run_bind, Sem.run_pure, Result.andThen_ok, invoke, builtin]
      have e1 : (#[x, y].map ρ.ev) = #[.pointer (some ⟨g, off, none⟩), .int .i64 t.length] := by simp [hx, hy]
      rw [e1, hrun]; rfl
    · refine h _ (hst _ (fun _ => False) emp (fun _ h => h) ⟨?_, fun _ h => h.elim⟩)
      exact (freeze_fr w ⟨g, off, none⟩ t.length).mono fun b _ hb => (h7 b).2 hb
end
end Go.Lir
