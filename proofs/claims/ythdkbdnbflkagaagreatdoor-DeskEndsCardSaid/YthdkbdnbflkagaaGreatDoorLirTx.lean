/- Strings, seen as lists of bytes. -/
import Derived.Test.YthdkbdnbflkagaaGreatDoorLirStr
import Derived.Test.YthdkbdnbflkagaaGreatDoorLirPan
import Derived.Lib.Strings
namespace Go.Lir
section
variable {P : Program} {l : List GO} {Q : QT} {ρ : Env} {w : World} {a : List UInt8}
theorem tx_size (a : List UInt8) : (⟨a.toArray⟩ : ByteArray).size = a.length := by rw [Lib.size_eq]
theorem tx_get (a : List UInt8) (i : Nat) : (⟨a.toArray⟩ : ByteArray)[i]? = a[i]? := by
  by_cases h : i < a.length
  · rw [List.getElem?_eq_getElem h, getElem?_pos _ _ (by rw [tx_size]; exact h)]
    rfl
  · rw [List.getElem?_eq_none (by omega), getElem?_neg _ _ (by rw [tx_size]; exact h)]
theorem tx_extract (a : List UInt8) (i j : Nat) : (⟨a.toArray⟩ : ByteArray).extract i j = ⟨((a.take j).drop i).toArray⟩ := by
  apply ByteArray.ext
  apply Array.ext'
  simp [ByteArray.data_extract, List.drop_take]
theorem s_slenL {d : Nat} {x : Operand} (hx : ρ.ev x = .string ⟨a.toArray⟩) (h : opsWp P l Q (upd ρ d (.int .i64 a.length)) w) : opsWp P (⟨none, .slen d x⟩ :: l) Q ρ w := s_slen hx (by rw [tx_size]; exact h)
theorem s_sidxL {d m : Nat} {x i : Operand} {k : IntKind} {b : UInt8} (hx : ρ.ev x = .string ⟨a.toArray⟩) (hi : ρ.ev i = .int k (m : Int)) (hb : a[m]? = some b) (h : opsWp P l Q (upd ρ d (.int .u8 b.toNat)) w) : opsWp P (⟨none, .sidx d x i⟩ :: l) Q ρ w :=
  s_sidx hx hi (by omega) (by rw [Int.toNat_natCast, tx_get]; exact hb) h
theorem s_ssubL {d l' h' : Nat} {x : Operand} {lo hi : Option Operand} (hx : ρ.ev x = .string ⟨a.toArray⟩) (hh : bnd ρ a.length hi h') (hl : bnd ρ 0 lo l') (h2 : h' ≤ a.length) (h3 : l' ≤ h')
    (h : opsWp P l Q (upd ρ d (.string ⟨((a.take h').drop l').toArray⟩)) w) : opsWp P (⟨none, .ssub d x lo hi⟩ :: l) Q ρ w :=
  ⟨_, l', h', hx, by rw [tx_size]; exact hh, hl, by rw [tx_size]; exact h2, h3, by rw [tx_extract]; exact h⟩
theorem s_sneqx {d T : Nat} {x y : Operand} {a b : List UInt8} (hx : ρ.ev x = .string ⟨a.toArray⟩) (hy : ρ.ev y = .string ⟨b.toArray⟩)
    (h : opsWp P l Q (upd ρ d (.bool (decide (a ≠ b)))) w) : opsWp P (⟨none, .bin d .neq T x y⟩ :: l) Q ρ w :=
  ⟨_, fun w0 => by
    rw [hx, hy]
    have e : ∀ c : List UInt8, (⟨c.toArray⟩ : ByteArray).toList = c := fun c => Lib.toList_data _
    have e2 : (a != b) = decide (a ≠ b) := by by_cases h : a = b <;> simp [h]
    have e3 : (a == b) = decide (a = b) := by by_cases h : a = b <;> simp [h]
    simp [eqGuard, binOp, Op.stringOp, e, e2, e3], h⟩
/-- A number that lies in memory: for measures. -/
def cellI (w : World) (b j : Nat) : Int := match w.cell? ⟨b, j, none⟩ with
  | some (.int _ n) => n
  | _ => 0
theorem cellI_of {c : Cx} {L : List Res} {T b j i : Nat} {cs : List Value} {k : IntKind} {n : Int} (hS : St c w L) (hi : nth L i = some (blk b T cs)) (hj : cs[j]? = some (.int k n)) : cellI w b j = n := by
  unfold cellI; rw [(hS.blkAt hi).cell hj]
/-- A call of a function that was handed in. -/
theorem s_callf {d : Nat} {x : Operand} {xs : List Operand} {f : FuncId} {args : List Value} {S : Value → World → Prop} (hx : ρ.ev x = .func (.func f) #[] #[]) (hf : goFunc P f = true) (hxs : xs.map ρ.ev = args) (hc : Rets P f args w S)
    (h : ∀ v w', S v w' → opsWp P l Q (upd ρ d v) w') : opsWp P (⟨none, .callv (some d) x xs⟩ :: l) Q ρ w := by
  unfold goFunc at hf
  rw [Option.any_eq_true] at hf
  obtain ⟨fn, h1, h2⟩ := hf
  rw [Bool.and_eq_true, Bool.not_eq_true'] at h2
  refine s_callv (cap := []) hx h1 h2.1 h2.2 (by rw [hxs, List.append_nil]) hc ?_
  rintro e w' ⟨v, rfl, hv⟩
  exact h v w' hv
end
end Go.Lir
