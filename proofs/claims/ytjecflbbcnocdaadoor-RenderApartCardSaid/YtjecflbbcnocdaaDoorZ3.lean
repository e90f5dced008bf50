/- Lemmas of the proof, part 3: what the functions of the program do (contracts), and what follows. -/
import Derived.Test.YtjecflbbcnocdaaDoorZ2
import Derived.Lib.LaidTab
import Derived.Lib.Strings
import Derived.Laws.Concat
import Derived.Below
import Derived.Sort.Grow
import Derived.Deep.Draws
import Derived.Test.YtjecflbbcnocdaaDoorProg
import Derived.Lib.ItoaNum
import Derived.Shelf.Strings.Builder1
import Derived.Shelf.Strings.Builder2
import Derived.Shelf.Strings.OnBuilder
import Derived.Shelf.Small.Strs
import Derived.Shelf.Strconv.Itoa0
import Derived.Shelf.Strconv.Itoa1
import Derived.Shelf.LaysM
import Derived.Shelf.Strconv.Itoa2
import Derived.Shelf.Strconv.Itoa3
import Derived.Shelf.Strconv.ParseIntEmpty
import Derived.Shelf.Strconv.Clone
import Derived.Shelf.Strconv.SyntaxError
import Derived.Shelf.LaysC
import Derived.Shelf.Strconv.ToError
import Derived.Shelf.Strconv.Lower
import Derived.Shelf.Strconv.ParseUint10
import Derived.Shelf.Strconv.ParseUint10Empty
import Derived.Shelf.Strconv.ParseUint10Any
import Derived.Shelf.Strconv.ParseInt10
import Derived.Shelf.Strconv.RangeError
import Derived.Shelf.Strconv.ToErrorRange
import Derived.Shelf.Strconv.ParseUintEmpty
import Derived.Shelf.Strconv.ParseUint10b64
import Derived.Shelf.Strconv.ParseUint10b32
import Derived.Shelf.Strconv.ParseUint10b16
import Derived.Shelf.Strconv.ParseUint10b8
import Derived.Shelf.Strconv.ParseUint10At
import Derived.Shelf.Strconv.ParseInt10At64
import Derived.Shelf.Strconv.ParseInt10At32
import Derived.Shelf.Strconv.ParseInt10At16
import Derived.Shelf.Strconv.ParseInt10At8
import Derived.Shelf.Strconv.ParseInt10All
import Derived.Shelf.Strconv.ParseIntPublic10
import Derived.Shelf.Strings.Search1
import Derived.Lib.ParseIntB
import Derived.Lib.ItoaLen
import Derived.Lib.Builder
import Derived.Lib.UnsafeStr
import Derived.Laws.Externs
import Derived.Lib.AppendStr
namespace Go.Lir
section
variable {P : Program} {l : List GO} {Q : QT} {ρ : Env} {w : World} {c : Cx} {L : List Res} {v : Value}
theorem Qr {d T : Nat} {x y : Operand} {a b : List UInt8} (hx : ρ.ev x = .string ⟨a.toArray⟩) (hy : ρ.ev y = .string ⟨b.toArray⟩) (hl : a.length + b.length ≤ 9223372036854775807)
    (h : Q1 P l Q (upd ρ d (.string ⟨(a ++ b).toArray⟩)) w) : Q1 P (⟨none, .bin d .add T x y⟩ :: l) Q ρ w :=
  ⟨_, fun w0 => by
    rw [hx, hy]
    have := run_string_add_sum (P := P) w0 (⟨a.toArray⟩ : ByteArray) ⟨b.toArray⟩ (by simpa [ByteArray.size] using hl)
    rw [ByteArray.mk_append_mk] at this
    simpa [eqGuard, binOp] using this, h⟩
theorem s_seql {d T : Nat} {x y : Operand} {a b : List UInt8} (hx : ρ.ev x = .string ⟨a.toArray⟩) (hy : ρ.ev y = .string ⟨b.toArray⟩)
    (h : Q1 P l Q (upd ρ d (.bool (decide (a = b)))) w) : Q1 P (⟨none, .bin d .eql T x y⟩ :: l) Q ρ w :=
  ⟨_, fun w0 => by
    rw [hx, hy]
    have e : ∀ c : List UInt8, (⟨c.toArray⟩ : ByteArray).toList = c := fun c => Lib.toList_data _
    have e2 : (a == b) = decide (a = b) := by by_cases h : a = b <;> simp [h]
    simp [eqGuard, binOp, Op.stringOp, e, e2], h⟩
theorem s_seqt {d T : Nat} {x y : Operand} {a b : List UInt8} (hx : ρ.ev x = .string ⟨a.toArray⟩) (hy : ρ.ev y = .string ⟨b.toArray⟩) (hab : a = b)
    (h : Q1 P l Q (upd ρ d (.bool true)) w) : Q1 P (⟨none, .bin d .eql T x y⟩ :: l) Q ρ w :=
  s_seql hx hy (by rw [decide_eq_true hab]; exact h)
theorem below_fr {w w' : World} (h : Go.RowKit.Below w.heap.size w w') : Fr NF w w' := ⟨h.os, h.tape, h.output, h.size, fun b hb _ => h.block b hb⟩
theorem Qh8 (w : World) (k : Nat) (os : Array Obj) : Fr NF w (Go.Sort.grow (w.drewN k) os) :=
  ⟨rfl, rfl, rfl, by simp [Go.Sort.grow], fun b hb _ => by simp only [Go.Sort.grow, World.heap_drewN]; rw [Array.getElem?_append_left hb]⟩
/-- The table lies in what is only read. -/
def TabK (P : Program) (c : Cx) (name : String) (k : IntKind) (zs : List Int) : Prop := ∃ g, c.K g ∧ ∀ w : World, w.heap[g]? = c.H0[g]? → Lib.TabIs P w name k zs
theorem TabK.up {name : String} {k : IntKind} {zs : List Int} {c' : Cx} (h : TabK P c name k zs) (hle : c.Le c') : TabK P c' name k zs := by
  obtain ⟨g, h1, h2⟩ := h
  exact ⟨g, (hle.K g h1).1, fun w hw => h2 w (hw.trans (hle.K g h1).2)⟩
theorem TabK.now {name : String} {k : IntKind} {zs : List Int} (h : TabK P c name k zs) (hS : St c w L) : Lib.TabIs P w name k zs := by
  obtain ⟨g, h1, h2⟩ := h
  exact h2 w (hS.1.same g h1)
theorem TabK.top {name : String} {k : IntKind} {zs : List Int} (h : Lib.TabIs P w name k zs) : TabK P (Cx.top w) name k zs := by
  unfold Lib.TabIs World.var? at h
  cases hg : P.globalNamed name with
  | none => simp [hg] at h
  | some g =>
    simp only [hg, Option.bind_some] at h
    have hlt : g < w.heap.size := by
      rcases Nat.lt_or_ge g w.heap.size with h' | h'
      · exact h'
      · rw [Array.getElem?_eq_none h'] at h; simp at h
    refine ⟨g, hlt, fun w' hw' => ?_⟩
    have hw2 : w'.heap[g]? = w.heap[g]? := hw'
    unfold Lib.TabIs World.var?
    simp only [hg, Option.bind_some]
    rw [hw2]; exact h
/-- An own slice of strings: its cells. -/
theorem St.strs {T : TypeId} {i : Nat} {css : List (List Value)} {xs : List ByteArray} (hS : St c w L) (hi : nth L i = some (sl T 1 v css)) (hl : strR.ls c css xs) :
    ∃ a cap, v = .slice a xs.length cap ∧ xs.length ≤ cap ∧ (xs = [] ∨ ∃ b off, a = some ⟨b, off, none⟩ ∧ b < w.heap.size ∧ ∀ (j : Nat) x, xs[j]? = some x → w.cell? ⟨b, off + j, none⟩ = some (.string x)) := by
  obtain ⟨F, hA⟩ := hS.res hi
  have hA : Sl w.heap T 1 v F css := hA
  obtain ⟨h0, a, cap, hv, hlc, hc⟩ := hA.toR
  refine ⟨a, cap, by rw [hv, hl.1], by rw [← hl.1]; exact hlc, ?_⟩
  rcases hc with hc | ⟨b, off, ha, _, hb, hat⟩
  · exact .inl (List.eq_nil_of_length_eq_zero (by rw [← hl.1, hc]; rfl))
  · refine .inr ⟨b, off, ha, hb, fun j x hx => ?_⟩
    obtain ⟨d, h1, h2⟩ := hl.2 j x hx
    have h2 : d = [.string x] := h2
    have := At.cell (hat j d h1) (j := 0) (u := .string x) (by rw [h2]; rfl)
    rw [Nat.mul_one, Nat.add_zero] at this
    exact this
end
end Go.Lir
namespace Go.Proofs.YtjecflbbcnocdaaDoor
open Go.Lir
/-- The table of powers of ten lies in what is only read. -/
abbrev PowT (c : Cx) : Prop := TabK Tryd.prog c "internal/strconv.uint64pow10" .u64 Lib.pow10Tab
end Go.Proofs.YtjecflbbcnocdaaDoor
namespace Go.Proofs
open Go.Shelf
def Tryd.lays156_ren : Go.Shelf.Ren := ⟨fun | 156 => 72 | 165 => 94 | 166 => 44 | 169 => 49 | 240 => 69 | 241 => 105 | 276 => 92 | 277 => 109 | n => n, fun | 31 => 117 | 9 => 9 | 3 => 3 | 4 => 4 | 0 => 0 | 20 => 20 | 72 => 97 | 76 => 98 | 70 => 94 | 37 => 95 | 75 => 77 | 127 => 122 | 164 => 139 | 5 => 5 | 80 => 104 | n => n, fun | n => n⟩
theorem Tryd.lays156 : Go.Proofs.Lays.n156 Tryd.prog Tryd.lays156_ren := {
  mixed := by kernel_rfl
  f156 := Tryd.func72.trans (congrArg some (by kernel_rfl))
  f165 := Tryd.func94.trans (congrArg some (by kernel_rfl))
  f166 := Tryd.func44.trans (congrArg some (by kernel_rfl))
  f169 := Tryd.func49.trans (congrArg some (by kernel_rfl))
  f240 := Tryd.func69.trans (congrArg some (by kernel_rfl))
  f241 := Tryd.func105.trans (congrArg some (by kernel_rfl))
  f276 := Tryd.func92.trans (congrArg some (by kernel_rfl))
  f277 := Tryd.func109.trans (congrArg some (by kernel_rfl))
  t0 := Tryd.underlying0
  a0 := Tryd.isAgg0
  z0 := Tryd.sizeOf0
  v0 := Tryd.zeroValue0
  t3 := Tryd.underlying3
  a3 := Tryd.isAgg3
  z3 := Tryd.sizeOf3
  v3 := Tryd.zeroValue3
  t4 := Tryd.underlying4
  a4 := Tryd.isAgg4
  z4 := Tryd.sizeOf4
  v4 := Tryd.zeroValue4
  t9 := Tryd.underlying9
  a9 := Tryd.isAgg9
  z9 := Tryd.sizeOf9
  v9 := Tryd.zeroValue9
  t20 := Tryd.underlying20
  a20 := Tryd.isAgg20
  z20 := Tryd.sizeOf20
  v20 := Tryd.zeroValue20
  t31 := Tryd.underlying117
  a31 := Tryd.isAgg117
  z31 := Tryd.sizeOf117
  v31 := Tryd.zeroValue117
  t37 := Tryd.underlying95
  a37 := Tryd.isAgg95
  z37 := Tryd.sizeOf95
  v37 := Tryd.zeroValue95
  t70 := Tryd.underlying94
  a70 := Tryd.isAgg94
  z70 := Tryd.sizeOf94
  v70 := Tryd.zeroValue94
  t72 := Tryd.underlying97
  a72 := Tryd.isAgg97
  z72 := Tryd.sizeOf97
  v72 := Tryd.zeroValue97
  t75 := Tryd.underlying77
  a75 := Tryd.isAgg77
  z75 := Tryd.sizeOf77
  v75 := Tryd.zeroValue77
  t76 := Tryd.underlying98
  a76 := Tryd.isAgg98
  z76 := Tryd.sizeOf98
  v76 := Tryd.zeroValue98
  t127 := Tryd.underlying122
  a127 := Tryd.isAgg122
  z127 := Tryd.sizeOf122
  v127 := Tryd.zeroValue122
  t164 := Tryd.underlying139
  a164 := Tryd.isAgg139
  z164 := Tryd.sizeOf139
  v164 := Tryd.zeroValue139 }
theorem Tryd.Builder_Extra_156 : Builder.Extra Tryd.prog Tryd.lays156_ren := {
  sizeBuilder := by kernel_rfl
  liesBuilder := by kernel_rfl
  t5 := Tryd.underlying5
  a5 := Tryd.isAgg5
  z5 := Tryd.sizeOf5
  v5 := Tryd.zeroValue5
  infoByte := by kernel_rfl
  cellsByte := by kernel_rfl
  sizeByte := by kernel_rfl
  neB5 := by decide }
open Go.RowKit in
/-- No element: the empty string; the world is as it was. (Whatever the slice's address and capacity: a nil slice too.) (LAID: no walk: one application.) -/
theorem Tryd.strings_Join_none (a : Option Addr) (c : Nat) (sep : ByteArray) (w : World) :
    Calls Tryd.prog 72 #[.slice a 0 c, .string sep] w fun e w' => e = .returned (.string ⟨#[]⟩) ∧ w' = w := Any.strings_Join_none Tryd.lays156 Tryd.Builder_Extra_156 a c sep w
open Go.RowKit in
/-- strings.Join: "Join concatenates the elements of its first argument to create a single string. The separator string sep is placed between elements in the resulting string.": HOWEVER MANY ELEMENTS. Below the heap's end the world is as it was. (LAID: no walk: one application.) -/
theorem Tryd.strings_Join (bk o c : Nat) (xs : List ByteArray) (sep : ByteArray) (w : World) (hcells : ∀ (j : Nat) x, xs[j]? = some x → w.cell? ⟨bk, o + j, none⟩ = some (.string x)) (hbk : bk < w.heap.size) (hN : xs.length ≤ 140737488355328) (hcap : xs.length ≤ c) (hlen : (Lib.join (xs.map (·.data.toList)) sep.data.toList).length ≤ 140737488355328) :
    Calls Tryd.prog 72 #[.slice (some ⟨bk, o, none⟩) xs.length c, .string sep] w fun e w' => e = .returned (.string ⟨(Lib.join (xs.map (·.data.toList)) sep.data.toList).toArray⟩) ∧ Below w.heap.size w w' := Any.strings_Join Tryd.lays156 Tryd.Builder_Extra_156 bk o c xs sep w hcells hbk hN hcap hlen
def Tryd.lays137_ren : Go.Shelf.Ren := ⟨fun | 137 => 33 | 217 => 55 | 266 => 77 | n => n, fun | 9 => 9 | 5 => 5 | 3 => 3 | n => n, fun | n => n⟩
theorem Tryd.lays137 : Go.Proofs.Lays.n137 Tryd.prog Tryd.lays137_ren := {
  mixed := by kernel_rfl
  f137 := Tryd.func33.trans (congrArg some (by kernel_rfl))
  f217 := Tryd.func55.trans (congrArg some (by kernel_rfl))
  f266 := Tryd.func77.trans (congrArg some (by kernel_rfl))
  t3 := Tryd.underlying3
  a3 := Tryd.isAgg3
  z3 := Tryd.sizeOf3
  v3 := Tryd.zeroValue3
  t5 := Tryd.underlying5
  a5 := Tryd.isAgg5
  z5 := Tryd.sizeOf5
  v5 := Tryd.zeroValue5
  t9 := Tryd.underlying9
  a9 := Tryd.isAgg9
  z9 := Tryd.sizeOf9
  v9 := Tryd.zeroValue9 }
open Go.RowKit in
/-- strings.IndexByte: "IndexByte returns the index of the first instance of c in s, or -1 if c is not present in s.": IT RETURNS 'Lib.indexByte s c'; the world is as it was. (LAID: no walk: one application.) -/
theorem Tryd.strings_IndexByte (s : ByteArray) (c : Int) (w : World) :
    Calls Tryd.prog 33 #[.string s, .int .u8 c] w fun e w' => e = .returned (.int .i64 (Lib.indexByte s.data.toList c.toNat.toUInt8)) ∧ w' = w := Any.strings_IndexByte Tryd.lays137 s c w
def Tryd.lays317_ren : Go.Shelf.Ren := ⟨fun | 317 => 99 | n => n, fun | 3 => 3 | 46 => 127 | n => n, fun | n => n⟩
theorem Tryd.lays317 : Go.Proofs.Lays.n317 Tryd.prog Tryd.lays317_ren := {
  mixed := by kernel_rfl
  f317 := Tryd.func99.trans (congrArg some (by kernel_rfl))
  t3 := Tryd.underlying3
  a3 := Tryd.isAgg3
  z3 := Tryd.sizeOf3
  v3 := Tryd.zeroValue3
  t46 := Tryd.underlying127
  a46 := Tryd.isAgg127
  z46 := Tryd.sizeOf127
  v46 := Tryd.zeroValue127 }
open Go.Lib in
/-- internal/strconv.log10Pow2: "log10Pow2(x) returns ⌊log₁₀ 2**x⌋ = ⌊x * log₁₀ 2⌋.": '(x * 78913) >> 18', at an x up to 64 (a length in bits). The world is as it was. (LAID: no walk: one application.) -/
theorem Tryd.internal_strconv_log10Pow2 (x : Nat) (h : x ≤ 64) (w : World) :
    Calls Tryd.prog 99 #[.int .i64 x] w fun e w' => e = .returned (.int .i64 (Lib.l10 x)) ∧ w' = w := Any.internal_strconv_log10Pow2 Tryd.lays317 x h w
def Tryd.lays318_ren : Go.Shelf.Ren := ⟨fun | 318 => 101 | n => n, fun | 3 => 3 | 4 => 4 | n => n, fun | n => n⟩
theorem Tryd.lays318 : Go.Proofs.Lays.n318 Tryd.prog Tryd.lays318_ren := {
  mixed := by kernel_rfl
  f318 := Tryd.func101.trans (congrArg some (by kernel_rfl))
  t3 := Tryd.underlying3
  a3 := Tryd.isAgg3
  z3 := Tryd.sizeOf3
  v3 := Tryd.zeroValue3
  t4 := Tryd.underlying4
  a4 := Tryd.isAgg4
  z4 := Tryd.sizeOf4
  v4 := Tryd.zeroValue4 }
open Go.Lib in
/-- internal/strconv.bool2: "bool2 converts b to an integer: 1 for true, 0 for false." The world is as it was. (LAID: no walk: one application.) -/
theorem Tryd.internal_strconv_bool2_int (b : Bool) (w : World) :
    Calls Tryd.prog 101 #[.bool b] w fun e w' => e = .returned (.int .i64 (if b then 1 else 0)) ∧ w' = w := Any.internal_strconv_bool2_int Tryd.lays318 b w
def Tryd.lays283_ren : Go.Shelf.Ren := ⟨fun | 283 => 83 | n => n, fun | 3 => 3 | 9 => 9 | 4 => 4 | n => n, fun | n => n⟩
theorem Tryd.lays283 : Go.Proofs.Lays.n283 Tryd.prog Tryd.lays283_ren := {
  mixed := by kernel_rfl
  f283 := Tryd.func83.trans (congrArg some (by kernel_rfl))
  t3 := Tryd.underlying3
  a3 := Tryd.isAgg3
  z3 := Tryd.sizeOf3
  v3 := Tryd.zeroValue3
  t4 := Tryd.underlying4
  a4 := Tryd.isAgg4
  z4 := Tryd.sizeOf4
  v4 := Tryd.zeroValue4
  t9 := Tryd.underlying9
  a9 := Tryd.isAgg9
  z9 := Tryd.sizeOf9
  v9 := Tryd.zeroValue9 }
open Go.Lib in
/-- internal/strconv.small: "small returns the string for an i with 0 <= i < nSmalls.": i's decimal numeral. The world is as it was. (LAID: no walk: one application.) -/
theorem Tryd.internal_strconv_small (i : Nat) (h : i < 100) (w : World) :
    Calls Tryd.prog 83 #[.int .i64 i] w fun e w' => e = .returned (.string ⟨(Lib.decDigits i).toArray⟩) ∧ w' = w := Any.internal_strconv_small Tryd.lays283 i h w
def Tryd.laysM284_ren : Go.Shelf.Ren := ⟨fun | 284 => 84 | 129 => 100 | 317 => 99 | 318 => 101 | n => n, fun | 53 => 124 | 3 => 3 | 212 => 150 | 0 => 0 | 4 => 4 | 46 => 127 | 5 => 5 | 9 => 9 | n => n, fun | 17 => 3 | n => n⟩
theorem Tryd.laysM284 : Go.Proofs.LaysM.n284 Tryd.prog Tryd.laysM284_ren := {
  mixed := by kernel_rfl
  f129 := Tryd.func100.trans (congrArg some (by kernel_rfl))
  f284 := Tryd.func84.trans (congrArg some (by kernel_rfl))
  f317 := Tryd.func99.trans (congrArg some (by kernel_rfl))
  f318 := Tryd.func101.trans (congrArg some (by kernel_rfl))
  t0 := Tryd.underlying0
  a0 := Tryd.isAgg0
  z0 := Tryd.sizeOf0
  v0 := Tryd.zeroValue0
  t3 := Tryd.underlying3
  a3 := Tryd.isAgg3
  z3 := Tryd.sizeOf3
  v3 := Tryd.zeroValue3
  t4 := Tryd.underlying4
  a4 := Tryd.isAgg4
  z4 := Tryd.sizeOf4
  v4 := Tryd.zeroValue4
  t5 := Tryd.underlying5
  a5 := Tryd.isAgg5
  z5 := Tryd.sizeOf5
  v5 := Tryd.zeroValue5
  t9 := Tryd.underlying9
  a9 := Tryd.isAgg9
  z9 := Tryd.sizeOf9
  v9 := Tryd.zeroValue9
  t46 := Tryd.underlying127
  a46 := Tryd.isAgg127
  z46 := Tryd.sizeOf127
  v46 := Tryd.zeroValue127
  t53 := Tryd.underlying124
  a53 := Tryd.isAgg124
  z53 := Tryd.sizeOf124
  v53 := Tryd.zeroValue124
  t212 := Tryd.underlying150
  a212 := Tryd.isAgg150
  z212 := Tryd.sizeOf150
  v212 := Tryd.zeroValue150
  g17 := by kernel_rfl
  i0 := by kernel_rfl
  i3 := by kernel_rfl
  i4 := by kernel_rfl
  i5 := by kernel_rfl
  i9 := by kernel_rfl
  i46 := by kernel_rfl
  i53 := by kernel_rfl
  i212 := by kernel_rfl
  m17 := by kernel_rfl }
open Go.Lib in
/-- internal/strconv.numDigits, at a d that is not 0: THE NUMBER OF d's DECIMAL DIGITS. The world is as it was. (LAID: no walk: one application.) -/
theorem Tryd.internal_strconv_numDigits (u : Nat) (h1 : 1 ≤ u) (h2 : u < 18446744073709551616) (w : World) (htab : Lib.TabIs Tryd.prog w "internal/strconv.uint64pow10" .u64 Lib.pow10Tab) :
    Calls Tryd.prog 84 #[.int .u64 u] w fun e w' => e = .returned (.int .i64 (Lib.nDigits u)) ∧ w' = w := Any.internal_strconv_numDigits Tryd.laysM284 u h1 h2 w htab
def Tryd.lays285_ren : Go.Shelf.Ren := ⟨fun | 285 => 85 | n => n, fun | 37 => 95 | 53 => 124 | 3 => 3 | 4 => 4 | 51 => 151 | 9 => 9 | 5 => 5 | 0 => 0 | n => n, fun | n => n⟩
theorem Tryd.lays285 : Go.Proofs.Lays.n285 Tryd.prog Tryd.lays285_ren := {
  mixed := by kernel_rfl
  f285 := Tryd.func85.trans (congrArg some (by kernel_rfl))
  t0 := Tryd.underlying0
  a0 := Tryd.isAgg0
  z0 := Tryd.sizeOf0
  v0 := Tryd.zeroValue0
  t3 := Tryd.underlying3
  a3 := Tryd.isAgg3
  z3 := Tryd.sizeOf3
  v3 := Tryd.zeroValue3
  t4 := Tryd.underlying4
  a4 := Tryd.isAgg4
  z4 := Tryd.sizeOf4
  v4 := Tryd.zeroValue4
  t5 := Tryd.underlying5
  a5 := Tryd.isAgg5
  z5 := Tryd.sizeOf5
  v5 := Tryd.zeroValue5
  t9 := Tryd.underlying9
  a9 := Tryd.isAgg9
  z9 := Tryd.sizeOf9
  v9 := Tryd.zeroValue9
  t37 := Tryd.underlying95
  a37 := Tryd.isAgg95
  z37 := Tryd.sizeOf95
  v37 := Tryd.zeroValue95
  t51 := Tryd.underlying151
  a51 := Tryd.isAgg151
  z51 := Tryd.sizeOf151
  v51 := Tryd.zeroValue151
  t53 := Tryd.underlying124
  a53 := Tryd.isAgg124
  z53 := Tryd.sizeOf124
  v53 := Tryd.zeroValue124 }
open Go.RowKit Go.Sort Go.Lib in
/-- internal/strconv.formatBase10: "formatBase10 formats the decimal representation of u into a. The caller is responsible for ensuring that a is big enough to hold u. If a is too big, leading zeros will be filled in as needed.": THE ROW HOLDS u's DIGITS ('FmtInv .. 0 ..': every place t holds 'dg u (len - 1 - t)'); all else is as it was but for the count of draws. (LAID: no walk: one application.) -/
theorem Tryd.internal_strconv_formatBase10 (blk off cap : Nat) (u : Nat) (d : Array UInt8) (w : World) (hH : Holds (fun (b : UInt8) => Value.int .u8 (b.toNat : Int)) w blk off d) (hu : u < 10 ^ d.size) (hu64 : u < 18446744073709551616) (hsz : d.size < 4611686018427387904) :
    Calls Tryd.prog 85 #[.slice (some ⟨blk, off, none⟩) d.size cap, .int .u64 u] w fun e w' =>
      e = .returned (.tuple #[]) ∧ ∃ (n v' : Nat) (dk : Array UInt8), w' = (putRow (fun (b : UInt8) => Value.int .u8 (b.toNat : Int)) w blk off dk).drewN n ∧ FmtInv d.size u 0 v' dk := Any.internal_strconv_formatBase10 Tryd.lays285 blk off cap u d w hH hu hu64 hsz
def Tryd.laysM246_ren : Go.Shelf.Ren := ⟨fun | 246 => 58 | 283 => 83 | 284 => 84 | 285 => 85 | 286 => 86 | 129 => 100 | 317 => 99 | 318 => 101 | 319 => 102 | 320 => 103 | 337 => 106 | 338 => 107 | n => n, fun | 2 => 2 | 3 => 3 | 9 => 9 | 4 => 4 | 171 => 131 | 0 => 0 | 53 => 124 | 37 => 95 | 5 => 5 | 173 => 134 | 212 => 150 | 51 => 151 | 20 => 20 | 213 => 152 | 46 => 127 | 232 => 162 | 233 => 163 | n => n, fun | 17 => 3 | 18 => 4 | 19 => 5 | n => n⟩
theorem Tryd.laysM246 : Go.Proofs.LaysM.n246 Tryd.prog Tryd.laysM246_ren := {
  mixed := by kernel_rfl
  f129 := Tryd.func100.trans (congrArg some (by kernel_rfl))
  f246 := Tryd.func58.trans (congrArg some (by kernel_rfl))
  f283 := Tryd.func83.trans (congrArg some (by kernel_rfl))
  f284 := Tryd.func84.trans (congrArg some (by kernel_rfl))
  f285 := Tryd.func85.trans (congrArg some (by kernel_rfl))
  f286 := Tryd.func86.trans (congrArg some (by kernel_rfl))
  f317 := Tryd.func99.trans (congrArg some (by kernel_rfl))
  f318 := Tryd.func101.trans (congrArg some (by kernel_rfl))
  f319 := Tryd.func102.trans (congrArg some (by kernel_rfl))
  f320 := Tryd.func103.trans (congrArg some (by kernel_rfl))
  f337 := Tryd.func106.trans (congrArg some (by kernel_rfl))
  f338 := Tryd.func107.trans (congrArg some (by kernel_rfl))
  t0 := Tryd.underlying0
  a0 := Tryd.isAgg0
  z0 := Tryd.sizeOf0
  v0 := Tryd.zeroValue0
  t2 := Tryd.underlying2
  a2 := Tryd.isAgg2
  z2 := Tryd.sizeOf2
  v2 := Tryd.zeroValue2
  t3 := Tryd.underlying3
  a3 := Tryd.isAgg3
  z3 := Tryd.sizeOf3
  v3 := Tryd.zeroValue3
  t4 := Tryd.underlying4
  a4 := Tryd.isAgg4
  z4 := Tryd.sizeOf4
  v4 := Tryd.zeroValue4
  t5 := Tryd.underlying5
  a5 := Tryd.isAgg5
  z5 := Tryd.sizeOf5
  v5 := Tryd.zeroValue5
  t9 := Tryd.underlying9
  a9 := Tryd.isAgg9
  z9 := Tryd.sizeOf9
  v9 := Tryd.zeroValue9
  t20 := Tryd.underlying20
  a20 := Tryd.isAgg20
  z20 := Tryd.sizeOf20
  v20 := Tryd.zeroValue20
  t37 := Tryd.underlying95
  a37 := Tryd.isAgg95
  z37 := Tryd.sizeOf95
  v37 := Tryd.zeroValue95
  t46 := Tryd.underlying127
  a46 := Tryd.isAgg127
  z46 := Tryd.sizeOf127
  v46 := Tryd.zeroValue127
  t51 := Tryd.underlying151
  a51 := Tryd.isAgg151
  z51 := Tryd.sizeOf151
  v51 := Tryd.zeroValue151
  t53 := Tryd.underlying124
  a53 := Tryd.isAgg124
  z53 := Tryd.sizeOf124
  v53 := Tryd.zeroValue124
  t171 := Tryd.underlying131
  a171 := Tryd.isAgg131
  z171 := Tryd.sizeOf131
  v171 := Tryd.zeroValue131
  t173 := Tryd.underlying134
  a173 := Tryd.isAgg134
  z173 := Tryd.sizeOf134
  v173 := Tryd.zeroValue134
  t212 := Tryd.underlying150
  a212 := Tryd.isAgg150
  z212 := Tryd.sizeOf150
  v212 := Tryd.zeroValue150
  t213 := Tryd.underlying152
  a213 := Tryd.isAgg152
  z213 := Tryd.sizeOf152
  t232 := Tryd.underlying162
  a232 := Tryd.isAgg162
  z232 := Tryd.sizeOf162
  v232 := Tryd.zeroValue162
  t233 := Tryd.underlying163
  a233 := Tryd.isAgg163
  z233 := Tryd.sizeOf163
  v233 := Tryd.zeroValue163
  g17 := by kernel_rfl
  g18 := by kernel_rfl
  g19 := by kernel_rfl
  i0 := by kernel_rfl
  i2 := by kernel_rfl
  i3 := by kernel_rfl
  i4 := by kernel_rfl
  i5 := by kernel_rfl
  i9 := by kernel_rfl
  i20 := by kernel_rfl
  i37 := by kernel_rfl
  i46 := by kernel_rfl
  i51 := by kernel_rfl
  i53 := by kernel_rfl
  i171 := by kernel_rfl
  i173 := by kernel_rfl
  i212 := by kernel_rfl
  i232 := by kernel_rfl
  i233 := by kernel_rfl
  m17 := by kernel_rfl
  m18 := by kernel_rfl
  m19 := by kernel_rfl }
open Go.RowKit Go.Sort Go.Lib in
/-- internal/strconv.FormatInt: "FormatInt returns the string representation of i in the given base": AT BASE 10: i's decimal numeral, for every int64. The world behind the call: the world before it, new blocks behind the heap, draws. (LAID: no walk: one application.) -/
theorem Tryd.internal_strconv_FormatInt_10 (n : Int) (h0 : -9223372036854775808 ≤ n) (h1 : n ≤ 9223372036854775807) (w : World) (htab : Lib.TabIs Tryd.prog w "internal/strconv.uint64pow10" .u64 Lib.pow10Tab) :
    Calls Tryd.prog 58 #[.int .i64 n, .int .i64 10] w fun e w' => e = .returned (.string ⟨(Lib.itoa n).toArray⟩) ∧ ∃ k os, w' = grow (w.drewN k) os := Any.internal_strconv_FormatInt_10 Tryd.laysM246 n h0 h1 w htab
def Tryd.laysM243_ren : Go.Shelf.Ren := ⟨fun | 243 => 93 | 246 => 58 | 283 => 83 | 284 => 84 | 285 => 85 | 286 => 86 | 129 => 100 | 317 => 99 | 318 => 101 | 319 => 102 | 320 => 103 | 337 => 106 | 338 => 107 | n => n, fun | 3 => 3 | 9 => 9 | 2 => 2 | 4 => 4 | 171 => 131 | 0 => 0 | 53 => 124 | 37 => 95 | 5 => 5 | 173 => 134 | 212 => 150 | 51 => 151 | 20 => 20 | 213 => 152 | 46 => 127 | 232 => 162 | 233 => 163 | n => n, fun | 17 => 3 | 18 => 4 | 19 => 5 | n => n⟩
theorem Tryd.laysM243 : Go.Proofs.LaysM.n243 Tryd.prog Tryd.laysM243_ren := {
  mixed := by kernel_rfl
  f129 := Tryd.func100.trans (congrArg some (by kernel_rfl))
  f243 := Tryd.func93.trans (congrArg some (by kernel_rfl))
  f246 := Tryd.func58.trans (congrArg some (by kernel_rfl))
  f283 := Tryd.func83.trans (congrArg some (by kernel_rfl))
  f284 := Tryd.func84.trans (congrArg some (by kernel_rfl))
  f285 := Tryd.func85.trans (congrArg some (by kernel_rfl))
  f286 := Tryd.func86.trans (congrArg some (by kernel_rfl))
  f317 := Tryd.func99.trans (congrArg some (by kernel_rfl))
  f318 := Tryd.func101.trans (congrArg some (by kernel_rfl))
  f319 := Tryd.func102.trans (congrArg some (by kernel_rfl))
  f320 := Tryd.func103.trans (congrArg some (by kernel_rfl))
  f337 := Tryd.func106.trans (congrArg some (by kernel_rfl))
  f338 := Tryd.func107.trans (congrArg some (by kernel_rfl))
  t0 := Tryd.underlying0
  a0 := Tryd.isAgg0
  z0 := Tryd.sizeOf0
  v0 := Tryd.zeroValue0
  t2 := Tryd.underlying2
  a2 := Tryd.isAgg2
  z2 := Tryd.sizeOf2
  v2 := Tryd.zeroValue2
  t3 := Tryd.underlying3
  a3 := Tryd.isAgg3
  z3 := Tryd.sizeOf3
  v3 := Tryd.zeroValue3
  t4 := Tryd.underlying4
  a4 := Tryd.isAgg4
  z4 := Tryd.sizeOf4
  v4 := Tryd.zeroValue4
  t5 := Tryd.underlying5
  a5 := Tryd.isAgg5
  z5 := Tryd.sizeOf5
  v5 := Tryd.zeroValue5
  t9 := Tryd.underlying9
  a9 := Tryd.isAgg9
  z9 := Tryd.sizeOf9
  v9 := Tryd.zeroValue9
  t20 := Tryd.underlying20
  a20 := Tryd.isAgg20
  z20 := Tryd.sizeOf20
  v20 := Tryd.zeroValue20
  t37 := Tryd.underlying95
  a37 := Tryd.isAgg95
  z37 := Tryd.sizeOf95
  v37 := Tryd.zeroValue95
  t46 := Tryd.underlying127
  a46 := Tryd.isAgg127
  z46 := Tryd.sizeOf127
  v46 := Tryd.zeroValue127
  t51 := Tryd.underlying151
  a51 := Tryd.isAgg151
  z51 := Tryd.sizeOf151
  v51 := Tryd.zeroValue151
  t53 := Tryd.underlying124
  a53 := Tryd.isAgg124
  z53 := Tryd.sizeOf124
  v53 := Tryd.zeroValue124
  t171 := Tryd.underlying131
  a171 := Tryd.isAgg131
  z171 := Tryd.sizeOf131
  v171 := Tryd.zeroValue131
  t173 := Tryd.underlying134
  a173 := Tryd.isAgg134
  z173 := Tryd.sizeOf134
  v173 := Tryd.zeroValue134
  t212 := Tryd.underlying150
  a212 := Tryd.isAgg150
  z212 := Tryd.sizeOf150
  v212 := Tryd.zeroValue150
  t213 := Tryd.underlying152
  a213 := Tryd.isAgg152
  z213 := Tryd.sizeOf152
  t232 := Tryd.underlying162
  a232 := Tryd.isAgg162
  z232 := Tryd.sizeOf162
  v232 := Tryd.zeroValue162
  t233 := Tryd.underlying163
  a233 := Tryd.isAgg163
  z233 := Tryd.sizeOf163
  v233 := Tryd.zeroValue163
  g17 := by kernel_rfl
  g18 := by kernel_rfl
  g19 := by kernel_rfl
  i0 := by kernel_rfl
  i2 := by kernel_rfl
  i3 := by kernel_rfl
  i4 := by kernel_rfl
  i5 := by kernel_rfl
  i9 := by kernel_rfl
  i20 := by kernel_rfl
  i37 := by kernel_rfl
  i46 := by kernel_rfl
  i51 := by kernel_rfl
  i53 := by kernel_rfl
  i171 := by kernel_rfl
  i173 := by kernel_rfl
  i212 := by kernel_rfl
  i232 := by kernel_rfl
  i233 := by kernel_rfl
  m17 := by kernel_rfl
  m18 := by kernel_rfl
  m19 := by kernel_rfl }
open Go.RowKit Go.Sort Go.Lib in
/-- internal/strconv.Itoa: "Itoa is equivalent to FormatInt(int64(i), 10).": i's decimal numeral, for every int. (LAID: no walk: one application.) -/
theorem Tryd.internal_strconv_Itoa (n : Int) (h0 : -9223372036854775808 ≤ n) (h1 : n ≤ 9223372036854775807) (w : World) (htab : Lib.TabIs Tryd.prog w "internal/strconv.uint64pow10" .u64 Lib.pow10Tab) :
    Calls Tryd.prog 93 #[.int .i64 n] w fun e w' => e = .returned (.string ⟨(Lib.itoa n).toArray⟩) ∧ ∃ k os, w' = grow (w.drewN k) os := Any.internal_strconv_Itoa Tryd.laysM243 n h0 h1 w htab
def Tryd.laysM171_ren : Go.Shelf.Ren := ⟨fun | 171 => 70 | 243 => 93 | 246 => 58 | 283 => 83 | 284 => 84 | 285 => 85 | 286 => 86 | 129 => 100 | 317 => 99 | 318 => 101 | 319 => 102 | 320 => 103 | 337 => 106 | 338 => 107 | n => n, fun | 3 => 3 | 9 => 9 | 2 => 2 | 4 => 4 | 171 => 131 | 0 => 0 | 53 => 124 | 37 => 95 | 5 => 5 | 173 => 134 | 212 => 150 | 51 => 151 | 20 => 20 | 213 => 152 | 46 => 127 | 232 => 162 | 233 => 163 | n => n, fun | 17 => 3 | 18 => 4 | 19 => 5 | n => n⟩
theorem Tryd.laysM171 : Go.Proofs.LaysM.n171 Tryd.prog Tryd.laysM171_ren := {
  mixed := by kernel_rfl
  f129 := Tryd.func100.trans (congrArg some (by kernel_rfl))
  f171 := Tryd.func70.trans (congrArg some (by kernel_rfl))
  f243 := Tryd.func93.trans (congrArg some (by kernel_rfl))
  f246 := Tryd.func58.trans (congrArg some (by kernel_rfl))
  f283 := Tryd.func83.trans (congrArg some (by kernel_rfl))
  f284 := Tryd.func84.trans (congrArg some (by kernel_rfl))
  f285 := Tryd.func85.trans (congrArg some (by kernel_rfl))
  f286 := Tryd.func86.trans (congrArg some (by kernel_rfl))
  f317 := Tryd.func99.trans (congrArg some (by kernel_rfl))
  f318 := Tryd.func101.trans (congrArg some (by kernel_rfl))
  f319 := Tryd.func102.trans (congrArg some (by kernel_rfl))
  f320 := Tryd.func103.trans (congrArg some (by kernel_rfl))
  f337 := Tryd.func106.trans (congrArg some (by kernel_rfl))
  f338 := Tryd.func107.trans (congrArg some (by kernel_rfl))
  t0 := Tryd.underlying0
  a0 := Tryd.isAgg0
  z0 := Tryd.sizeOf0
  v0 := Tryd.zeroValue0
  t2 := Tryd.underlying2
  a2 := Tryd.isAgg2
  z2 := Tryd.sizeOf2
  v2 := Tryd.zeroValue2
  t3 := Tryd.underlying3
  a3 := Tryd.isAgg3
  z3 := Tryd.sizeOf3
  v3 := Tryd.zeroValue3
  t4 := Tryd.underlying4
  a4 := Tryd.isAgg4
  z4 := Tryd.sizeOf4
  v4 := Tryd.zeroValue4
  t5 := Tryd.underlying5
  a5 := Tryd.isAgg5
  z5 := Tryd.sizeOf5
  v5 := Tryd.zeroValue5
  t9 := Tryd.underlying9
  a9 := Tryd.isAgg9
  z9 := Tryd.sizeOf9
  v9 := Tryd.zeroValue9
  t20 := Tryd.underlying20
  a20 := Tryd.isAgg20
  z20 := Tryd.sizeOf20
  v20 := Tryd.zeroValue20
  t37 := Tryd.underlying95
  a37 := Tryd.isAgg95
  z37 := Tryd.sizeOf95
  v37 := Tryd.zeroValue95
  t46 := Tryd.underlying127
  a46 := Tryd.isAgg127
  z46 := Tryd.sizeOf127
  v46 := Tryd.zeroValue127
  t51 := Tryd.underlying151
  a51 := Tryd.isAgg151
  z51 := Tryd.sizeOf151
  v51 := Tryd.zeroValue151
  t53 := Tryd.underlying124
  a53 := Tryd.isAgg124
  z53 := Tryd.sizeOf124
  v53 := Tryd.zeroValue124
  t171 := Tryd.underlying131
  a171 := Tryd.isAgg131
  z171 := Tryd.sizeOf131
  v171 := Tryd.zeroValue131
  t173 := Tryd.underlying134
  a173 := Tryd.isAgg134
  z173 := Tryd.sizeOf134
  v173 := Tryd.zeroValue134
  t212 := Tryd.underlying150
  a212 := Tryd.isAgg150
  z212 := Tryd.sizeOf150
  v212 := Tryd.zeroValue150
  t213 := Tryd.underlying152
  a213 := Tryd.isAgg152
  z213 := Tryd.sizeOf152
  t232 := Tryd.underlying162
  a232 := Tryd.isAgg162
  z232 := Tryd.sizeOf162
  v232 := Tryd.zeroValue162
  t233 := Tryd.underlying163
  a233 := Tryd.isAgg163
  z233 := Tryd.sizeOf163
  v233 := Tryd.zeroValue163
  g17 := by kernel_rfl
  g18 := by kernel_rfl
  g19 := by kernel_rfl
  i0 := by kernel_rfl
  i2 := by kernel_rfl
  i3 := by kernel_rfl
  i4 := by kernel_rfl
  i5 := by kernel_rfl
  i9 := by kernel_rfl
  i20 := by kernel_rfl
  i37 := by kernel_rfl
  i46 := by kernel_rfl
  i51 := by kernel_rfl
  i53 := by kernel_rfl
  i171 := by kernel_rfl
  i173 := by kernel_rfl
  i212 := by kernel_rfl
  i232 := by kernel_rfl
  i233 := by kernel_rfl
  m17 := by kernel_rfl
  m18 := by kernel_rfl
  m19 := by kernel_rfl }
open Go.RowKit Go.Sort Go.Lib in
/-- strconv.Itoa: "Itoa is equivalent to FormatInt(int64(i), 10).": i's DECIMAL NUMERAL ('Lib.itoa': a '-' where i is negative, then the digits), FOR EVERY int. The world behind the call: the world before it, new blocks behind the heap (the library's 'var a [24]byte'), draws. (LAID: no walk: one application.) -/
theorem Tryd.strconv_Itoa (n : Int) (h0 : -9223372036854775808 ≤ n) (h1 : n ≤ 9223372036854775807) (w : World) (htab : Lib.TabIs Tryd.prog w "internal/strconv.uint64pow10" .u64 Lib.pow10Tab) :
    Calls Tryd.prog 70 #[.int .i64 n] w fun e w' => e = .returned (.string ⟨(Lib.itoa n).toArray⟩) ∧ ∃ k os, w' = grow (w.drewN k) os := Any.strconv_Itoa Tryd.laysM171 n h0 h1 w htab
def Tryd.laysM279_ren : Go.Shelf.Ren := ⟨fun | 279 => 79 | 316 => 97 | n => n, fun | 9 => 9 | 168 => 128 | 75 => 77 | 210 => 147 | 3 => 3 | 4 => 4 | 37 => 95 | 0 => 0 | 127 => 122 | 80 => 104 | 5 => 5 | n => n, fun | 15 => 1 | n => n⟩
theorem Tryd.laysM279 : Go.Proofs.LaysM.n279 Tryd.prog Tryd.laysM279_ren := {
  mixed := by kernel_rfl
  f279 := Tryd.func79.trans (congrArg some (by kernel_rfl))
  f316 := Tryd.func97.trans (congrArg some (by kernel_rfl))
  t0 := Tryd.underlying0
  a0 := Tryd.isAgg0
  z0 := Tryd.sizeOf0
  v0 := Tryd.zeroValue0
  t3 := Tryd.underlying3
  a3 := Tryd.isAgg3
  z3 := Tryd.sizeOf3
  v3 := Tryd.zeroValue3
  t4 := Tryd.underlying4
  a4 := Tryd.isAgg4
  z4 := Tryd.sizeOf4
  v4 := Tryd.zeroValue4
  t9 := Tryd.underlying9
  a9 := Tryd.isAgg9
  z9 := Tryd.sizeOf9
  v9 := Tryd.zeroValue9
  t37 := Tryd.underlying95
  a37 := Tryd.isAgg95
  z37 := Tryd.sizeOf95
  v37 := Tryd.zeroValue95
  t75 := Tryd.underlying77
  a75 := Tryd.isAgg77
  z75 := Tryd.sizeOf77
  v75 := Tryd.zeroValue77
  t127 := Tryd.underlying122
  a127 := Tryd.isAgg122
  z127 := Tryd.sizeOf122
  v127 := Tryd.zeroValue122
  t168 := Tryd.underlying128
  a168 := Tryd.isAgg128
  z168 := Tryd.sizeOf128
  v168 := Tryd.zeroValue128
  t210 := Tryd.underlying147
  a210 := Tryd.isAgg147
  z210 := Tryd.sizeOf147
  v210 := Tryd.zeroValue147
  g15 := by kernel_rfl
  t5 := Tryd.underlying5
  a5 := Tryd.isAgg5
  z5 := Tryd.sizeOf5
  v5 := Tryd.zeroValue5
  t80 := Tryd.underlying104
  a80 := Tryd.isAgg104
  z80 := Tryd.sizeOf104
  v80 := Tryd.zeroValue104
  i0 := by kernel_rfl
  i3 := by kernel_rfl
  i4 := by kernel_rfl
  i5 := by kernel_rfl
  i9 := by kernel_rfl
  i37 := by kernel_rfl
  i75 := by kernel_rfl
  i80 := by kernel_rfl
  i127 := by kernel_rfl
  i168 := by kernel_rfl
  i210 := by kernel_rfl
  m15 := by kernel_rfl }
open Go.RowKit in
/-- strconv.syntaxError: '&NumError{fn, stringslite.Clone(str), ErrSyntax}': A POINTER TO A NEW BLOCK that holds fn, str's bytes, and what the variable ErrSyntax holds. Of what was there nothing has turned. (LAID: no walk: one application.) -/
theorem Tryd.strconv_syntaxError (fn s : ByteArray) (ev : Value) (w : World) (hlim : s.size ≤ 281474976710656) (hv : w.cell? ⟨1, 0, none⟩ = some ev) (hev : ev = .nilIface ∨ ∃ te pe, ev = .iface te pe) :
    Calls Tryd.prog 79 #[.string fn, .string s] w fun e w' => ∃ N, e = .returned (.pointer (some ⟨N, 0, none⟩)) ∧ w.heap.size ≤ N ∧ w'.heap[N]? = some (.cells #[.string fn, .string s, ev] 147 (0, 0)) ∧ Below w.heap.size w w' := Any.strconv_syntaxError Tryd.laysM279 fn s ev w hlim hv hev
def Tryd.lays321_ren : Go.Shelf.Ren := ⟨fun | 321 => 95 | n => n, fun | 5 => 5 | n => n, fun | n => n⟩
theorem Tryd.lays321 : Go.Proofs.Lays.n321 Tryd.prog Tryd.lays321_ren := {
  mixed := by kernel_rfl
  f321 := Tryd.func95.trans (congrArg some (by kernel_rfl))
  t5 := Tryd.underlying5
  a5 := Tryd.isAgg5
  z5 := Tryd.sizeOf5
  v5 := Tryd.zeroValue5 }
open Go.RowKit in
/-- internal/strconv.lower: 'c | ('x' - 'X')': the bit 32 set. The world is as it was. (LAID: no walk: one application.) -/
theorem Tryd.internal_strconv_lower (c : Int) (w : World) :
    Calls Tryd.prog 95 #[.int .u8 c] w fun e w' => e = .returned (.int .u8 (bits .or .u8 c 32)) ∧ w' = w := Any.internal_strconv_lower Tryd.lays321 c w
def Tryd.laysM280_ren : Go.Shelf.Ren := ⟨fun | 280 => 80 | 316 => 97 | n => n, fun | 9 => 9 | 168 => 128 | 75 => 77 | 210 => 147 | 3 => 3 | 4 => 4 | 37 => 95 | 0 => 0 | 127 => 122 | 80 => 104 | 5 => 5 | n => n, fun | 16 => 2 | n => n⟩
theorem Tryd.laysM280 : Go.Proofs.LaysM.n280 Tryd.prog Tryd.laysM280_ren := {
  mixed := by kernel_rfl
  f280 := Tryd.func80.trans (congrArg some (by kernel_rfl))
  f316 := Tryd.func97.trans (congrArg some (by kernel_rfl))
  t0 := Tryd.underlying0
  a0 := Tryd.isAgg0
  z0 := Tryd.sizeOf0
  v0 := Tryd.zeroValue0
  t3 := Tryd.underlying3
  a3 := Tryd.isAgg3
  z3 := Tryd.sizeOf3
  v3 := Tryd.zeroValue3
  t4 := Tryd.underlying4
  a4 := Tryd.isAgg4
  z4 := Tryd.sizeOf4
  v4 := Tryd.zeroValue4
  t9 := Tryd.underlying9
  a9 := Tryd.isAgg9
  z9 := Tryd.sizeOf9
  v9 := Tryd.zeroValue9
  t37 := Tryd.underlying95
  a37 := Tryd.isAgg95
  z37 := Tryd.sizeOf95
  v37 := Tryd.zeroValue95
  t75 := Tryd.underlying77
  a75 := Tryd.isAgg77
  z75 := Tryd.sizeOf77
  v75 := Tryd.zeroValue77
  t127 := Tryd.underlying122
  a127 := Tryd.isAgg122
  z127 := Tryd.sizeOf122
  v127 := Tryd.zeroValue122
  t168 := Tryd.underlying128
  a168 := Tryd.isAgg128
  z168 := Tryd.sizeOf128
  v168 := Tryd.zeroValue128
  t210 := Tryd.underlying147
  a210 := Tryd.isAgg147
  z210 := Tryd.sizeOf147
  v210 := Tryd.zeroValue147
  g16 := by kernel_rfl
  t5 := Tryd.underlying5
  a5 := Tryd.isAgg5
  z5 := Tryd.sizeOf5
  v5 := Tryd.zeroValue5
  t80 := Tryd.underlying104
  a80 := Tryd.isAgg104
  z80 := Tryd.sizeOf104
  v80 := Tryd.zeroValue104
  i0 := by kernel_rfl
  i3 := by kernel_rfl
  i4 := by kernel_rfl
  i5 := by kernel_rfl
  i9 := by kernel_rfl
  i37 := by kernel_rfl
  i75 := by kernel_rfl
  i80 := by kernel_rfl
  i127 := by kernel_rfl
  i168 := by kernel_rfl
  i210 := by kernel_rfl
  m16 := by kernel_rfl }
open Go.RowKit in
/-- strconv.rangeError: '&NumError{fn, stringslite.Clone(str), ErrRange}': A POINTER TO A NEW BLOCK that holds fn, str's bytes, and what the variable ErrRange holds. Of what was there nothing has turned. (LAID: no walk: one application.) -/
theorem Tryd.strconv_rangeError (fn s : ByteArray) (ev : Value) (w : World) (hlim : s.size ≤ 281474976710656) (hv : w.cell? ⟨2, 0, none⟩ = some ev) (hev : ev = .nilIface ∨ ∃ te pe, ev = .iface te pe) :
    Calls Tryd.prog 80 #[.string fn, .string s] w fun e w' => ∃ N, e = .returned (.pointer (some ⟨N, 0, none⟩)) ∧ w.heap.size ≤ N ∧ w'.heap[N]? = some (.cells #[.string fn, .string s, ev] 147 (0, 0)) ∧ Below w.heap.size w w' := Any.strconv_rangeError Tryd.laysM280 fn s ev w hlim hv hev
def Tryd.laysC174_ren : Go.Shelf.Ren := ⟨fun | 174 => 34 | 247 => 56 | 245 => 57 | 287 => 78 | 279 => 79 | 280 => 80 | 281 => 81 | 282 => 82 | 321 => 95 | 322 => 96 | 316 => 97 | 171 => 70 | 205 => 98 | 243 => 93 | 246 => 58 | 283 => 83 | 284 => 84 | 285 => 85 | 286 => 86 | 129 => 100 | 317 => 99 | 318 => 101 | 319 => 102 | 320 => 103 | 337 => 106 | 338 => 107 | n => n, fun | 9 => 9 | 3 => 3 | 2 => 2 | 75 => 77 | 85 => 78 | 4 => 4 | 167 => 123 | 5 => 5 | 53 => 124 | 175 => 125 | 46 => 127 | 168 => 128 | 37 => 95 | 0 => 0 | 210 => 147 | 21 => 21 | 127 => 122 | 145 => 158 | 143 => 156 | 171 => 131 | 173 => 134 | 212 => 150 | 51 => 151 | 20 => 20 | 213 => 152 | 232 => 162 | 233 => 163 | 80 => 104 | n => n, fun | 15 => 1 | 16 => 2 | 17 => 3 | 18 => 4 | 19 => 5 | n => n⟩
theorem Tryd.laysC174 : Go.Proofs.LaysC.n174 Tryd.prog Tryd.laysC174_ren := {
  mixed := by kernel_rfl
  f129 := Tryd.func100.trans (congrArg some (by kernel_rfl))
  f171 := Tryd.func70.trans (congrArg some (by kernel_rfl))
  f174 := Tryd.func34.trans (congrArg some (by kernel_rfl))
  f205 := Tryd.func98.trans (congrArg some (by kernel_rfl))
  f243 := Tryd.func93.trans (congrArg some (by kernel_rfl))
  f245 := Tryd.func57.trans (congrArg some (by kernel_rfl))
  f246 := Tryd.func58.trans (congrArg some (by kernel_rfl))
  f247 := Tryd.func56.trans (congrArg some (by kernel_rfl))
  f279 := Tryd.func79.trans (congrArg some (by kernel_rfl))
  f280 := Tryd.func80.trans (congrArg some (by kernel_rfl))
  f281 := Tryd.func81.trans (congrArg some (by kernel_rfl))
  f282 := Tryd.func82.trans (congrArg some (by kernel_rfl))
  f283 := Tryd.func83.trans (congrArg some (by kernel_rfl))
  f284 := Tryd.func84.trans (congrArg some (by kernel_rfl))
  f285 := Tryd.func85.trans (congrArg some (by kernel_rfl))
  f286 := Tryd.func86.trans (congrArg some (by kernel_rfl))
  f287 := Tryd.func78.trans (congrArg some (by kernel_rfl))
  f316 := Tryd.func97.trans (congrArg some (by kernel_rfl))
  f317 := Tryd.func99.trans (congrArg some (by kernel_rfl))
  f318 := Tryd.func101.trans (congrArg some (by kernel_rfl))
  f319 := Tryd.func102.trans (congrArg some (by kernel_rfl))
  f320 := Tryd.func103.trans (congrArg some (by kernel_rfl))
  f321 := Tryd.func95.trans (congrArg some (by kernel_rfl))
  f322 := Tryd.func96.trans (congrArg some (by kernel_rfl))
  f337 := Tryd.func106.trans (congrArg some (by kernel_rfl))
  f338 := Tryd.func107.trans (congrArg some (by kernel_rfl))
  t0 := Tryd.underlying0
  a0 := Tryd.isAgg0
  z0 := Tryd.sizeOf0
  v0 := Tryd.zeroValue0
  t2 := Tryd.underlying2
  a2 := Tryd.isAgg2
  z2 := Tryd.sizeOf2
  v2 := Tryd.zeroValue2
  t3 := Tryd.underlying3
  a3 := Tryd.isAgg3
  z3 := Tryd.sizeOf3
  v3 := Tryd.zeroValue3
  t4 := Tryd.underlying4
  a4 := Tryd.isAgg4
  z4 := Tryd.sizeOf4
  v4 := Tryd.zeroValue4
  t5 := Tryd.underlying5
  a5 := Tryd.isAgg5
  z5 := Tryd.sizeOf5
  v5 := Tryd.zeroValue5
  t9 := Tryd.underlying9
  a9 := Tryd.isAgg9
  z9 := Tryd.sizeOf9
  v9 := Tryd.zeroValue9
  t20 := Tryd.underlying20
  a20 := Tryd.isAgg20
  z20 := Tryd.sizeOf20
  v20 := Tryd.zeroValue20
  t21 := Tryd.underlying21
  a21 := Tryd.isAgg21
  z21 := Tryd.sizeOf21
  v21 := Tryd.zeroValue21
  t37 := Tryd.underlying95
  a37 := Tryd.isAgg95
  z37 := Tryd.sizeOf95
  v37 := Tryd.zeroValue95
  t46 := Tryd.underlying127
  a46 := Tryd.isAgg127
  z46 := Tryd.sizeOf127
  v46 := Tryd.zeroValue127
  t51 := Tryd.underlying151
  a51 := Tryd.isAgg151
  z51 := Tryd.sizeOf151
  v51 := Tryd.zeroValue151
  t53 := Tryd.underlying124
  a53 := Tryd.isAgg124
  z53 := Tryd.sizeOf124
  v53 := Tryd.zeroValue124
  t75 := Tryd.underlying77
  a75 := Tryd.isAgg77
  z75 := Tryd.sizeOf77
  v75 := Tryd.zeroValue77
  t85 := Tryd.underlying78
  a85 := Tryd.isAgg78
  z85 := Tryd.sizeOf78
  v85 := Tryd.zeroValue78
  t127 := Tryd.underlying122
  a127 := Tryd.isAgg122
  z127 := Tryd.sizeOf122
  v127 := Tryd.zeroValue122
  t143 := Tryd.underlying156
  a143 := Tryd.isAgg156
  z143 := Tryd.sizeOf156
  v143 := Tryd.zeroValue156
  t145 := Tryd.underlying158
  a145 := Tryd.isAgg158
  z145 := Tryd.sizeOf158
  v145 := Tryd.zeroValue158
  t167 := Tryd.underlying123
  a167 := Tryd.isAgg123
  z167 := Tryd.sizeOf123
  v167 := Tryd.zeroValue123
  t168 := Tryd.underlying128
  a168 := Tryd.isAgg128
  z168 := Tryd.sizeOf128
  v168 := Tryd.zeroValue128
  t171 := Tryd.underlying131
  a171 := Tryd.isAgg131
  z171 := Tryd.sizeOf131
  v171 := Tryd.zeroValue131
  t173 := Tryd.underlying134
  a173 := Tryd.isAgg134
  z173 := Tryd.sizeOf134
  v173 := Tryd.zeroValue134
  t175 := Tryd.underlying125
  a175 := Tryd.isAgg125
  z175 := Tryd.sizeOf125
  v175 := Tryd.zeroValue125
  t210 := Tryd.underlying147
  a210 := Tryd.isAgg147
  z210 := Tryd.sizeOf147
  v210 := Tryd.zeroValue147
  t212 := Tryd.underlying150
  a212 := Tryd.isAgg150
  z212 := Tryd.sizeOf150
  v212 := Tryd.zeroValue150
  t213 := Tryd.underlying152
  a213 := Tryd.isAgg152
  z213 := Tryd.sizeOf152
  t232 := Tryd.underlying162
  a232 := Tryd.isAgg162
  z232 := Tryd.sizeOf162
  v232 := Tryd.zeroValue162
  t233 := Tryd.underlying163
  a233 := Tryd.isAgg163
  z233 := Tryd.sizeOf163
  v233 := Tryd.zeroValue163
  g15 := by kernel_rfl
  g16 := by kernel_rfl
  g17 := by kernel_rfl
  g18 := by kernel_rfl
  g19 := by kernel_rfl
  t80 := Tryd.underlying104
  a80 := Tryd.isAgg104
  z80 := Tryd.sizeOf104
  v80 := Tryd.zeroValue104
  i0 := by kernel_rfl
  i2 := by kernel_rfl
  i3 := by kernel_rfl
  i4 := by kernel_rfl
  i5 := by kernel_rfl
  i9 := by kernel_rfl
  i20 := by kernel_rfl
  i21 := by kernel_rfl
  i37 := by kernel_rfl
  i46 := by kernel_rfl
  i51 := by kernel_rfl
  i53 := by kernel_rfl
  i75 := by kernel_rfl
  i80 := by kernel_rfl
  i85 := by kernel_rfl
  i127 := by kernel_rfl
  i143 := by kernel_rfl
  i145 := by kernel_rfl
  i167 := by kernel_rfl
  i168 := by kernel_rfl
  i171 := by kernel_rfl
  i173 := by kernel_rfl
  i175 := by kernel_rfl
  i210 := by kernel_rfl
  i212 := by kernel_rfl
  i232 := by kernel_rfl
  i233 := by kernel_rfl
  m15 := by kernel_rfl
  m16 := by kernel_rfl
  m17 := by kernel_rfl
  m18 := by kernel_rfl
  m19 := by kernel_rfl
  c0 := by kernel_rfl
  c2 := by kernel_rfl
  c3 := by kernel_rfl
  c4 := by kernel_rfl
  c5 := by kernel_rfl
  c9 := by kernel_rfl
  c20 := by kernel_rfl
  c21 := by kernel_rfl
  c37 := by kernel_rfl
  c46 := by kernel_rfl
  c51 := by kernel_rfl
  c53 := by kernel_rfl
  c75 := by kernel_rfl
  c80 := by kernel_rfl
  c85 := by kernel_rfl
  c127 := by kernel_rfl
  c143 := by kernel_rfl
  c145 := by kernel_rfl
  c167 := by kernel_rfl
  c168 := by kernel_rfl
  c171 := by kernel_rfl
  c173 := by kernel_rfl
  c175 := by kernel_rfl
  c210 := by kernel_rfl
  c212 := by kernel_rfl
  c213 := by kernel_rfl
  c232 := by kernel_rfl
  c233 := by kernel_rfl }
open Go.RowKit in
/-- strconv.ParseInt(s, 10, 64), AT EVERY STRING THAT SPELLS AN int64 ('Lib.parseIntB 64 s.data.toList = .ok v'): v, AND NO ERROR. (LAID: no walk: one application.) -/
theorem Tryd.strconv_ParseInt_10_at64_ok (s : ByteArray) (hmax : s.size ≤ 9223372036854775806) (v : Int) (h : Lib.parseIntB 64 s.data.toList = .ok v) (w : World) :
    Calls Tryd.prog 34 #[.string s, .int .i64 10, .int .i64 64] w fun e w' => e = .returned (.tuple #[.int .i64 v, .nilIface]) ∧ (w' = w ∨ ∃ t, w' = Lib.bytesWorld w 5 t) := Any.strconv_ParseInt_10_at64_ok Tryd.laysC174 s hmax v h w
open Go.RowKit in
/-- strconv.ParseInt(s, 10, 64), AT EVERY STRING THAT IS NO DECIMAL NUMERAL: 0, AND AN ERROR THAT IS NOT nil: a *NumError in a new block N: {Func: "ParseInt", Num: s's bytes, Err: what the variable ErrSyntax holds}. Of what was there nothing has turned. (LAID: no walk: one application.) -/
theorem Tryd.strconv_ParseInt_10_at64_syntax (s : ByteArray) (hlim : s.size ≤ 281474976710656) (h : Lib.parseIntB 64 s.data.toList = Lib.parseIntB 64 []) (ev : Value) (w : World) (hv : w.cell? ⟨1, 0, none⟩ = some ev) (hev : ev = .nilIface ∨ ∃ te pe, ev = .iface te pe) :
    Calls Tryd.prog 34 #[.string s, .int .i64 10, .int .i64 64] w fun e w' => ∃ N, e = .returned (.tuple #[.int .i64 (0), .iface 128 (.pointer (some ⟨N, 0, none⟩))]) ∧ w.heap.size ≤ N ∧ w'.heap[N]? = some (.cells #[.string ⟨#[80, 97, 114, 115, 101, 73, 110, 116]⟩, .string s, ev] 147 (0, 0)) ∧ Below w.heap.size w w' := Any.strconv_ParseInt_10_at64_syntax Tryd.laysC174 s hlim h ev w hv hev
open Go.RowKit in
/-- strconv.ParseInt(s, 10, 64), AT EVERY NUMERAL THAT NO int64 HOLDS: THE GREATEST OR THE LEAST int64, BY THE SIGN ('Lib.intSat 64'), AND AN ERROR THAT IS NOT nil: a *NumError in a new block N: {Func: "ParseInt", Num: s's bytes, Err: what the variable ErrRange holds}. Of what was there nothing has turned. (LAID: no walk: one application.) -/
theorem Tryd.strconv_ParseInt_10_at64_range (s : ByteArray) (hlim : s.size ≤ 281474976710656) (h : Lib.parseIntB 64 s.data.toList = .range) (ev : Value) (w : World) (hv : w.cell? ⟨2, 0, none⟩ = some ev) (hev : ev = .nilIface ∨ ∃ te pe, ev = .iface te pe) :
    Calls Tryd.prog 34 #[.string s, .int .i64 10, .int .i64 64] w fun e w' => ∃ N, e = .returned (.tuple #[.int .i64 (Lib.intSat 64 s.data.toList), .iface 128 (.pointer (some ⟨N, 0, none⟩))]) ∧ w.heap.size ≤ N ∧ w'.heap[N]? = some (.cells #[.string ⟨#[80, 97, 114, 115, 101, 73, 110, 116]⟩, .string s, ev] 147 (0, 0)) ∧ Below w.heap.size w w' := Any.strconv_ParseInt_10_at64_range Tryd.laysC174 s hlim h ev w hv hev
end Go.Proofs
namespace Go.Proofs.YtjecflbbcnocdaaDoor
open Go.Lir
set_option maxHeartbeats 1000000
attribute [local irreducible] LC.wp Q1 Qu Qw retQ Q1z LO.wp Qb Calls
set_option linter.unusedSimpArgs false
set_option linter.unusedVariables false
attribute [local irreducible] Lib.itoa Lib.join
theorem itoa_c {n : Int} {cx : Cx} {w : World} {L : List Res} (h0 : -9223372036854775808 ≤ n) (h1 : n ≤ 9223372036854775807) (hT : PowT cx) (hS : St cx w L) :
    Rets Tryd.prog 70 [.int .i64 n] w fun u w' => u = .string ⟨(Lib.itoa n).toArray⟩ ∧ St cx w' L := by
  refine Calls.mono (Tryd.strconv_Itoa n h0 h1 w (hT.now hS)) ?_
  rintro e w' ⟨rfl, k, os, rfl⟩
  exact ⟨_, rfl, rfl, hS.fr0 (Qh8 w k os)⟩
theorem QfG {xs : List (List UInt8)} {sep : List UInt8} {cx : Cx} {w : World} {L : List Res} {T : TypeId} {i : Nat} {v : Value} {css : List (List Value)} (hS : St cx w L) (hi : nth L i = some (sl T 1 v css))
    (hl : strR.ls cx css (xs.map fun x => ⟨x.toArray⟩)) (hn : xs.length ≤ 140737488355328) (hlen : (Lib.join xs sep).length ≤ 140737488355328) :
    Rets Tryd.prog 72 [v, .string ⟨sep.toArray⟩] w fun u w' => u = .string ⟨(Lib.join xs sep).toArray⟩ ∧ St cx w' L := by
  obtain ⟨a, cap, rfl, hcap, hc⟩ := hS.strs hi hl
  have hm : (xs.map fun x => (⟨x.toArray⟩ : ByteArray)).map (·.data.toList) = xs := by
    rw [List.map_map]; exact (List.map_congr_left fun x _ => rfl).trans (List.map_id xs)
  rcases hc with hc | ⟨b, off, rfl, hb, hcells⟩
  · have hx : xs = [] := by simpa using hc
    subst hx
    refine Calls.mono (Tryd.strings_Join_none a cap ⟨sep.toArray⟩ w) ?_
    rintro e w' ⟨rfl, rfl⟩
    exact ⟨_, rfl, by rw [Lib.join_nil], hS⟩
  · have := Tryd.strings_Join b off cap (xs.map fun x => ⟨x.toArray⟩) ⟨sep.toArray⟩ w hcells hb (by simpa using hn) hcap (by rw [hm]; exact hlen)
    rw [hm] at this
    refine Calls.mono this ?_
    rintro e w' ⟨rfl, hbw⟩
    exact ⟨_, rfl, rfl, hS.fr0 (below_fr hbw)⟩
theorem ttext_c : ∀ (t : Ty), t.InR → t.nodes ≤ 100000 → ∀ {cx : Cx} {w : World} {L : List Res} {cs : List Value}, tyR.at cx cs t → PowT cx → St cx w L →
    Rets Tryd.prog Q1N [.agg ⟨cs⟩] w fun u w' => u = .string ⟨t.txt.toArray⟩ ∧ St cx w' L := by
  intro t
  induction t using Ty.ind with
  | h k r l ih =>
    intro hr hn cx w L cs ht hT hS
    obtain ⟨v, rfl, hl⟩ := QS ht
    simp only [Ty.kind, Ty.r, Ty.l] at hl ht ⊢
    obtain ⟨hk, ⟨hr0, hr1⟩, hsub⟩ := hr.parts
    have hi := Lib.itoa_length_le r hr0 hr1
    rw [Ty.nodes] at hn
    have hlen := Tys.nodes_len l
    have hnm : ∀ x ∈ l, x.nodes ≤ 100000 := fun x hx => by have := Tys.nodes_mem hx; omega
    have hjl := Tys.join_len l hsub
    rw [Ty.txt]
    all_goals refine Qcf ?_
    all_goals (unfold types_Text_lc; refine Q0 ?_; refine Q2 ?_; refine zb hS ?_; intro p1 w1 hS; refine zm ?_; refine zn ?_; refine Q0 ?_; refine Q2 ?_; refine zf0 ?_; refine zl hS ?_; refine zR1 (c := itoa_c hr0 hr1 hT hS) (h := ?_); rintro v1 w1 ⟨rfl, hS⟩; refine zm ?_; refine zn ?_; refine Q0 ?_; refine Q0 ?_; refine Q2 ?_; refine zf0 ?_; refine zl hS ?_; refine zn ?_; refine Q7 ?_; refine Q0 ?_; refine Q2 ?_)
    all_goals (first | (refine QM ?_) | (refine QR ?_) | (refine Q9 rfl rfl (fun hc => ?_) (fun hc => ?_)))
    all_goals (refine zm ?_; refine zn ?_)
    all_goals
      first
      | (refine zct ?_ -- Q1N c0
         all_goals (refine Q0 ?_; refine Q2 ?_; refine zm ?_; refine Qr rfl rfl (by first | omega | (simp only [List.length_append, List.length_cons, List.length_nil]; omega)) ?_; refine zm ?_; refine zn ?_; refine zr ?_; refine zf ?_)
         all_goals (refine ⟨_, rfl, ?_, hS.sp⟩; rw [if_pos (by omega)]; done))
      | (refine zcf ?_ -- Q1N c0
         all_goals (refine Q0 ?_; refine Q2 ?_)
         all_goals (first | (refine QM ?_) | (refine QR ?_) | (refine Q9 rfl rfl (fun hc => ?_) (fun hc => ?_)))
         all_goals (refine zm ?_; refine zn ?_)
         all_goals
           first
           | (refine zct ?_ -- Q1N c1
              all_goals (refine Q0 ?_; refine Q2 ?_; refine zm ?_; refine Qr rfl rfl (by first | omega | (simp only [List.length_append, List.length_cons, List.length_nil]; omega)) ?_; refine zm ?_; refine zn ?_; refine zr ?_; refine zf ?_)
              all_goals (first | (refine ⟨_, rfl, ?_, hS.sp⟩; rw [if_pos (by omega)]; done) | (refine ⟨_, rfl, ?_, hS.sp⟩; rw [if_neg (by omega), if_pos (by omega)]; done)))
           | (refine zcf ?_ -- Q1N c1
              all_goals (refine Q0 ?_; refine Q2 ?_)
              all_goals (first | (refine QM ?_) | (refine QR ?_) | (refine Q9 rfl rfl (fun hc => ?_) (fun hc => ?_)))
              all_goals (refine zm ?_; refine zn ?_)
              all_goals
                first
                | (refine zct ?_ -- Q1N c2
                   all_goals (refine Q0 ?_; refine Q2 ?_; refine zm ?_; refine zn ?_; refine Q0 ?_; refine Q0 ?_; refine Q2 ?_; refine zf0 ?_; refine zl hS ?_; refine zL ?_; refine zm ?_; refine zn ?_; refine Q7 ?_)
                   refine zoL hS [3, 23, 24] (fun A LL ρ' w' => ∃ (j : Nat) (u : Value) (css : List (List Value)), Has ρ' A ∧ Has ρ' [(4, u), (25, .int .i64 j)] ∧ (j ≤ l.length) ∧ (strR.ls cx css ((l.take j).map fun x => ⟨x.txt.toArray⟩)) ∧ (oneC u = true) ∧ St cx w' (sl 9 1 u css :: LL)) (fun ρ' _ => (l.length - iv (ρ' 25)).toNat) ?_ ?_
                   · exact ⟨0, .slice none 0 0, [], zh, zh, (by omega), Rep.LR.nil _ _ _, rfl, by have hS := hS.nil (T := 9) (es := 1); exact hS.sp⟩
                   rintro ρ w1 ⟨j, u, css, hA, hρ, hj, hls, hu, hS⟩; obtain ⟨ρ, rfl⟩ := env2 hA hρ
                   unfold Q4h
                   all_goals (refine Q0 ?_; refine Q2 ?_; refine Qp rfl rfl ?_; refine zn ?_; refine Q0 ?_)
                   refine Qm rfl (fun hc => ?_) (fun hc => ?_)
                   · skip
                     all_goals (refine zsk ?_; refine Q0 ?_; refine Q7 ?_; refine Q0 ?_; refine Q2 ?_; refine zi ?_; intro b1 o1 cs1 x1 hat1 hx1 he1; obtain ⟨vl1, rfl, hl1⟩ := QS he1; (first | (refine zv hS ?_) | (refine zvk hS ?_)); refine Qf hS ?_; intro p6 w1 hS; refine zsn hS ?_; intro w1 hS; have hS := hS.ns; refine zn ?_; refine Q2 ?_; refine zm ?_; refine zv hS ?_; refine zR1 (c := ih _ (List.mem_of_getElem? hx1) (hsub _ (List.mem_of_getElem? hx1)) (hnm _ (List.mem_of_getElem? hx1)) he1 hT hS) (h := ?_); rintro v1 w1 ⟨rfl, hS⟩; refine zB1 hS [_] ?_; intro b1 w1 hS; refine za Qq QZ hS ?_; intro vp1 w1 css1 hls1 hv1 hS; have hS := hS.ns; refine zm ?_; refine zn ?_; refine Q2 ?_; refine zad ?_; refine zm ?_; refine zn ?_; exact ⟨⟨j + 1, _, _, zh, zh, (by omega), by rw [Q37 hx1, List.map_append]; assumption, by assumption, hS.sp⟩, Qk (by omega)⟩)
                   · skip
                     all_goals (refine zex ?_; refine Q0 ?_; refine Q2 ?_; refine zm ?_; refine Qr rfl rfl (by first | omega | (simp only [List.length_append, List.length_cons, List.length_nil]; omega)) ?_; refine Qr rfl rfl (by first | omega | (simp only [List.length_append, List.length_cons, List.length_nil]; omega)) ?_; refine zm ?_; refine zR2 (c := QfG (xs := Tys.txts l) (sep := [44, 32]) hS fd (by rw [List.take_of_length_le (by omega)] at hls; rw [Tys.txts_map, List.map_map]; exact hls) (by rw [Tys.txts_map, List.length_map]; omega) (by omega)) (h := ?_); rintro v1 w1 ⟨rfl, hS⟩; refine Qr rfl rfl (by first | omega | (simp only [List.length_append, List.length_cons, List.length_nil]; omega)) ?_; refine Qr rfl rfl (by first | omega | (simp only [List.length_append, List.length_cons, List.length_nil]; omega)) ?_; refine zm ?_; refine zn ?_; refine zr ?_; refine zf ?_)
                     all_goals (first | (refine ⟨_, rfl, ?_, hS.sp⟩; rw [if_pos (by omega)]; done) | (refine ⟨_, rfl, ?_, hS.sp⟩; rw [if_neg (by omega), if_pos (by omega)]; done) | (refine ⟨_, rfl, ?_, hS.sp⟩; rw [if_neg (by omega), if_neg (by omega), if_pos (by omega)]; done)))
                | (refine zcf ?_ -- Q1N c2
                   all_goals (refine zsk ?_; refine Q0 ?_; refine Q2 ?_; refine zm ?_; refine zn ?_; refine zr ?_; refine zf ?_)
                   all_goals (first | (refine ⟨_, rfl, ?_, hS.sp⟩; rw [if_pos (by omega)]; done) | (refine ⟨_, rfl, ?_, hS.sp⟩; rw [if_neg (by omega), if_pos (by omega)]; done) | (refine ⟨_, rfl, ?_, hS.sp⟩; rw [if_neg (by omega), if_neg (by omega), if_pos (by omega)]; done) | (refine ⟨_, rfl, ?_, hS.sp⟩; rw [if_neg (by omega), if_neg (by omega), if_neg (by omega)]; done)))))
end Go.Proofs.YtjecflbbcnocdaaDoor
namespace Go.Lir
set_option linter.unusedVariables false
def Q2H (c : UInt8) : Bool := decide (97 ≤ c.toNat ∧ c.toNat ≤ 122)
def Q1k (c : UInt8) : Bool := decide (48 ≤ c.toNat ∧ c.toNat ≤ 57)
def Q4a (c : UInt8) : Bool := decide (c ∈ [(40 : UInt8), 41, 123, 125, 60, 62, 44, 59])
/-- A number's text, read. -/
def numOf (t : List UInt8) : Option Int := match Lib.parseIntB 64 t with
  | .ok n => if Lib.itoa n = t then some n else none
  | _ => none
abbrev TokR := Except Int (List UInt8 × Option Int)
/-- 8: a number that is none. -/
def numT (t : List UInt8) : TokR := match numOf t with
  | some n => .ok (t, some n)
  | none => .error 8
/-- The token that stands at the beginning: its text, its number; 6: none. -/
def tok1 : List UInt8 → TokR
  | [] => .error 6
  | c :: r =>
    if Q2H c = true then .ok ((c :: r).takeWhile Q2H, none)
    else if Q1k c = true then numT ((c :: r).takeWhile Q1k)
    else if c = 45 then match r with
      | [] => .error 6
      | d :: r' => if d = 62 then .ok ([45, 62], none) else if Q1k d = true then numT (45 :: (d :: r').takeWhile Q1k) else .error 6
    else if Q4a c = true then .ok ([c], none) else .error 6
theorem Qft {c : UInt8} {r : List UInt8} (h : Q2H c = true) : tok1 (c :: r) = .ok ((c :: r).takeWhile Q2H, none) := by
  rw [tok1.eq_def]; dsimp only; rw [if_pos h]
theorem Qfv {c : UInt8} {r : List UInt8} (h0 : ¬ Q2H c = true) (h : Q1k c = true) : tok1 (c :: r) = numT ((c :: r).takeWhile Q1k) := by
  rw [tok1.eq_def]; dsimp only; rw [if_neg h0, if_pos h]
theorem tok1_arr {r : List UInt8} : tok1 (45 :: 62 :: r) = .ok ([45, 62], none) := by
  rw [tok1.eq_def]; dsimp only; rw [if_neg (by decide), if_neg (by decide), if_pos rfl, if_pos rfl]
theorem Qfs {d : UInt8} {r : List UInt8} (h0 : ¬ d = 62) (h : Q1k d = true) : tok1 (45 :: d :: r) = numT (45 :: (d :: r).takeWhile Q1k) := by
  rw [tok1.eq_def]; dsimp only; rw [if_neg (by decide), if_neg (by decide), if_pos rfl, if_neg h0, if_pos h]
theorem Qfr {c : UInt8} {r : List UInt8} (h0 : ¬ Q2H c = true) (h1 : ¬ Q1k c = true) (h2 : ¬ c = 45) (h : Q4a c = true) : tok1 (c :: r) = .ok ([c], none) := by
  rw [tok1.eq_def]; dsimp only; rw [if_neg h0, if_neg h1, if_neg h2, if_pos h]
theorem tok1_bad {c : UInt8} {r : List UInt8} (h0 : ¬ Q2H c = true) (h1 : ¬ Q1k c = true) (h2 : ¬ c = 45) (h : ¬ Q4a c = true) : tok1 (c :: r) = .error 6 := by
  rw [tok1.eq_def]; dsimp only; rw [if_neg h0, if_neg h1, if_neg h2, if_neg h]
/-- What stands between tokens, left away; true: within a remark. -/
def skip : Bool → List UInt8 → List UInt8
  | _, [] => []
  | true, c :: r => if c = 10 then skip false r else skip true r
  | false, c :: r => if c = 10 ∨ c = 32 ∨ c = 9 ∨ c = 13 then skip false r else if c = 35 then skip true r else c :: r
structure Tok where
  at_ : Nat
  text : List UInt8
  num : Option Int
def Qgt (n : Nat) : Nat → List UInt8 → List Tok → Except Flt (List Tok)
  | 0, _, acc => .ok acc
  | k + 1, l, acc => match l with
    | [] => .ok acc
    | c :: r => match tok1 (c :: r) with
      | .error e => .error (e, (n : Int) - (c :: r).length)
      | .ok (t, m) => Qgt n k (skip false ((c :: r).drop t.length)) (acc ++ [⟨n - (c :: r).length, t, m⟩])
/-- Scan -/
def scan (s : List UInt8) : Except Flt (List Tok) := if 40000 < s.length then .error (2, 40000) else Qgt s.length (s.length + 1) (skip false s) []
theorem Qfu {l : List UInt8} {t : List UInt8} {m : Option Int} (h : tok1 l = .ok (t, m)) : 0 < t.length ∧ t.length ≤ l.length := by
  have hn : ∀ {x : List UInt8} {t : List UInt8} {m : Option Int}, numT x = .ok (t, m) → t = x := by
    intro x t m h
    unfold numT at h
    split at h
    · cases h; rfl
    · cases h
  have hw : ∀ (p : UInt8 → Bool) (x : List UInt8), (x.takeWhile p).length ≤ x.length := fun p x => (List.takeWhile_prefix p).length_le
  match l, h with
  | c :: r, h =>
    rw [tok1.eq_def] at h
    dsimp only at h
    split at h
    · rename_i hc
      cases h
      exact ⟨by rw [List.takeWhile_cons, if_pos hc]; simp, hw _ _⟩
    · split at h
      · rename_i hc
        have := hn h; subst this
        exact ⟨by rw [List.takeWhile_cons, if_pos hc]; simp, hw _ _⟩
      · split at h
        · split at h
          · cases h
          · rename_i d r'
            split at h
            · cases h; simp
            · split at h
              · have := hn h; subst this
                have := hw Q1k (d :: r')
                simp only [List.length_cons] at this ⊢
                omega
              · cases h
        · split at h
          · cases h; simp
          · cases h
theorem Q1A {p : UInt8 → Bool} : ∀ {l : List UInt8} {c : UInt8} {r : List UInt8}, (∀ x ∈ l, p x = true) → p c = false → (l ++ c :: r).takeWhile p = l
  | [], c, r, _, hc => by rw [List.nil_append, List.takeWhile_cons, hc]; rfl
  | x :: l, c, r, h, hc => by
    rw [List.cons_append, List.takeWhile_cons, if_pos (h x (List.mem_cons_self ..)), Q1A (fun y hy => h y (List.mem_cons_of_mem _ hy)) hc]
theorem Q2q {p : UInt8 → Bool} : ∀ {l : List UInt8}, ∀ x ∈ l.takeWhile p, p x = true
  | [], x, h => by simp at h
  | y :: l, x, h => by
    rw [List.takeWhile_cons] at h
    split at h
    · rename_i hy
      rcases List.mem_cons.1 h with rfl | h
      · exact hy
      · exact Q2q x h
    · simp at h
/-- A token's text is that token, if a blank stands behind it. -/
theorem QfU {l : List UInt8} {t : List UInt8} {m : Option Int} (h : tok1 l = .ok (t, m)) (r2 : List UInt8) : tok1 (t ++ 32 :: r2) = .ok (t, m) := by
  have hd32 : Q1k 32 = false := by decide
  have hl32 : Q2H 32 = false := by decide
  have hn : ∀ {x : List UInt8} {t : List UInt8} {m : Option Int}, numT x = .ok (t, m) → t = x := by
    intro x t m h
    unfold numT at h
    split at h
    · cases h; rfl
    · cases h
  match l, h with
  | c :: r, h =>
    rw [tok1.eq_def] at h
    dsimp only at h
    split at h
    · rename_i hc
      cases h
      rw [List.takeWhile_cons, if_pos hc, List.cons_append, Qft hc, ← List.cons_append, Q1A _ hl32]
      intro x hx
      rcases List.mem_cons.1 hx with rfl | hx
      · exact hc
      · exact Q2q x hx
    · rename_i hc0
      split at h
      · rename_i hc
        have h9 := hn h; subst h9
        have e : (c :: r).takeWhile Q1k = c :: r.takeWhile Q1k := by rw [List.takeWhile_cons, if_pos hc]
        have e2 : ((c :: r).takeWhile Q1k ++ 32 :: r2).takeWhile Q1k = (c :: r).takeWhile Q1k := Q1A Q2q hd32
        rw [e] at h e2 ⊢
        rw [List.cons_append] at e2 ⊢
        rw [Qfv hc0 hc, e2]
        exact h
      · rename_i hc1
        split at h
        · rename_i hc2
          subst hc2
          split at h
          · cases h
          · rename_i d r'
            split at h
            · rename_i hd
              cases h
              rfl
            · rename_i hd0
              split at h
              · rename_i hd
                have h9 := hn h; subst h9
                have e : (d :: r').takeWhile Q1k = d :: r'.takeWhile Q1k := by rw [List.takeWhile_cons, if_pos hd]
                have e2 : ((d :: r').takeWhile Q1k ++ 32 :: r2).takeWhile Q1k = (d :: r').takeWhile Q1k := Q1A Q2q hd32
                rw [e] at h e2 ⊢
                rw [List.cons_append] at e2
                rw [List.cons_append, List.cons_append, Qfs hd0 hd, e2]
                exact h
              · cases h
        · rename_i hc2
          split at h
          · rename_i hc3
            cases h
            rw [List.cons_append, List.nil_append, Qfr hc0 hc1 hc2 hc3]
          · cases h
/-- A token begins with no blank. -/
theorem Qgl {l : List UInt8} {t : List UInt8} {m : Option Int} (h : tok1 l = .ok (t, m)) (r2 : List UInt8) : skip false (t ++ r2) = t ++ r2 := by
  have hlen := Qfu h
  have h2 := QfU h []
  match t, hlen, h2 with
  | c :: t', _, h2 =>
    rw [List.cons_append] at h2 ⊢
    have hc : ¬ (c = 10 ∨ c = 32 ∨ c = 9 ∨ c = 13 ∨ c = 35) := by
      have hno : ∀ c : UInt8, c = 10 ∨ c = 32 ∨ c = 9 ∨ c = 13 ∨ c = 35 → Q2H c = false ∧ Q1k c = false ∧ c ≠ 45 ∧ Q4a c = false := by
        rintro c (rfl | rfl | rfl | rfl | rfl) <;> decide
      intro hc
      obtain ⟨h3, h4, h5, h6⟩ := hno c hc
      rw [tok1_bad (by rw [h3]; decide) (by rw [h4]; decide) h5 (by rw [h6]; decide)] at h2
      cases h2
    rw [skip, if_neg (fun h => hc (by rcases h with h | h | h | h <;> simp [h])), if_neg (fun h => hc (by simp [h]))]
/-- The same but for the place. -/
def Tok.like (a b : Tok) : Prop := a.text = b.text ∧ a.num = b.num
end Go.Lir
namespace Go.Lir
section
variable {P : Program} {l : List GO} {Q : QT} {ρ : Env} {w : World} {a : List UInt8}
theorem QeP (a : List UInt8) : (⟨a.toArray⟩ : ByteArray).size = a.length := by rw [Lib.size_eq]
theorem Qgv {d : Nat} {x : Operand} (hx : ρ.ev x = .string ⟨a.toArray⟩) (h : Q1 P l Q (upd ρ d (.int .i64 a.length)) w) : Q1 P (⟨none, .slen d x⟩ :: l) Q ρ w := s_slen hx (by rw [QeP]; exact h)
end
end Go.Lir
namespace Go.Proofs.YtjecflbbcnocdaaDoor
open Go.Lir
set_option maxHeartbeats 1000000
attribute [local irreducible] LC.wp Q1 Qu Qw retQ Q1z LO.wp Qb Calls
set_option linter.unusedSimpArgs false
set_option linter.unusedVariables false
variable {cx : Cx} {w : World} {L : List Res}
end Go.Proofs.YtjecflbbcnocdaaDoor
namespace Go.Proofs.YtjecflbbcnocdaaDoor
open Go.Lir
set_option maxHeartbeats 1000000
attribute [local irreducible] LC.wp Q1 Qu Qw retQ Q1z LO.wp Qb Calls
set_option linter.unusedSimpArgs false
set_option linter.unusedVariables false
attribute [local irreducible] Lib.itoa Lib.parseIntB
variable {cx : Cx} {w : World} {L : List Res}
/-- An error of the library's lies in what is only read. -/
def ErrV (c : Cx) (g : Nat) : Prop := c.K g ∧ ∀ w : World, w.heap[g]? = c.H0[g]? → ∃ ev, w.cell? ⟨g, 0, none⟩ = some ev ∧ (ev = .nilIface ∨ ∃ te pe, ev = .iface te pe)
theorem ErrV.up {c c' : Cx} {g : Nat} (h : ErrV c g) (hle : c.Le c') : ErrV c' g := ⟨(hle.K g h.1).1, fun w hw => h.2 w (hw.trans (hle.K g h.1).2)⟩
theorem ErrV.now {c : Cx} {g : Nat} (h : ErrV c g) (hS : St c w L) : ∃ ev, w.cell? ⟨g, 0, none⟩ = some ev ∧ (ev = .nilIface ∨ ∃ te pe, ev = .iface te pe) := h.2 w (hS.1.same g h.1)
/-- What the numbers' texts need. -/
structure NumK (c : Cx) : Prop where
  pow : PowT c
  syn : ErrV c 1
  rng : ErrV c 2
theorem NumK.up {c c' : Cx} (h : NumK c) (hle : c.Le c') : NumK c' := ⟨h.pow.up hle, h.syn.up hle, h.rng.up hle⟩
theorem ifmt_c {n : Int} (h0 : -9223372036854775808 ≤ n) (h1 : n ≤ 9223372036854775807) (hT : PowT cx) (hS : St cx w L) :
    Rets Tryd.prog 58 [.int .i64 n, .int .i64 10] w fun u w' => u = .string ⟨(Lib.itoa n).toArray⟩ ∧ St cx w' L := by
  refine Calls.mono (Tryd.internal_strconv_FormatInt_10 n h0 h1 w (hT.now hS)) ?_
  rintro e w' ⟨rfl, k, os, rfl⟩
  exact ⟨_, rfl, rfl, hS.fr0 (Qh8 w k os)⟩
theorem fmtp_c {n : Int} (h0 : -9223372036854775808 ≤ n) (h1 : n ≤ 9223372036854775807) (hT : PowT cx) (hS : St cx w L) :
    Rets Tryd.prog 35 [.int .i64 n, .int .i64 10] w fun u w' => u = .string ⟨(Lib.itoa n).toArray⟩ ∧ St cx w' L := by
  all_goals refine Q48 ?_
  all_goals (unfold strconv_FormatInt_lc; refine Q0 ?_; refine Q2 ?_; refine zm ?_; refine zn ?_; refine Q0 ?_; refine Q2 ?_; refine zm ?_; refine zm ?_; refine zR2 (c := ifmt_c h0 h1 hT hS) (h := ?_); rintro v1 w1 ⟨rfl, hS⟩; refine zm ?_; refine zn ?_; refine zr ?_; refine zf ?_; exact ⟨_, rfl, rfl, hS.sp⟩)
end Go.Proofs.YtjecflbbcnocdaaDoor
namespace Go.Lir
section
variable {c : UInt8} {r l : List UInt8} {rem : Bool} {src : List UInt8} {i at0 : Nat}
end
end Go.Lir
namespace Go.Lir
section
variable {src t : List UInt8} {m : Option Int} {e : Int} {k i n : Nat} {out : List Tok}
end
end Go.Lir
namespace Go.Lir
end Go.Lir
namespace Go.Lir
set_option linter.unusedVariables false
abbrev PGot (α : Type) := Except Flt (α × List Tok)
def Qd {α β : Type} (x : PGot α) (f : α → List Tok → PGot β) : PGot β := match x with
  | .ok (a, r) => f a r
  | .error e => .error e
/-- A fault where the tokens stand; e: where the text ends. -/
def Q9c (e : Nat) (c : Int) : List Tok → Flt
  | [] => (if c = 4 then 5 else c, e)
  | t :: _ => (c, t.at_)
def isT (s : List UInt8) : List Tok → Bool
  | [] => false
  | t :: _ => t.num.isNone && decide (t.text = s)
def want (e : Nat) (s : List UInt8) (l : List Tok) : PGot Unit := if isT s l = true then .ok ((), l.tail) else .error (Q9c e 4 l)
def pLong (e : Nat) : List Tok → PGot Int
  | [] => .error (Q9c e 4 [])
  | t :: r => match t.num with
    | some n => .ok (n, r)
    | none => .error (Q9c e 4 (t :: r))
/-- A number too small or too great stands here. -/
def wideT : List Tok → Bool
  | [] => false
  | t :: _ => match t.num with
    | some n => decide (n < 0 ∨ 1000000 < n)
    | none => false
def pNum (e : Nat) (l : List Tok) : PGot Int := if wideT l = true then .error (Q9c e 8 l) else pLong e l
/-- The rest of a list: so many more may come, so many were read. -/
def Q7r {α : Type} (e : Nat) (cl : List UInt8) (f : List Tok → PGot α) : Nat → Nat → List Tok → PGot (List α)
  | 0, _, l => .error (Q9c e 2 l)
  | k + 1, n, l => if isT cl l = true then .ok ([], l.tail) else
    Qd (if n = 0 then .ok ((), l) else want e [44] l) fun _ l => Qd (f l) fun x l => Qd (Q7r e cl f k (n + 1) l) fun xs l => .ok (x :: xs, l)
def Qf2 {α : Type} (e : Nat) (b cl : List UInt8) (f : List Tok → PGot α) (l : List Tok) : PGot (List α) := Qd (want e b l) fun _ l => Q7r e cl f 101 0 l
abbrev tInt : List UInt8 := [105, 110, 116]
abbrev Qck : List UInt8 := [104, 97, 110, 100, 108, 101]
abbrev Qfw : List UInt8 := [97, 114, 114, 97, 121]
abbrev QdZ : List UInt8 := [116, 117, 112, 108, 101]
abbrev Qak : List UInt8 := [106, 117, 109, 112]
abbrev tIf : List UInt8 := [105, 102]
abbrev tTo : List UInt8 := [116, 111]
abbrev Q8k : List UInt8 := [101, 108, 115, 101]
abbrev tRet : List UInt8 := [114, 101, 116]
abbrev Q2g : List UInt8 := [98, 108, 111, 99, 107]
abbrev Q4Y : List UInt8 := [102, 117, 110, 99]
abbrev Q38 : List UInt8 := [45, 62]
/-- A type; so deep may it still be. -/
def pTyp (e : Nat) : Nat → List Tok → PGot Ty
  | 0, l => .error (Q9c e 19 l)
  | k + 1, l =>
    if isT tInt l = true then .ok (.mk 1 0 [], l.tail)
    else if isT Qck l = true then Qd (pNum e l.tail) fun n l => .ok (.mk 2 n [], l)
    else if isT Qfw l = true then Qd (pNum e l.tail) fun n l => .ok (.mk 4 n [], l)
    else Qd (want e QdZ l) fun _ l => Qd (pNum e l) fun n l => Qd (Qf2 e [40] [41] (pTyp e k) l) fun ts l => .ok (.mk 3 n ts, l)
def Qeg (e : Nat) : List Tok → PGot (List Ty) := Qf2 e [40] [41] (pTyp e 5)
def pRegs (e : Nat) : List Tok → PGot (List Int) := Qf2 e [60] [62] (pNum e)
def QgR (e : Nat) : List Tok → PGot (List Int) := Qf2 e [40] [41] (pNum e)
def opWords : List (List UInt8) := [[110, 117, 109], [98, 105, 110], [110, 101, 119], [102, 114, 101, 101], [116, 117, 112, 108, 101], [103, 101, 116], [115, 101, 116], [97, 114, 114, 97, 121], [108, 111, 97, 100], [115, 116, 111, 114, 101], [108, 101, 110], [105, 110], [111, 117, 116], [99, 97, 108, 108]]
def kindWords : List (List UInt8) := [[97, 100, 100], [115, 117, 98], [109, 117, 108], [100, 105, 118], [109, 111, 100], [108, 101, 115, 115], [101, 113], [97, 110, 100], [120, 111, 114]]
/-- The number of a word, from 1 on; 0: there is none. -/
def findW (ws : List (List UInt8)) (s : List UInt8) : Nat := if ws.idxOf s < ws.length then ws.idxOf s + 1 else 0
def wordN (ws : List (List UInt8)) (k : Int) : List UInt8 := if k < 1 then [] else ws.getD (k.toNat - 1) []
/-- The number of the word that stands here. -/
def Qh5 (ws : List (List UInt8)) : List Tok → Nat
  | [] => 0
  | t :: _ => if t.num.isNone = true then findW ws t.text else 0
def pKind (e : Nat) (l : List Tok) : PGot Int := if Qh5 kindWords l = 0 then .error (Q9c e 4 l) else .ok ((Qh5 kindWords l : Int), l.tail)
def pBody (e : Nat) (op : Int) (l : List Tok) : PGot Ins :=
  if op = 1 then Qd (pLong e l) fun n l => .ok (⟨op, 0, 0, 0, 0, n, [], []⟩, l)
  else if op = 2 then Qd (pKind e l) fun k l => Qd (pNum e l) fun a l => Qd (pNum e l) fun b l => .ok (⟨op, a, b, 0, k, 0, [], []⟩, l)
  else if op = 4 ∨ op = 11 ∨ op = 13 then Qd (pNum e l) fun a l => .ok (⟨op, a, 0, 0, 0, 0, [], []⟩, l)
  else if op = 5 then Qd (pNum e l) fun a l => Qd (QgR e l) fun args l => .ok (⟨op, a, 0, 0, 0, 0, [], args⟩, l)
  else if op = 6 then Qd (pNum e l) fun a l => Qd (pNum e l) fun k l => .ok (⟨op, a, 0, 0, k, 0, [], []⟩, l)
  else if op = 7 then Qd (pNum e l) fun a l => Qd (pNum e l) fun k l => Qd (pNum e l) fun b l => .ok (⟨op, a, b, 0, k, 0, [], []⟩, l)
  else if op = 8 ∨ op = 9 then Qd (pNum e l) fun a l => Qd (pNum e l) fun b l => .ok (⟨op, a, b, 0, 0, 0, [], []⟩, l)
  else if op = 10 then Qd (pNum e l) fun a l => Qd (pNum e l) fun b l => Qd (pNum e l) fun c l => .ok (⟨op, a, b, c, 0, 0, [], []⟩, l)
  else if op = 14 then Qd (pNum e l) fun k l => Qd (pRegs e l) fun regs l => Qd (QgR e l) fun args l => .ok (⟨op, 0, 0, 0, k, 0, regs, args⟩, l)
  else .ok (⟨op, 0, 0, 0, 0, 0, [], []⟩, l)
def pIns (e : Nat) (l : List Tok) : PGot (Option Ins) :=
  if Qh5 opWords l = 0 then .ok (none, l) else Qd (pBody e (Qh5 opWords l) l.tail) fun x l => Qd (want e [59] l) fun _ l => .ok (some x, l)
def pTo (e : Nat) (l : List Tok) : PGot To := Qd (pNum e l) fun b l => Qd (pRegs e l) fun regs l => Qd (QgR e l) fun args l => .ok (⟨b, regs, args⟩, l)
def QgO (e : Nat) (l : List Tok) : PGot Tail :=
  if isT Qak l = true then Qd (pTo e l.tail) fun y l => .ok (⟨1, 0, y, ⟨0, [], []⟩, []⟩, l)
  else if isT tIf l = true then Qd (pNum e l.tail) fun a l => Qd (want e tTo l) fun _ l => Qd (pTo e l) fun y l => Qd (want e Q8k l) fun _ l => Qd (pTo e l) fun n l => .ok (⟨2, a, y, n, []⟩, l)
  else Qd (want e tRet l) fun _ l => Qd (QgR e l) fun args l => .ok (⟨3, 0, ⟨0, [], []⟩, ⟨0, [], []⟩, args⟩, l)
def pEnds (e : Nat) (l : List Tok) : PGot Tail := Qd (QgO e l) fun t l => Qd (want e [59] l) fun _ l => .ok (t, l)
/-- As long as there is one more. -/
def Q92 {α : Type} (f : List Tok → PGot (Option α)) : Nat → List Tok → PGot (List α)
  | 0, l => .ok ([], l)
  | k + 1, l => Qd (f l) fun o l => match o with
    | none => .ok ([], l)
    | some x => Qd (Q92 f k l) fun xs l => .ok (x :: xs, l)
def pIf {α : Type} (p : List Tok → Bool) (f : List Tok → PGot α) (l : List Tok) : PGot (Option α) := if p l = true then Qd (f l) fun x l => .ok (some x, l) else .ok (none, l)
def pAll {α : Type} (f : List Tok → PGot (Option α)) (l : List Tok) : PGot (List α) := Q92 f (l.length + 1) l
def QbA (e : Nat) (l : List Tok) : PGot Block :=
  Qd (want e Q2g l) fun _ l => Qd (pNum e l) fun regs l => Qd (Qeg e l) fun ps l => Qd (want e [123] l) fun _ l => Qd (pAll (pIns e) l) fun code l => Qd (pEnds e l) fun fin l => Qd (want e [125] l) fun _ l => .ok (⟨regs, ps, code, fin⟩, l)
def pFun (e : Nat) (l : List Tok) : PGot Fun :=
  Qd (want e Q4Y l) fun _ l => Qd (pNum e l) fun regs l => Qd (Qeg e l) fun ps l => Qd (want e Q38 l) fun _ l => Qd (Qeg e l) fun rs l => Qd (want e [123] l) fun _ l => Qd (pAll (pIf (isT Q2g) (QbA e)) l) fun bl l => Qd (want e [125] l) fun _ l => .ok (⟨regs, ps, rs, bl⟩, l)
def pFuns (e : Nat) (l : List Tok) : PGot (List Fun) := pAll (pIf (fun l => !l.isEmpty) (pFun e)) l
def Qg4 (s : List UInt8) : Except Flt Module := match scan s with
  | .error f => .error f
  | .ok l => match pFuns s.length l with
    | .error f => .error f
    | .ok (fs, _) => if (Module.fault ⟨fs⟩).1 ≠ 0 then .error (Module.fault ⟨fs⟩) else .ok ⟨fs⟩
end Go.Lir
namespace Go.Lir
set_option linter.unusedVariables false
def Q1b (b : List UInt8) (l : List Int) (e : List UInt8) : List UInt8 := b ++ Lib.join (l.map Lib.itoa) [44, 32] ++ e
def Q24 (l : List Ty) : List UInt8 := [40] ++ Lib.join (Tys.txts l) [44, 32] ++ [41]
def To.txt (t : To) : List UInt8 := Lib.itoa t.block ++ [32] ++ Q1b [60] t.regs [62] ++ [32] ++ Q1b [40] t.args [41]
/-- What stands behind an instruction's word. -/
def Ins.rest (x : Ins) : List (List UInt8) :=
  if x.op = 1 then [Lib.itoa x.n]
  else if x.op = 2 then [wordN kindWords x.k, Lib.itoa x.a, Lib.itoa x.b]
  else if x.op = 4 ∨ x.op = 11 ∨ x.op = 13 then [Lib.itoa x.a]
  else if x.op = 5 then [Lib.itoa x.a, Q1b [40] x.args [41]]
  else if x.op = 6 then [Lib.itoa x.a, Lib.itoa x.k]
  else if x.op = 7 then [Lib.itoa x.a, Lib.itoa x.k, Lib.itoa x.b]
  else if x.op = 8 ∨ x.op = 9 then [Lib.itoa x.a, Lib.itoa x.b]
  else if x.op = 10 then [Lib.itoa x.a, Lib.itoa x.b, Lib.itoa x.c]
  else if x.op = 14 then [Lib.itoa x.k, Q1b [60] x.regs [62], Q1b [40] x.args [41]]
  else []
def Ins.txt (x : Ins) : List UInt8 := Lib.join (wordN opWords x.op :: x.rest) [32]
def Tail.txt (t : Tail) : List UInt8 :=
  if t.op = 1 then Qak ++ [32] ++ t.yes.txt
  else if t.op = 2 then tIf ++ [32] ++ Lib.itoa t.a ++ [32] ++ tTo ++ [32] ++ t.yes.txt ++ [32] ++ Q8k ++ [32] ++ t.no.txt
  else tRet ++ [32] ++ Q1b [40] t.args [41]
def Q11 : List Ins → List UInt8
  | [] => []
  | x :: l => [9] ++ x.txt ++ [59, 10] ++ Q11 l
def Block.txt (b : Block) : List UInt8 := Q2g ++ [32] ++ Lib.itoa b.regs ++ [32] ++ Q24 b.params ++ [32, 123, 10] ++ Q11 b.code ++ [9] ++ b.fin.txt ++ [59, 10, 125, 10]
def Qo : List Block → List UInt8
  | [] => []
  | b :: l => b.txt ++ Qo l
def Fun.txt (f : Fun) : List UInt8 := Q4Y ++ [32] ++ Lib.itoa f.regs ++ [32] ++ Q24 f.params ++ [32] ++ Q38 ++ [32] ++ Q24 f.results ++ [32, 123, 10] ++ Qo f.blocks ++ [125, 10]
def Q17 : List Fun → List UInt8
  | [] => []
  | f :: l => f.txt ++ Q17 l
def Module.txt (m : Module) : List UInt8 := Q17 m.funcs
/-! which numbers may be Q2x -/
def Qe0 (n : Int) : Bool := decide (0 ≤ n ∧ n ≤ 1000000)
def QV (l : List Int) : Bool := l.all Qe0
def Ins.small (x : Ins) : Bool := QV [x.a, x.b, x.c, x.k] && QV x.regs && QV x.args
def To.small (t : To) : Bool := QV t.regs && QV t.args
def Tail.small (t : Tail) : Bool := Qe0 t.a && QV t.args && t.yes.small && t.no.small
def Block.small (b : Block) : Bool := b.code.all Ins.small && b.fin.small
def Fun.small (f : Fun) : Bool := f.blocks.all Block.small
def Module.small (m : Module) : Bool := m.funcs.all Fun.small
def Q2x (m : Module) : Except Flt (List UInt8) :=
  if m.fault.1 ≠ 0 then .error m.fault else if m.small = false then .error (8, -1) else if 40000 < m.txt.length then .error (2, -1) else .ok m.txt
end Go.Lir
namespace Go.Lir
set_option linter.unusedVariables false
def Q7a (l : List Int) : Prop := l.length ≤ 16 ∧ ∀ n ∈ l, InI n
def Qgh (l : List Ty) : Prop := Tys.nodes l ≤ 40000 ∧ ∀ x ∈ l, x.InR
def To.Pr (t : To) : Prop := InI t.block ∧ Q7a t.regs ∧ Q7a t.args
def Ins.Pr (x : Ins) : Prop := (InI x.op ∧ InI x.a ∧ InI x.b ∧ InI x.c ∧ InI x.k ∧ InI x.n) ∧ Q7a x.regs ∧ Q7a x.args
def Tail.Pr (x : Tail) : Prop := InI x.a ∧ x.yes.Pr ∧ x.no.Pr ∧ Q7a x.args
def Block.Pr (x : Block) : Prop := InI x.regs ∧ Qgh x.params ∧ (x.code.length ≤ 40 ∧ ∀ i ∈ x.code, i.Pr) ∧ x.fin.Pr
def Fun.Pr (x : Fun) : Prop := InI x.regs ∧ Qgh x.params ∧ Qgh x.results ∧ x.blocks.length ≤ 12 ∧ ∀ b ∈ x.blocks, b.Pr
def Module.Pr (m : Module) : Prop := m.funcs.length ≤ 8 ∧ ∀ f ∈ m.funcs, f.Pr
theorem Q1T {n : Int} (h : InI n) : (Lib.itoa n).length ≤ 21 := Lib.itoa_length_le n h.1 h.2
theorem Qgo {k : Nat} : ∀ {xs : List (List UInt8)}, (∀ x ∈ xs, x.length ≤ k) → (Lib.joinTail [44, 32] xs).length ≤ (k + 2) * xs.length
  | [], _ => by simp [Lib.joinTail]
  | x :: xs, h => by
    have h1 := h x (List.mem_cons_self ..)
    have h2 := Qgo (xs := xs) fun y hy => h y (List.mem_cons_of_mem _ hy)
    rw [List.length_cons, Nat.mul_succ]
    simp only [Lib.joinTail, List.map_cons, List.flatten_cons, List.length_append, List.length_cons, List.length_nil] at h2 ⊢
    omega
theorem join_le {k : Nat} {xs : List (List UInt8)} (h : ∀ x ∈ xs, x.length ≤ k) : (Lib.join xs [44, 32]).length ≤ (k + 2) * xs.length := by
  cases xs with
  | nil => rw [Lib.join_nil]; simp
  | cons x xs =>
    have h1 := h x (List.mem_cons_self ..)
    have h2 := Qgo (xs := xs) fun y hy => h y (List.mem_cons_of_mem _ hy)
    rw [Lib.join_cons, List.length_append, List.length_cons, Nat.mul_succ]
    omega
theorem Qh2 {l : List Int} (h : Q7a l) : (Lib.join (l.map Lib.itoa) [44, 32]).length ≤ 368 := by
  have := join_le (k := 21) (xs := l.map Lib.itoa) (by intro x hx; obtain ⟨n, hn, rfl⟩ := List.mem_map.1 hx; exact Q1T (h.2 n hn))
  rw [List.length_map] at this
  have := h.1; omega
theorem Q1O {l : List Int} {b e : List UInt8} (h : Q7a l) (hb : b.length = 1) (he : e.length = 1) : (Q1b b l e).length ≤ 370 := by
  have := Qh2 h
  unfold Q1b
  simp only [List.length_append]; omega
theorem To.txt_le {t : To} (h : t.Pr) : t.txt.length ≤ 763 := by
  have h1 := Q1T h.1
  have h2 := Q1O h.2.1 (b := [60]) (e := [62]) rfl rfl
  have h3 := Q1O h.2.2 (b := [40]) (e := [41]) rfl rfl
  unfold To.txt
  simp only [List.length_append, List.length_cons, List.length_nil]; omega
theorem QdW {ws : List (List UInt8)} (h : ws.all (fun w => decide (w.length ≤ 6)) = true) (k : Int) : (wordN ws k).length ≤ 6 := by
  unfold wordN
  split
  · simp
  · rw [List.getD_eq_getElem?_getD]
    cases hg : ws[k.toNat - 1]? with
    | none => simp
    | some w => simpa using of_decide_eq_true (List.all_eq_true.1 h w (List.mem_of_getElem? hg))
theorem Q5s (x y : List UInt8) : Lib.join [x, y] [32] = x ++ [32] ++ y := by rw [Lib.join_cons]; simp [Lib.joinTail]
theorem Q5r (x y z : List UInt8) : Lib.join [x, y, z] [32] = x ++ [32] ++ y ++ [32] ++ z := by rw [Lib.join_cons]; simp [Lib.joinTail]
theorem Q5q (x y z u : List UInt8) : Lib.join [x, y, z, u] [32] = x ++ [32] ++ y ++ [32] ++ z ++ [32] ++ u := by rw [Lib.join_cons]; simp [Lib.joinTail]
theorem Ins.txt_le {x : Ins} (h : x.Pr) : x.txt.length ≤ 800 := by
  obtain ⟨⟨h0, h1, h2, h3, h4, h5⟩, h6, h7⟩ := h
  have w1 := QdW (ws := opWords) (by decide) x.op
  have w2 := QdW (ws := kindWords) (by decide) x.k
  have g1 := Q1T h1
  have g2 := Q1T h2
  have g3 := Q1T h3
  have g4 := Q1T h4
  have g5 := Q1T h5
  have g6 := Q1O h6 (b := [60]) (e := [62]) rfl rfl
  have g7 := Q1O h7 (b := [40]) (e := [41]) rfl rfl
  unfold Ins.txt Ins.rest
  repeat' split
  all_goals (first | rw [Lib.join_one] | rw [Q5s] | rw [Q5r] | rw [Q5q])
  all_goals ((try simp only [List.length_append, List.length_cons, List.length_nil]); omega)
theorem Tail.txt_le {t : Tail} (h : t.Pr) : t.txt.length ≤ 1600 := by
  have h1 := Q1T h.1
  have h2 := To.txt_le h.2.1
  have h3 := To.txt_le h.2.2.1
  have h4 := Q1O h.2.2.2 (b := [40]) (e := [41]) rfl rfl
  unfold Tail.txt
  repeat' split
  all_goals (simp only [List.length_append, List.length_cons, List.length_nil]; omega)
theorem Q6P : ∀ {l : List Ins}, (∀ i ∈ l, i.Pr) → (Q11 l).length ≤ 803 * l.length
  | [], _ => by simp [Q11]
  | x :: l, h => by
    have h1 := Ins.txt_le (h x (List.mem_cons_self ..))
    have h2 := Q6P (l := l) fun y hy => h y (List.mem_cons_of_mem _ hy)
    rw [Q11]
    simp only [List.length_append, List.length_cons, List.length_nil]; omega
theorem Q36 {l : List Ty} (h : Qgh l) : (Q24 l).length ≤ 2400002 := by
  have := Tys.join_len l h.2
  have h1 := h.1
  unfold Q24
  simp only [List.length_append, List.length_cons, List.length_nil]; omega
theorem Block.txt_le {b : Block} (h : b.Pr) : b.txt.length ≤ 2500000 := by
  have h1 := Q1T h.1
  have h2 := Q36 h.2.1
  have h3 := Q6P h.2.2.1.2
  have h4 := h.2.2.1.1
  have h5 := Tail.txt_le h.2.2.2
  unfold Block.txt
  simp only [List.length_append, List.length_cons, List.length_nil]; omega
theorem Q3X : ∀ {l : List Block}, (∀ i ∈ l, i.Pr) → (Qo l).length ≤ 2500000 * l.length
  | [], _ => by simp [Qo]
  | x :: l, h => by
    have h1 := Block.txt_le (h x (List.mem_cons_self ..))
    have h2 := Q3X (l := l) fun y hy => h y (List.mem_cons_of_mem _ hy)
    rw [Qo]
    simp only [List.length_append, List.length_cons]; omega
theorem Fun.txt_le {b : Fun} (h : b.Pr) : b.txt.length ≤ 35000000 := by
  have h1 := Q1T h.1
  have h2 := Q36 h.2.1
  have h3 := Q36 h.2.2.1
  have h4 := h.2.2.2.1
  have h5 := Q3X h.2.2.2.2
  unfold Fun.txt
  simp only [List.length_append, List.length_cons, List.length_nil]; omega
theorem Q6t : ∀ {l : List Fun}, (∀ i ∈ l, i.Pr) → (Q17 l).length ≤ 35000000 * l.length
  | [], _ => by simp [Q17]
  | x :: l, h => by
    have h1 := Fun.txt_le (h x (List.mem_cons_self ..))
    have h2 := Q6t (l := l) fun y hy => h y (List.mem_cons_of_mem _ hy)
    rw [Q17]
    simp only [List.length_append, List.length_cons]; omega
theorem Q9p : ∀ (l m : List Ins), Q11 (l ++ m) = Q11 l ++ Q11 m
  | [], m => rfl
  | x :: l, m => by rw [List.cons_append, Q11, Q11, Q9p l m]; simp only [List.append_assoc]
theorem Q5U : ∀ (l m : List Block), Qo (l ++ m) = Qo l ++ Qo m
  | [], m => rfl
  | x :: l, m => by rw [List.cons_append, Qo, Qo, Q5U l m]; simp only [List.append_assoc]
theorem Q97 : ∀ (l m : List Fun), Q17 (l ++ m) = Q17 l ++ Q17 m
  | [], m => rfl
  | x :: l, m => by rw [List.cons_append, Q17, Q17, Q97 l m]; simp only [List.append_assoc]
/-! ### which modules may be Q2x -/
def Qeh : Nat → Nat
  | 0 => 1
  | k + 1 => 1 + 8 * Qeh k
theorem Qd3 {b : Nat} : ∀ {l : List Ty}, (∀ t ∈ l, t.nodes ≤ b) → Tys.nodes l ≤ b * l.length
  | [], _ => by simp [Tys.nodes]
  | x :: l, h => by
    have h1 := h x (List.mem_cons_self ..)
    have h2 := Qd3 (l := l) fun y hy => h y (List.mem_cons_of_mem _ hy)
    rw [Tys.nodes, List.length_cons, Nat.mul_succ]; omega
theorem Qfq (n : Int) : ∀ (k : Nat) (t : Ty), t.deepB k = true → t.wrong 8 n = 0 → t.nodes ≤ Qeh k
  | k, .mk kd r l, hd, hw => by
    obtain ⟨w1, w2, w3, w4, w5⟩ := Ty.wrong_parts hw
    rw [Ty.deepB] at hd
    split at hd; · cases hd
    have h6 := Qdc hd
    rw [Ty.nodes]
    match k with
    | 0 =>
      cases l with
      | nil => rw [Tys.nodes, Qeh]; omega
      | cons x l =>
        have := h6 x (List.mem_cons_self ..)
        obtain ⟨a, b, c⟩ := x
        rw [Ty.deepB, if_pos (by omega)] at this
        cases this
    | k + 1 =>
      have := Qd3 (b := Qeh k) (l := l) fun t ht => Qfq n k t (by rw [show (k : Int) = ((k + 1 : Nat) : Int) - 1 by omega]; exact h6 t ht) (w5 t ht)
      have h8 := Nat.mul_le_mul_left (Qeh k) w4
      rw [Qeh]; omega
theorem Qgk {l : List Ty} {n : Int} (hr : ∀ t ∈ l, t.InR) (h : Qj l n = 0) : Qgh l := by
  unfold Qj at h
  split at h; · cases h
  refine ⟨?_, hr⟩
  have := Qd3 (b := Qeh 4) (l := l) fun t ht => by
    have h1 := Q4u h t ht
    unfold Ty.fault at h1
    split at h1; · cases h1
    exact Qfq n 4 t (by simpa using ‹¬ t.deepB 4 = false›) h1
  have e : Qeh 4 = 4681 := by decide
  rw [e] at this
  omega
theorem to_pr {n : Nat} {t : To} {is : Bool} (hr : t.InR) (h : Q18 n t is = 0) : t.Pr := by
  obtain ⟨h1, h2, h3⟩ := hr
  unfold Q18 at h
  split at h
  · split at h; · cases h
    exact ⟨h1, ⟨by omega, h2⟩, by omega, h3⟩
  · split at h; · cases h
    split at h; · cases h
    exact ⟨h1, ⟨by omega, h2⟩, by omega, h3⟩
theorem end_pr {n : Nat} {e : Tail} (hr : e.InR) (h : Q1L n e = 0) : e.Pr := by
  obtain ⟨h1, h2, h3, h4, h5⟩ := hr
  unfold Q1L at h
  split at h; · cases h
  split at h; · cases h
  split at h; · cases h
  unfold orC at h
  split at h
  · rename_i h0; exact absurd h h0
  rename_i q1 q2 q3 h0
  exact ⟨h2, to_pr h3 (Classical.not_not.1 h0), to_pr h4 h, by omega, h5⟩
theorem ins_pr {n : Nat} {x : Ins} (hr : x.InR) (h : Q1c n x = 0) : x.Pr := by
  obtain ⟨h1, h2, h3⟩ := hr
  unfold Q1c at h
  split at h; · cases h
  rename_i ho
  split at h; · cases h
  rename_i hod
  unfold Ins.odd at hod
  refine ⟨h1, ?_⟩
  unfold Q1J at h
  rcases op_cases (op := x.op) (by omega) (by omega) with e | e | e | e | e | e | e | e | e | e | e | e | e | e <;> rw [e] at h hod <;> simp [fG, fR] at hod h
  all_goals (refine ⟨⟨?_, h2⟩, ?_, h3⟩ <;> first | omega | simp [hod])
theorem mod_pr {m : Module} (hr : m.InR) (h : m.fault.1 = 0) : m.Pr := by
  refine ⟨?_, fun f hf => ?_⟩
  · apply Classical.byContradiction
    intro h9
    unfold Module.fault at h
    rw [if_pos (by omega), Qg7 (by rw [Q3O]; decide), Q3O] at h
    cases h
  obtain ⟨i, hi⟩ := List.mem_iff_getElem?.1 hf
  obtain ⟨g1, g2, g3, g4⟩ := hr f hf
  obtain ⟨_, _, e1, e2, _, e3⟩ := Q9a (Qes h hi)
  refine ⟨g1, Qgk g2 e1, Qgk g3 e2, e3, fun b hb => ?_⟩
  obtain ⟨j, hj⟩ := List.mem_iff_getElem?.1 hb
  obtain ⟨k1, k2, k3⟩ := Q9b h hi hj
  obtain ⟨_, _, e3, _, e4⟩ := Q9s k1
  obtain ⟨r1, r2, r3, r4⟩ := g4 b hb
  exact ⟨r1, Qgk r2 e3, ⟨e4, fun x hx => ins_pr (r3 x hx) (k2 x hx)⟩, end_pr r4 k3⟩
/-! ### a list's text as it grows -/
def Qh1 {α : Type} (f : α → List UInt8) (l : List α) (j : Nat) : List UInt8 := Lib.join ((l.take j).map f) [44, 32]
end Go.Lir
namespace Go.Lir
set_option linter.unusedVariables false
section
variable {P : Program} {l : List GO} {Q : QT} {ρ : Env} {w : World} {c : Cx} {L : List Res} {v : Value}
theorem s_pne_f {d T te n : Nat} {x y : Operand} {a : Addr} (hp : P.underlying T = some (.pointer te)) (hsz : Q2e P te = some n) (hx : ρ.ev x = .pointer (some a)) (hy : ρ.ev y = .pointer (some a))
    (h : Q1 P l Q (upd ρ d (.bool false)) w) : Q1 P (⟨none, .bin d .neq T x y⟩ :: l) Q ρ w :=
  ⟨_, fun w0 => by
    rw [hx, hy]
    obtain ⟨j, hte, _⟩ := Option.map_eq_some_iff.1 hsz
    have := Lib.run_neq_ptr_same w0 a hp hte
    simp [eqGuard, this], h⟩
/-- A closure, with what it holds. -/
theorem s_mkfnv {d f : Nat} {caps : List Operand} {u : List Value} (hu : caps.map ρ.ev = u) (h : Q1 P l Q (upd ρ d (.func (.func f) #[] ⟨u⟩)) w) : Q1 P (⟨none, .mkfn d f caps⟩ :: l) Q ρ w := by
  subst hu; exact h
theorem Q9r {H : Heap} {b T : Nat} {cs : List Value} {w : World} (h : Blk w.heap b T cs) : w.shape? b = some (T, cs.length) := by
  obtain ⟨fz, h1, _⟩ := h
  simp [World.shape?, h1]
theorem s_toU {d T U t Ty n : Nat} {x : Operand} {i b : Nat} {cs : List Value} {T0 : TypeId} (hs : P.underlying T = some (.pointer t)) (hd : P.underlying U = some .unsafePointer) (hsz : Q2e P t = some (n + 1)) (hS : St c w L)
    (hi : nth L i = some (blk b T0 cs)) (hc : 0 < cs.length) (hx : ρ.ev x = .pointer (some ⟨b, 0, none⟩)) (h : Q1 P l Q (upd ρ d (.pointer (some ⟨b, 0, none⟩))) w) : Q1 P (⟨none, .raw ⟨some d, .convert T U x, Ty, "", #[], none⟩⟩ :: l) Q ρ w := by
  refine Qn (v := .pointer (some ⟨b, 0, none⟩)) (w' := w) ?_ h
  obtain ⟨j, ht, hj⟩ : ∃ j, P.info? t = some j ∧ j.size ≠ 0 := by
    unfold Q2e at hsz
    rw [Option.map_eq_some_iff] at hsz
    obtain ⟨j, h1, h2⟩ := hsz
    exact ⟨j, h1, by omega⟩
  have hb := hS.blkAt hi
  have := Lib.run_to_unsafe (P := P) (w := w) ⟨b, 0, none⟩ hs hd ht hj (Q9r (H := w.heap) hb) hc
  simp only [execOp, hx, Sem.run_bind, this]
  rfl
theorem s_fromU {d T U u Ty n : Nat} {x : Operand} {i b : Nat} {cs : List Value} {T0 : TypeId} (hs : P.underlying T = some .unsafePointer) (hd : P.underlying U = some (.pointer u)) (hsz : Q2e P u = some n) (hS : St c w L)
    (hi : nth L i = some (blk b T0 cs)) (hl : liesAt P P.depth T0 (cs.length / P.cellsOf T0) 0 u 1 = true) (hx : ρ.ev x = .pointer (some ⟨b, 0, none⟩)) (h : Q1 P l Q (upd ρ d (.pointer (some ⟨b, 0, none⟩))) w) : Q1 P (⟨none, .raw ⟨some d, .convert T U x, Ty, "", #[], none⟩⟩ :: l) Q ρ w := by
  refine Qn (v := .pointer (some ⟨b, 0, none⟩)) (w' := w) ?_ h
  obtain ⟨j, hu, _⟩ := Option.map_eq_some_iff.1 hsz
  have hb := hS.blkAt hi
  have := Lib.run_from_unsafe (P := P) (w := w) ⟨b, 0, none⟩ hs hd hu (Q9r (H := w.heap) hb) hl
  simp only [execOp, hx, Sem.run_bind, this]
  rfl
theorem s_noesc {d f U Ty : Nat} {x : Operand} {fn : Func} (hf : P.funcs[f]? = some fn) (hname : (fn.name == "runtime.NumGoroutine") = false) (hb : fn.body.isNone = true) (hn : Extern.findNext fn = none) (he : Extern.find fn = some Extern.AbiNoEscape.same) (hx : ρ.ev x = v)
    (h : Q1 P l Q (upd ρ d v) w) : Q1 P (⟨none, .raw ⟨some d, .call ⟨.value (.func f), #[x], #[U]⟩, Ty, "", #[], none⟩⟩ :: l) Q ρ w := by
  refine Qn (v := v) (w' := w) ?_ h
  have hr := run_callFunc_extern (P := P) hf hname hb hn he #[v] w
  have h9 : (Extern.AbiNoEscape.same #[v]).run P w = .ok v w := rfl
  rw [h9] at hr
  have e0 : ρ.ev (.func f) = .func (.func f) #[] #[] := rfl
  have e1 : (#[x].map ρ.ev) = #[v] := by simp [hx]
  have e2 : (resolve ρ.ev ⟨.value (.func f), #[x], #[U]⟩ Ty).run P w = .ok ⟨.fn (.func f) #[], #[v]⟩ w := by
    simp [resolve, Deferred.ofValue, e0, hx]
  simp only [execOp, Sem.run_bind, e2, Result.andThen_ok, invoke]
  simpa [callFunc] using hr
/-- What a string may give to be appended. -/
theorem src_str (w : World) (t : List UInt8) : Src P w 1 (.string ⟨t.toArray⟩) (t.map Q1Q) := by
  have hf : (t.map Q1Q).flatten = Lib.byteCells t := by
    induction t with
    | nil => rfl
    | cons x t ih => rw [List.map_cons, List.flatten_cons, ih]; rfl
  refine ⟨?_, ?_, ?_, fun w' _ => ?_⟩
  · have e : (⟨t.toArray⟩ : ByteArray).size = t.length := QeP t
    simp [Builtin.lenOf, e]
  · intro c hc; obtain ⟨x, _, rfl⟩ := List.mem_map.1 hc; rfl
  · intro c hc u hu; obtain ⟨x, _, rfl⟩ := List.mem_map.1 hc; simp [Q1Q] at hu; subst hu; rfl
  · have := Lib.run_firstCells_string (P := P) w' 1 ⟨t.toArray⟩
    rw [Lib.strCells_eq, QeP] at this
    rw [List.length_map, hf]
    exact this
/-- append(b, s...) -/
theorem s_appStr {d Ts Ts2 Ty T nb i : Nat} {z : List Value} {x y : Operand} {css : List (List Value)} {t : List UInt8} (hel : Q2N P Ts = some (T, 1, nb, z)) (hts : P.underlying Ts2 = some .string) (hS : St c w L) (hx : ρ.ev x = v) (hy : ρ.ev y = .string ⟨t.toArray⟩)
    (hi : nth L i = some (sl T 1 v css)) (hb : (css.length + t.length) * nb ≤ 140737488355328)
    (h : ∀ v' w', St c w' (L.set i (sl T 1 v' (css ++ t.map Q1Q))) → Q1 P l Q (upd ρ d v') w') : Q1 P (⟨none, .raw ⟨some d, .call ⟨.builtin .append, #[x, y], #[Ts, Ts2]⟩, Ty, "", #[], none⟩⟩ :: l) Q ρ w :=
  Qfz hel (.inr hts) hS hx hy hi (src_str w t) (by rw [List.length_map]; exact hb) h
theorem Qel {e : TypeId} (hc : P.cellsOf e = 1) (count off n : Nat) (hn : off + n ≤ count) : liesAt P P.depth e count off e n = true := by
  have hd : P.depth = (2 * (P.types.size + Made.depth) + 1) + 1 := rfl
  rw [hd]
  simp only [liesAt, Bool.or_eq_true]
  left
  rw [hd]
  simp [rowAt, hc, hn, sameLayout, Nat.mod_one]
/-- unsafe.SliceData and unsafe.String of own bytes: they are the string, and no more one's own. -/
theorem s_sdata {d T Ty n cp : Nat} {x : Operand} {a : Addr} (hx : ρ.ev x = .slice (some a) n cp) (hc : cp ≠ 0) (h : Q1 P l Q (upd ρ d (.pointer (some a))) w) : Q1 P (⟨none, .raw ⟨some d, .call ⟨.builtin .unsafeSliceData, #[x], #[T]⟩, Ty, "", #[], none⟩⟩ :: l) Q ρ w := by
  refine Qn (v := .pointer (some a)) (w' := w) ?_ h
  have := Lib.run_unsafeSliceData_row (P := P) w #[T] Ty a n cp hc
  simp only [execOp, resolve, Sem.run_bind, Sem.run_pure, Result.andThen_ok, invoke, builtin]
  have e1 : (#[x].map ρ.ev) = #[.slice (some a) n cp] := by simp [hx]
  rw [e1, this]; rfl
theorem run_ustr (pt it ty e : TypeId) (hp : P.underlying pt = some (.pointer e)) (hc : P.cellsOf e = 1) (g off cells : Nat) (hsh : w.shape? g = some (e, cells)) (l : List UInt8) (h0 : l ≠ []) (hn : off + l.length ≤ cells) (h63 : l.length ≤ 9223372036854775807)
    (hcell : ∀ j x, l[j]? = some x → w.cell? ((⟨g, off, none⟩ : Addr).add j) = some (.int .u8 x.toNat)) :
    (Builtin.unsafeString_ #[pt, it] ty #[.pointer (some ⟨g, off, none⟩), .int .i64 l.length]).run P w = .ok (.string ⟨l.toArray⟩) (w.freeze ⟨g, off, none⟩ l.length) := by
  have hl : l.length ≠ 0 := by simpa using h0
  have hlb := Lib.run_loadBytes (P := P) w l ⟨g, off, none⟩ .empty hcell
  have hlies := Qel (P := P) hc (cells / P.cellsOf e) off l.length (by rw [hc]; simpa using hn)
  have h63' : ¬ (9223372036854775807 : Int) < (l.length : Int) := by omega
  have hdef : Builtin.unsafeString_ #[pt, it] ty #[.pointer (some ⟨g, off, none⟩), .int .i64 l.length] =
      (do
        let n ← asInt (.int .i64 l.length)
        if n < 0 then runtimePanic (.error "unsafe.String: len out of range")
        if n > IntKind.i64.max then unsupported (.unsafePointer "String: a length above the largest int")
        if n = 0 then pure (.string .empty)
        else if ← variablesAt ⟨g, off, none⟩ (← elemOf pt) n.toNat then do
          let s ← loadBytes ⟨g, off, none⟩ .empty n.toNat
          freeze ⟨g, off, none⟩ n.toNat
          pure (.string s)
        else unsupported (.unsafePointer "String: not so many bytes at ptr")) := rfl
  rw [hdef]
  have hmax : IntKind.i64.max = 9223372036854775807 := rfl
  have hneg : ¬ (l.length : Int) < 0 := by omega
  simp [asInt, asIntOf, hmax, h63', hneg, hl, variablesAt, hsh, elemOf, run_underlying hp, hlies, hlb]
theorem Qha (w : World) (a : Addr) (n : Nat) : Fr (· = a.block) w (w.freeze a n) := by
  unfold World.freeze
  split
  · exact (Fr.refl _ _)
  · refine ⟨rfl, rfl, rfl, by simp, fun b hb hne => ?_⟩
    simp only
    rw [Array.getElem?_modify, if_neg (fun e => hne e.symm)]
theorem s_ustr {d pt it Ty e i g off cp : Nat} {x y : Operand} {t : List UInt8} (hp : P.underlying pt = some (.pointer e)) (hc : P.cellsOf e = 1) (hS : St c w L) (hi : nth L i = some (sl e 1 (.slice (some ⟨g, off, none⟩) t.length cp) (t.map Q1Q))) (h0 : t ≠ []) (h63 : t.length ≤ 140737488355328)
    (hx : ρ.ev x = .pointer (some ⟨g, off, none⟩)) (hy : ρ.ev y = .int .i64 t.length)
    (h : ∀ w', St c w' (L.set i emp) → Q1 P l Q (upd ρ d (.string ⟨t.toArray⟩)) w') : Q1 P (⟨none, .raw ⟨some d, .call ⟨.builtin .unsafeString, #[x, y], #[pt, it]⟩, Ty, "", #[], none⟩⟩ :: l) Q ρ w := by
  obtain ⟨F, hr, hd, hst⟩ := hS.step hi
  obtain ⟨h1, ⟨h2, _⟩ | ⟨b, o, cap, arr, h2, h3, h4, h5, h6, h7⟩⟩ := hr
  · cases h2
  · simp only [Value.slice.injEq, Option.some.injEq, Addr.mk.injEq] at h2
    obtain ⟨⟨rfl, rfl, _⟩, h8, rfl⟩ := h2
    rw [List.length_map] at h3
    have hcell : ∀ j z, t[j]? = some z → w.cell? ((⟨g, off, none⟩ : Addr).add j) = some (.int .u8 z.toNat) := by
      intro j z hj
      have hlt := (List.getElem?_eq_some_iff.1 hj).1
      have h9 := h6 j (by rw [List.length_map]; omega)
      have hf : (t.map Q1Q).flatten[j]? = some (.int .u8 z.toNat) := by
        have := Q3r h1 (m := j) (j := 0) (c := Q1Q z) (by rw [List.getElem?_map, hj]; rfl) (by decide)
        rw [Nat.mul_one, Nat.add_zero] at this
        rw [this]; rfl
      rw [hf] at h9
      rw [Q1e]
      exact h4.cell h9
    have hrun := run_ustr (P := P) (w := w) pt it Ty e hp hc g off arr.length (Q9r (H := w.heap) h4) t h0 (by omega) (by omega) hcell
    refine Qn (v := .string ⟨t.toArray⟩) (w' := w.freeze ⟨g, off, none⟩ t.length) ?_ ?_
    · simp only [execOp, resolve, Sem.run_bind, Sem.run_pure, Result.andThen_ok, invoke, builtin]
      have e1 : (#[x, y].map ρ.ev) = #[.pointer (some ⟨g, off, none⟩), .int .i64 t.length] := by simp [hx, hy]
      rw [e1, hrun]; rfl
    · refine h _ (hst _ (fun _ => False) emp (fun _ h => h) ⟨?_, fun _ h => h.elim⟩)
      exact (Qha w ⟨g, off, none⟩ t.length).mono fun b _ hb => (h7 b).2 hb
end
end Go.Lir
namespace Go.Proofs.YtjecflbbcnocdaaDoor
open Go.Lir
set_option maxHeartbeats 1000000
attribute [local irreducible] LC.wp Q1 Qu Qw retQ Q1z LO.wp Qb Calls
set_option linter.unusedSimpArgs false
set_option linter.unusedVariables false
variable {cx : Cx} {w : World} {L : List Res}
/-- A builder, its bytes. -/
@[reducible] def bldr (b : Nat) (p v : Value) : Res := blk b 97 [p, v]
theorem bcheck_c {b : Nat} {p v : Value} (hp : p = .pointer none ∨ p = .pointer (some ⟨b, 0, none⟩)) (hS : St cx w (bldr b p v :: L)) :
    Rets Tryd.prog Q1B [.pointer (some ⟨b, 0, none⟩)] w fun u w' => u = .tuple #[] ∧ St cx w' (bldr b (.pointer (some ⟨b, 0, none⟩)) v :: L) := by
  rcases hp with rfl | rfl
  · skip
    all_goals refine Q1d ?_
    all_goals (unfold strings_Builder_copyCheck_lc; refine Q0 ?_; refine Q2 ?_; refine zm ?_; refine znc ?_; refine zf0 ?_; refine zl hS ?_; refine s_pnil_t (e := 97) (by kernel_rfl) rfl rfl ?_; refine zn ?_)
    all_goals refine zct ?_
    all_goals (refine Q2 ?_; refine zm ?_; refine zm ?_; refine s_toU (t := 97) (n := 1) (by kernel_rfl) (by kernel_rfl) (by kernel_rfl) hS fd (by show 0 < 2; omega) rfl ?_; refine s_noesc Tryd.func92 (by kernel_rfl) (by kernel_rfl) (by kernel_rfl) (by kernel_rfl) rfl ?_; refine s_fromU (u := 97) (n := 2) (by kernel_rfl) (by kernel_rfl) (by kernel_rfl) hS fd (by kernel_rfl) rfl ?_; refine znc ?_; refine zf0 ?_; refine zst hS ?_; intro w1 hS; have hS := hS.ns; refine zn ?_; refine Q3J ?_; exact ⟨_, rfl, rfl, hS.sp⟩)
  · skip
    all_goals refine Q1d ?_
    all_goals (unfold strings_Builder_copyCheck_lc; refine Q0 ?_; refine Q2 ?_; refine zm ?_; refine znc ?_; refine zf0 ?_; refine zl hS ?_; refine s_pnil_f (e := 97) (by kernel_rfl) rfl rfl ?_; refine zn ?_)
    all_goals refine zcf ?_
    all_goals (refine Q0 ?_; refine Q2 ?_; refine zm ?_; refine znc ?_; refine zf0 ?_; refine zl hS ?_; refine zm ?_; refine s_pne_f (te := 97) (n := 2) (by kernel_rfl) (by kernel_rfl) rfl rfl ?_; refine zn ?_)
    all_goals refine zcf ?_
    all_goals (refine zsk ?_; refine Q3J ?_; exact ⟨_, rfl, rfl, hS.sp⟩)
theorem bwrite_c {b : Nat} {p v : Value} {t s : List UInt8} (hp : p = .pointer none ∨ p = .pointer (some ⟨b, 0, none⟩)) (hn : t.length + s.length ≤ 140737488355328) (hS : St cx w (bldr b p v :: sl 5 1 v (t.map Q1Q) :: L)) :
    Rets Tryd.prog QU [.pointer (some ⟨b, 0, none⟩), .string ⟨s.toArray⟩] w fun u w' => (∃ v', u = .tuple #[.int .i64 s.length, .nilIface] ∧ oneC v' = true ∧ St cx w' (bldr b (.pointer (some ⟨b, 0, none⟩)) v' :: sl 5 1 v' ((t ++ s).map Q1Q) :: L)) := by
  all_goals refine Q29 ?_
  all_goals (unfold strings_Builder_WriteString_lc; refine Q0 ?_; refine Q2 ?_; refine zm ?_; refine zm ?_; refine zn ?_; refine Q0 ?_; refine Q2 ?_; refine zm ?_; refine zR1 (c := bcheck_c hp hS) (h := ?_); rintro v1 w1 ⟨rfl, hS⟩; refine zn ?_; refine Q0 ?_; refine Q2 ?_; refine zm ?_; refine zm ?_; refine znc ?_; refine zf0 ?_; refine zl hS ?_; refine zm ?_; refine s_appStr el_T95 (by kernel_rfl) hS vw vw (i := 1) rfl (by rw [List.length_map]; omega) ?_; intro v2 w2 hS; have hS : St cx w2 (bldr b (.pointer (some ⟨b, 0, none⟩)) v :: sl 5 1 v2 (t.map Q1Q ++ s.map Q1Q) :: L) := hS; have ho := hS.oneC (i := 1) rfl; refine znc ?_; refine zf0 ?_; refine zst hS ?_; intro w1 hS; have hS := hS.ns; refine zn ?_; refine Q0 ?_; refine Q2 ?_; refine zm ?_; refine Qgv rfl ?_; refine zm ?_; refine zm ?_; refine zn ?_; refine zr ?_; refine zf2 ?_; exact ⟨_, rfl, v2, rfl, ho, by rw [List.map_append]; exact hS.sp⟩)
theorem Q5T {b : Nat} {p v : Value} {t s : List UInt8} (hp : p = .pointer none ∨ p = .pointer (some ⟨b, 0, none⟩)) (hn : t.length + s.length ≤ 140737488355328) (hS : St cx w (bldr b p v :: sl 5 1 v (t.map Q1Q) :: L)) :
    Rets Tryd.prog QU [.pointer (some ⟨b, 0, none⟩), .string ⟨s.toArray⟩] w fun u w' => (∃ v' t', t' = t ++ s ∧ u = .tuple #[.int .i64 s.length, .nilIface] ∧ oneC v' = true ∧ St cx w' (bldr b (.pointer (some ⟨b, 0, none⟩)) v' :: sl 5 1 v' (t'.map Q1Q) :: L)) :=
  (bwrite_c hp hn hS).mono fun _ _ ⟨v', h1, h2, h3⟩ => ⟨v', _, rfl, h1, h2, h3⟩
theorem Qhi {b : Nat} {p v : Value} {t : List UInt8} (h0 : t ≠ []) (hn : t.length ≤ 140737488355328) (hS : St cx w (bldr b p v :: sl 5 1 v (t.map Q1Q) :: L)) :
    Rets Tryd.prog Q1Y [.pointer (some ⟨b, 0, none⟩)] w fun u w' => u = .string ⟨t.toArray⟩ ∧ St cx w' L := by
  obtain ⟨g, off, cp, rfl, hcp⟩ : ∃ g off cp, v = .slice (some ⟨g, off, none⟩) t.length cp ∧ cp ≠ 0 := by
    obtain ⟨F, hr, _⟩ := hS.step (i := 1) rfl
    obtain ⟨h1, ⟨h2, h3, _⟩ | ⟨b, o, cap, arr, h2, h3, _⟩⟩ := hr
    · exact absurd (List.map_eq_nil_iff.1 h3) h0
    · rw [List.length_map] at h2 h3
      exact ⟨b, o, cap, h2, by have := List.length_pos_iff.2 h0; omega⟩
  all_goals refine Q2T ?_
  all_goals (unfold strings_Builder_String_lc; refine Q0 ?_; refine Q2 ?_; refine zm ?_; refine zn ?_; refine Q0 ?_; refine zC [(0, none), (1, none), (2, none), (3, none), (5, none), (6, none), (7, none), (8, none), (9, none), (4, some (some [8])), (10, some none), (11, some none)] ?_; have hS := hS.drew; refine s_cq ?_; refine zm ?_; refine zt ?_; refine s_cq ?_; refine znc ?_; refine zt ?_; refine s_cq ?_; refine zf0 ?_; refine zt ?_; refine s_cq ?_; refine zl hS ?_; refine zt ?_; refine s_cq ?_; refine zm ?_; refine zt ?_; refine s_cq ?_; refine znc ?_; refine zt ?_; refine s_cq ?_; refine zf0 ?_; refine zt ?_; refine s_cq ?_; refine zl hS ?_; refine zt ?_; refine s_cq ?_; (first | (refine zL ?_) | (refine zLe hS ?_)); refine zt ?_; refine Q13 ?_; refine s_sdata rfl hcp ?_; refine zt ?_; refine zy ?_; refine s_cf ?_; refine s_ustr (e := 5) (by kernel_rfl) (by kernel_rfl) hS (i := 1) rfl h0 hn rfl rfl ?_; intro w2 hS; have hS : St cx w2 (bldr b p (.slice (some ⟨g, off, none⟩) t.length cp) :: emp :: L) := hS; refine zt ?_; refine s_cf ?_; refine zm ?_; refine zt ?_; refine zcn ?_; refine zr ?_; refine zf ?_; refine ⟨_, rfl, ?_, hS.sp⟩; exact rfl; done)
end Go.Proofs.YtjecflbbcnocdaaDoor
namespace Go.Proofs.YtjecflbbcnocdaaDoor
open Go.Lir
set_option maxHeartbeats 1000000
attribute [local irreducible] LC.wp Q1 Qu Qw retQ Q1z LO.wp Qb Calls
set_option linter.unusedSimpArgs false
set_option linter.unusedVariables false
variable {cx : Cx} {w : World} {L : List Res}
abbrev strV (t : List UInt8) : Value := .string ⟨t.toArray⟩
theorem Qfp {ws : List (List UInt8)} {k : Int} (h1 : 1 ≤ k) (h2 : k ≤ ws.length) : (([] :: ws).map strV)[k.toNat]? = some (strV (wordN ws k)) := by
  obtain ⟨n, rfl⟩ : ∃ n : Nat, k = (n : Int) + 1 := ⟨(k - 1).toNat, by omega⟩
  rw [List.map_cons, show ((n : Int) + 1).toNat = n + 1 by omega, List.getElem?_cons_succ, List.getElem?_map]
  unfold wordN
  rw [if_neg (by omega), List.getD_eq_getElem?_getD, show ((n : Int) + 1).toNat - 1 = n by omega, List.getElem?_eq_getElem (by omega)]; rfl
theorem Qfo {ws : List (List UInt8)} {k : Int} (h : k < 1 ∨ ws.length < k) : wordN ws k = [] := by
  unfold wordN
  split
  · rfl
  · rw [List.getD_eq_getElem?_getD, List.getElem?_eq_none (by omega)]; rfl
theorem popw_c {k : Int} (hS : St cx w L) : Rets Tryd.prog QfC [.int .i64 k] w fun u w' => u = strV (wordN opWords k) ∧ St cx w' L := by
  have hlen : opWords.length = 14 := rfl
  by_cases hb : k < 0 ∨ 14 < k
  · rw [Qfo (by omega)]
    all_goals refine Q4C ?_
    all_goals (unfold parse_Op_lc; refine Q0 ?_; refine Q2 ?_; refine zm ?_; refine zn ?_; refine Q0 ?_; refine Q0 ?_; refine Q2 ?_; refine zm ?_)
    all_goals (first | (refine Q2D ?_) | (refine Q2E ?_) | (refine Q1i rfl rfl (fun hc => ?_) (fun hc => ?_)))
    all_goals (refine zm ?_; (first | refine zgn ?_ | (refine zgy ?_; refine zm ?_)))
    all_goals (first | refine zgn ?_ | (refine zgy ?_; refine Q10 ?_))
    all_goals ((first | (refine zpt ?_) | (refine zpf ?_)); refine zn ?_)
    all_goals refine zct ?_
    all_goals (refine Q0 ?_; refine Q2 ?_; refine zm ?_; refine zn ?_; refine zr ?_; refine zf ?_; refine ⟨_, rfl, ?_, hS.sp⟩; (rfl); done)
  · by_cases h0 : k = 0
    · subst h0
      all_goals refine Q4C ?_
      all_goals (unfold parse_Op_lc; refine Q0 ?_; refine Q2 ?_; refine zm ?_; refine zn ?_; refine Q0 ?_; refine Q0 ?_; refine Q2 ?_; refine zm ?_)
      all_goals (first | (refine Q2D ?_) | (refine Q2E ?_))
      all_goals (refine zm ?_; (first | refine zgn ?_ | (refine zgy ?_; refine zm ?_)))
      all_goals (first | refine zgn ?_ | (refine zgy ?_; (first | (refine Q10 ?_) | (refine Q14 ?_))))
      all_goals ((first | (refine zpt ?_) | (refine zpf ?_)); refine zn ?_)
      all_goals refine zcf ?_
      all_goals (refine zsk ?_; refine Q0 ?_; refine Q2 ?_; refine Q8p (cs := [_, _, _, _, _, _, _, _, _, _, _, _, _, _, _]) vw vw vw vw vw vw vw vw vw vw vw vw vw vw vw (by rfl) ?_; refine zm ?_; refine Qe5 (n := 15) (e := 9) (by kernel_rfl) (by kernel_rfl) (by kernel_rfl) vw vw (by omega) (by omega) (show ((([] :: opWords).map strV)[(0 : Int).toNat]? = some (strV [])) from rfl) ?_; refine zm ?_; refine zn ?_; refine zr ?_; refine zf ?_; refine ⟨_, rfl, ?_, hS.sp⟩; (rfl); done)
    · have hu := Qfp (ws := opWords) (k := k) (by omega) (by omega)
      generalize wordN opWords k = s at hu ⊢
      all_goals refine Q4C ?_
      all_goals (unfold parse_Op_lc; refine Q0 ?_; refine Q2 ?_; refine zm ?_; refine zn ?_; refine Q0 ?_; refine Q0 ?_; refine Q2 ?_; refine zm ?_)
      all_goals (first | (refine Q2D ?_) | (refine Q2E ?_))
      all_goals (refine zm ?_; (first | refine zgn ?_ | (refine zgy ?_; refine zm ?_)))
      all_goals (first | refine zgn ?_ | (refine zgy ?_; (first | (refine Q10 ?_) | (refine Q14 ?_))))
      all_goals ((first | (refine zpt ?_) | (refine zpf ?_)); refine zn ?_)
      all_goals refine zcf ?_
      all_goals (refine zsk ?_; refine Q0 ?_; refine Q2 ?_; refine Q8p (cs := [_, _, _, _, _, _, _, _, _, _, _, _, _, _, _]) vw vw vw vw vw vw vw vw vw vw vw vw vw vw vw (by rfl) ?_; refine zm ?_; refine Qe5 (n := 15) (e := 9) (by kernel_rfl) (by kernel_rfl) (by kernel_rfl) vw vw (by omega) (by omega) hu ?_; refine zm ?_; refine zn ?_; refine zr ?_; refine zf ?_; refine ⟨_, rfl, ?_, hS.sp⟩; (rfl); done)
theorem pkindw_c {k : Int} (hS : St cx w L) : Rets Tryd.prog Qbz [.int .i64 k] w fun u w' => u = strV (wordN kindWords k) ∧ St cx w' L := by
  have hlen : kindWords.length = 9 := rfl
  by_cases hb : k < 0 ∨ 9 < k
  · rw [Qfo (by omega)]
    all_goals refine Q3n ?_
    all_goals (unfold parse_Kind_lc; refine Q0 ?_; refine Q2 ?_; refine zm ?_; refine zn ?_; refine Q0 ?_; refine Q0 ?_; refine Q2 ?_; refine zm ?_)
    all_goals (first | (refine Q2D ?_) | (refine Q2E ?_) | (refine Q1i rfl rfl (fun hc => ?_) (fun hc => ?_)))
    all_goals (refine zm ?_; (first | refine zgn ?_ | (refine zgy ?_; refine zm ?_)))
    all_goals (first | refine zgn ?_ | (refine zgy ?_; refine Q10 ?_))
    all_goals ((first | (refine zpt ?_) | (refine zpf ?_)); refine zn ?_)
    all_goals refine zct ?_
    all_goals (refine Q0 ?_; refine Q2 ?_; refine zm ?_; refine zn ?_; refine zr ?_; refine zf ?_; refine ⟨_, rfl, ?_, hS.sp⟩; (rfl); done)
  · by_cases h0 : k = 0
    · subst h0
      all_goals refine Q3n ?_
      all_goals (unfold parse_Kind_lc; refine Q0 ?_; refine Q2 ?_; refine zm ?_; refine zn ?_; refine Q0 ?_; refine Q0 ?_; refine Q2 ?_; refine zm ?_)
      all_goals (first | (refine Q2D ?_) | (refine Q2E ?_))
      all_goals (refine zm ?_; (first | refine zgn ?_ | (refine zgy ?_; refine zm ?_)))
      all_goals (first | refine zgn ?_ | (refine zgy ?_; (first | (refine Q10 ?_) | (refine Q14 ?_))))
      all_goals ((first | (refine zpt ?_) | (refine zpf ?_)); refine zn ?_)
      all_goals refine zcf ?_
      all_goals (refine zsk ?_; refine Q0 ?_; refine Q2 ?_; refine zb10 [_, _, _, _, _, _, _, _, _, _] ?_; refine zm ?_; refine Qe5 (n := 10) (e := 9) (by kernel_rfl) (by kernel_rfl) (by kernel_rfl) vw vw (by omega) (by omega) (show ((([] :: kindWords).map strV)[(0 : Int).toNat]? = some (strV [])) from rfl) ?_; refine zm ?_; refine zn ?_; refine zr ?_; refine zf ?_; refine ⟨_, rfl, ?_, hS.sp⟩; (rfl); done)
    · have hu := Qfp (ws := kindWords) (k := k) (by omega) (by omega)
      generalize wordN kindWords k = s at hu ⊢
      all_goals refine Q3n ?_
      all_goals (unfold parse_Kind_lc; refine Q0 ?_; refine Q2 ?_; refine zm ?_; refine zn ?_; refine Q0 ?_; refine Q0 ?_; refine Q2 ?_; refine zm ?_)
      all_goals (first | (refine Q2D ?_) | (refine Q2E ?_))
      all_goals (refine zm ?_; (first | refine zgn ?_ | (refine zgy ?_; refine zm ?_)))
      all_goals (first | refine zgn ?_ | (refine zgy ?_; (first | (refine Q10 ?_) | (refine Q14 ?_))))
      all_goals ((first | (refine zpt ?_) | (refine zpf ?_)); refine zn ?_)
      all_goals refine zcf ?_
      all_goals (refine zsk ?_; refine Q0 ?_; refine Q2 ?_; refine zb10 [_, _, _, _, _, _, _, _, _, _] ?_; refine zm ?_; refine Qe5 (n := 10) (e := 9) (by kernel_rfl) (by kernel_rfl) (by kernel_rfl) vw vw (by omega) (by omega) hu ?_; refine zm ?_; refine zn ?_; refine zr ?_; refine zf ?_; refine ⟨_, rfl, ?_, hS.sp⟩; (rfl); done)
end Go.Proofs.YtjecflbbcnocdaaDoor
namespace Go.Proofs.YtjecflbbcnocdaaDoor
open Go.Lir
set_option maxHeartbeats 1000000
attribute [local irreducible] LC.wp Q1 Qu Qw retQ Q1z LO.wp Qb Calls
set_option linter.unusedSimpArgs false
set_option linter.unusedVariables false
attribute [local irreducible] Lib.itoa Lib.join
variable {cx : Cx} {w : World} {L : List Res}
theorem Q3c {n : Int} (h : InI n) (hT : PowT cx) (hS : St cx w L) : Rets Tryd.prog Qbx [.int .i64 n] w fun u w' => u = strV (Lib.itoa n) ∧ St cx w' L := by
  all_goals refine Qcz ?_
  all_goals (unfold render_num_lc; refine Q0 ?_; refine Q2 ?_; refine zm ?_; refine zn ?_; refine Q0 ?_; refine Q2 ?_; refine zm ?_; refine zR1 (c := itoa_c h.1 h.2 hT hS) (h := ?_); rintro v1 w1 ⟨rfl, hS⟩; refine zm ?_; refine zn ?_; refine zr ?_; refine zf ?_; refine ⟨_, rfl, ?_, hS.sp⟩; exact rfl; done)
end Go.Proofs.YtjecflbbcnocdaaDoor
namespace Go.Proofs.YtjecflbbcnocdaaDoor
open Go.Lir
set_option maxHeartbeats 1000000
attribute [local irreducible] LC.wp Q1 Qu Qw retQ Q1z LO.wp Qb Calls
set_option linter.unusedSimpArgs false
set_option linter.unusedVariables false
attribute [local irreducible] Lib.itoa Lib.join Qh1
variable {cx : Cx} {w : World} {L : List Res}
theorem Qg2 {b e : List UInt8} {l : List Int} {v : Value} (hb : b.length ≤ 10) (he : e.length ≤ 10) (hp : Q7a l) (hl : intR.sl cx v l) (hT : PowT cx) (hS : St cx w L) :
    Rets Tryd.prog Qbw [strV b, v, strV e] w fun u w' => u = strV (Q1b b l e) ∧ St cx w' L := by
  have hjl := Qh2 hp
  have hll := hp.1
  unfold Q1b
  all_goals refine Qcw ?_
  all_goals (unfold render_row_lc; refine Q0 ?_; refine Q2 ?_; refine zm ?_; refine zn ?_; refine Q0 ?_; refine Q2 ?_; refine zm ?_; refine zn ?_; refine Q0 ?_; refine Q0 ?_; refine Q2 ?_; refine zm ?_; refine zL ?_; refine zm ?_; refine zn ?_; refine Q7 ?_)
  refine zoL hS [0, 2, 10, 11] (fun A LL ρ' w' => ∃ (j : Nat) (u : Value) (css : List (List Value)), Has ρ' A ∧ Has ρ' [(7, u), (12, .int .i64 j)] ∧ (j ≤ l.length) ∧ (strR.ls cx css ((l.take j).map fun n => ⟨(Lib.itoa n).toArray⟩)) ∧ (oneC u = true) ∧ St cx w' (sl 9 1 u css :: LL)) (fun ρ' _ => (l.length - iv (ρ' 12)).toNat) ?_ ?_
  · exact ⟨0, .slice none 0 0, [], zh, zh, (by omega), Rep.LR.nil _ _ _, rfl, by have hS := hS.nil (T := 9) (es := 1); exact hS.sp⟩
  rintro ρ w1 ⟨j, u, css, hA, hρ, hj, hls, hu, hS⟩; obtain ⟨ρ, rfl⟩ := env2 hA hρ
  unfold Q51
  all_goals (refine Q0 ?_; refine Q2 ?_; refine Qp rfl rfl ?_; refine zn ?_; refine Q0 ?_)
  refine Qm rfl (fun hc => ?_) (fun hc => ?_)
  · skip
    all_goals (refine zsk ?_; refine Q0 ?_; refine Q7 ?_; refine Q0 ?_; refine Q2 ?_; refine zi ?_; intro b1 o1 cs1 x1 hat1 hx1 he1; obtain rfl := Q5t he1; (first | (refine zl hS ?_) | (refine zlk hS ?_)); refine zm ?_; refine zn ?_; refine Q2 ?_; refine zm ?_; refine zm ?_; refine zR1 (c := Q3c (hp.2 _ (List.mem_of_getElem? hx1)) hT hS) (h := ?_); rintro v1 w1 ⟨rfl, hS⟩; refine zB1 hS [_] ?_; intro b1 w1 hS; refine za Qq QZ hS ?_; intro vp1 w1 css1 hls1 hv1 hS; have hS := hS.ns; refine zm ?_; refine zn ?_; refine Q2 ?_; refine zad ?_; refine zm ?_; refine zn ?_; exact ⟨⟨j + 1, _, _, zh, zh, (by omega), by rw [Q37 hx1, List.map_append]; assumption, by assumption, hS.sp⟩, Qk (by omega)⟩)
  · skip
    all_goals (refine zex ?_; refine Q0 ?_; refine Q2 ?_; refine zm ?_; refine zm ?_; refine zR2 (c := QfG (xs := l.map Lib.itoa) (sep := [44, 32]) hS fd (by rw [List.take_of_length_le (by omega)] at hls; rw [List.map_map]; exact hls) (by rw [List.length_map]; omega) (by omega)) (h := ?_); rintro v1 w1 ⟨rfl, hS⟩; refine Qr rfl rfl (by omega) ?_; refine zm ?_; refine Qr rfl rfl (by first | omega | (simp only [List.length_append, List.length_cons, List.length_nil]; omega)) ?_; refine zm ?_; refine zn ?_; refine zr ?_; refine zf ?_; refine ⟨_, rfl, ?_, hS.sp⟩; (rfl); done)
theorem QeN {l : List Ty} {v : Value} (hp : Qgh l) (hl : tyR.sl cx v l) (hT : PowT cx) (hS : St cx w L) : Rets Tryd.prog Q75 [v] w fun u w' => u = strV (Q24 l) ∧ St cx w' L := by
  have hjl := Tys.join_len l hp.2
  have hln := Tys.nodes_len l
  have hn := hp.1
  have hnm : ∀ x ∈ l, x.nodes ≤ 100000 := fun x hx => by have := Tys.nodes_mem hx; omega
  unfold Q24
  all_goals refine Q8N ?_
  all_goals (unfold render_typed_lc; refine Q0 ?_; refine Q2 ?_; refine zm ?_; refine zn ?_; refine Q0 ?_; refine Q2 ?_; refine zm ?_; refine zn ?_; refine Q0 ?_; refine Q0 ?_; refine Q2 ?_; refine zm ?_; refine zL ?_; refine zm ?_; refine zn ?_; refine Q7 ?_)
  refine zoL hS [6, 7] (fun A LL ρ' w' => ∃ (j : Nat) (u : Value) (css : List (List Value)), Has ρ' A ∧ Has ρ' [(3, u), (8, .int .i64 j)] ∧ (j ≤ l.length) ∧ (strR.ls cx css ((l.take j).map fun x => ⟨x.txt.toArray⟩)) ∧ (oneC u = true) ∧ St cx w' (sl 9 1 u css :: LL)) (fun ρ' _ => (l.length - iv (ρ' 8)).toNat) ?_ ?_
  · exact ⟨0, .slice none 0 0, [], zh, zh, (by omega), Rep.LR.nil _ _ _, rfl, by have hS := hS.nil (T := 9) (es := 1); exact hS.sp⟩
  rintro ρ w1 ⟨j, u, css, hA, hρ, hj, hls, hu, hS⟩; obtain ⟨ρ, rfl⟩ := env2 hA hρ
  unfold Q3I
  all_goals (refine Q0 ?_; refine Q2 ?_; refine Qp rfl rfl ?_; refine zn ?_; refine Q0 ?_)
  refine Qm rfl (fun hc => ?_) (fun hc => ?_)
  · skip
    all_goals (refine zsk ?_; refine Q0 ?_; refine Q7 ?_; refine Q0 ?_; refine Q2 ?_; refine zi ?_; intro b1 o1 cs1 x1 hat1 hx1 he1; obtain ⟨vl1, rfl, hl1⟩ := QS he1; (first | (refine zv hS ?_) | (refine zvk hS ?_)); refine Qf hS ?_; intro p5 w1 hS; refine zsn hS ?_; intro w1 hS; have hS := hS.ns; refine zn ?_; refine Q2 ?_; refine zm ?_; refine zv hS ?_; refine zR1 (c := ttext_c _ (hp.2 _ (List.mem_of_getElem? hx1)) (hnm _ (List.mem_of_getElem? hx1)) he1 hT hS) (h := ?_); rintro v1 w1 ⟨rfl, hS⟩; refine zB1 hS [_] ?_; intro b1 w1 hS; refine za Qq QZ hS ?_; intro vp1 w1 css1 hls1 hv1 hS; have hS := hS.ns; refine zm ?_; refine zn ?_; refine Q2 ?_; refine zad ?_; refine zm ?_; refine zn ?_; exact ⟨⟨j + 1, _, _, zh, zh, (by omega), by rw [Q37 hx1, List.map_append]; assumption, by assumption, hS.sp⟩, Qk (by omega)⟩)
  · skip
    all_goals (refine zex ?_; refine Q0 ?_; refine Q2 ?_; refine zm ?_; refine zR2 (c := QfG (xs := Tys.txts l) (sep := [44, 32]) hS fd (by rw [List.take_of_length_le (by omega)] at hls; rw [Tys.txts_map, List.map_map]; exact hls) (by rw [Tys.txts_map, List.length_map]; omega) (by omega)) (h := ?_); rintro v1 w1 ⟨rfl, hS⟩; refine Qr rfl rfl (by first | omega | (simp only [List.length_append, List.length_cons, List.length_nil]; omega)) ?_; refine Qr rfl rfl (by first | omega | (simp only [List.length_append, List.length_cons, List.length_nil]; omega)) ?_; refine zm ?_; refine zn ?_; refine zr ?_; refine zf ?_; refine ⟨_, rfl, ?_, hS.sp⟩; (rfl); done)
theorem Qgm {t : To} {cs : List Value} (hp : t.Pr) (hx : toR.at cx cs t) (hT : PowT cx) (hS : St cx w L) : Rets Tryd.prog Qee [.agg ⟨cs⟩] w fun u w' => u = strV t.txt ∧ St cx w' L := by
  obtain ⟨n, xr, xa⟩ := t
  obtain ⟨v1, v2, rfl, h1, h2⟩ := Qcj hx
  obtain ⟨g1, g2, g3⟩ := hp
  have l1 := Q1T g1
  have l2 := Q1O g2 (b := [60]) (e := [62]) rfl rfl
  have l3 := Q1O g3 (b := [40]) (e := [41]) rfl rfl
  unfold To.txt
  simp only at *
  all_goals refine Qec ?_
  all_goals (unfold render_to_lc; refine Q0 ?_; refine Q2 ?_; refine zb hS ?_; intro p1 w1 hS; refine zm ?_; refine zn ?_; refine Q0 ?_; refine zC [(0, none), (1, none), (4, none), (5, none), (9, none), (10, none), (2, some (some [5, 10])), (3, none), (6, some (some [10])), (7, none), (8, none), (11, some (some [])), (12, none), (13, some none)] ?_; have hS := hS.drew; refine s_cq ?_; refine zf0 ?_; refine zt ?_; refine s_cq ?_; refine zl hS ?_; refine zt ?_; refine s_cq ?_; refine zf0 ?_; refine zt ?_; refine s_cq ?_; refine zl hS ?_; refine zt ?_; refine s_cq ?_; refine zf0 ?_; refine zt ?_; refine s_cq ?_; refine zl hS ?_; refine zt ?_; refine Q13 ?_; refine zR1 (c := Q3c g1 hT hS) (h := ?_); rintro v1 w1 ⟨rfl, hS⟩; refine zt ?_; refine zy ?_; refine s_cq ?_; refine Qr rfl rfl (by first | omega | (simp only [List.length_append, List.length_cons, List.length_nil]; omega)) ?_; refine zt ?_; refine Q13 ?_; refine zR3 (c := Qg2 (by decide) (by decide) g2 h1 hT hS) (h := ?_); rintro v1 w1 ⟨rfl, hS⟩; refine zt ?_; refine zy ?_; refine s_cq ?_; refine Qr rfl rfl (by first | omega | (simp only [List.length_append, List.length_cons, List.length_nil]; omega)) ?_; refine zt ?_; refine s_cq ?_)
  all_goals (refine Qr rfl rfl (by first | omega | (simp only [List.length_append, List.length_cons, List.length_nil]; omega)) ?_; refine zt ?_; refine Q13 ?_; refine zR3 (c := Qg2 (by decide) (by decide) g3 h2 hT hS) (h := ?_); rintro v1 w1 ⟨rfl, hS⟩; refine zt ?_; refine zy ?_; refine s_cq ?_; refine Qr rfl rfl (by first | omega | (simp only [List.length_append, List.length_cons, List.length_nil]; omega)) ?_; refine zt ?_; refine s_cf ?_; refine zm ?_; refine zt ?_; refine zcn ?_; refine zr ?_; refine zf ?_; refine ⟨_, rfl, ?_, hS.sp⟩; (rfl); done)
end Go.Proofs.YtjecflbbcnocdaaDoor
namespace Go.Proofs.YtjecflbbcnocdaaDoor
open Go.Lir
set_option maxHeartbeats 1000000
attribute [local irreducible] LC.wp Q1 Qu Qw retQ Q1z LO.wp Qb Calls
set_option linter.unusedSimpArgs false
set_option linter.unusedVariables false
attribute [local irreducible] Lib.itoa Lib.join Qh1 wordN
variable {cx : Cx} {w : World} {L : List Res}
abbrev toBA (t : List UInt8) : ByteArray := ⟨t.toArray⟩
theorem strs (l : List (List UInt8)) : strR.ls cx (l.map fun t => [strV t]) (l.map toBA) :=
  ⟨by simp, fun m x hx => by
    rw [List.getElem?_map, Option.map_eq_some_iff] at hx
    obtain ⟨t, h1, rfl⟩ := hx
    exact ⟨[strV t], by rw [List.getElem?_map, h1]; rfl, rfl⟩⟩
theorem str1 {b T : Nat} {t1 : List UInt8} (hS : St cx w (blk b T [strV t1] :: L)) : St cx w (sl T 1 (.slice (some ⟨b, 0, none⟩) 1 1) [[strV t1]] :: L) ∧ strR.ls cx [[strV t1]] ([t1].map toBA) ∧ ([t1].map toBA).length = 1 :=
  ⟨St.slOf hS rfl (by intro c hc; simp at hc; subst hc; rfl) rfl, strs [t1], rfl⟩
theorem str2 {b T : Nat} {t1 t2 : List UInt8} (hS : St cx w (blk b T [strV t1, strV t2] :: L)) : St cx w (sl T 1 (.slice (some ⟨b, 0, none⟩) 2 2) [[strV t1], [strV t2]] :: L) ∧ strR.ls cx [[strV t1], [strV t2]] ([t1, t2].map toBA) ∧ ([t1, t2].map toBA).length = 2 :=
  ⟨St.slOf hS rfl (by intro c hc; simp at hc; rcases hc with rfl | rfl <;> rfl) rfl, strs [t1, t2], rfl⟩
theorem str3 {b T : Nat} {t1 t2 t3 : List UInt8} (hS : St cx w (blk b T [strV t1, strV t2, strV t3] :: L)) : St cx w (sl T 1 (.slice (some ⟨b, 0, none⟩) 3 3) [[strV t1], [strV t2], [strV t3]] :: L) ∧ strR.ls cx [[strV t1], [strV t2], [strV t3]] ([t1, t2, t3].map toBA) ∧ ([t1, t2, t3].map toBA).length = 3 :=
  ⟨St.slOf hS rfl (by intro c hc; simp at hc; rcases hc with rfl | rfl | rfl <;> rfl) rfl, strs [t1, t2, t3], rfl⟩
section
variable {x : Ins}
theorem rest_1 (h : x.op = 1) : x.rest = [Lib.itoa x.n] := by unfold Ins.rest; rw [if_pos h]
theorem rest_2 (h : x.op = 2) : x.rest = [wordN kindWords x.k, Lib.itoa x.a, Lib.itoa x.b] := by unfold Ins.rest; rw [if_neg (by omega), if_pos h]
theorem rest_4 (h : x.op = 4 ∨ x.op = 11 ∨ x.op = 13) : x.rest = [Lib.itoa x.a] := by unfold Ins.rest; rw [if_neg (by omega), if_neg (by omega), if_pos h]
theorem rest_5 (h : x.op = 5) : x.rest = [Lib.itoa x.a, Q1b [40] x.args [41]] := by unfold Ins.rest; rw [if_neg (by omega), if_neg (by omega), if_neg (by omega), if_pos h]
theorem rest_6 (h : x.op = 6) : x.rest = [Lib.itoa x.a, Lib.itoa x.k] := by unfold Ins.rest; rw [if_neg (by omega), if_neg (by omega), if_neg (by omega), if_neg (by omega), if_pos h]
theorem rest_7 (h : x.op = 7) : x.rest = [Lib.itoa x.a, Lib.itoa x.k, Lib.itoa x.b] := by unfold Ins.rest; rw [if_neg (by omega), if_neg (by omega), if_neg (by omega), if_neg (by omega), if_neg (by omega), if_pos h]
theorem rest_8 (h : x.op = 8 ∨ x.op = 9) : x.rest = [Lib.itoa x.a, Lib.itoa x.b] := by unfold Ins.rest; rw [if_neg (by omega), if_neg (by omega), if_neg (by omega), if_neg (by omega), if_neg (by omega), if_neg (by omega), if_pos h]
theorem rest_10 (h : x.op = 10) : x.rest = [Lib.itoa x.a, Lib.itoa x.b, Lib.itoa x.c] := by unfold Ins.rest; rw [if_neg (by omega), if_neg (by omega), if_neg (by omega), if_neg (by omega), if_neg (by omega), if_neg (by omega), if_neg (by omega), if_pos h]
theorem rest_14 (h : x.op = 14) : x.rest = [Lib.itoa x.k, Q1b [60] x.regs [62], Q1b [40] x.args [41]] := by unfold Ins.rest; rw [if_neg (by omega), if_neg (by omega), if_neg (by omega), if_neg (by omega), if_neg (by omega), if_neg (by omega), if_neg (by omega), if_neg (by omega), if_pos h]
theorem rest_0 (h : x.op ≠ 1 ∧ x.op ≠ 2 ∧ x.op ≠ 4 ∧ x.op ≠ 11 ∧ x.op ≠ 13 ∧ x.op ≠ 5 ∧ x.op ≠ 6 ∧ x.op ≠ 7 ∧ x.op ≠ 8 ∧ x.op ≠ 9 ∧ x.op ≠ 10 ∧ x.op ≠ 14) : x.rest = [] := by
  unfold Ins.rest; rw [if_neg (by omega), if_neg (by omega), if_neg (by omega), if_neg (by omega), if_neg (by omega), if_neg (by omega), if_neg (by omega), if_neg (by omega), if_neg (by omega)]
theorem rest_len : x.rest.length ≤ 3 := by unfold Ins.rest; (repeat' split) <;> simp
end
theorem ins_txt {x : Ins} {cs : List Value} (hp : x.Pr) (hx : insR.at cx cs x) (hT : PowT cx) (hS : St cx w L) : Rets Tryd.prog Qa [.agg ⟨cs⟩] w fun u w' => u = strV (x.txt ++ [59]) ∧ St cx w' L := by
  have htl := Ins.txt_le hp
  have hrl := rest_len (x := x)
  have htl2 : (Lib.join (wordN opWords x.op :: x.rest) [32]).length ≤ 800 := htl
  obtain ⟨vr, va, rfl, hr, ha⟩ := Q1U hx
  obtain ⟨⟨g0, g1, g2, g3, g4, g5⟩, g6, g7⟩ := hp
  have h0 := strs (cx := cx) [wordN opWords x.op]
  all_goals refine QcK ?_
  all_goals (unfold render_ins_lc; refine Q0 ?_; refine Q2 ?_; refine zb hS ?_; intro p1 w1 hS; refine zm ?_; refine zn ?_; refine Q0 ?_; refine Q2 ?_; refine zf0 ?_; refine zl hS ?_; refine zR1 (c := popw_c hS) (h := ?_); rintro v1 w1 ⟨rfl, hS⟩; refine zB1 hS [_] ?_; intro b1 w1 hS; (first | (obtain ⟨hS, h9, h8⟩ := str3 hS) | (obtain ⟨hS, h9, h8⟩ := str2 hS) | (obtain ⟨hS, h9, h8⟩ := str1 hS)); refine zm ?_; refine zn ?_)
  refine zM [] (fun A ρ' w' => ∃ (vb : Value) (css : List (List Value)), Has ρ' A ∧ Has ρ' [(3, vb)] ∧ (strR.ls cx css ((wordN opWords x.op :: x.rest).map toBA)) ∧ (oneC vb = true) ∧ St cx w' (sl 9 1 vb css :: L)) ?_ ?_
  · skip
    all_goals (refine Q0 ?_; refine Q2 ?_; refine zf0 ?_; refine zl hS ?_; refine zn ?_; refine Q7 ?_; refine Q0 ?_; refine Q2 ?_)
    all_goals (first | (refine QM ?_) | (refine QR ?_) | (refine Q9 rfl rfl (fun hc => ?_) (fun hc => ?_)))
    all_goals (refine zm ?_; refine zn ?_)
    all_goals
      first
      | (refine zct ?_ -- Qa c0
         all_goals (refine Q2 ?_; refine zm ?_; refine zf0 ?_; refine zl hS ?_; refine zR2 (c := fmtp_c g5.1 g5.2 hT hS) (h := ?_); rintro v1 w1 ⟨rfl, hS⟩; refine zB1 hS [_] ?_; intro b1 w1 hS; (first | (obtain ⟨hS, h9, h8⟩ := str3 hS) | (obtain ⟨hS, h9, h8⟩ := str2 hS) | (obtain ⟨hS, h9, h8⟩ := str1 hS)); (first | (refine za Qq QZ hS ?_; intro vp1 w1 css1 hls1 hv1 hS; have hS := hS.ns) | (refine zak Qq QZ hS ?_; intro vp1 w1 css1 hls1 hv1 hS; have hS := hS.ns) | (refine zas Qq QZ hS ?_; intro vp1 w1 css1 hls1 hv1 hS; have hS := hS.ns)); refine zm ?_)
         all_goals refine zn ?_)
      | (refine zcf ?_ -- Qa c0
         all_goals (refine Q0 ?_; refine Q2 ?_)
         all_goals (first | (refine QM ?_) | (refine QR ?_) | (refine Q9 rfl rfl (fun hc => ?_) (fun hc => ?_)))
         all_goals (refine zm ?_; refine zn ?_)
         all_goals
           first
           | (refine zct ?_ -- Qa c1
              all_goals (refine zC [(0, none), (1, none), (2, none), (4, none), (5, none), (7, none), (8, none), (3, some (some [5, 8])), (6, some (some [8])), (9, some (some [])), (10, some (some [])), (11, some none), (12, some none)] ?_; have hS := hS.drew; refine s_cq ?_; refine zm ?_; refine zt ?_; refine s_cq ?_; refine zf0 ?_; refine zt ?_; refine s_cq ?_; refine zl hS ?_; refine zt ?_; refine s_cq ?_; refine zf0 ?_; refine zt ?_; refine s_cq ?_; refine zl hS ?_; refine zt ?_; refine s_cq ?_; refine zf0 ?_; refine zt ?_; refine s_cq ?_; refine zl hS ?_; refine zt ?_; refine Q13 ?_; refine zR1 (c := pkindw_c hS) (h := ?_); rintro v1 w1 ⟨rfl, hS⟩; refine zt ?_; refine zy ?_; refine Q13 ?_; refine zR1 (c := Q3c (by assumption) hT hS) (h := ?_); rintro v1 w1 ⟨rfl, hS⟩; refine zt ?_; refine zy ?_; refine Q13 ?_; refine zR1 (c := Q3c (by assumption) hT hS) (h := ?_); rintro v1 w1 ⟨rfl, hS⟩; refine zt ?_; refine zy ?_; refine Q13 ?_; refine zB3 hS [_, _, _] ?_; intro b1 w1 hS; obtain ⟨hS, h9, h8⟩ := str3 hS; refine zt ?_; refine zy ?_; refine s_cf ?_; (first | (refine za Qq QZ hS ?_; intro vp2 w2 css2 hls2 hv2 hS; have hS := hS.ns) | (refine zak Qq QZ hS ?_; intro vp2 w2 css2 hls2 hv2 hS; have hS := hS.ns) | (refine zas Qq QZ hS ?_; intro vp2 w2 css2 hls2 hv2 hS; have hS := hS.ns)))
              all_goals (refine zt ?_; refine s_cf ?_; refine zm ?_; refine zt ?_)
              all_goals refine zcn ?_)
           | (refine zcf ?_ -- Qa c1
              all_goals (refine Q0 ?_; refine Q0 ?_; refine Q2 ?_)
              all_goals (first | (refine QM ?_) | (refine QR ?_) | (refine Q9 rfl rfl (fun hc => ?_) (fun hc => ?_)))
              all_goals (refine zm ?_; refine zn ?_)
              all_goals
                first
                | (refine zct ?_ -- Qa c2
                   all_goals refine zsk ?_)
                | (refine zcf ?_ -- Qa c2
                   all_goals (refine Q0 ?_; refine Q2 ?_)
                   all_goals (first | (refine QM ?_) | (refine QR ?_) | (refine Q9 rfl rfl (fun hc => ?_) (fun hc => ?_)))
                   all_goals (refine zm ?_; refine zn ?_)
                   all_goals
                     first
                     | (refine zct ?_ -- Qa c3
                        all_goals refine zsk ?_)
                     | (refine zcf ?_ -- Qa c3
                        all_goals (refine Q2 ?_)
                        all_goals (first | (refine QM ?_) | (refine QR ?_) | (refine Q9 rfl rfl (fun hc => ?_) (fun hc => ?_)))
                        all_goals (refine zm ?_)
                        all_goals refine zn ?_))
              all_goals
                first
                | (refine zct ?_ -- Qa c4
                   all_goals (refine Q2 ?_; refine zm ?_; refine zf0 ?_; refine zl hS ?_; refine zR1 (c := Q3c (by assumption) hT hS) (h := ?_); rintro v1 w1 ⟨rfl, hS⟩; refine zB1 hS [_] ?_; intro b1 w1 hS; (first | (obtain ⟨hS, h9, h8⟩ := str3 hS) | (obtain ⟨hS, h9, h8⟩ := str2 hS) | (obtain ⟨hS, h9, h8⟩ := str1 hS)); (first | (refine za Qq QZ hS ?_; intro vp3 w3 css3 hls3 hv3 hS; have hS := hS.ns) | (refine zak Qq QZ hS ?_; intro vp3 w3 css3 hls3 hv3 hS; have hS := hS.ns) | (refine zas Qq QZ hS ?_; intro vp3 w3 css3 hls3 hv3 hS; have hS := hS.ns)); refine zm ?_)
                   all_goals refine zn ?_)
                | (refine zcf ?_ -- Qa c4
                   all_goals (refine Q0 ?_; refine Q2 ?_)
                   all_goals (first | (refine QM ?_) | (refine QR ?_) | (refine Q9 rfl rfl (fun hc => ?_) (fun hc => ?_)))
                   all_goals (refine zm ?_; refine zn ?_)
                   all_goals
                     first
                     | (refine zct ?_ -- Qa c5
                        all_goals (refine zC [(0, none), (1, none), (2, none), (4, none), (5, none), (3, some (some [5])), (6, some (some [])), (7, some (some [])), (8, some none), (9, some none)] ?_; have hS := hS.drew; refine s_cq ?_; refine zm ?_; refine zt ?_; refine s_cq ?_; refine zf0 ?_; refine zt ?_; refine s_cq ?_; refine zl hS ?_; refine zt ?_; refine s_cq ?_; refine zf0 ?_; refine zt ?_; refine s_cq ?_; refine zl hS ?_; refine zt ?_; refine Q13 ?_; refine zR1 (c := Q3c (by assumption) hT hS) (h := ?_); rintro v1 w1 ⟨rfl, hS⟩; refine zt ?_; refine zy ?_; refine Q13 ?_; refine zR3 (c := Qg2 (by decide) (by decide) g7 ha hT hS) (h := ?_); rintro v1 w1 ⟨rfl, hS⟩; refine zt ?_; refine zy ?_; refine Q13 ?_; refine zB2 hS [_, _] ?_; intro b1 w1 hS; (first | (obtain ⟨hS, h9, h8⟩ := str3 hS) | (obtain ⟨hS, h9, h8⟩ := str2 hS)); refine zt ?_; refine zy ?_; refine s_cf ?_; (first | (refine za Qq QZ hS ?_; intro vp4 w4 css4 hls4 hv4 hS; have hS := hS.ns) | (refine zak Qq QZ hS ?_; intro vp4 w4 css4 hls4 hv4 hS; have hS := hS.ns) | (refine zas Qq QZ hS ?_; intro vp4 w4 css4 hls4 hv4 hS; have hS := hS.ns)); refine zt ?_; refine s_cf ?_; refine zm ?_; refine zt ?_)
                        all_goals refine zcn ?_)
                     | (refine zcf ?_ -- Qa c5
                        all_goals (refine Q0 ?_; refine Q2 ?_)
                        all_goals (first | (refine QM ?_) | (refine QR ?_) | (refine Q9 rfl rfl (fun hc => ?_) (fun hc => ?_)))
                        all_goals (refine zm ?_; refine zn ?_)
                        all_goals
                          first
                          | (refine zct ?_ -- Qa c6
                             all_goals (refine zC [(0, none), (1, none), (2, none), (4, none), (5, none), (3, some (some [5])), (6, some (some [])), (7, some (some [])), (8, some none), (9, some none)] ?_; have hS := hS.drew; refine s_cq ?_; refine zm ?_; refine zt ?_; refine s_cq ?_; refine zf0 ?_; refine zt ?_; refine s_cq ?_; refine zl hS ?_; refine zt ?_; refine s_cq ?_; refine zf0 ?_; refine zt ?_; refine s_cq ?_; refine zl hS ?_; refine zt ?_; refine Q13 ?_; refine zR1 (c := Q3c (by assumption) hT hS) (h := ?_); rintro v1 w1 ⟨rfl, hS⟩; refine zt ?_; refine zy ?_; refine Q13 ?_; refine zR1 (c := Q3c (by assumption) hT hS) (h := ?_); rintro v1 w1 ⟨rfl, hS⟩; refine zt ?_; refine zy ?_; refine Q13 ?_; refine zB2 hS [_, _] ?_; intro b1 w1 hS; (first | (obtain ⟨hS, h9, h8⟩ := str3 hS) | (obtain ⟨hS, h9, h8⟩ := str2 hS)); refine zt ?_; refine zy ?_; refine s_cf ?_; (first | (refine za Qq QZ hS ?_; intro vp5 w5 css5 hls5 hv5 hS; have hS := hS.ns) | (refine zak Qq QZ hS ?_; intro vp5 w5 css5 hls5 hv5 hS; have hS := hS.ns) | (refine zas Qq QZ hS ?_; intro vp5 w5 css5 hls5 hv5 hS; have hS := hS.ns)); refine zt ?_; refine s_cf ?_; refine zm ?_; refine zt ?_)
                             all_goals refine zcn ?_)
                          | (refine zcf ?_ -- Qa c6
                             all_goals (refine Q0 ?_; refine Q2 ?_)
                             all_goals (first | (refine QM ?_) | (refine QR ?_) | (refine Q9 rfl rfl (fun hc => ?_) (fun hc => ?_)))
                             all_goals (refine zm ?_; refine zn ?_)
                             all_goals
                               first
                               | (refine zct ?_ -- Qa c7
                                  all_goals (refine zC [(0, none), (1, none), (2, none), (4, none), (5, none), (7, none), (8, none), (3, some (some [5, 8])), (6, some (some [8])), (9, some (some [])), (10, some (some [])), (11, some none), (12, some none)] ?_; have hS := hS.drew; refine s_cq ?_; refine zm ?_; refine zt ?_; refine s_cq ?_; refine zf0 ?_; refine zt ?_; refine s_cq ?_; refine zl hS ?_; refine zt ?_; refine s_cq ?_; refine zf0 ?_; refine zt ?_; refine s_cq ?_; refine zl hS ?_; refine zt ?_; refine s_cq ?_; refine zf0 ?_; refine zt ?_; refine s_cq ?_; refine zl hS ?_; refine zt ?_; refine Q13 ?_; refine zR1 (c := Q3c (by assumption) hT hS) (h := ?_); rintro v1 w1 ⟨rfl, hS⟩; refine zt ?_; refine zy ?_; refine Q13 ?_; refine zR1 (c := Q3c (by assumption) hT hS) (h := ?_); rintro v1 w1 ⟨rfl, hS⟩; refine zt ?_; refine zy ?_; refine Q13 ?_; refine zR1 (c := Q3c (by assumption) hT hS) (h := ?_); rintro v1 w1 ⟨rfl, hS⟩; refine zt ?_; refine zy ?_; refine Q13 ?_; refine zB3 hS [_, _, _] ?_; intro b1 w1 hS; obtain ⟨hS, h9, h8⟩ := str3 hS; refine zt ?_; refine zy ?_; refine s_cf ?_; (first | (refine za Qq QZ hS ?_; intro vp6 w6 css6 hls6 hv6 hS; have hS := hS.ns) | (refine zak Qq QZ hS ?_; intro vp6 w6 css6 hls6 hv6 hS; have hS := hS.ns) | (refine zas Qq QZ hS ?_; intro vp6 w6 css6 hls6 hv6 hS; have hS := hS.ns)))
                                  all_goals (refine zt ?_; refine s_cf ?_; refine zm ?_; refine zt ?_)
                                  all_goals refine zcn ?_)
                               | (refine zcf ?_ -- Qa c7
                                  all_goals (refine Q0 ?_; refine Q0 ?_; refine Q2 ?_)
                                  all_goals (first | (refine QM ?_) | (refine QR ?_) | (refine Q9 rfl rfl (fun hc => ?_) (fun hc => ?_)))
                                  all_goals (refine zm ?_; refine zn ?_)
                                  all_goals
                                    first
                                    | (refine zct ?_ -- Qa c8
                                       all_goals refine zsk ?_)
                                    | (refine zcf ?_ -- Qa c8
                                       all_goals (refine Q2 ?_)
                                       all_goals (first | (refine QM ?_) | (refine QR ?_) | (refine Q9 rfl rfl (fun hc => ?_) (fun hc => ?_)))
                                       all_goals (refine zm ?_)
                                       all_goals refine zn ?_)
                                  all_goals
                                    first
                                    | (refine zct ?_ -- Qa c9
                                       all_goals (refine zC [(0, none), (1, none), (2, none), (4, none), (5, none), (3, some (some [5])), (6, some (some [])), (7, some (some [])), (8, some none), (9, some none)] ?_; have hS := hS.drew; refine s_cq ?_; refine zm ?_; refine zt ?_; refine s_cq ?_; refine zf0 ?_; refine zt ?_; refine s_cq ?_; refine zl hS ?_; refine zt ?_; refine s_cq ?_; refine zf0 ?_; refine zt ?_; refine s_cq ?_; refine zl hS ?_; refine zt ?_; refine Q13 ?_; refine zR1 (c := Q3c (by assumption) hT hS) (h := ?_); rintro v1 w1 ⟨rfl, hS⟩; refine zt ?_; refine zy ?_; refine Q13 ?_; refine zR1 (c := Q3c (by assumption) hT hS) (h := ?_); rintro v1 w1 ⟨rfl, hS⟩; refine zt ?_; refine zy ?_; refine Q13 ?_; refine zB2 hS [_, _] ?_; intro b1 w1 hS; (first | (obtain ⟨hS, h9, h8⟩ := str3 hS) | (obtain ⟨hS, h9, h8⟩ := str2 hS)); refine zt ?_; refine zy ?_; refine s_cf ?_; (first | (refine za Qq QZ hS ?_; intro vp7 w7 css7 hls7 hv7 hS; have hS := hS.ns) | (refine zak Qq QZ hS ?_; intro vp7 w7 css7 hls7 hv7 hS; have hS := hS.ns) | (refine zas Qq QZ hS ?_; intro vp7 w7 css7 hls7 hv7 hS; have hS := hS.ns)); refine zt ?_; refine s_cf ?_; refine zm ?_; refine zt ?_)
                                       all_goals refine zcn ?_)
                                    | (refine zcf ?_ -- Qa c9
                                       all_goals (refine Q0 ?_; refine Q2 ?_)
                                       all_goals (first | (refine QM ?_) | (refine QR ?_) | (refine Q9 rfl rfl (fun hc => ?_) (fun hc => ?_)))
                                       all_goals (refine zm ?_; refine zn ?_)
                                       all_goals
                                         first
                                         | (refine zct ?_ -- Qa c10
                                            all_goals (refine zC [(0, none), (1, none), (2, none), (4, none), (5, none), (7, none), (8, none), (3, some (some [5, 8])), (6, some (some [8])), (9, some (some [])), (10, some (some [])), (11, some none), (12, some none)] ?_; have hS := hS.drew; refine s_cq ?_; refine zm ?_; refine zt ?_; refine s_cq ?_; refine zf0 ?_; refine zt ?_; refine s_cq ?_; refine zl hS ?_; refine zt ?_; refine s_cq ?_; refine zf0 ?_; refine zt ?_; refine s_cq ?_; refine zl hS ?_; refine zt ?_; refine s_cq ?_; refine zf0 ?_; refine zt ?_; refine s_cq ?_; refine zl hS ?_; refine zt ?_; refine Q13 ?_; refine zR1 (c := Q3c (by assumption) hT hS) (h := ?_); rintro v1 w1 ⟨rfl, hS⟩; refine zt ?_; refine zy ?_; refine Q13 ?_; refine zR1 (c := Q3c (by assumption) hT hS) (h := ?_); rintro v1 w1 ⟨rfl, hS⟩; refine zt ?_; refine zy ?_; refine Q13 ?_; refine zR1 (c := Q3c (by assumption) hT hS) (h := ?_); rintro v1 w1 ⟨rfl, hS⟩; refine zt ?_; refine zy ?_; refine Q13 ?_; refine zB3 hS [_, _, _] ?_; intro b1 w1 hS; obtain ⟨hS, h9, h8⟩ := str3 hS; refine zt ?_; refine zy ?_; refine s_cf ?_; (first | (refine za Qq QZ hS ?_; intro vp8 w8 css8 hls8 hv8 hS; have hS := hS.ns) | (refine zak Qq QZ hS ?_; intro vp8 w8 css8 hls8 hv8 hS; have hS := hS.ns) | (refine zas Qq QZ hS ?_; intro vp8 w8 css8 hls8 hv8 hS; have hS := hS.ns)))
                                            all_goals (refine zt ?_; refine s_cf ?_; refine zm ?_; refine zt ?_)
                                            all_goals refine zcn ?_)
                                         | (refine zcf ?_ -- Qa c10
                                            all_goals (refine Q0 ?_; refine Q2 ?_)
                                            all_goals (first | (refine QM ?_) | (refine QR ?_) | (refine Q9 rfl rfl (fun hc => ?_) (fun hc => ?_)))
                                            all_goals (refine zm ?_; refine zn ?_)
                                            all_goals
                                              first
                                              | (refine zct ?_ -- Qa c11
                                                 all_goals (refine zC [(0, none), (1, none), (2, none), (4, none), (5, none), (7, none), (8, none), (3, some (some [5, 8])), (6, some (some [8])), (9, some (some [])), (10, some (some [])), (11, some none), (12, some none)] ?_; have hS := hS.drew; refine s_cq ?_; refine zm ?_; refine zt ?_; refine s_cq ?_; refine zf0 ?_; refine zt ?_; refine s_cq ?_; refine zl hS ?_; refine zt ?_; refine s_cq ?_; refine zf0 ?_; refine zt ?_; refine s_cq ?_; refine zl hS ?_; refine zt ?_; refine s_cq ?_; refine zf0 ?_; refine zt ?_; refine s_cq ?_; refine zl hS ?_; refine zt ?_; refine Q13 ?_; refine zR1 (c := Q3c (by assumption) hT hS) (h := ?_); rintro v1 w1 ⟨rfl, hS⟩; refine zt ?_; refine zy ?_; refine Q13 ?_; refine zR3 (c := Qg2 (by decide) (by decide) g6 hr hT hS) (h := ?_); rintro v1 w1 ⟨rfl, hS⟩; refine zt ?_; refine zy ?_; refine Q13 ?_; refine zR3 (c := Qg2 (by decide) (by decide) g7 ha hT hS) (h := ?_); rintro v1 w1 ⟨rfl, hS⟩; refine zt ?_; refine zy ?_; refine Q13 ?_; refine zB3 hS [_, _, _] ?_; intro b1 w1 hS; obtain ⟨hS, h9, h8⟩ := str3 hS; refine zt ?_; refine zy ?_)
                                                 all_goals (refine s_cf ?_; (first | (refine za Qq QZ hS ?_; intro vp9 w9 css9 hls9 hv9 hS; have hS := hS.ns) | (refine zak Qq QZ hS ?_; intro vp9 w9 css9 hls9 hv9 hS; have hS := hS.ns) | (refine zas Qq QZ hS ?_; intro vp9 w9 css9 hls9 hv9 hS; have hS := hS.ns)); refine zt ?_; refine s_cf ?_; refine zm ?_; refine zt ?_)
                                                 all_goals refine zcn ?_)
                                              | (refine zcf ?_ -- Qa c11
                                                 all_goals refine zsk ?_)))))))))
    all_goals ((first | (exact ⟨_, _, zh, zh, by rw [rest_1 (by omega)]; assumption, by assumption, hS.sp⟩) | (exact ⟨_, _, zh, zh, by rw [rest_2 (by omega)]; assumption, by assumption, hS.sp⟩) | (exact ⟨_, _, zh, zh, by rw [rest_4 (by omega)]; assumption, by assumption, hS.sp⟩) | (exact ⟨_, _, zh, zh, by rw [rest_5 (by omega)]; assumption, by assumption, hS.sp⟩) | (exact ⟨_, _, zh, zh, by rw [rest_6 (by omega)]; assumption, by assumption, hS.sp⟩) | (exact ⟨_, _, zh, zh, by rw [rest_7 (by omega)]; assumption, by assumption, hS.sp⟩) | (exact ⟨_, _, zh, zh, by rw [rest_8 (by omega)]; assumption, by assumption, hS.sp⟩) | (exact ⟨_, _, zh, zh, by rw [rest_10 (by omega)]; assumption, by assumption, hS.sp⟩) | (exact ⟨_, _, zh, zh, by rw [rest_14 (by omega)]; assumption, by assumption, hS.sp⟩) | (exact ⟨_, _, zh, zh, by rw [rest_0 (by omega)]; assumption, rfl, hS.sp⟩)))
  rintro ρ w1 ⟨vb, css, hA, hρ, hls, hvb, hS⟩; obtain ⟨ρ, rfl⟩ := env2 hA hρ
  all_goals (refine Q0 ?_; refine Q2 ?_; refine zm ?_; refine zR2 (c := QfG (xs := wordN opWords x.op :: x.rest) (sep := [32]) hS fd hls (by rw [List.length_cons]; omega) (by unfold Ins.txt at htl; omega)) (h := ?_); rintro v1 w1 ⟨rfl, hS⟩; refine Qr rfl rfl (by first | omega | (simp only [List.length_append, List.length_cons, List.length_nil]; omega)) ?_; refine zm ?_; refine zn ?_; refine zr ?_; refine zf ?_; refine ⟨_, rfl, ?_, hS.sp⟩; (rfl); done)
theorem end_txt {t : Tail} {cs : List Value} (hp : t.Pr) (hx : endR.at cx cs t) (hT : PowT cx) (hS : St cx w L) : Rets Tryd.prog Q2s [.agg ⟨cs⟩] w fun u w' => u = strV (t.txt ++ [59]) ∧ St cx w' L := by
  have htl := Tail.txt_le hp
  obtain ⟨v1, v2, v3, v4, v5, rfl, h1, h2, h3, h4, h5⟩ := QfM hx
  obtain ⟨g1, g2, g3, g4⟩ := hp
  have l1 := Q1T g1
  have l2 := To.txt_le g2
  have l3 := To.txt_le g3
  have l4 := Q1O g4 (b := [40]) (e := [41]) rfl rfl
  have hy : toR.at cx [.int .i64 t.yes.block, v1, v2] t.yes := ⟨_, _, rfl, h1, h2⟩
  have hn : toR.at cx [.int .i64 t.no.block, v3, v4] t.no := ⟨_, _, rfl, h3, h4⟩
  all_goals refine QcT ?_
  all_goals (unfold render_end_lc; refine Q0 ?_; refine Q2 ?_; refine zb hS ?_; intro p1 w1 hS; refine zm ?_; refine zn ?_; refine Q0 ?_; refine Q0 ?_; refine Q2 ?_; refine zf0 ?_; refine zl hS ?_; refine zn ?_; refine Q7 ?_; refine Q0 ?_; refine Q2 ?_)
  all_goals (first | (refine QM ?_) | (refine QR ?_) | (refine Q9 rfl rfl (fun hc => ?_) (fun hc => ?_)))
  all_goals (refine zm ?_; refine zn ?_)
  all_goals
    first
    | (refine zct ?_ -- Q2s c0
       all_goals (refine Q0 ?_; refine Q2 ?_; refine zf0 ?_; refine zv hS ?_; refine zR1 (c := Qgm g2 hy hT hS) (h := ?_); rintro v1 w1 ⟨rfl, hS⟩; refine Qr rfl rfl (by first | omega | (simp only [List.length_append, List.length_cons, List.length_nil]; omega)) ?_; refine Qr rfl rfl (by first | omega | (simp only [List.length_append, List.length_cons, List.length_nil]; omega)) ?_; refine zm ?_; refine zn ?_; refine zr ?_; refine zf ?_)
       all_goals (refine ⟨_, rfl, ?_, hS.sp⟩; unfold Tail.txt; rw [if_pos (by omega)]; simp only [List.append_assoc]; rfl; done))
    | (refine zcf ?_ -- Q2s c0
       all_goals (refine Q0 ?_; refine Q2 ?_)
       all_goals (first | (refine QM ?_) | (refine QR ?_) | (refine Q9 rfl rfl (fun hc => ?_) (fun hc => ?_)))
       all_goals (refine zm ?_; refine zn ?_)
       all_goals
         first
         | (refine zct ?_ -- Q2s c1
            all_goals (refine Q0 ?_; refine zC [(0, none), (1, none), (5, none), (6, none), (10, none), (11, none), (2, some (some [6, 11])), (3, none), (4, none), (7, some (some [11])), (8, none), (9, none), (12, some (some [])), (13, none), (14, none), (15, some none)] ?_; have hS := hS.drew; refine s_cq ?_; refine zf0 ?_; refine zt ?_; refine s_cq ?_; refine zl hS ?_; refine zt ?_; refine s_cq ?_; refine zf0 ?_; refine zt ?_; refine s_cq ?_; refine zv hS ?_; refine zt ?_; refine s_cq ?_; refine zf0 ?_; refine zt ?_; refine s_cq ?_; refine zv hS ?_; refine zt ?_; refine Q13 ?_; refine zR1 (c := Q3c g1 hT hS) (h := ?_); rintro v1 w1 ⟨rfl, hS⟩; refine zt ?_; refine zy ?_; refine s_cq ?_; refine Qr rfl rfl (by first | omega | (simp only [List.length_append, List.length_cons, List.length_nil]; omega)) ?_; refine zt ?_; refine s_cq ?_; refine Qr rfl rfl (by first | omega | (simp only [List.length_append, List.length_cons, List.length_nil]; omega)) ?_; refine zt ?_; refine Q13 ?_; refine zR1 (c := Qgm g2 hy hT hS) (h := ?_); rintro v1 w1 ⟨rfl, hS⟩; refine zt ?_; refine zy ?_; refine s_cq ?_; refine Qr rfl rfl (by first | omega | (simp only [List.length_append, List.length_cons, List.length_nil]; omega)) ?_)
            all_goals (refine zt ?_; refine s_cq ?_; refine Qr rfl rfl (by first | omega | (simp only [List.length_append, List.length_cons, List.length_nil]; omega)) ?_; refine zt ?_; refine Q13 ?_; refine zR1 (c := Qgm g3 hn hT hS) (h := ?_); rintro v1 w1 ⟨rfl, hS⟩; refine zt ?_; refine zy ?_; refine s_cq ?_; refine Qr rfl rfl (by first | omega | (simp only [List.length_append, List.length_cons, List.length_nil]; omega)) ?_; refine zt ?_; refine s_cq ?_; refine Qr rfl rfl (by first | omega | (simp only [List.length_append, List.length_cons, List.length_nil]; omega)) ?_; refine zt ?_; refine s_cf ?_; refine zm ?_; refine zt ?_; refine zcn ?_; refine zr ?_; refine zf ?_)
            all_goals (first | (refine ⟨_, rfl, ?_, hS.sp⟩; unfold Tail.txt; rw [if_pos (by omega)]; simp only [List.append_assoc]; rfl; done) | (refine ⟨_, rfl, ?_, hS.sp⟩; unfold Tail.txt; rw [if_neg (by omega), if_pos (by omega)]; simp only [List.append_assoc]; rfl; done)))
         | (refine zcf ?_ -- Q2s c1
            all_goals refine zsk ?_))
  all_goals (refine Q0 ?_; refine Q2 ?_; refine zf0 ?_; refine zl hS ?_; refine zR3 (c := Qg2 (by decide) (by decide) g4 h5 hT hS) (h := ?_); rintro v1 w1 ⟨rfl, hS⟩; refine Qr rfl rfl (by first | omega | (simp only [List.length_append, List.length_cons, List.length_nil]; omega)) ?_; refine Qr rfl rfl (by first | omega | (simp only [List.length_append, List.length_cons, List.length_nil]; omega)) ?_; refine zm ?_; refine zn ?_; refine zr ?_; refine zf ?_; (first | (refine ⟨_, rfl, ?_, hS.sp⟩; unfold Tail.txt; rw [if_pos (by omega)]; simp only [List.append_assoc]; rfl; done) | (refine ⟨_, rfl, ?_, hS.sp⟩; unfold Tail.txt; rw [if_neg (by omega), if_pos (by omega)]; simp only [List.append_assoc]; rfl; done) | (refine ⟨_, rfl, ?_, hS.sp⟩; unfold Tail.txt; rw [if_neg (by omega), if_neg (by omega)]; simp only [List.append_assoc]; rfl; done)))
end Go.Proofs.YtjecflbbcnocdaaDoor
namespace Go.Proofs.YtjecflbbcnocdaaDoor
open Go.Lir
set_option maxHeartbeats 1000000
attribute [local irreducible] LC.wp Q1 Qu Qw retQ Q1z LO.wp Qb Calls
set_option linter.unusedSimpArgs false
set_option linter.unusedVariables false
theorem Q8r {l m : List Int} {cx : Cx} {w : World} {L : List Res} {v v2 : Value} (hl : intR.sl cx v l) (hm : intR.sl cx v2 m) (hS : St cx w L) : Rets Tryd.prog Q2u [v, v2] w fun u w' => u = .bool (decide (l = m)) ∧ St cx w' L := by
  have hlen := hl.len
  all_goals refine QdR ?_
  all_goals (unfold R_SameInts_lc; refine Q0 ?_; refine Q2 ?_; refine zm ?_; refine zn ?_; refine Q0 ?_; refine Q0 ?_; refine Q2 ?_; refine zm ?_; refine zL ?_; refine zm ?_; refine zL ?_)
  all_goals (first | (refine Q22 ?_) | (refine Q23 ?_) | (refine QQ rfl rfl (fun hc => ?_) (fun hc => ?_)))
  all_goals (refine zn ?_)
  all_goals
    first
    | (refine zct ?_ -- Q2u c0
       all_goals (refine Q0 ?_; refine Q2 ?_; refine zm ?_; refine zn ?_; refine zr ?_; refine zf ?_)
       all_goals (refine ⟨_, rfl, ?_, hS.sp⟩; rw [decide_eq_false]; exact fun e => absurd (congrArg List.length e) (by omega); done))
    | (refine zcf ?_ -- Q2u c0
       all_goals refine zsk ?_)
  all_goals (refine Q0 ?_; refine Q0 ?_; refine Q2 ?_; refine zm ?_; refine zn ?_; refine Q7 ?_)
  refine zoL hS [0, 1] (fun A LL ρ' w' => ∃ (j : Nat), Has ρ' A ∧ Has ρ' [(5, .int .i64 j)] ∧ (j ≤ l.length) ∧ (l.length = m.length) ∧ (l = m ↔ l.drop j = m.drop j) ∧ St cx w' (LL)) (fun ρ' _ => (l.length - iv (ρ' 5)).toNat) ?_ ?_
  · exact ⟨0, zh, zh, (by omega), (by omega), by simp, hS.sp⟩
  rintro ρ w1 ⟨j, hA, hρ, hj, hlm, hd, hS⟩; obtain ⟨ρ, rfl⟩ := env2 hA hρ
  unfold Q5X
  all_goals (refine Q0 ?_; refine Q0 ?_; refine Q2 ?_; refine zm ?_; refine zm ?_; refine zL ?_; refine Qp rfl rfl ?_; refine zn ?_)
  refine Qm rfl (fun hc => ?_) (fun hc => ?_)
  · skip
    all_goals (refine zsk ?_; refine Q0 ?_; refine Q7 ?_; refine Q0 ?_; refine zD [(0, none), (1, none), (2, none), (3, none), (4, none), (5, none), (6, none), (7, none), (8, some none)] ?_; have hS := hS.drew; refine zm ?_; refine zm ?_; refine zi ?_; intro b1 o1 cs1 x1 hat1 hx1 he1; obtain rfl := Q5t he1; (first | (refine zl hS ?_) | (refine zlk hS ?_)); refine zm ?_; refine zm ?_; refine zi ?_; intro b2 o2 cs2 x2 hat2 hx2 he2; obtain rfl := Q5t he2; (first | (refine zl hS ?_) | (refine zlk hS ?_)))
    all_goals (first | (refine Q22 ?_) | (refine Q23 ?_) | (refine QQ rfl rfl (fun hc => ?_) (fun hc => ?_)))
    all_goals (refine zn ?_)
    all_goals
      first
      | (refine zct ?_ -- Q2u c2
         all_goals (refine Q0 ?_; refine Q2 ?_; refine zm ?_; refine zn ?_; refine zr ?_; refine zf ?_)
         all_goals (first | (refine ⟨_, rfl, ?_, hS.sp⟩; rw [decide_eq_false]; exact fun e => absurd (congrArg List.length e) (by omega); done) | (refine ⟨_, rfl, ?_, hS.sp⟩; rw [decide_eq_false]; rw [hd, Q4 hx1, Q4 hx2]; simp [*]; done)))
      | (refine zcf ?_ -- Q2u c2
         all_goals refine zsk ?_)
    all_goals (refine Q2 ?_; refine zm ?_; refine zad ?_; refine zm ?_; refine zn ?_; exact ⟨⟨j + 1, zh, zh, (by omega), (by omega), by rw [hd, Q4 hx1, Q4 hx2, show x1 = x2 by omega]; simp, hS.sp⟩, Qk (by omega)⟩)
  · skip
    all_goals (refine zex ?_; refine Q0 ?_; refine Q2 ?_; refine zm ?_; refine zn ?_; refine zr ?_; refine zf ?_; (first | (refine ⟨_, rfl, ?_, hS.sp⟩; rw [decide_eq_false]; exact fun e => absurd (congrArg List.length e) (by omega); done) | (refine ⟨_, rfl, ?_, hS.sp⟩; rw [decide_eq_false]; rw [hd, Q4 hx1, Q4 hx2]; simp [*]; done) | (refine ⟨_, rfl, ?_, hS.sp⟩; rw [decide_eq_true]; rw [hd, List.drop_of_length_le (by omega), List.drop_of_length_le (by omega)]; done)))
theorem Qe8 {x y : To} {cx : Cx} {w : World} {L : List Res} {cs ds : List Value} (hx : toR.at cx cs x) (hy : toR.at cx ds y) (hS : St cx w L) : Rets Tryd.prog QfS [.agg ⟨cs⟩, .agg ⟨ds⟩] w fun u w' => u = .bool (decide (x = y)) ∧ St cx w' L := by
  obtain ⟨n, xr, xa⟩ := x
  obtain ⟨n2, yr, ya⟩ := y
  obtain ⟨v1, v2, rfl, h1, h2⟩ := Qcj hx
  obtain ⟨v3, v4, rfl, h3, h4⟩ := Qcj hy
  simp only [To.mk.injEq] at *
  all_goals refine Qfl ?_
  all_goals (unfold R_sameTo_lc; refine Q0 ?_; refine Q2 ?_; refine zb hS ?_; intro p2 w1 hS; refine zb hS ?_; intro p3 w1 hS; refine zm ?_; refine zn ?_; refine Q0 ?_; refine Q2 ?_; refine zf0 ?_; refine zl hS ?_; refine zf0 ?_; refine zl hS ?_)
  all_goals (first | (refine QM ?_) | (refine QR ?_) | (refine Q9 rfl rfl (fun hc => ?_) (fun hc => ?_)))
  all_goals (refine zm ?_; (first | refine zgn ?_ | (refine zgy ?_; refine zf0 ?_)); (first | refine zgn ?_ | (refine zgy ?_; refine zl hS ?_)); (first | refine zgn ?_ | (refine zgy ?_; refine zf0 ?_)); (first | refine zgn ?_ | (refine zgy ?_; refine zl hS ?_)))
  all_goals ((first | (refine zgn ?_) | (refine zgy ?_; refine zR2 (c := Q8r h1 h3 hS) (h := ?_); rintro v1 w1 ⟨rfl, hS⟩; (cases hdec : decide (xr = yr)); have hg := of_decide_eq_false hdec; rotate_left; have hg := of_decide_eq_true hdec; all_goals skip)))
  all_goals ((first | (refine zpt ?_) | (refine zpf ?_)); refine zm ?_; (first | refine zgn ?_ | (refine zgy ?_; refine zf0 ?_)); (first | refine zgn ?_ | (refine zgy ?_; refine zl hS ?_)); (first | refine zgn ?_ | (refine zgy ?_; refine zf0 ?_)); (first | refine zgn ?_ | (refine zgy ?_; refine zl hS ?_)); (first | (refine zgn ?_) | (refine zgy ?_; refine zR2 (c := Q8r h2 h4 hS) (h := ?_); rintro v1 w1 ⟨rfl, hS⟩)); (first | (refine zpt ?_) | (refine zpf ?_)); refine zm ?_; refine zn ?_; refine zr ?_; refine zf ?_; refine ⟨_, rfl, ?_, hS.sp⟩; (simp [*]); done)
theorem Qg1 {x y : Ins} {cx : Cx} {w : World} {L : List Res} {cs ds : List Value} (hx : insR.at cx cs x) (hy : insR.at cx ds y) (hS : St cx w L) : Rets Tryd.prog QeG [.agg ⟨cs⟩, .agg ⟨ds⟩] w fun u w' => u = .bool (decide (x = y)) ∧ St cx w' L := by
  obtain ⟨n, a, b, c, k, nn, xr, xa⟩ := x
  obtain ⟨n2, a2, b2, c2, k2, nn2, yr, ya⟩ := y
  obtain ⟨v1, v2, rfl, h1, h2⟩ := Q1U hx
  obtain ⟨v3, v4, rfl, h3, h4⟩ := Q1U hy
  simp only [Ins.mk.injEq] at *
  all_goals refine QeF ?_
  all_goals (unfold R_sameIns_lc; refine Q0 ?_; refine Q2 ?_; refine zb hS ?_; intro p2 w1 hS; refine zb hS ?_; intro p3 w1 hS; refine zm ?_; refine zn ?_; refine Q0 ?_; refine Q2 ?_; refine zf0 ?_; refine zl hS ?_; refine zf0 ?_; refine zl hS ?_)
  all_goals (first | (refine QM ?_) | (refine QR ?_) | (refine Q9 rfl rfl (fun hc => ?_) (fun hc => ?_)))
  all_goals (refine zm ?_; (first | refine zgn ?_ | (refine zgy ?_; refine zf0 ?_)); (first | refine zgn ?_ | (refine zgy ?_; refine zl hS ?_)); (first | refine zgn ?_ | (refine zgy ?_; refine zf0 ?_)); (first | refine zgn ?_ | (refine zgy ?_; refine zl hS ?_)))
  all_goals (first | refine zgn ?_ | (refine zgy ?_; (first | (refine QM ?_) | (refine QR ?_) | (refine Q9 rfl rfl (fun hc => ?_) (fun hc => ?_)))))
  all_goals ((first | (refine zpt ?_) | (refine zpf ?_)); refine zm ?_; (first | refine zgn ?_ | (refine zgy ?_; refine zf0 ?_)); (first | refine zgn ?_ | (refine zgy ?_; refine zl hS ?_)); (first | refine zgn ?_ | (refine zgy ?_; refine zf0 ?_)); (first | refine zgn ?_ | (refine zgy ?_; refine zl hS ?_)))
  all_goals (first | refine zgn ?_ | (refine zgy ?_; (first | (refine QM ?_) | (refine QR ?_) | (refine Q9 rfl rfl (fun hc => ?_) (fun hc => ?_)))))
  all_goals ((first | (refine zpt ?_) | (refine zpf ?_)); refine zm ?_; (first | refine zgn ?_ | (refine zgy ?_; refine zf0 ?_)); (first | refine zgn ?_ | (refine zgy ?_; refine zl hS ?_)); (first | refine zgn ?_ | (refine zgy ?_; refine zf0 ?_)); (first | refine zgn ?_ | (refine zgy ?_; refine zl hS ?_)))
  all_goals (first | refine zgn ?_ | (refine zgy ?_; (first | (refine QM ?_) | (refine QR ?_) | (refine Q9 rfl rfl (fun hc => ?_) (fun hc => ?_)))))
  all_goals ((first | (refine zpt ?_) | (refine zpf ?_)); refine zm ?_; (first | refine zgn ?_ | (refine zgy ?_; refine zf0 ?_)); (first | refine zgn ?_ | (refine zgy ?_; refine zl hS ?_)); (first | refine zgn ?_ | (refine zgy ?_; refine zf0 ?_)); (first | refine zgn ?_ | (refine zgy ?_; refine zl hS ?_)))
  all_goals (first | refine zgn ?_ | (refine zgy ?_; (first | (refine QM ?_) | (refine QR ?_) | (refine Q9 rfl rfl (fun hc => ?_) (fun hc => ?_)))))
  all_goals ((first | (refine zpt ?_) | (refine zpf ?_)); refine zm ?_; (first | refine zgn ?_ | (refine zgy ?_; refine zf0 ?_)); (first | refine zgn ?_ | (refine zgy ?_; refine zl hS ?_)); (first | refine zgn ?_ | (refine zgy ?_; refine zf0 ?_)); (first | refine zgn ?_ | (refine zgy ?_; refine zl hS ?_)))
  all_goals (first | refine zgn ?_ | (refine zgy ?_; (first | (refine QM ?_) | (refine QR ?_) | (refine Q9 rfl rfl (fun hc => ?_) (fun hc => ?_)))))
  all_goals ((first | (refine zpt ?_) | (refine zpf ?_)); refine zm ?_; (first | refine zgn ?_ | (refine zgy ?_; refine zf0 ?_)); (first | refine zgn ?_ | (refine zgy ?_; refine zl hS ?_)); (first | refine zgn ?_ | (refine zgy ?_; refine zf0 ?_)); (first | refine zgn ?_ | (refine zgy ?_; refine zl hS ?_)))
  all_goals ((first | (refine zgn ?_) | (refine zgy ?_; refine zR2 (c := Q8r h1 h3 hS) (h := ?_); rintro v1 w1 ⟨rfl, hS⟩; (cases hdec : decide (xr = yr)); have hg := of_decide_eq_false hdec; rotate_left; have hg := of_decide_eq_true hdec; all_goals skip)))
  all_goals ((first | (refine zpt ?_) | (refine zpf ?_)); refine zm ?_; (first | refine zgn ?_ | (refine zgy ?_; refine zf0 ?_)); (first | refine zgn ?_ | (refine zgy ?_; refine zl hS ?_)); (first | refine zgn ?_ | (refine zgy ?_; refine zf0 ?_)); (first | refine zgn ?_ | (refine zgy ?_; refine zl hS ?_)); (first | (refine zgn ?_) | (refine zgy ?_; refine zR2 (c := Q8r h2 h4 hS) (h := ?_); rintro v1 w1 ⟨rfl, hS⟩)); (first | (refine zpt ?_) | (refine zpf ?_)); refine zm ?_; refine zn ?_; refine zr ?_; refine zf ?_; refine ⟨_, rfl, ?_, hS.sp⟩; (simp [*]); done)
end Go.Proofs.YtjecflbbcnocdaaDoor
namespace Go.Proofs.YtjecflbbcnocdaaDoor
open Go.Lir
set_option maxHeartbeats 1000000
attribute [local irreducible] LC.wp Q1 Qu Qw retQ Q1z LO.wp Qb Calls
set_option linter.unusedSimpArgs false
set_option linter.unusedVariables false
theorem QbF {x : Module} {cx : Cx} {w : World} {L : List Res} {cs : List Value} (hx : modR.at cx cs x) (hS : St cx w L) : Rets Tryd.prog Qy [.agg ⟨cs⟩] w fun u w' => ∃ b, u = .bool b ∧ (b = false → x.Short) ∧ St cx w' L := by
  obtain ⟨vf, rfl, hl⟩ := Q2p hx
  obtain ⟨l⟩ := x
  have hl : funcR.sl cx vf l := hl
  have hlen := hl.len
  all_goals refine Q7R ?_
  all_goals (unfold R_GreatModule_lc; refine Q0 ?_; refine Q2 ?_; refine zb hS ?_; intro p1 w1 hS; refine zm ?_; refine zn ?_; refine Q0 ?_; refine Q0 ?_; refine Q2 ?_; refine zf0 ?_; refine zl hS ?_; refine zL ?_)
  all_goals (first | (refine Q10 ?_) | (refine Q14 ?_) | (refine Qi rfl rfl (fun hc => ?_) (fun hc => ?_)))
  all_goals (refine zn ?_)
  all_goals
    first
    | (refine zct ?_ -- Qy c0
       all_goals (refine Q0 ?_; refine Q2 ?_; refine zm ?_; refine zn ?_; refine zr ?_; refine zf ?_)
       all_goals (exact ⟨_, rfl, true, rfl, fun h => Bool.noConfusion h, hS.sp⟩))
    | (refine zcf ?_ -- Qy c0
       all_goals refine zsk ?_)
  all_goals (refine Q0 ?_; refine Q0 ?_; refine Q2 ?_; refine zm ?_; refine zn ?_; refine Q7 ?_)
  refine zoL hS [1] (fun A LL ρ' w' => ∃ (j : Nat), Has ρ' A ∧ Has ρ' [(3, .int .i64 j)] ∧ (j ≤ l.length) ∧ (l.length ≤ 20) ∧ (∀ f ∈ l.take j, f.Short) ∧ St cx w' (LL)) (fun ρ' _ => (l.length - iv (ρ' 3)).toNat) ?_ ?_
  · exact ⟨0, zh, zh, (by omega), (by omega), by simp, hS.sp⟩
  rintro ρ w1 ⟨j, hA, hρ, hj, hl20, hd, hS⟩; obtain ⟨ρ, rfl⟩ := env2 hA hρ
  unfold Q3w
  all_goals (refine Q0 ?_; refine Q0 ?_; refine Q2 ?_; refine zm ?_; refine zf0 ?_; refine zl hS ?_; refine zL ?_; refine Qp rfl rfl ?_; refine zn ?_)
  refine Qm rfl (fun hc => ?_) (fun hc => ?_)
  · skip
    all_goals (refine zsk ?_; refine Q0 ?_; refine Q7 ?_; refine Q0 ?_; refine Q2 ?_; refine zf0 ?_; refine zl hS ?_; refine zm ?_; refine zi ?_; intro b1 o1 cs1 x1 hat1 hx1 he1; obtain ⟨vp1, vr1, vb1, rfl, hp1, hr1, hb1⟩ := Q1l he1; (first | (refine zv hS ?_) | (refine zvk hS ?_)); refine Qf hS ?_; intro p4 w1 hS; refine zsn hS ?_; intro w1 hS; have hS := hS.ns; refine zn ?_; refine Q0 ?_; refine Q0 ?_; refine Q2 ?_; refine zf0 ?_; refine zl hS ?_; refine zL ?_)
    all_goals (first | (refine Q10 ?_) | (refine Q14 ?_) | (refine Qi rfl rfl (fun hc => ?_) (fun hc => ?_)))
    all_goals (refine zm ?_; (first | refine zgn ?_ | (refine zgy ?_; refine zf0 ?_)); (first | refine zgn ?_ | (refine zgy ?_; refine zl hS ?_)))
    all_goals ((first | (refine zgn ?_) | (refine zgy ?_; refine zR1 (c := Qd7 hp1 hS) (h := ?_); rintro v1 w1 ⟨rfl, hS⟩; cases hg1 : Tys.great x1.params)))
    all_goals ((first | (refine zpt ?_) | (refine zpf ?_)); refine zm ?_; (first | refine zgn ?_ | (refine zgy ?_; refine zf0 ?_)); (first | refine zgn ?_ | (refine zgy ?_; refine zl hS ?_)))
    all_goals ((first | (refine zgn ?_) | (refine zgy ?_; refine zR1 (c := Qd7 hr1 hS) (h := ?_); rintro v1 w1 ⟨rfl, hS⟩; cases hg2 : Tys.great x1.results)))
    all_goals ((first | (refine zpt ?_) | (refine zpf ?_)); refine zn ?_)
    all_goals
      first
      | (refine zct ?_ -- Qy c2
         all_goals (refine Q0 ?_; refine Q2 ?_; refine zm ?_; refine zn ?_; refine zr ?_; refine zf ?_)
         all_goals (exact ⟨_, rfl, true, rfl, fun h => Bool.noConfusion h, hS.sp⟩))
      | (refine zcf ?_ -- Qy c2
         all_goals refine zsk ?_)
    all_goals (refine Q0 ?_; have hlb := hb1.len; refine Q2 ?_; refine zm ?_; refine zn ?_; refine Q7 ?_)
    refine zoL hS [1, 3, 4] (fun A LL ρ' w' => ∃ (i : Nat), Has ρ' A ∧ Has ρ' [(5, .int .i64 i)] ∧ (i ≤ x1.blocks.length) ∧ (x1.blocks.length ≤ 30) ∧ (Tys.great x1.params = false) ∧ (Tys.great x1.results = false) ∧ (∀ f ∈ x1.blocks.take i, f.Short) ∧ St cx w' (LL)) (fun ρ' _ => (x1.blocks.length - iv (ρ' 5)).toNat) ?_ ?_
    · exact ⟨0, zh, zh, (by omega), (by omega), by assumption, by assumption, by simp, hS.sp⟩
    rintro ρ w1 ⟨i, hA, hρ, hi, hl30, hg1, hg2, hd1, hS⟩; obtain ⟨ρ, rfl⟩ := env2 hA hρ
    unfold Q3v
    all_goals (refine Q0 ?_; refine Q0 ?_; refine Q2 ?_; refine zm ?_; refine zf0 ?_; refine zl hS ?_; refine zL ?_; refine Qp rfl rfl ?_; refine zn ?_)
    refine Qm rfl (fun hc => ?_) (fun hc => ?_)
    · skip
      all_goals (refine zsk ?_; refine Q0 ?_; refine Q7 ?_; refine Q0 ?_; refine Q2 ?_; refine zf0 ?_; refine zl hS ?_; refine zm ?_; refine zi ?_; intro b2 o2 cs2 x2 hat2 hx2 he2; obtain ⟨vp2, vc2, ve21, ve22, ve23, ve24, ve25, rfl, hp2, hc2, he21, he22, he23, he24, he25⟩ := Q19 he2; (first | (refine zv hS ?_) | (refine zvk hS ?_)); refine Qf hS ?_; intro p6 w1 hS; refine zsn hS ?_; intro w1 hS; have hS := hS.ns; refine zn ?_; refine Q0 ?_; refine Q0 ?_; refine Q2 ?_; refine zf0 ?_; refine zl hS ?_; refine zL ?_)
      all_goals (first | (refine Q10 ?_) | (refine Q14 ?_) | (refine Qi rfl rfl (fun hc => ?_) (fun hc => ?_)))
      all_goals (refine zm ?_; (first | refine zgn ?_ | (refine zgy ?_; refine zf0 ?_)); (first | refine zgn ?_ | (refine zgy ?_; refine zl hS ?_)))
      all_goals ((first | (refine zgn ?_) | (refine zgy ?_; refine zR1 (c := Qd7 hp2 hS) (h := ?_); rintro v1 w1 ⟨rfl, hS⟩; cases hg3 : Tys.great x2.params)))
      all_goals ((first | (refine zpt ?_) | (refine zpf ?_)); refine zm ?_; (first | refine zgn ?_ | (refine zgy ?_; refine zf0 ?_)); (first | refine zgn ?_ | (refine zgy ?_; (first | refine zf0 ?_ | refine zfd ?_))); (first | refine zgn ?_ | (refine zgy ?_; refine zl hS ?_)); (first | refine zgn ?_ | (refine zgy ?_; refine zL ?_)))
      all_goals (first | refine zgn ?_ | (refine zgy ?_; (first | (refine Q10 ?_) | (refine Q14 ?_) | (refine Qi rfl rfl (fun hc => ?_) (fun hc => ?_)))))
      all_goals ((first | (refine zpt ?_) | (refine zpf ?_)); refine zm ?_; (first | refine zgn ?_ | (refine zgy ?_; refine zf0 ?_)); (first | refine zgn ?_ | (refine zgy ?_; (first | refine zf0 ?_ | refine zfd ?_))); (first | refine zgn ?_ | (refine zgy ?_; (first | refine zf0 ?_ | refine zfd ?_))); (first | refine zgn ?_ | (refine zgy ?_; refine zl hS ?_)); (first | refine zgn ?_ | (refine zgy ?_; refine zL ?_)))
      all_goals (first | refine zgn ?_ | (refine zgy ?_; (first | (refine Q10 ?_) | (refine Q14 ?_) | (refine Qi rfl rfl (fun hc => ?_) (fun hc => ?_)))))
      all_goals ((first | (refine zpt ?_) | (refine zpf ?_)); refine zm ?_; (first | refine zgn ?_ | (refine zgy ?_; refine zf0 ?_)); (first | refine zgn ?_ | (refine zgy ?_; (first | refine zf0 ?_ | refine zfd ?_))); (first | refine zgn ?_ | (refine zgy ?_; (first | refine zf0 ?_ | refine zfd ?_))); (first | refine zgn ?_ | (refine zgy ?_; refine zl hS ?_)); (first | refine zgn ?_ | (refine zgy ?_; refine zL ?_)))
      all_goals (first | refine zgn ?_ | (refine zgy ?_; (first | (refine Q10 ?_) | (refine Q14 ?_) | (refine Qi rfl rfl (fun hc => ?_) (fun hc => ?_)))))
      all_goals ((first | (refine zpt ?_) | (refine zpf ?_)); refine zm ?_; (first | refine zgn ?_ | (refine zgy ?_; refine zf0 ?_)); (first | refine zgn ?_ | (refine zgy ?_; (first | refine zf0 ?_ | refine zfd ?_))); (first | refine zgn ?_ | (refine zgy ?_; (first | refine zf0 ?_ | refine zfd ?_))); (first | refine zgn ?_ | (refine zgy ?_; refine zl hS ?_)); (first | refine zgn ?_ | (refine zgy ?_; refine zL ?_)))
      all_goals (first | refine zgn ?_ | (refine zgy ?_; (first | (refine Q10 ?_) | (refine Q14 ?_) | (refine Qi rfl rfl (fun hc => ?_) (fun hc => ?_)))))
      all_goals ((first | (refine zpt ?_) | (refine zpf ?_)); refine zm ?_; (first | refine zgn ?_ | (refine zgy ?_; refine zf0 ?_)); (first | refine zgn ?_ | (refine zgy ?_; (first | refine zf0 ?_ | refine zfd ?_))); (first | refine zgn ?_ | (refine zgy ?_; (first | refine zf0 ?_ | refine zfd ?_))); (first | refine zgn ?_ | (refine zgy ?_; refine zl hS ?_)); (first | refine zgn ?_ | (refine zgy ?_; refine zL ?_)))
      all_goals (first | refine zgn ?_ | (refine zgy ?_; (first | (refine Q10 ?_) | (refine Q14 ?_) | (refine Qi rfl rfl (fun hc => ?_) (fun hc => ?_)))))
      all_goals ((first | (refine zpt ?_) | (refine zpf ?_)); refine zn ?_)
      all_goals
        first
        | (refine zct ?_ -- Qy c4
           all_goals (refine Q0 ?_; refine Q2 ?_; refine zm ?_; refine zn ?_; refine zr ?_; refine zf ?_)
           all_goals (exact ⟨_, rfl, true, rfl, fun h => Bool.noConfusion h, hS.sp⟩))
        | (refine zcf ?_ -- Qy c4
           all_goals refine zsk ?_)
      all_goals (refine Q0 ?_; have hlc := hc2.len; refine Q2 ?_; refine zm ?_; refine zn ?_; refine Q7 ?_)
      refine zoL hS [1, 3, 4, 5, 6] (fun A LL ρ' w' => ∃ (k : Nat), Has ρ' A ∧ Has ρ' [(7, .int .i64 k)] ∧ (k ≤ x2.code.length) ∧ (x2.code.length ≤ 200) ∧ (Tys.great x2.params = false) ∧ (x2.fin.Short) ∧ (∀ f ∈ x2.code.take k, f.Short) ∧ St cx w' (LL)) (fun ρ' _ => (x2.code.length - iv (ρ' 7)).toNat) ?_ ?_
      · exact ⟨0, zh, zh, (by omega), (by omega), by assumption, ⟨⟨by omega, by omega⟩, ⟨by omega, by omega⟩, by omega⟩, by simp, hS.sp⟩
      rintro ρ w1 ⟨k, hA, hρ, hk, hl200, hg3, hfin, hd2, hS⟩; obtain ⟨ρ, rfl⟩ := env2 hA hρ
      unfold Q3i
      all_goals (refine Q0 ?_; refine Q0 ?_; refine Q2 ?_; refine zm ?_; refine zf0 ?_; refine zl hS ?_; refine zL ?_; refine Qp rfl rfl ?_; refine zn ?_)
      refine Qm rfl (fun hc => ?_) (fun hc => ?_)
      · skip
        all_goals (refine zsk ?_; refine Q0 ?_; refine Q7 ?_; refine Q0 ?_; refine Q2 ?_; refine zf0 ?_; refine zl hS ?_; refine zm ?_; refine zi ?_; intro b3 o3 cs3 x3 hat3 hx3 he3; obtain ⟨vr3, va3, rfl, hr3, ha3⟩ := Q1U he3; (first | refine zf0 ?_ | refine zfd ?_); (first | (refine zl hS ?_) | (refine zlk hS ?_) | (refine zlj hS ?_)); refine zL ?_)
        all_goals (first | (refine Q10 ?_) | (refine Q14 ?_) | (refine Qi rfl rfl (fun hc => ?_) (fun hc => ?_)))
        all_goals (refine zm ?_; (first | refine zgn ?_ | (refine zgy ?_; refine zf0 ?_)); (first | refine zgn ?_ | (refine zgy ?_; refine zl hS ?_)); (first | refine zgn ?_ | (refine zgy ?_; refine zm ?_)); (first | (refine zgn ?_) | (refine zgy ?_; refine Qgy vw rfl (by assumption) rfl (by omega) ?_; intro b4 o4 cs4 x4 hat4 hx4 he4; rw [hx3] at hx4; obtain rfl : x3 = x4 := Option.some.inj hx4; obtain ⟨vr4, va4, rfl, hr4, ha4⟩ := Q1U he4)); (first | refine zgn ?_ | (refine zgy ?_; (first | refine zf0 ?_ | refine zfd ?_))); (first | refine zgn ?_ | (refine zgy ?_; (first | (refine zl hS ?_) | (refine zlk hS ?_) | (refine zlj hS ?_)))); (first | refine zgn ?_ | (refine zgy ?_; refine zL ?_)))
        all_goals (first | refine zgn ?_ | (refine zgy ?_; (first | (refine Q10 ?_) | (refine Q14 ?_) | (refine Qi rfl rfl (fun hc => ?_) (fun hc => ?_)))))
        all_goals ((first | (refine zpt ?_) | (refine zpf ?_)); refine zn ?_)
        all_goals
          first
          | (refine zct ?_ -- Qy c6
             all_goals (refine Q0 ?_; refine Q2 ?_; refine zm ?_; refine zn ?_; refine zr ?_; refine zf ?_)
             all_goals (exact ⟨_, rfl, true, rfl, fun h => Bool.noConfusion h, hS.sp⟩))
          | (refine zcf ?_ -- Qy c6
             all_goals refine zsk ?_)
        all_goals (refine Q2 ?_; refine zm ?_; refine zad ?_; refine zm ?_; refine zn ?_; exact ⟨⟨k + 1, zh, zh, (by omega), (by omega), by assumption, by assumption, Q80 hd2 hx3 ⟨by omega, by omega⟩, hS.sp⟩, Qk (by omega)⟩)
      · skip
        all_goals (refine zex ?_; refine Q2 ?_; refine zm ?_; refine zad ?_; refine zm ?_; refine zn ?_; exact ⟨⟨i + 1, zh, zh, (by omega), (by omega), by assumption, by assumption, Q80 hd1 hx2 ⟨Tys.Short.of_great hg3, by omega, Q7Z hd2 (by omega), hfin⟩, hS.sp⟩, Qk (by omega)⟩)
    · skip
      all_goals (refine zex ?_; refine Q2 ?_; refine zm ?_; refine zad ?_; refine zm ?_; refine zn ?_; exact ⟨⟨j + 1, zh, zh, (by omega), (by omega), Q80 hd hx1 ⟨Tys.Short.of_great hg1, Tys.Short.of_great hg2, by omega, Q7Z hd1 (by omega)⟩, hS.sp⟩, Qk (by omega)⟩)
  · skip
    all_goals (refine zex ?_; refine Q0 ?_; refine Q2 ?_; refine zm ?_; refine zn ?_; refine zr ?_; refine zf ?_)
    all_goals (first | (exact ⟨_, rfl, true, rfl, fun h => Bool.noConfusion h, hS.sp⟩) | (have h1 : l.length ≤ 100000 := (by omega); exact ⟨_, rfl, false, rfl, fun _ => ⟨h1, Q7Z (l := l) hd (by omega)⟩, hS.sp⟩))
end Go.Proofs.YtjecflbbcnocdaaDoor
namespace Go.Proofs.YtjecflbbcnocdaaDoor
open Go.Lir
set_option maxHeartbeats 1000000
attribute [local irreducible] LC.wp Q1 Qu Qw retQ Q1z LO.wp Qb Calls
set_option linter.unusedSimpArgs false
set_option linter.unusedVariables false
variable {cx : Cx} {w : World} {L : List Res} {i : Nat}
abbrev jdg (b : Nat) (vf : Value) (g : Flt) (at' : Int) : Res := blk b 86 [vf, .int .i64 g.1, .int .i64 g.2, .int .i64 at']
theorem Q1p {is : Bool} {c : Int} {vf : Value} {g : Flt} {at' : Int} {b : Nat} (hc0 : is = true → c ≠ 0) (hS : St cx w L) (hi : nth L i = some (jdg b vf g at')) :
    Rets Tryd.prog Q1W [.pointer (some ⟨b, 0, none⟩), .bool is, .int .i64 c] w fun u w' => u = .tuple #[] ∧ St cx w' (L.set i (jdg b vf (orF g (mkF (if is = true then c else 0) at')) at')) := by
  have hS := hS.out hi
  cases is with
  | false =>
    have e : orF g (mkF (if false = true then c else 0) at') = g := Qg6 rfl
    rw [e]
    all_goals refine Q1V ?_
    all_goals (unfold code_judge_fail_lc; refine Q0 ?_; refine Q2 ?_; refine zm ?_; refine zm ?_; refine zgn ?_; refine zgn ?_; refine zgn ?_; refine zgn ?_; refine zgn ?_)
    all_goals (refine zgn ?_)
    all_goals ((first | (refine zpt ?_) | (refine zpf ?_)); refine zn ?_)
    all_goals
      first
      | (refine zct ?_ -- Q1W c0
         all_goals (refine Q2 ?_; refine zm ?_; refine zm ?_; refine zm ?_; refine znc ?_; refine zf0 ?_; refine zl hS ?_; refine zb2 [_, _] ?_; refine znc ?_; refine zf0 ?_; refine zsn hS ?_; intro w1 hS; have hS := hS.ns)
         all_goals refine zn ?_)
      | (refine zcf ?_ -- Q1W c0
         all_goals refine zsk ?_)
    all_goals (refine Q3J ?_; exact ⟨_, rfl, rfl, St.back hS hi⟩)
  | true =>
    have hc0 := hc0 rfl
    by_cases h0 : g.1 = 0
    · have e : orF g (mkF (if true = true then c else 0) at') = (c, at') := by rw [if_pos rfl, mkF_c hc0]; unfold orF; rw [if_pos ⟨h0, hc0⟩]
      rw [e]
      all_goals refine Q1V ?_
      all_goals (unfold code_judge_fail_lc; refine Q0 ?_; refine Q2 ?_; refine zm ?_; refine zm ?_; (first | refine zgn ?_ | (refine zgy ?_; refine zm ?_)); (first | refine zgn ?_ | (refine zgy ?_; refine znc ?_)); (first | refine zgn ?_ | (refine zgy ?_; refine zf0 ?_)); (first | refine zgn ?_ | (refine zgy ?_; (first | refine zf0 ?_ | refine zfd ?_))); (first | refine zgn ?_ | (refine zgy ?_; refine zl hS ?_)))
      all_goals (first | refine zgn ?_ | (refine zgy ?_; refine QM ?_))
      all_goals (refine zpt ?_; refine zn ?_)
      all_goals refine zct ?_
      all_goals (refine Q2 ?_; refine zm ?_; refine zm ?_; refine zm ?_; refine znc ?_; refine zf0 ?_; refine zl hS ?_; refine zb2 [_, _] ?_; refine znc ?_; refine zf0 ?_; (first | (refine zsn hS ?_; intro w1 hS; have hS := hS.ns) | (refine zsm hS ?_; intro w1 hS; have hS := hS.ns)); refine zn ?_; refine Q3J ?_; exact ⟨_, rfl, rfl, St.back hS hi⟩)
    · rw [Qg7 h0]
      all_goals refine Q1V ?_
      all_goals (unfold code_judge_fail_lc; refine Q0 ?_; refine Q2 ?_; refine zm ?_; refine zm ?_; (first | refine zgn ?_ | (refine zgy ?_; refine zm ?_)); (first | refine zgn ?_ | (refine zgy ?_; refine znc ?_)); (first | refine zgn ?_ | (refine zgy ?_; refine zf0 ?_)); (first | refine zgn ?_ | (refine zgy ?_; (first | refine zf0 ?_ | refine zfd ?_))); (first | refine zgn ?_ | (refine zgy ?_; refine zl hS ?_)))
      all_goals (first | refine zgn ?_ | (refine zgy ?_; (first | (refine QM ?_) | (refine QR ?_))))
      all_goals (refine zpt ?_; refine zn ?_)
      all_goals refine zcf ?_
      all_goals (refine zsk ?_; refine Q3J ?_; exact ⟨_, rfl, rfl, St.back hS hi⟩)
theorem uindex_c {s : List UInt8} {c : Nat} {v : Value} (hK : u8R.sl cx v s) (hS : St cx w L) : Rets Tryd.prog QY [v, .int .u8 c] w fun u w' => ∃ r : Int, u = .int .i64 r ∧ (0 ≤ r ↔ (s.any fun b => decide (b.toNat = c)) = true) ∧ St cx w' L := by
  have hlen := hK.len
  all_goals refine Q33 ?_
  all_goals (unfold slices_Index_byte_byte_lc; refine Q0 ?_; refine Q2 ?_; refine zm ?_; refine zn ?_; refine Q0 ?_; refine Q0 ?_; refine Q2 ?_; refine zm ?_; refine zL ?_; refine zm ?_; refine zn ?_; refine Q7 ?_)
  refine zoL hS [0, 1, 7] (fun A LL ρ' w' => ∃ (j : Nat), Has ρ' A ∧ Has ρ' [(8, .int .i64 j)] ∧ (j ≤ s.length) ∧ ((s.any fun b => decide (b.toNat = c)) = ((s.drop j).any fun b => decide (b.toNat = c))) ∧ St cx w' (LL)) (fun ρ' _ => (s.length - iv (ρ' 8)).toNat) ?_ ?_
  · exact ⟨0, zh, zh, (by omega), by simp, hS.sp⟩
  rintro ρ w1 ⟨j, hA, hρ, hj, hd, hS⟩; obtain ⟨ρ, rfl⟩ := env2 hA hρ
  unfold Q1C
  all_goals (refine Q0 ?_; refine Q2 ?_; refine Qp rfl rfl ?_; refine zn ?_; refine Q0 ?_)
  refine Qm rfl (fun hc => ?_) (fun hc => ?_)
  · skip
    all_goals (refine zsk ?_; refine Q0 ?_; refine Q7 ?_; refine Q0 ?_; refine Q2 ?_; refine zm ?_; refine zm ?_; refine zn ?_; refine Q0 ?_; refine Q2 ?_; refine zm ?_; refine zm ?_; refine zm ?_; refine zi ?_; intro b1 o1 cs1 x1 hat1 hx1 he1; (first | (obtain rfl := Q5t he1) | (obtain rfl := u8R_out he1)); (first | (refine zl hS ?_) | (refine zlk hS ?_)))
    all_goals (first | (refine QM ?_) | (refine QR ?_) | (refine Q9 rfl rfl (fun hc => ?_) (fun hc => ?_)))
    all_goals (refine zn ?_)
    all_goals
      first
      | (refine zct ?_ -- QY c1
         all_goals (refine Q0 ?_; refine Q2 ?_; refine zm ?_; refine zm ?_; refine zn ?_; refine zr ?_; refine zf ?_)
         all_goals (exact ⟨_, rfl, j, rfl, by rw [hd, Q4 hx1, List.any_cons, decide_eq_true (by omega), Bool.true_or]; simp, hS.sp⟩))
      | (refine zcf ?_ -- QY c1
         all_goals refine zsk ?_)
    all_goals (refine Q2 ?_; refine zad ?_; refine zm ?_; refine zn ?_; exact ⟨⟨j + 1, zh, zh, (by omega), by rw [hd, Q4 hx1, List.any_cons, decide_eq_false (by omega), Bool.false_or], hS.sp⟩, Qk (by omega)⟩)
  · skip
    all_goals (refine zex ?_; refine Q0 ?_; refine Q2 ?_; refine zm ?_; refine zn ?_; refine zr ?_; refine zf ?_; (first | (exact ⟨_, rfl, j, rfl, by rw [hd, Q4 hx1, List.any_cons, decide_eq_true (by omega), Bool.true_or]; simp, hS.sp⟩) | (exact ⟨_, rfl, -1, rfl, by rw [hd, List.drop_of_length_le (by omega)]; simp, hS.sp⟩)))
theorem QeL {s : List UInt8} {c : Nat} {v : Value} (hK : u8R.sl cx v s) (hS : St cx w L) : Rets Tryd.prog Q1D [v, .int .u8 c] w fun u w' => u = .bool (s.any fun b => decide (b.toNat = c)) ∧ St cx w' L := by
  all_goals refine Q2n ?_
  all_goals (unfold slices_Contains_byte_byte_lc; refine Q0 ?_; refine Q2 ?_; refine zm ?_; refine zn ?_; refine Q0 ?_; refine Q2 ?_; refine zm ?_; refine zm ?_; refine zR2 (c := uindex_c hK hS) (h := ?_); rintro v1 w1 ⟨r, rfl, hr, hS⟩)
  all_goals (first | (refine QdU ?_) | (refine QdV ?_) | (refine Q3E rfl rfl (fun hc => ?_) (fun hc => ?_)))
  all_goals (refine zm ?_; refine zn ?_; refine zr ?_; refine zf ?_)
  all_goals (refine ⟨_, rfl, ?_, hS.sp⟩; (cases hb : (s.any fun b => decide (b.toNat = c)) <;> simp_all); done)
theorem Q81 {s : ByteArray} {c : Nat} (hs : s.size ≤ 1000000) (hS : St cx w L) : Rets Tryd.prog Qey [.string s, .int .u8 c] w fun u w' => u = .bool (QN s c) ∧ St cx w' L := by
  have hle := St.refl hS
  all_goals refine Qex ?_
  all_goals (unfold code_with_lc; refine Q0 ?_; refine Q2 ?_; refine zm ?_; refine zn ?_; refine Q0 ?_; refine Q2 ?_; refine zm ?_; refine s_bytes (e := 5) (by kernel_rfl) (by kernel_rfl) (by kernel_rfl) hS vw ?_; intro v1 w1 hS; obtain ⟨c1, hle2, hS, hk1⟩ := St.freezeL (r := u8R) hS (u8R_ls _) rfl (by rw [Array.length_toList]; show s.size ≤ 140737488355328; omega); refine zm ?_; refine zR2 (c := QeL hk1 hS) (h := ?_); rintro v1 w1 ⟨rfl, hS⟩; refine zm ?_; refine zn ?_; refine zr ?_; refine zf ?_; exact ⟨_, rfl, rfl, St.weak hS.sp hle2⟩)
theorem has_c {op : Int} (hS : St cx w L) : Rets Tryd.prog QfP [.int .i64 op] w fun u w' => u = .string (hasF op) ∧ St cx w' L := by
  by_cases hb : op < 1 ∨ 14 < op
  · have e : hasF op = ⟨#[]⟩ := by unfold hasF; rw [if_pos hb]
    rw [e]
    all_goals refine Q9g ?_
    all_goals (unfold code_has_lc; refine Q0 ?_; refine Q2 ?_; refine zm ?_; refine zn ?_; refine Q0 ?_; refine Q0 ?_; refine Q2 ?_; refine zm ?_)
    all_goals (first | (refine Q2D ?_) | (refine Q2E ?_) | (refine Q1i rfl rfl (fun hc => ?_) (fun hc => ?_)))
    all_goals (refine zm ?_; (first | refine zgn ?_ | (refine zgy ?_; refine zm ?_)))
    all_goals (first | refine zgn ?_ | (refine zgy ?_; refine Q10 ?_))
    all_goals ((first | (refine zpt ?_) | (refine zpf ?_)); refine zn ?_)
    all_goals refine zct ?_
    all_goals (refine Q0 ?_; refine Q2 ?_; refine zm ?_; refine zn ?_; refine zr ?_; refine zf ?_; refine ⟨_, rfl, ?_, hS.sp⟩; (rfl); done)
  · have hu : (hasTab.map Value.string)[op.toNat]? = some (.string (hasF op)) := by
      rcases op_cases (op := op) (by omega) (by omega) with rfl | rfl | rfl | rfl | rfl | rfl | rfl | rfl | rfl | rfl | rfl | rfl | rfl | rfl <;> rfl
    generalize hasF op = s at hu ⊢
    all_goals refine Q9g ?_
    all_goals (unfold code_has_lc; refine Q0 ?_; refine Q2 ?_; refine zm ?_; refine zn ?_; refine Q0 ?_; refine Q0 ?_; refine Q2 ?_; refine zm ?_)
    all_goals (first | (refine Q2D ?_) | (refine Q2E ?_))
    all_goals (refine zm ?_; (first | refine zgn ?_ | (refine zgy ?_; refine zm ?_)))
    all_goals (first | refine zgn ?_ | (refine zgy ?_; (first | (refine Q10 ?_) | (refine Q14 ?_))))
    all_goals ((first | (refine zpt ?_) | (refine zpf ?_)); refine zn ?_)
    all_goals refine zcf ?_
    all_goals (refine zsk ?_; refine Q0 ?_; refine Q2 ?_; refine Q8p (cs := [_, _, _, _, _, _, _, _, _, _, _, _, _, _, _]) vw vw vw vw vw vw vw vw vw vw vw vw vw vw vw (by rfl) ?_; refine zm ?_; refine Qe5 (n := 15) (e := 9) (by kernel_rfl) (by kernel_rfl) (by kernel_rfl) vw vw (by omega) (by omega) hu ?_; refine zm ?_; refine zn ?_; refine zr ?_; refine zf ?_; refine ⟨_, rfl, ?_, hS.sp⟩; (rfl); done)
theorem Qh7 (op : Int) : (hasF op).size ≤ 1000000 := by
  by_cases hb : op < 1 ∨ 14 < op
  · unfold hasF; rw [if_pos hb]; decide
  · rcases op_cases (op := op) (by omega) (by omega) with rfl | rfl | rfl | rfl | rfl | rfl | rfl | rfl | rfl | rfl | rfl | rfl | rfl | rfl <;> decide
theorem ins_end {g : Flt} {at' : Int} {n : Nat} {x : Ins} {q : Bool} {c3 : Int} (hq : q = true ↔ (((((((QN (hasF x.op) 97 = false ∧ x.a ≠ 0) ∨ (QN (hasF x.op) 98 = false ∧ x.b ≠ 0)) ∨ (QN (hasF x.op) 99 = false ∧ x.c ≠ 0)) ∨ (QN (hasF x.op) 107 = false ∧ x.k ≠ 0)) ∨ (QN (hasF x.op) 110 = false ∧ x.n ≠ 0)) ∨ (QN (hasF x.op) 103 = false ∧ 0 < x.regs.length)) ∨ (QN (hasF x.op) 114 = false ∧ 0 < x.args.length))) (h3 : c3 = Q1J n x) :
    orF (orF (orF g (mkF (if x.op < 1 ∨ 14 < x.op then 3 else 0) at')) (mkF (if q = true then 4 else 0) at')) (mkF c3 at') = orF g (mkF (Q1c n x) at') := by
  rw [Q1S, Q1S]
  congr 2
  subst h3
  unfold Q1c
  by_cases hb : x.op < 1 ∨ 14 < x.op
  · rw [if_pos hb, if_pos hb]; rfl
  · rw [if_neg hb, if_neg hb]
    obtain ⟨h1, h2, h3, h4, h5, h6, h7⟩ := with_all x.op hb
    rw [h1, h2, h3, h4, h5, h6, h7] at hq
    simp only [or_assoc] at hq
    by_cases ho : x.odd
    · rw [if_pos ho, if_pos (hq.2 ho)]; rfl
    · rw [if_neg ho, if_neg fun h => ho (hq.1 h)]; rfl
theorem Q6o {a b : Int} (h : a ≠ 0) : orC a b = a := if_pos h
theorem Q4D (b : Int) : orC 0 b = b := rfl
section
attribute [local irreducible] orF mkF orC Q1J Q1c Q18 Q1L
set_option maxHeartbeats 1000000 in
theorem ins_c {x : Ins} {n : List Fun} {vf : Value} {g : Flt} {at' : Int} {b : Nat} {cs : List Value} (hx : insR.at cx cs x) (hf : funcR.sl cx vf n) (hS : St cx w L) (hi : nth L i = some (jdg b vf g at')) :
    Rets Tryd.prog Ql [.pointer (some ⟨b, 0, none⟩), .agg ⟨cs⟩] w fun u w' => u = .tuple #[] ∧ St cx w' (L.set i (jdg b vf (orF g (mkF (Q1c n.length x) at')) at')) := by
  have hS := hS.out hi
  obtain ⟨vr, va, rfl, hr, ha⟩ := Q1U hx
  have hlr := hr.len
  have hla := ha.len
  have hln := hf.len
  have hsz := Qh7 x.op
  all_goals refine Q6H ?_
  all_goals (unfold code_judge_ins_lc; refine Q0 ?_; refine Q2 ?_; refine zb hS ?_; intro p3 w1 hS; refine zn ?_)
  refine zM [0, 3] (fun A ρ' w' => Has ρ' A ∧ Has ρ' [] ∧ St cx w' (blk p3 67 [.int .i64 x.op, .int .i64 x.a, .int .i64 x.b, .int .i64 x.c, .int .i64 x.k, .int .i64 x.n, vr, va] :: jdg b vf (orF g (mkF (if x.op < 1 ∨ 14 < x.op then 3 else 0) at')) at' :: L.eraseIdx i)) ?_ ?_
  · skip
    all_goals (refine Q2 ?_; refine zm ?_; refine zf0 ?_; refine zl hS ?_)
    all_goals (first | (refine Q2D ?_) | (refine Q2E ?_) | (refine Q1i rfl rfl (fun hc => ?_) (fun hc => ?_)))
    all_goals (refine zm ?_; (first | refine zgn ?_ | (refine zgy ?_; refine zf0 ?_)); (first | refine zgn ?_ | (refine zgy ?_; refine zl hS ?_)))
    all_goals (first | refine zgn ?_ | (refine zgy ?_; (first | (refine Q10 ?_) | (refine Q14 ?_) | (refine Qi rfl rfl (fun hc => ?_) (fun hc => ?_)))))
    all_goals ((first | (refine zpt ?_) | (refine zpf ?_)); refine zR3 (c := Q1p (by intro _; decide) hS fd) (h := ?_); rintro v1 w1 ⟨rfl, hS⟩; simp only [List.set_cons_zero, List.set_cons_succ, if_true, Bool.false_eq_true, if_false] at hS; refine zn ?_; exact ⟨zh, zh, by first | (rw [if_pos (by omega)]; exact hS.sp) | (rw [if_neg (by omega)]; exact hS.sp)⟩)
  rintro ρ w1 ⟨hA, hρ, hS⟩; obtain ⟨ρ, rfl⟩ := env2 hA hρ
  all_goals (refine Q0 ?_; refine Q2 ?_; refine zf0 ?_; refine zl hS ?_; refine zR1 (c := has_c hS) (h := ?_); rintro v1 w1 ⟨rfl, hS⟩; refine zm ?_; refine zn ?_; generalize hh : hasF x.op = h at *; refine Q0 ?_; refine Q2 ?_)
  refine zKL hS 9 [0, 3, 4] (fun A LL ρ' w' => ∃ (q1 : Bool), Has ρ' A ∧ Has ρ' [(18, .pointer (some ⟨b, 0, none⟩)), (26, .bool q1)] ∧ (q1 = true ↔ (QN h 97 = false ∧ x.a ≠ 0)) ∧ St cx w' (LL)) ?_ ?_
  · skip
    all_goals (refine zm ?_; refine zm ?_; refine zR2 (c := Q81 hsz hS) (h := ?_); rintro v1 w1 ⟨rfl, hS⟩)
    all_goals (cases ha1 : QN h 97)
    all_goals (refine znt ?_; refine zm ?_; (first | refine zgn ?_ | (refine zgy ?_; refine zf0 ?_)); (first | refine zgn ?_ | (refine zgy ?_; refine zl hS ?_)))
    all_goals (first | refine zgn ?_ | (refine zgy ?_; (first | (refine Q22 ?_) | (refine Q23 ?_) | (refine QQ rfl rfl (fun hc => ?_) (fun hc => ?_)))))
    all_goals ((first | (refine zpt ?_) | (refine zpf ?_)); refine Q8n ?_; refine Q2I ?_)
    all_goals (first | (exact ⟨_, zh, zh, by exact ⟨fun _ => ⟨(by first | rfl | assumption), by omega⟩, fun _ => rfl⟩, hS.sp⟩) | (exact ⟨_, zh, zh, by exact ⟨fun h => Bool.noConfusion h, fun h => by obtain ⟨h1, h2⟩ := h; first | (exfalso; omega) | (simp_all; done)⟩, hS.sp⟩))
  rintro ρ w1 ⟨q1, hA, hρ, hq1, hS⟩; obtain ⟨ρ, rfl⟩ := env2 hA hρ
  refine zKL hS 10 [0, 3, 4, 18] (fun A LL ρ' w' => ∃ (q2 : Bool), Has ρ' A ∧ Has ρ' [(36, .bool q2)] ∧ (q2 = true ↔ ((QN h 97 = false ∧ x.a ≠ 0) ∨ (QN h 98 = false ∧ x.b ≠ 0))) ∧ St cx w' (LL)) ?_ ?_
  · skip
    all_goals (cases q1)
    all_goals (refine zm ?_; (first | refine zgn ?_ | (refine zgy ?_; refine zm ?_)); (first | refine zgn ?_ | (refine zgy ?_; refine zR2 (c := Q81 hsz hS) (h := ?_); rintro v1 w1 ⟨rfl, hS⟩)))
    all_goals (cases ha2 : QN h 98)
    all_goals ((first | refine zgn ?_ | (refine zgy ?_; refine znt ?_)); (first | refine zgn ?_ | (refine zgy ?_; refine zm ?_)); (first | refine zgn ?_ | (refine zgy ?_; refine zf0 ?_)); (first | refine zgn ?_ | (refine zgy ?_; refine zl hS ?_)))
    all_goals (first | refine zgn ?_ | (refine zgy ?_; (first | (refine Q22 ?_) | (refine Q23 ?_) | (refine QQ rfl rfl (fun hc => ?_) (fun hc => ?_)))))
    all_goals ((first | refine zgn ?_ | (refine zgy ?_; (first | (refine zpt ?_) | (refine zpf ?_)))); (first | (refine zpt ?_) | (refine zpf ?_)); refine Q8n ?_; refine Q2I ?_)
    all_goals (first | (exact ⟨_, zh, zh, by exact ⟨fun _ => .inl (hq1.1 rfl), fun _ => rfl⟩, hS.sp⟩) | (exact ⟨_, zh, zh, by exact ⟨fun _ => .inr ⟨(by first | rfl | assumption), by omega⟩, fun _ => rfl⟩, hS.sp⟩) | (exact ⟨_, zh, zh, by exact ⟨fun h => Bool.noConfusion h, fun h => h.elim (fun h => hq1.2 h) (fun h => by obtain ⟨h1, h2⟩ := h; first | (exfalso; omega) | (simp_all; done))⟩, hS.sp⟩))
  rintro ρ w1 ⟨q2, hA, hρ, hq2, hS⟩; obtain ⟨ρ, rfl⟩ := env2 hA hρ
  refine zKL hS 10 [0, 3, 4, 18] (fun A LL ρ' w' => ∃ (q3 : Bool), Has ρ' A ∧ Has ρ' [(46, .bool q3)] ∧ (q3 = true ↔ (((QN h 97 = false ∧ x.a ≠ 0) ∨ (QN h 98 = false ∧ x.b ≠ 0)) ∨ (QN h 99 = false ∧ x.c ≠ 0))) ∧ St cx w' (LL)) ?_ ?_
  · skip
    all_goals (cases q2)
    all_goals (refine zm ?_; (first | refine zgn ?_ | (refine zgy ?_; refine zm ?_)); (first | refine zgn ?_ | (refine zgy ?_; refine zR2 (c := Q81 hsz hS) (h := ?_); rintro v1 w1 ⟨rfl, hS⟩)))
    all_goals (cases ha3 : QN h 99)
    all_goals ((first | refine zgn ?_ | (refine zgy ?_; refine znt ?_)); (first | refine zgn ?_ | (refine zgy ?_; refine zm ?_)); (first | refine zgn ?_ | (refine zgy ?_; refine zf0 ?_)); (first | refine zgn ?_ | (refine zgy ?_; refine zl hS ?_)))
    all_goals (first | refine zgn ?_ | (refine zgy ?_; (first | (refine Q22 ?_) | (refine Q23 ?_) | (refine QQ rfl rfl (fun hc => ?_) (fun hc => ?_)))))
    all_goals ((first | refine zgn ?_ | (refine zgy ?_; (first | (refine zpt ?_) | (refine zpf ?_)))); (first | (refine zpt ?_) | (refine zpf ?_)); refine Q8n ?_; refine Q2I ?_)
    all_goals (first | (exact ⟨_, zh, zh, by exact ⟨fun _ => .inl (hq2.1 rfl), fun _ => rfl⟩, hS.sp⟩) | (exact ⟨_, zh, zh, by exact ⟨fun _ => .inr ⟨(by first | rfl | assumption), by omega⟩, fun _ => rfl⟩, hS.sp⟩) | (exact ⟨_, zh, zh, by exact ⟨fun h => Bool.noConfusion h, fun h => h.elim (fun h => hq2.2 h) (fun h => by obtain ⟨h1, h2⟩ := h; first | (exfalso; omega) | (simp_all; done))⟩, hS.sp⟩))
  rintro ρ w1 ⟨q3, hA, hρ, hq3, hS⟩; obtain ⟨ρ, rfl⟩ := env2 hA hρ
  refine zKL hS 10 [0, 3, 4, 18] (fun A LL ρ' w' => ∃ (q4 : Bool), Has ρ' A ∧ Has ρ' [(56, .bool q4)] ∧ (q4 = true ↔ ((((QN h 97 = false ∧ x.a ≠ 0) ∨ (QN h 98 = false ∧ x.b ≠ 0)) ∨ (QN h 99 = false ∧ x.c ≠ 0)) ∨ (QN h 107 = false ∧ x.k ≠ 0))) ∧ St cx w' (LL)) ?_ ?_
  · skip
    all_goals (cases q3)
    all_goals (refine zm ?_; (first | refine zgn ?_ | (refine zgy ?_; refine zm ?_)); (first | refine zgn ?_ | (refine zgy ?_; refine zR2 (c := Q81 hsz hS) (h := ?_); rintro v1 w1 ⟨rfl, hS⟩)))
    all_goals (cases ha4 : QN h 107)
    all_goals ((first | refine zgn ?_ | (refine zgy ?_; refine znt ?_)); (first | refine zgn ?_ | (refine zgy ?_; refine zm ?_)); (first | refine zgn ?_ | (refine zgy ?_; refine zf0 ?_)); (first | refine zgn ?_ | (refine zgy ?_; refine zl hS ?_)))
    all_goals (first | refine zgn ?_ | (refine zgy ?_; (first | (refine Q22 ?_) | (refine Q23 ?_) | (refine QQ rfl rfl (fun hc => ?_) (fun hc => ?_)))))
    all_goals ((first | refine zgn ?_ | (refine zgy ?_; (first | (refine zpt ?_) | (refine zpf ?_)))); (first | (refine zpt ?_) | (refine zpf ?_)); refine Q8n ?_; refine Q2I ?_)
    all_goals (first | (exact ⟨_, zh, zh, by exact ⟨fun _ => .inl (hq3.1 rfl), fun _ => rfl⟩, hS.sp⟩) | (exact ⟨_, zh, zh, by exact ⟨fun _ => .inr ⟨(by first | rfl | assumption), by omega⟩, fun _ => rfl⟩, hS.sp⟩) | (exact ⟨_, zh, zh, by exact ⟨fun h => Bool.noConfusion h, fun h => h.elim (fun h => hq3.2 h) (fun h => by obtain ⟨h1, h2⟩ := h; first | (exfalso; omega) | (simp_all; done))⟩, hS.sp⟩))
  rintro ρ w1 ⟨q4, hA, hρ, hq4, hS⟩; obtain ⟨ρ, rfl⟩ := env2 hA hρ
  refine zKL hS 10 [0, 3, 4, 18] (fun A LL ρ' w' => ∃ (q5 : Bool), Has ρ' A ∧ Has ρ' [(66, .bool q5)] ∧ (q5 = true ↔ (((((QN h 97 = false ∧ x.a ≠ 0) ∨ (QN h 98 = false ∧ x.b ≠ 0)) ∨ (QN h 99 = false ∧ x.c ≠ 0)) ∨ (QN h 107 = false ∧ x.k ≠ 0)) ∨ (QN h 110 = false ∧ x.n ≠ 0))) ∧ St cx w' (LL)) ?_ ?_
  · skip
    all_goals (cases q4)
    all_goals (refine zm ?_; (first | refine zgn ?_ | (refine zgy ?_; refine zm ?_)); (first | refine zgn ?_ | (refine zgy ?_; refine zR2 (c := Q81 hsz hS) (h := ?_); rintro v1 w1 ⟨rfl, hS⟩)))
    all_goals (cases ha5 : QN h 110)
    all_goals ((first | refine zgn ?_ | (refine zgy ?_; refine znt ?_)); (first | refine zgn ?_ | (refine zgy ?_; refine zm ?_)); (first | refine zgn ?_ | (refine zgy ?_; refine zf0 ?_)); (first | refine zgn ?_ | (refine zgy ?_; refine zl hS ?_)))
    all_goals (first | refine zgn ?_ | (refine zgy ?_; (first | (refine Q22 ?_) | (refine Q23 ?_) | (refine QQ rfl rfl (fun hc => ?_) (fun hc => ?_)))))
    all_goals ((first | refine zgn ?_ | (refine zgy ?_; (first | (refine zpt ?_) | (refine zpf ?_)))); (first | (refine zpt ?_) | (refine zpf ?_)); refine Q8n ?_; refine Q2I ?_)
    all_goals (first | (exact ⟨_, zh, zh, by exact ⟨fun _ => .inl (hq4.1 rfl), fun _ => rfl⟩, hS.sp⟩) | (exact ⟨_, zh, zh, by exact ⟨fun _ => .inr ⟨(by first | rfl | assumption), by omega⟩, fun _ => rfl⟩, hS.sp⟩) | (exact ⟨_, zh, zh, by exact ⟨fun h => Bool.noConfusion h, fun h => h.elim (fun h => hq4.2 h) (fun h => by obtain ⟨h1, h2⟩ := h; first | (exfalso; omega) | (simp_all; done))⟩, hS.sp⟩))
  rintro ρ w1 ⟨q5, hA, hρ, hq5, hS⟩; obtain ⟨ρ, rfl⟩ := env2 hA hρ
  refine zKL hS 11 [0, 3, 4, 18] (fun A LL ρ' w' => ∃ (q6 : Bool), Has ρ' A ∧ Has ρ' [(77, .bool q6)] ∧ (q6 = true ↔ ((((((QN h 97 = false ∧ x.a ≠ 0) ∨ (QN h 98 = false ∧ x.b ≠ 0)) ∨ (QN h 99 = false ∧ x.c ≠ 0)) ∨ (QN h 107 = false ∧ x.k ≠ 0)) ∨ (QN h 110 = false ∧ x.n ≠ 0)) ∨ (QN h 103 = false ∧ 0 < x.regs.length))) ∧ St cx w' (LL)) ?_ ?_
  · skip
    all_goals (cases q5)
    all_goals (refine zm ?_; (first | refine zgn ?_ | (refine zgy ?_; refine zm ?_)); (first | refine zgn ?_ | (refine zgy ?_; refine zR2 (c := Q81 hsz hS) (h := ?_); rintro v1 w1 ⟨rfl, hS⟩)))
    all_goals (cases ha6 : QN h 103)
    all_goals ((first | refine zgn ?_ | (refine zgy ?_; refine znt ?_)); (first | refine zgn ?_ | (refine zgy ?_; refine zm ?_)); (first | refine zgn ?_ | (refine zgy ?_; refine zf0 ?_)); (first | refine zgn ?_ | (refine zgy ?_; refine zl hS ?_)); (first | refine zgn ?_ | (refine zgy ?_; refine zL ?_)))
    all_goals (first | refine zgn ?_ | (refine zgy ?_; (first | (refine Q10 ?_) | (refine Q14 ?_) | (refine Qi rfl rfl (fun hc => ?_) (fun hc => ?_)))))
    all_goals ((first | refine zgn ?_ | (refine zgy ?_; (first | (refine zpt ?_) | (refine zpf ?_)))); (first | (refine zpt ?_) | (refine zpf ?_)); refine Q8n ?_; refine Q2I ?_)
    all_goals (first | (exact ⟨_, zh, zh, by exact ⟨fun _ => .inl (hq5.1 rfl), fun _ => rfl⟩, hS.sp⟩) | (exact ⟨_, zh, zh, by exact ⟨fun _ => .inr ⟨(by first | rfl | assumption), by omega⟩, fun _ => rfl⟩, hS.sp⟩) | (exact ⟨_, zh, zh, by exact ⟨fun h => Bool.noConfusion h, fun h => h.elim (fun h => hq5.2 h) (fun h => by obtain ⟨h1, h2⟩ := h; first | (exfalso; omega) | (simp_all; done))⟩, hS.sp⟩))
  rintro ρ w1 ⟨q6, hA, hρ, hq6, hS⟩; obtain ⟨ρ, rfl⟩ := env2 hA hρ
  refine zKL hS 11 [0, 3, 18] (fun A LL ρ' w' => ∃ (q7 : Bool), Has ρ' A ∧ Has ρ' [(88, .bool q7)] ∧ (q7 = true ↔ (((((((QN h 97 = false ∧ x.a ≠ 0) ∨ (QN h 98 = false ∧ x.b ≠ 0)) ∨ (QN h 99 = false ∧ x.c ≠ 0)) ∨ (QN h 107 = false ∧ x.k ≠ 0)) ∨ (QN h 110 = false ∧ x.n ≠ 0)) ∨ (QN h 103 = false ∧ 0 < x.regs.length)) ∨ (QN h 114 = false ∧ 0 < x.args.length))) ∧ St cx w' (LL)) ?_ ?_
  · skip
    all_goals (cases q6)
    all_goals (refine zm ?_; (first | refine zgn ?_ | (refine zgy ?_; refine zm ?_)); (first | refine zgn ?_ | (refine zgy ?_; refine zR2 (c := Q81 hsz hS) (h := ?_); rintro v1 w1 ⟨rfl, hS⟩)))
    all_goals (cases ha7 : QN h 114)
    all_goals ((first | refine zgn ?_ | (refine zgy ?_; refine znt ?_)); (first | refine zgn ?_ | (refine zgy ?_; refine zm ?_)); (first | refine zgn ?_ | (refine zgy ?_; refine zf0 ?_)); (first | refine zgn ?_ | (refine zgy ?_; refine zl hS ?_)); (first | refine zgn ?_ | (refine zgy ?_; refine zL ?_)))
    all_goals (first | refine zgn ?_ | (refine zgy ?_; (first | (refine Q10 ?_) | (refine Q14 ?_) | (refine Qi rfl rfl (fun hc => ?_) (fun hc => ?_)))))
    all_goals ((first | refine zgn ?_ | (refine zgy ?_; (first | (refine zpt ?_) | (refine zpf ?_)))); (first | (refine zpt ?_) | (refine zpf ?_)); refine Q8n ?_; refine Q2I ?_)
    all_goals (first | (exact ⟨_, zh, zh, by exact ⟨fun _ => .inl (hq6.1 rfl), fun _ => rfl⟩, hS.sp⟩) | (exact ⟨_, zh, zh, by exact ⟨fun _ => .inr ⟨(by first | rfl | assumption), by omega⟩, fun _ => rfl⟩, hS.sp⟩) | (exact ⟨_, zh, zh, by exact ⟨fun h => Bool.noConfusion h, fun h => h.elim (fun h => hq6.2 h) (fun h => by obtain ⟨h1, h2⟩ := h; first | (exfalso; omega) | (simp_all; done))⟩, hS.sp⟩))
  rintro ρ w1 ⟨q7, hA, hρ, hq7, hS⟩; obtain ⟨ρ, rfl⟩ := env2 hA hρ
  all_goals (refine zR3 (c := Q1p (by intro _; decide) hS fd) (h := ?_); rintro v1 w1 ⟨rfl, hS⟩; simp only [List.set_cons_zero, List.set_cons_succ, if_true, Bool.false_eq_true, if_false] at hS; refine zn ?_; refine Q0 ?_; clear hq1 hq2 hq3 hq4 hq5 hq6; have hq := hq7; clear hq7; refine Q2 ?_; refine zf0 ?_; refine zl hS ?_; refine zn ?_; refine Q7 ?_; refine Q0 ?_; refine Q2 ?_)
  all_goals (first | (refine QM ?_) | (refine QR ?_) | (refine Q9 rfl rfl (fun hc => ?_) (fun hc => ?_)))
  all_goals (refine zm ?_; refine zn ?_)
  all_goals
    first
    | (refine zct ?_ -- Ql c0
       all_goals (refine Q2 ?_; refine zm ?_; refine zf0 ?_; refine zl hS ?_)
       all_goals (first | (refine Q2D ?_) | (refine Q2E ?_) | (refine Q1i rfl rfl (fun hc => ?_) (fun hc => ?_)))
       all_goals (refine zm ?_; (first | refine zgn ?_ | (refine zgy ?_; refine zf0 ?_)); (first | refine zgn ?_ | (refine zgy ?_; refine zl hS ?_)))
       all_goals (first | refine zgn ?_ | (refine zgy ?_; (first | (refine Q10 ?_) | (refine Q14 ?_) | (refine Qi rfl rfl (fun hc => ?_) (fun hc => ?_)))))
       all_goals ((first | (refine zpt ?_) | (refine zpf ?_)); refine zR3 (c := Q1p (by intro _; decide) hS fd) (h := ?_); rintro v1 w1 ⟨rfl, hS⟩; simp only [List.set_cons_zero, List.set_cons_succ, if_true, Bool.false_eq_true, if_false] at hS)
       all_goals refine zn ?_)
    | (refine zcf ?_ -- Ql c0
       all_goals (refine Q0 ?_; refine Q2 ?_)
       all_goals (first | (refine QM ?_) | (refine QR ?_) | (refine Q9 rfl rfl (fun hc => ?_) (fun hc => ?_)))
       all_goals (refine zm ?_; refine zn ?_)
       all_goals
         first
         | (refine zct ?_ -- Ql c1
            all_goals (refine Q2 ?_; refine zm ?_; refine zf0 ?_; refine zl hS ?_; refine zL ?_)
            all_goals (first | (refine Q10 ?_) | (refine Q14 ?_) | (refine Qi rfl rfl (fun hc => ?_) (fun hc => ?_)))
            all_goals (refine zR3 (c := Q1p (by intro _; decide) hS fd) (h := ?_); rintro v1 w1 ⟨rfl, hS⟩; simp only [List.set_cons_zero, List.set_cons_succ, if_true, Bool.false_eq_true, if_false] at hS)
            all_goals refine zn ?_)
         | (refine zcf ?_ -- Ql c1
            all_goals (refine Q0 ?_; refine Q0 ?_; refine Q2 ?_)
            all_goals (first | (refine QM ?_) | (refine QR ?_) | (refine Q9 rfl rfl (fun hc => ?_) (fun hc => ?_)))
            all_goals (refine zm ?_; refine zn ?_)
            all_goals
              first
              | (refine zct ?_ -- Ql c2
                 all_goals refine zsk ?_)
              | (refine zcf ?_ -- Ql c2
                 all_goals (refine Q2 ?_)
                 all_goals (first | (refine QM ?_) | (refine QR ?_) | (refine Q9 rfl rfl (fun hc => ?_) (fun hc => ?_)))
                 all_goals (refine zm ?_)
                 all_goals refine zn ?_)
            all_goals
              first
              | (refine zct ?_ -- Ql c3
                 all_goals (refine Q2 ?_; refine zm ?_; refine zf0 ?_; refine zl hS ?_)
                 all_goals (first | (refine Q2D ?_) | (refine Q2E ?_) | (refine Q1i rfl rfl (fun hc => ?_) (fun hc => ?_)))
                 all_goals (refine zm ?_; (first | refine zgn ?_ | (refine zgy ?_; refine zf0 ?_)); (first | refine zgn ?_ | (refine zgy ?_; refine zl hS ?_)))
                 all_goals (first | refine zgn ?_ | (refine zgy ?_; (first | (refine QdU ?_) | (refine QdV ?_) | (refine Q3E rfl rfl (fun hc => ?_) (fun hc => ?_)))))
                 all_goals ((first | (refine zpt ?_) | (refine zpf ?_)); refine zR3 (c := Q1p (by intro _; decide) hS fd) (h := ?_); rintro v1 w1 ⟨rfl, hS⟩; simp only [List.set_cons_zero, List.set_cons_succ, if_true, Bool.false_eq_true, if_false] at hS)
                 all_goals refine zn ?_)
              | (refine zcf ?_ -- Ql c3
                 all_goals (refine Q0 ?_; refine Q2 ?_)
                 all_goals (first | (refine QM ?_) | (refine QR ?_) | (refine Q9 rfl rfl (fun hc => ?_) (fun hc => ?_)))
                 all_goals (refine zm ?_; refine zn ?_)
                 all_goals
                   first
                   | (refine zct ?_ -- Ql c4
                      all_goals (refine Q0 ?_; refine zD [(0, none), (1, none), (2, none), (3, none), (4, none), (5, none), (6, none), (7, none), (8, none), (9, none), (10, none), (11, none), (12, none), (13, none), (14, none), (15, some none)] ?_; have hS := hS.drew; refine zm ?_; refine zf0 ?_; refine zl hS ?_)
                      all_goals (first | (refine Q2D ?_) | (refine Q2E ?_) | (refine Q1i rfl rfl (fun hc => ?_) (fun hc => ?_)))
                      all_goals (refine zm ?_; (first | refine zgn ?_ | (refine zgy ?_; refine zf0 ?_)); (first | refine zgn ?_ | (refine zgy ?_; refine zl hS ?_)); (first | refine zgn ?_ | (refine zgy ?_; refine zm ?_)); (first | refine zgn ?_ | (refine zgy ?_; refine znc ?_)); (first | refine zgn ?_ | (refine zgy ?_; refine zf0 ?_)); (first | refine zgn ?_ | (refine zgy ?_; refine zf0 ?_)); (first | refine zgn ?_ | (refine zgy ?_; refine zl hS ?_)); (first | refine zgn ?_ | (refine zgy ?_; refine zL ?_)))
                      all_goals (first | refine zgn ?_ | (refine zgy ?_; (first | (refine QdU ?_) | (refine QdV ?_) | (refine Q3E rfl rfl (fun hc => ?_) (fun hc => ?_)))))
                      all_goals ((first | (refine zpt ?_) | (refine zpf ?_)); refine zR3 (c := Q1p (by intro _; decide) hS fd) (h := ?_); rintro v1 w1 ⟨rfl, hS⟩; simp only [List.set_cons_zero, List.set_cons_succ, if_true, Bool.false_eq_true, if_false] at hS; refine zn ?_; refine Q2 ?_; refine zm ?_; refine zf0 ?_; refine zl hS ?_; refine zL ?_)
                      all_goals (first | (refine Q10 ?_) | (refine Q14 ?_) | (refine Qi rfl rfl (fun hc => ?_) (fun hc => ?_)))
                      all_goals (refine zm ?_; (first | refine zgn ?_ | (refine zgy ?_; refine zf0 ?_)); (first | refine zgn ?_ | (refine zgy ?_; refine zl hS ?_)); (first | refine zgn ?_ | (refine zgy ?_; refine zL ?_)))
                      all_goals (first | refine zgn ?_ | (refine zgy ?_; (first | (refine Q10 ?_) | (refine Q14 ?_) | (refine Qi rfl rfl (fun hc => ?_) (fun hc => ?_)))))
                      all_goals ((first | (refine zpt ?_) | (refine zpf ?_)); refine zR3 (c := Q1p (by intro _; decide) hS fd) (h := ?_); rintro v1 w1 ⟨rfl, hS⟩; simp only [List.set_cons_zero, List.set_cons_succ, if_true, Bool.false_eq_true, if_false] at hS)
                      all_goals refine zn ?_)
                   | (refine zcf ?_ -- Ql c4
                      all_goals refine zsk ?_))))
  all_goals (refine Q3J ?_; refine ⟨_, rfl, rfl, ?_⟩; subst hh; rw [← ins_end (c3 := Q1J n.length x) hq rfl]; clear hq hx hr ha hf hsz; have hS := hS.drop; refine St.back ?_ hi; first | (rw [show Q1J n.length x = 0 from (by unfold Q1J; (repeat (first | rw [if_pos (by omega)] | rw [if_neg (by omega)])))]; first | (rw [mkF_0, Qg6 rfl]; exact hS) | exact hS | (rw [Q1S, Q4D] at hS; exact hS)) | (rw [show Q1J n.length x = 1 from (by unfold Q1J; (repeat (first | rw [if_pos (by omega)] | rw [if_neg (by omega)])))]; first | exact hS | (rw [Q1S, Q6o (by decide)] at hS; exact hS)) | (rw [show Q1J n.length x = 2 from (by unfold Q1J; (repeat (first | rw [if_pos (by omega)] | rw [if_neg (by omega)])))]; first | exact hS | (rw [Q1S, Q4D] at hS; exact hS)) | (trace_state; fail "end"))
theorem to_c {x : Fun} {t : To} {is : Bool} {vf : Value} {g : Flt} {at' : Int} {b : Nat} {cs ds : List Value} (hx : funcR.at cx cs x) (ht : toR.at cx ds t) (hS : St cx w L) (hi : nth L i = some (jdg b vf g at')) :
    Rets Tryd.prog Q5x [.pointer (some ⟨b, 0, none⟩), .agg ⟨cs⟩, .agg ⟨ds⟩, .bool is] w fun u w' => u = .tuple #[] ∧ St cx w' (L.set i (jdg b vf (orF g (mkF (Q18 x.blocks.length t is) at')) at')) := by
  have hS := hS.out hi
  obtain ⟨vp, vr, vb, rfl, hp, hr, hb⟩ := Q1l hx
  obtain ⟨v1, v2, rfl, h1, h2⟩ := Qcj ht
  have hlb := hb.len
  have hl1 := h1.len
  have hl2 := h2.len
  cases is with
  | false =>
    all_goals refine Q3u ?_
    all_goals (unfold code_judge_to_lc; refine Q0 ?_; refine Q2 ?_; refine zb hS ?_; intro p5 w1 hS; refine zb hS ?_; intro p6 w1 hS; refine zn ?_; refine Q0 ?_; refine Q0 ?_; refine Q2 ?_; refine zm ?_; refine znt ?_; refine zn ?_)
    all_goals refine zct ?_
    all_goals (refine Q0 ?_; refine Q2 ?_; refine zm ?_; refine zf0 ?_; refine zl hS ?_)
    all_goals (first | (refine Q22 ?_) | (refine Q23 ?_) | (refine QQ rfl rfl (fun hc => ?_) (fun hc => ?_)))
    all_goals (refine zm ?_; (first | refine zgn ?_ | (refine zgy ?_; refine zf0 ?_)); (first | refine zgn ?_ | (refine zgy ?_; refine zl hS ?_)); (first | refine zgn ?_ | (refine zgy ?_; refine zL ?_)))
    all_goals (first | refine zgn ?_ | (refine zgy ?_; (first | (refine Q10 ?_) | (refine Q14 ?_) | (refine Qi rfl rfl (fun hc => ?_) (fun hc => ?_)))))
    all_goals ((first | (refine zpt ?_) | (refine zpf ?_)); refine zm ?_; (first | refine zgn ?_ | (refine zgy ?_; refine zf0 ?_)); (first | refine zgn ?_ | (refine zgy ?_; refine zl hS ?_)); (first | refine zgn ?_ | (refine zgy ?_; refine zL ?_)))
    all_goals (first | refine zgn ?_ | (refine zgy ?_; (first | (refine Q10 ?_) | (refine Q14 ?_) | (refine Qi rfl rfl (fun hc => ?_) (fun hc => ?_)))))
    all_goals ((first | (refine zpt ?_) | (refine zpf ?_)); refine zR3 (c := Q1p (by intro _; decide) hS fd) (h := ?_); rintro v1 w1 ⟨rfl, hS⟩; simp only [List.set_cons_zero, List.set_cons_succ, if_true, Bool.false_eq_true, if_false] at hS; refine zn ?_; refine zr ?_; refine q_ret0 ?_; refine ⟨_, rfl, rfl, ?_⟩; have hS := hS.drop.drop; refine St.back ?_ hi; first | (rw [show Q18 x.blocks.length t false = 4 from (by unfold Q18; rw [if_pos rfl, if_pos (by omega)])]; exact hS) | (rw [show Q18 x.blocks.length t false = 0 from (by unfold Q18; rw [if_pos rfl, if_neg (by omega)])]; exact hS))
  | true =>
    all_goals refine Q3u ?_
    all_goals (unfold code_judge_to_lc; refine Q0 ?_; refine Q2 ?_; refine zb hS ?_; intro p5 w1 hS; refine zb hS ?_; intro p6 w1 hS; refine zn ?_; refine Q0 ?_; refine Q0 ?_; refine Q2 ?_; refine zm ?_; refine znt ?_; refine zn ?_)
    all_goals refine zcf ?_
    all_goals (refine zsk ?_; refine Q0 ?_; refine Q2 ?_; refine zm ?_; refine zf0 ?_; refine zl hS ?_)
    all_goals (first | (refine Q2D ?_) | (refine Q2E ?_) | (refine Q1i rfl rfl (fun hc => ?_) (fun hc => ?_)))
    all_goals (refine zm ?_; (first | refine zgn ?_ | (refine zgy ?_; refine zf0 ?_)); (first | refine zgn ?_ | (refine zgy ?_; refine zl hS ?_)); (first | refine zgn ?_ | (refine zgy ?_; refine zf0 ?_)); (first | refine zgn ?_ | (refine zgy ?_; refine zl hS ?_)); (first | refine zgn ?_ | (refine zgy ?_; refine zL ?_)))
    all_goals (first | refine zgn ?_ | (refine zgy ?_; (first | (refine QdU ?_) | (refine QdV ?_) | (refine Q3E rfl rfl (fun hc => ?_) (fun hc => ?_)))))
    all_goals ((first | (refine zpt ?_) | (refine zpf ?_)); refine zR3 (c := Q1p (by intro _; decide) hS fd) (h := ?_); rintro v1 w1 ⟨rfl, hS⟩; simp only [List.set_cons_zero, List.set_cons_succ, if_true, Bool.false_eq_true, if_false] at hS; refine zn ?_; refine Q2 ?_; refine zm ?_; refine zf0 ?_; refine zl hS ?_; refine zL ?_)
    all_goals (first | (refine Q10 ?_) | (refine Q14 ?_) | (refine Qi rfl rfl (fun hc => ?_) (fun hc => ?_)))
    all_goals (refine zm ?_; (first | refine zgn ?_ | (refine zgy ?_; refine zf0 ?_)); (first | refine zgn ?_ | (refine zgy ?_; refine zl hS ?_)); (first | refine zgn ?_ | (refine zgy ?_; refine zL ?_)))
    all_goals (first | refine zgn ?_ | (refine zgy ?_; (first | (refine Q10 ?_) | (refine Q14 ?_) | (refine Qi rfl rfl (fun hc => ?_) (fun hc => ?_)))))
    all_goals ((first | (refine zpt ?_) | (refine zpf ?_)); refine zR3 (c := Q1p (by intro _; decide) hS fd) (h := ?_); rintro v1 w1 ⟨rfl, hS⟩; simp only [List.set_cons_zero, List.set_cons_succ, if_true, Bool.false_eq_true, if_false] at hS; refine zn ?_; refine Q3J ?_; refine ⟨_, rfl, rfl, ?_⟩; have hS := hS.drop.drop; rw [Q1S] at hS; refine St.back ?_ hi; first | (rw [show Q18 x.blocks.length t true = 1 from (by unfold Q18; rw [if_neg Bool.noConfusion, if_pos (by omega)])]; rw [Q6o (by decide)] at hS; exact hS) | (rw [show Q18 x.blocks.length t true = 2 from (by unfold Q18; rw [if_neg Bool.noConfusion, if_neg (by omega), if_pos (by omega)])]; rw [Q4D] at hS; exact hS) | (rw [show Q18 x.blocks.length t true = 0 from (by unfold Q18; rw [if_neg Bool.noConfusion, if_neg (by omega), if_neg (by omega)])]; rw [Q4D] at hS; exact hS))
theorem end_sum {g : Flt} {at' : Int} {n : Nat} {e : Tail} : orF (orF (orF (orF (orF g (mkF (if e.op < 1 ∨ 3 < e.op then 3 else 0) at')) (mkF (if e.op ≠ 2 ∧ e.a ≠ 0 ∨ e.op ≠ 3 ∧ 0 < e.args.length then 4 else 0) at')) (mkF (if 8 < e.args.length then 2 else 0) at')) (mkF (Q18 n e.yes (decide (e.op ≠ 3))) at')) (mkF (Q18 n e.no (decide (e.op = 2))) at') = orF g (mkF (Q1L n e) at') := by
  rw [Q1S, Q1S, Q1S, Q1S]
  congr 2
  unfold Q1L
  split
  · simp only [Q6o (show (3 : Int) ≠ 0 by decide)]
  · rw [Q4D]
    split
    · simp only [Q6o (show (4 : Int) ≠ 0 by decide)]
    · rw [Q4D]
      split
      · simp only [Q6o (show (2 : Int) ≠ 0 by decide)]
      · rw [Q4D]
theorem end_c {x : Fun} {e : Tail} {vf : Value} {g : Flt} {at' : Int} {b : Nat} {cs ds : List Value} (hx : funcR.at cx cs x) (he : endR.at cx ds e) (hS : St cx w L) (hi : nth L i = some (jdg b vf g at')) :
    Rets Tryd.prog Q4p [.pointer (some ⟨b, 0, none⟩), .agg ⟨cs⟩, .agg ⟨ds⟩] w fun u w' => u = .tuple #[] ∧ St cx w' (L.set i (jdg b vf (orF g (mkF (Q1L x.blocks.length e) at')) at')) := by
  have hS := hS.out hi
  obtain ⟨vp, vr, vb, rfl, hp, hr, hb⟩ := Q1l hx
  obtain ⟨v1, v2, v3, v4, v5, rfl, h1, h2, h3, h4, h5⟩ := QfM he
  have hl5 := h5.len
  all_goals refine Q6O ?_
  all_goals (unfold code_judge_end_lc; refine Q0 ?_; refine Q2 ?_; refine zb hS ?_; intro p4 w1 hS; refine zb hS ?_; intro p5 w1 hS; refine zn ?_)
  refine zM [0, 4, 5] (fun A ρ' w' => Has ρ' A ∧ Has ρ' [] ∧ St cx w' (blk p5 63 [.int .i64 e.op, .int .i64 e.a, .int .i64 e.yes.block, v1, v2, .int .i64 e.no.block, v3, v4, v5] :: blk p4 56 [.int .i64 x.regs, vp, vr, vb] :: jdg b vf (orF g (mkF (if e.op < 1 ∨ 3 < e.op then 3 else 0) at')) at' :: L.eraseIdx i)) ?_ ?_
  · skip
    all_goals (refine Q2 ?_; refine zm ?_; refine zf0 ?_; refine zl hS ?_)
    all_goals (first | (refine Q2D ?_) | (refine Q2E ?_) | (refine Q1i rfl rfl (fun hc => ?_) (fun hc => ?_)))
    all_goals (refine zm ?_; (first | refine zgn ?_ | (refine zgy ?_; refine zf0 ?_)); (first | refine zgn ?_ | (refine zgy ?_; refine zl hS ?_)))
    all_goals (first | refine zgn ?_ | (refine zgy ?_; (first | (refine Q10 ?_) | (refine Q14 ?_) | (refine Qi rfl rfl (fun hc => ?_) (fun hc => ?_)))))
    all_goals ((first | (refine zpt ?_) | (refine zpf ?_)); refine zR3 (c := Q1p (by intro _; decide) hS fd) (h := ?_); rintro v1 w1 ⟨rfl, hS⟩; simp only [List.set_cons_zero, List.set_cons_succ, if_true, Bool.false_eq_true, if_false] at hS; refine zn ?_; exact ⟨zh, zh, by first | (rw [if_pos (by omega)]; exact hS.sp) | (rw [if_neg (by omega)]; exact hS.sp)⟩)
  rintro ρ w1 ⟨hA, hρ, hS⟩; obtain ⟨ρ, rfl⟩ := env2 hA hρ
  refine zM [0, 4, 5] (fun A ρ' w' => Has ρ' A ∧ Has ρ' [] ∧ St cx w' (blk p5 63 [.int .i64 e.op, .int .i64 e.a, .int .i64 e.yes.block, v1, v2, .int .i64 e.no.block, v3, v4, v5] :: blk p4 56 [.int .i64 x.regs, vp, vr, vb] :: jdg b vf (orF (orF g (mkF (if e.op < 1 ∨ 3 < e.op then 3 else 0) at')) (mkF (if e.op ≠ 2 ∧ e.a ≠ 0 ∨ e.op ≠ 3 ∧ 0 < e.args.length then 4 else 0) at')) at' :: L.eraseIdx i)) ?_ ?_
  · skip
    all_goals (refine Q2 ?_; refine zm ?_; refine zf0 ?_; refine zl hS ?_)
    all_goals (first | (refine Q22 ?_) | (refine Q23 ?_) | (refine QQ rfl rfl (fun hc => ?_) (fun hc => ?_)))
    all_goals (refine zm ?_; (first | refine zgn ?_ | (refine zgy ?_; refine zf0 ?_)); (first | refine zgn ?_ | (refine zgy ?_; refine zl hS ?_)))
    all_goals (first | refine zgn ?_ | (refine zgy ?_; (first | (refine Q22 ?_) | (refine Q23 ?_) | (refine QQ rfl rfl (fun hc => ?_) (fun hc => ?_)))))
    all_goals ((first | (refine zpt ?_) | (refine zpf ?_)); refine zm ?_; (first | refine zgn ?_ | (refine zgy ?_; refine zf0 ?_)); (first | refine zgn ?_ | (refine zgy ?_; refine zl hS ?_)))
    all_goals (first | refine zgn ?_ | (refine zgy ?_; (first | (refine Q22 ?_) | (refine Q23 ?_) | (refine QQ rfl rfl (fun hc => ?_) (fun hc => ?_)))))
    all_goals ((first | refine zgn ?_ | (refine zgy ?_; refine zm ?_)); (first | refine zgn ?_ | (refine zgy ?_; refine zf0 ?_)); (first | refine zgn ?_ | (refine zgy ?_; refine zl hS ?_)); (first | refine zgn ?_ | (refine zgy ?_; refine zL ?_)))
    all_goals (first | refine zgn ?_ | (refine zgy ?_; (first | (refine Q10 ?_) | (refine Q14 ?_) | (refine Qi rfl rfl (fun hc => ?_) (fun hc => ?_)))))
    all_goals ((first | refine zgn ?_ | (refine zgy ?_; (first | (refine zpt ?_) | (refine zpf ?_)))); (first | (refine zpt ?_) | (refine zpf ?_)); refine zR3 (c := Q1p (by intro _; decide) hS fd) (h := ?_); rintro v1 w1 ⟨rfl, hS⟩; simp only [List.set_cons_zero, List.set_cons_succ, if_true, Bool.false_eq_true, if_false] at hS; refine zn ?_; exact ⟨zh, zh, by first | (rw [if_pos (c := e.op ≠ 2 ∧ e.a ≠ 0 ∨ e.op ≠ 3 ∧ 0 < e.args.length) (by omega)]; exact hS.sp) | (rw [if_neg (c := e.op ≠ 2 ∧ e.a ≠ 0 ∨ e.op ≠ 3 ∧ 0 < e.args.length) (by omega)]; exact hS.sp)⟩)
  rintro ρ w1 ⟨hA, hρ, hS⟩; obtain ⟨ρ, rfl⟩ := env2 hA hρ
  refine zM [0, 4, 5] (fun A ρ' w' => Has ρ' A ∧ Has ρ' [] ∧ St cx w' (blk p5 63 [.int .i64 e.op, .int .i64 e.a, .int .i64 e.yes.block, v1, v2, .int .i64 e.no.block, v3, v4, v5] :: blk p4 56 [.int .i64 x.regs, vp, vr, vb] :: jdg b vf (orF (orF (orF g (mkF (if e.op < 1 ∨ 3 < e.op then 3 else 0) at')) (mkF (if e.op ≠ 2 ∧ e.a ≠ 0 ∨ e.op ≠ 3 ∧ 0 < e.args.length then 4 else 0) at')) (mkF (if 8 < e.args.length then 2 else 0) at')) at' :: L.eraseIdx i)) ?_ ?_
  · skip
    all_goals (refine Q2 ?_; refine zm ?_; refine zf0 ?_; refine zl hS ?_; refine zL ?_)
    all_goals (first | (refine Q10 ?_) | (refine Q14 ?_) | (refine Qi rfl rfl (fun hc => ?_) (fun hc => ?_)))
    all_goals (refine zR3 (c := Q1p (by intro _; decide) hS fd) (h := ?_); rintro v1 w1 ⟨rfl, hS⟩; simp only [List.set_cons_zero, List.set_cons_succ, if_true, Bool.false_eq_true, if_false] at hS; refine zn ?_; exact ⟨zh, zh, by first | (rw [if_pos (c := 8 < e.args.length) (by omega)]; exact hS.sp) | (rw [if_neg (c := 8 < e.args.length) (by omega)]; exact hS.sp)⟩)
  rintro ρ w1 ⟨hA, hρ, hS⟩; obtain ⟨ρ, rfl⟩ := env2 hA hρ
  all_goals (refine Q0 ?_; refine Q2 ?_; refine zm ?_; refine zv hS ?_; refine zf0 ?_; refine zv hS ?_; refine zf0 ?_; refine zl hS ?_; refine Q6c rfl rfl ?_; refine zR4 (c := to_c (t := e.yes) hx ⟨_, _, rfl, h1, h2⟩ hS fd) (h := ?_); rintro v1 w1 ⟨rfl, hS⟩; have hS := hS.ns; refine zn ?_; refine Q2 ?_; refine zm ?_; refine zv hS ?_; refine zf0 ?_; refine zv hS ?_; refine zf0 ?_; refine zl hS ?_; refine Qcm rfl rfl ?_; refine zR4 (c := to_c (t := e.no) hx ⟨_, _, rfl, h3, h4⟩ hS fd) (h := ?_); rintro v1 w1 ⟨rfl, hS⟩; have hS := hS.ns; refine zn ?_; refine Q3J ?_; refine ⟨_, rfl, rfl, ?_⟩; rw [end_sum] at hS; exact St.back hS.drop.drop hi)
end
end Go.Proofs.YtjecflbbcnocdaaDoor
namespace Go.Proofs.YtjecflbbcnocdaaDoor
open Go.Lir
set_option maxHeartbeats 1000000
attribute [local irreducible] LC.wp Q1 Qu Qw retQ Q1z LO.wp Qb Calls
set_option linter.unusedSimpArgs false
set_option linter.unusedVariables false
variable {cx : Cx} {w : World} {L : List Res}
theorem QgQ (f : Nat) (hf : f ≤ 1000000) (hS : St cx w L) : Rets Tryd.prog Q9i [.int .i64 f] w fun u w' => u = .int .i64 (Q2B f) ∧ St cx w' L := by
  unfold Q2B
  all_goals refine QaP ?_
  all_goals (unfold code_FuncAt_lc; refine Q0 ?_; refine Q2 ?_; refine zm ?_; refine zn ?_; refine Q0 ?_; refine Q2 ?_; refine zm ?_; refine zmu ?_; refine zad ?_; refine zm ?_; refine zn ?_; refine zr ?_; refine zf ?_; refine ⟨_, rfl, ?_, hS.sp⟩; (rfl); done)
theorem Qg5 (f b : Nat) (hf : f ≤ 1000000) (hb : b ≤ 1000000) (hS : St cx w L) : Rets Tryd.prog Q78 [.int .i64 f, .int .i64 b] w fun u w' => u = .int .i64 (Q35 f b) ∧ St cx w' L := by
  unfold Q35
  all_goals refine Q9o ?_
  all_goals (unfold code_BlockAt_lc; refine Q0 ?_; refine Q2 ?_; refine zm ?_; refine zn ?_; refine Q0 ?_; refine Q2 ?_; refine zm ?_; refine zmu ?_; refine zm ?_; refine zmu ?_; refine zad ?_; refine zad ?_; refine zm ?_; refine zn ?_; refine zr ?_; refine zf ?_; refine ⟨_, rfl, ?_, hS.sp⟩; (rfl); done)
theorem pEndAt_c (f b : Nat) (hf : f ≤ 1000000) (hb : b ≤ 1000000) (hS : St cx w L) : Rets Tryd.prog QbM [.int .i64 f, .int .i64 b] w fun u w' => u = .int .i64 (Qfi f b) ∧ St cx w' L := by
  unfold Qfi
  all_goals refine Qdj ?_
  all_goals (unfold code_EndAt_lc; refine Q0 ?_; refine Q2 ?_; refine zm ?_; refine zn ?_; refine Q0 ?_; refine Q2 ?_; refine zm ?_; refine zmu ?_; refine zm ?_; refine zmu ?_; refine zad ?_; refine zad ?_; refine zm ?_; refine zn ?_; refine zr ?_; refine zf ?_; refine ⟨_, rfl, ?_, hS.sp⟩; (rfl); done)
theorem pInsAt_c (f b i : Nat) (hf : f ≤ 1000000) (hb : b ≤ 1000000) (hi : i ≤ 1000000) (hS : St cx w L) : Rets Tryd.prog QbL [.int .i64 f, .int .i64 b, .int .i64 i] w fun u w' => u = .int .i64 (Qho f b i) ∧ St cx w' L := by
  unfold Qho
  all_goals refine Qdg ?_
  all_goals (unfold code_InsAt_lc; refine Q0 ?_; refine Q2 ?_; refine zm ?_; refine zn ?_; refine Q0 ?_; refine Q2 ?_; refine zm ?_; refine zmu ?_; refine zm ?_; refine zmu ?_; refine zad ?_; refine zm ?_; refine zad ?_; refine zm ?_; refine zn ?_; refine zr ?_; refine zf ?_; refine ⟨_, rfl, ?_, hS.sp⟩; (rfl); done)
end Go.Proofs.YtjecflbbcnocdaaDoor
namespace Go.Proofs.YtjecflbbcnocdaaDoor
open Go.Lir
set_option maxHeartbeats 1000000
attribute [local irreducible] LC.wp Q1 Qu Qw retQ Q1z LO.wp Qb Calls
set_option linter.unusedSimpArgs false
set_option linter.unusedVariables false
attribute [local irreducible] Lib.itoa Lib.join Qh1 wordN Q1b
variable {cx : Cx} {w : World} {L : List Res}
end Go.Proofs.YtjecflbbcnocdaaDoor
namespace Go.Lir
theorem St.lent {c : Cx} {w : World} {L : List Res} {r : Res} (h : St c w (r :: L)) : ∃ c' F, c.Le c' ∧ St c' w L ∧ r.A c'.H0 F ∧ (∀ b, F b → c'.K b) ∧ ∀ {w' : World} {L' : List Res}, St c' w' L' → St c w' (r :: L') := by
  obtain ⟨ok, F, ⟨F1, F2, h1, h2, h3, h4⟩, hd⟩ := h
  have hle : c.Le ⟨c.base, fun b => c.K b ∨ F1 b, w.heap⟩ := ⟨rfl, fun b hb => ⟨.inl hb, ok.same b hb⟩, ok.size, ok.lt⟩
  refine ⟨⟨c.base, fun b => c.K b ∨ F1 b, w.heap⟩, F1, hle, ⟨⟨ok.os, ok.tape, ok.output, Nat.le_refl _, fun b hb => hb.elim (fun hb => Nat.lt_of_lt_of_le (ok.lt b hb) ok.size) (r.lt h1 b), fun b _ => rfl⟩, F2, h2, ?_⟩, h1, fun b hb => .inr hb, ?_⟩
  · rintro b hb (hk | hk)
    · exact hd b ((h4 b).2 (.inr hb)) hk
    · exact h3 b hk hb
  · intro w' L' hS
    have hw := hS.weak hle
    obtain ⟨ok', F', hF', hd'⟩ := hS
    refine ⟨hw.1, fun b => F1 b ∨ F' b, ⟨F1, F', r.loc h1 fun b hb _ => ok'.same b (.inr hb), hF', fun b hb hb' => hd' b hb' (.inr hb), fun b => Iff.rfl⟩, ?_⟩
    rintro b (hb | hb) hk
    · exact hd b ((h4 b).2 (.inl hb)) hk
    · exact hd' b hb (.inl hk)
theorem St.lend {α : Type} {r : Rep α} {c : Cx} {w : World} {L : List Res} {T : TypeId} {es : Nat} {v : Value} {css : List (List Value)} {l : List α} (h : St c w (sl T es v css :: L)) (hl : r.ls c css l) (hes : r.es = es) (hm : l.length ≤ 140737488355328) :
    ∃ c', c.Le c' ∧ St c' w L ∧ r.sl c' v l ∧ ∀ {w' : World} {L' : List Res}, St c' w' L' → St c w' (sl T es v css :: L') := by
  subst hes
  obtain ⟨c', F, h1, h2, h3, h4, h5⟩ := h.lent
  exact ⟨c', h1, h2, ⟨css, SlR.mono (Sl.toR h3) fun b _ hb => h4 b hb, hl.up h1, hm⟩, h5⟩
end Go.Lir
namespace Go.Proofs.YtjecflbbcnocdaaDoor
open Go.Lir
set_option maxHeartbeats 1000000
attribute [local irreducible] LC.wp Q1 Qu Qw retQ Q1z LO.wp Qb Calls
set_option linter.unusedSimpArgs false
set_option linter.unusedVariables false
variable {cx : Cx} {w : World} {L : List Res}
theorem Qfx {l : List Int} {j : Nat} {n : Int} (h : l[j]? = some n) : QV (l.drop j) = (Qe0 n && QV (l.drop (j + 1))) := by unfold QV; rw [Q4 h, List.all_cons]
theorem smallL_z {l : List Int} {j : Nat} (h : l.length ≤ j) : QV (l.drop j) = true := by unfold QV; rw [List.drop_of_length_le h]; rfl
theorem see_c {l : List Int} {v : Value} {q : Bool} {b : Nat} (hl : intR.sl cx v l) (hS : St cx w (blk b 4 [.bool q] :: L)) :
    Rets Tryd.prog Q1G [v, .pointer (some ⟨b, 0, none⟩)] w fun u w' => u = .tuple #[] ∧ St cx w' (blk b 4 [.bool (q && QV l)] :: L) := by
  have hlen := hl.len
  all_goals refine Q4A ?_
  all_goals (unfold render_numbers_1_lc; refine Q0 ?_; refine Q2 ?_; refine zm ?_; refine zL ?_; refine zm ?_; refine zn ?_; refine Q7 ?_)
  refine zo [1, 5, 6] (fun A ρ' w' => ∃ (j : Nat) (q2 : Bool), Has ρ' A ∧ Has ρ' [(7, .int .i64 j)] ∧ (j ≤ l.length) ∧ ((q && QV l) = (q2 && QV (l.drop j))) ∧ St cx w' (blk b 4 [.bool q2] :: L)) (fun ρ' _ => (l.length - iv (ρ' 7)).toNat) ?_ ?_
  · exact ⟨0, q, zh, zh, (by omega), by rw [List.drop_zero], hS.sp⟩
  rintro ρ w1 ⟨j, q2, hA, hρ, hj, hd, hS⟩; obtain ⟨ρ, rfl⟩ := env2 hA hρ
  unfold Q2w
  all_goals (refine Q0 ?_; refine Q2 ?_; refine Qp rfl rfl ?_; refine zn ?_; refine Q0 ?_)
  refine Qm rfl (fun hc => ?_) (fun hc => ?_)
  · skip
    all_goals (refine zsk ?_; refine Q0 ?_; refine Q7 ?_; refine Q0 ?_; refine Q2 ?_; refine zi ?_; intro b1 o1 cs1 x1 hat1 hx1 he1; obtain rfl := Q5t he1; (first | (refine zl hS ?_) | (refine zlk hS ?_)); refine zm ?_; refine zn ?_)
    all_goals (cases q2)
    all_goals (refine Q2 ?_; refine zl hS ?_; refine zm ?_; (first | refine zgn ?_ | (refine zgy ?_; refine zm ?_)))
    all_goals (first | refine zgn ?_ | (refine zgy ?_; (first | (refine QdU ?_) | (refine QdV ?_) | (refine Q3E rfl rfl (fun hc => ?_) (fun hc => ?_)))))
    all_goals ((first | (refine zpt ?_) | (refine zpf ?_)); refine zm ?_; (first | refine zgn ?_ | (refine zgy ?_; refine zm ?_)))
    all_goals (first | refine zgn ?_ | (refine zgy ?_; (first | (refine zleqt ?_) | (refine zleqf ?_) | (refine s_leq_s rfl rfl (fun hc => ?_) (fun hc => ?_)))))
    all_goals ((first | (refine zpt ?_) | (refine zpf ?_)); refine zst hS ?_; intro w1 hS; have hS := hS.ns; refine zn ?_; refine Q2 ?_; refine zad ?_; refine zm ?_; refine zn ?_; (first | (exact ⟨⟨j + 1, false, zh, zh, (by omega), by rw [hd, Bool.false_and, Bool.false_and], hS.sp⟩, Qk (by omega)⟩) | (exact ⟨⟨j + 1, true, zh, zh, (by omega), by rw [hd, Qfx hx1, show Qe0 x1 = true from decide_eq_true (by omega), Bool.true_and], hS.sp⟩, Qk (by omega)⟩) | (exact ⟨⟨j + 1, false, zh, zh, (by omega), by rw [hd, Qfx hx1, show Qe0 x1 = false from decide_eq_false (by omega), Bool.false_and, Bool.true_and], hS.sp⟩, Qk (by omega)⟩)))
  · skip
    all_goals (refine zex ?_; refine Q3J ?_; rw [smallL_z (by omega), Bool.and_true] at hd; rw [hd]; exact ⟨_, rfl, rfl, hS.sp⟩)
theorem Qe1 {l : List Int} {v : Value} {q : Bool} {b i : Nat} (hl : intR.sl cx v l) (hS : St cx w L) (hi : nth L i = some (blk b 4 [.bool q])) :
    Rets Tryd.prog Q1G [v, .pointer (some ⟨b, 0, none⟩)] w fun u w' => u = .tuple #[] ∧ St cx w' (L.set i (blk b 4 [.bool (q && QV l)])) :=
  (see_c hl (hS.out hi)).mono fun _ _ ⟨h1, h2⟩ => ⟨h1, St.back h2 hi⟩
theorem QbE : ∀ (l : List Int), (l.map Qfa).flatten = l.map fun n => Value.int .i64 n
  | [] => rfl
  | x :: l => by rw [List.map_cons, List.flatten_cons, QbE l]; rfl
/-- Some numbers that were just laid. -/
theorem Qgq {T : Nat} {l : List Int} {q : Bool} {b b2 n i : Nat} (hS : St cx w (blk b2 T (l.map fun n => Value.int .i64 n) :: L)) (hi : nth L i = some (blk b 4 [.bool q])) (hn : l.length = n) (hm : n ≤ 10) :
    Rets Tryd.prog Q1G [.slice (some ⟨b2, 0, none⟩) n n, .pointer (some ⟨b, 0, none⟩)] w fun u w' => u = .tuple #[] ∧ St cx w' (L.set i (blk b 4 [.bool (q && QV l)])) := by
  have hS2 : St cx w (sl T 1 (.slice (some ⟨b2, 0, none⟩) n n) (l.map Qfa) :: L) := St.slOf hS (QbE l) (by intro c hc; obtain ⟨x, _, rfl⟩ := List.mem_map.1 hc; rfl) (by rw [List.length_map]; exact hn)
  obtain ⟨c7, hle7, hS, hk7, hback⟩ := St.lend (r := intR) hS2 (l := l) ⟨by simp, fun m x hx => ⟨Qfa x, by rw [List.getElem?_map, hx]; rfl, rfl⟩⟩ rfl (by omega)
  exact (Qe1 hk7 hS hi).mono fun _ _ ⟨h1, h2⟩ => ⟨h1, (hback h2).drop⟩
/-- All numbers of a module. -/
theorem all_d {α : Type} {p : α → Bool} {l : List α} {j : Nat} {x : α} (h : l[j]? = some x) : (l.drop j).all p = (p x && (l.drop (j + 1)).all p) := by rw [Q4 h, List.all_cons]
theorem all_z {α : Type} {p : α → Bool} {l : List α} {j : Nat} (h : l.length ≤ j) : (l.drop j).all p = true := by rw [List.drop_of_length_le h]; rfl
theorem QgT {m : Module} {cs : List Value} (hx : modR.at cx cs m) (hS : St cx w L) : Rets Tryd.prog Q4l [.agg ⟨cs⟩] w fun u w' => u = .bool m.small ∧ St cx w' L := by
  obtain ⟨vf, rfl, hf⟩ := Q2p hx
  obtain ⟨l⟩ := m
  have hf : funcR.sl cx vf l := hf
  have hfl := hf.len
  all_goals refine Q6n ?_
  all_goals (unfold render_numbers_lc; refine Q0 ?_; refine Q2 ?_; refine zb hS ?_; intro p1 w1 hS; refine zm ?_; refine zn ?_; refine Q0 ?_; refine Q2 ?_; refine Qf hS ?_; intro p3 w1 hS; refine zst hS ?_; intro w1 hS; have hS := hS.ns; refine zn ?_; refine Q0 ?_; refine Q2 ?_; refine s_mkfnv (u := [.pointer (some ⟨p3, 0, none⟩)]) rfl ?_; refine zm ?_; refine zn ?_; refine Q0 ?_; refine Q0 ?_; refine Q2 ?_; refine zf0 ?_; refine zl hS ?_; refine zL ?_; refine zm ?_; refine zn ?_; refine Q7 ?_)
  refine zo [3, 4, 15, 16] (fun A ρ' w' => ∃ (j : Nat) (q : Bool), Has ρ' A ∧ Has ρ' [(17, .int .i64 j)] ∧ (j ≤ l.length) ∧ (Module.small ⟨l⟩ = (q && (l.drop j).all Fun.small)) ∧ St cx w' (blk p3 4 [.bool q] :: blk p1 37 [vf] :: L)) (fun ρ' _ => (l.length - iv (ρ' 17)).toNat) ?_ ?_
  · exact ⟨0, true, zh, zh, (by omega), by rw [List.drop_zero, Bool.true_and]; rfl, hS.sp⟩
  rintro ρ w1 ⟨j, q, hA, hρ, hj, hd, hS⟩; obtain ⟨ρ, rfl⟩ := env2 hA hρ
  unfold Q3b
  all_goals (refine Q0 ?_; refine Q2 ?_; refine Qp rfl rfl ?_; refine zn ?_; refine Q0 ?_)
  refine Qm rfl (fun hc => ?_) (fun hc => ?_)
  · skip
    all_goals (refine zsk ?_; refine Q0 ?_; refine Q7 ?_; refine Q0 ?_; refine Q2 ?_; refine zi ?_; intro b1 o1 cs1 x1 hat1 hx1 he1; obtain ⟨vp1, vr1, vb1, rfl, hp1, hr1, hb1⟩ := Q1l he1; (first | (refine zv hS ?_) | (refine zvk hS ?_)); refine Qf hS ?_; intro p6 w1 hS; refine zsn hS ?_; intro w1 hS; have hS := hS.ns; refine zn ?_; refine Q0 ?_; refine Q2 ?_; refine zf0 ?_; refine zl hS ?_; refine zL ?_; refine zm ?_; refine zn ?_; refine Q7 ?_; have hbl := hb1.len)
    refine zo [3, 4, 15, 16, 17, 22, 23] (fun A ρ' w' => ∃ (j1 : Nat) (q1 : Bool), Has ρ' A ∧ Has ρ' [(24, .int .i64 j1)] ∧ (j1 ≤ x1.blocks.length) ∧ (Module.small ⟨l⟩ = (q1 && ((x1.blocks.drop j1).all Block.small && (l.drop (j + 1)).all Fun.small))) ∧ St cx w' (blk p6 56 [.int .i64 x1.regs, vp1, vr1, vb1] :: blk p3 4 [.bool q1] :: blk p1 37 [vf] :: L)) (fun ρ' _ => (x1.blocks.length - iv (ρ' 24)).toNat) ?_ ?_
    · exact ⟨0, q, zh, zh, (by omega), by rw [hd, all_d hx1, List.drop_zero]; rfl, hS.sp⟩
    rintro ρ w1 ⟨j1, q1, hA, hρ, hj1, hd1, hS⟩; obtain ⟨ρ, rfl⟩ := env2 hA hρ
    unfold Q3a
    all_goals (refine Q0 ?_; refine Q2 ?_; refine Qp rfl rfl ?_; refine zn ?_; refine Q0 ?_)
    refine Qm rfl (fun hc => ?_) (fun hc => ?_)
    · skip
      all_goals (refine zsk ?_; refine Q0 ?_; refine Q7 ?_; refine Q0 ?_; refine Q2 ?_; refine zi ?_; intro b2 o2 cs2 x2 hat2 hx2 he2; obtain ⟨vp2, vc2, ve21, ve22, ve23, ve24, ve25, rfl, hp2, hc2, he21, he22, he23, he24, he25⟩ := Q19 he2; (first | (refine zv hS ?_) | (refine zvk hS ?_)); refine Qf hS ?_; intro p8 w1 hS; refine zsn hS ?_; intro w1 hS; have hS := hS.ns; refine zn ?_; refine Q0 ?_; refine Q0 ?_; refine Q2 ?_; refine zf0 ?_; refine zl hS ?_; refine zL ?_; refine zm ?_; refine zn ?_; refine Q7 ?_; have hcl := hc2.len)
      refine zo [3, 4, 8, 15, 16, 17, 22, 23, 24, 29, 30] (fun A ρ' w' => ∃ (j2 : Nat) (q2 : Bool), Has ρ' A ∧ Has ρ' [(31, .int .i64 j2)] ∧ (j2 ≤ x2.code.length) ∧ (Module.small ⟨l⟩ = (q2 && ((x2.code.drop j2).all Ins.small && (x2.fin.small && ((x1.blocks.drop (j1 + 1)).all Block.small && (l.drop (j + 1)).all Fun.small))))) ∧ St cx w' (blk p8 65 [.int .i64 x2.regs, vp2, vc2, .int .i64 x2.fin.op, .int .i64 x2.fin.a, .int .i64 x2.fin.yes.block, ve21, ve22, .int .i64 x2.fin.no.block, ve23, ve24, ve25] :: blk p6 56 [.int .i64 x1.regs, vp1, vr1, vb1] :: blk p3 4 [.bool q2] :: blk p1 37 [vf] :: L)) (fun ρ' _ => (x2.code.length - iv (ρ' 31)).toNat) ?_ ?_
      · exact ⟨0, q1, zh, zh, (by omega), by rw [hd1, all_d hx2, List.drop_zero]; unfold Block.small; simp only [Bool.and_assoc], hS.sp⟩
      rintro ρ w1 ⟨j2, q2, hA, hρ, hj2, hd2, hS⟩; obtain ⟨ρ, rfl⟩ := env2 hA hρ
      unfold Q2L
      all_goals (refine Q0 ?_; refine Q2 ?_; refine Qp rfl rfl ?_; refine zn ?_; refine Q0 ?_)
      refine Qm rfl (fun hc => ?_) (fun hc => ?_)
      · skip
        all_goals (refine zsk ?_; refine Q0 ?_; refine Q7 ?_; refine Q0 ?_; refine Q2 ?_; refine zi ?_; intro b3 o3 cs3 x3 hat3 hx3 he3; obtain ⟨vr3, va3, rfl, hr3, ha3⟩ := Q1U he3; (first | (refine zv hS ?_) | (refine zvk hS ?_)); refine Qf hS ?_; intro p10 w1 hS; refine zsn hS ?_; intro w1 hS; have hS := hS.ns; refine zn ?_; refine Q0 ?_; refine Q2 ?_; refine zm ?_; refine zf0 ?_; refine zl hS ?_; refine zf0 ?_; refine zl hS ?_; refine zf0 ?_; refine zl hS ?_; refine zf0 ?_; refine zl hS ?_; refine zB4 hS [_, _, _, _] ?_; intro b1 w1 hS; refine Q2o rfl (by kernel_rfl) rfl (Qgq (l := [x3.a, x3.b, x3.c, x3.k]) (q := q2) (i := 3) hS rfl rfl (by decide)) ?_; rintro v1 w1 ⟨rfl, hS⟩; have hS := hS.ns; refine zn ?_; refine Q0 ?_; refine Q2 ?_; refine zm ?_; refine zf0 ?_; refine zl hS ?_; refine Q2o rfl (by kernel_rfl) rfl (Qe1 (i := 3) hr3 hS rfl) ?_; rintro v1 w1 ⟨rfl, hS⟩; have hS := hS.ns)
        all_goals (refine zn ?_; refine Q2 ?_; refine zm ?_; refine zf0 ?_; refine zl hS ?_; refine Q2o rfl (by kernel_rfl) rfl (Qe1 (i := 3) ha3 hS rfl) ?_; rintro v1 w1 ⟨rfl, hS⟩; have hS := hS.ns; refine zn ?_; refine Q2 ?_; refine zad ?_; refine zm ?_; refine zn ?_; exact ⟨⟨j2 + 1, (((q2 && QV [x3.a, x3.b, x3.c, x3.k]) && QV x3.regs) && QV x3.args), zh, zh, (by omega), by rw [hd2, all_d hx3]; unfold Ins.small; simp only [Bool.and_assoc], hS.sp⟩, Qk (by omega)⟩)
      · skip
        all_goals (refine zex ?_; refine Q0 ?_; refine Q2 ?_; refine zm ?_; refine zf0 ?_; (first | refine zf0 ?_ | refine zfd ?_); refine zl hS ?_; refine zB1 hS [_] ?_; intro b1 w1 hS; refine Q2o rfl (by kernel_rfl) rfl (Qgq (l := [x2.fin.a]) (q := q2) (i := 2) hS rfl rfl (by decide)) ?_; rintro v1 w1 ⟨rfl, hS⟩; have hS := hS.ns; refine zn ?_; refine Q0 ?_; refine Q2 ?_; refine zm ?_; refine zf0 ?_; (first | refine zf0 ?_ | refine zfd ?_); refine zl hS ?_; refine Q2o rfl (by kernel_rfl) rfl (Qe1 (i := 2) he25 hS rfl) ?_; rintro v1 w1 ⟨rfl, hS⟩; have hS := hS.ns; refine zn ?_; refine Q0 ?_; refine Q2 ?_; refine zf0 ?_; (first | refine zf0 ?_ | refine zfd ?_); refine zv hS ?_; refine zf0 ?_; (first | refine zf0 ?_ | refine zfd ?_); refine zv hS ?_)
        all_goals (refine Qe6 (cs := [.int .i64 x2.fin.yes.block, ve21, ve22, .int .i64 x2.fin.no.block, ve23, ve24]) vw vw (by rfl) ?_; intro b1 w1 hb1 hf1 _ hk1; have hS := hS.laid hb1 hf1 hk1; have hS := St.slOf (es := 3) (n := 2) (css := [[.int .i64 x2.fin.yes.block, ve21, ve22], [.int .i64 x2.fin.no.block, ve23, ve24]]) hS rfl (by intro c hc; simp at hc; rcases hc with rfl | rfl <;> rfl) rfl)
        all_goals (refine s_len rfl ?_; refine zm ?_; refine zn ?_; refine Q7 ?_)
        refine zo [3, 4, 15, 16, 17, 22, 23, 24, 72, 73] (fun A ρ' w' => ∃ (j3 : Nat) (q3 : Bool), Has ρ' A ∧ Has ρ' [(74, .int .i64 j3)] ∧ (j3 ≤ 2) ∧ (Module.small ⟨l⟩ = (q3 && (([x2.fin.yes, x2.fin.no].drop j3).all To.small && ((x1.blocks.drop (j1 + 1)).all Block.small && (l.drop (j + 1)).all Fun.small)))) ∧ St cx w' (sl 61 3 (.slice (some ⟨b1, 0, none⟩) 2 2) [[.int .i64 x2.fin.yes.block, ve21, ve22], [.int .i64 x2.fin.no.block, ve23, ve24]] :: blk p8 65 [.int .i64 x2.regs, vp2, vc2, .int .i64 x2.fin.op, .int .i64 x2.fin.a, .int .i64 x2.fin.yes.block, ve21, ve22, .int .i64 x2.fin.no.block, ve23, ve24, ve25] :: blk p6 56 [.int .i64 x1.regs, vp1, vr1, vb1] :: blk p3 4 [.bool q3] :: blk p1 37 [vf] :: L)) (fun ρ' _ => (2 - iv (ρ' 74)).toNat) ?_ ?_
        · exact ⟨0, ((q2 && QV [x2.fin.a]) && QV x2.fin.args), zh, zh, (by omega), by rw [hd2, all_z (by omega)]; unfold Tail.small QV; simp [Bool.and_assoc], hS.sp⟩
        rintro ρ w1 ⟨j3, q3, hA, hρ, hj3, hd3, hS⟩; obtain ⟨ρ, rfl⟩ := env2 hA hρ
        unfold Q2K
        all_goals (refine Q0 ?_; refine Q2 ?_; refine Qp rfl rfl ?_; refine zn ?_; refine Q0 ?_)
        refine Qm rfl (fun hc => ?_) (fun hc => ?_)
        · skip
          all_goals (refine zsk ?_; refine Q0 ?_; refine Q7 ?_; refine Q0 ?_)
          all_goals (have oo1 := Rep.SR.oneC he21; have oo2 := Rep.SR.oneC he22; have oo3 := Rep.SR.oneC he23; have oo4 := Rep.SR.oneC he24; rcases (show j3 = 0 ∨ j3 = 1 by omega) with rfl | rfl)
          all_goals (refine Q2 ?_; (first | refine s_idxE (m := 0) hS rfl rfl (i := 0) rfl (by show 0 < 2; omega) ?_ | refine s_idxE (m := 1) hS rfl rfl (i := 0) rfl (by show 1 < 2; omega) ?_); intro b4 o4 hel4; refine s_loadnE hS hel4 rfl (i := 0) rfl rfl rfl ?_; refine Qf hS ?_; intro p12 w1 hS; refine zsn hS ?_; intro w1 hS; have hS := hS.ns; refine zn ?_; refine Q0 ?_; refine Q2 ?_; refine zm ?_; refine zf0 ?_; refine zl hS ?_; (first | refine Q2o rfl (by kernel_rfl) rfl (Qe1 (i := 4) he21 hS rfl) ?_ | refine Q2o rfl (by kernel_rfl) rfl (Qe1 (i := 4) he23 hS rfl) ?_); rintro v1 w1 ⟨rfl, hS⟩; have hS := hS.ns; refine zn ?_; refine Q2 ?_; refine zm ?_; refine zf0 ?_; refine zl hS ?_; (first | refine Q2o rfl (by kernel_rfl) rfl (Qe1 (i := 4) he22 hS rfl) ?_ | refine Q2o rfl (by kernel_rfl) rfl (Qe1 (i := 4) he24 hS rfl) ?_); rintro v1 w1 ⟨rfl, hS⟩; have hS := hS.ns; refine zn ?_; refine Q2 ?_; refine zad ?_; refine zm ?_; refine zn ?_; (first | (exact ⟨⟨1, ((q3 && QV x2.fin.yes.regs) && QV x2.fin.yes.args), zh, zh, (by omega), by rw [hd3]; simp [To.small, Bool.and_assoc], hS.sp⟩, Qk (by omega)⟩) | (exact ⟨⟨2, ((q3 && QV x2.fin.no.regs) && QV x2.fin.no.args), zh, zh, (by omega), by rw [hd3]; simp [To.small, Bool.and_assoc], hS.sp⟩, Qk (by omega)⟩)))
        · skip
          all_goals (refine zex ?_; refine Q2 ?_; refine zad ?_; refine zm ?_; refine zn ?_; exact ⟨⟨j1 + 1, q3, zh, zh, (by omega), by rw [hd3, all_z (by show 2 ≤ j3; omega), Bool.true_and], hS.sp⟩, Qk (by omega)⟩)
    · skip
      all_goals (refine zex ?_; refine Q2 ?_; refine zad ?_; refine zm ?_; refine zn ?_; exact ⟨⟨j + 1, q1, zh, zh, (by omega), by rw [hd1, all_z (by omega), Bool.true_and], hS.sp⟩, Qk (by omega)⟩)
  · skip
    all_goals (refine zex ?_; refine Q0 ?_; refine Q2 ?_; refine zl hS ?_; refine zm ?_; refine zn ?_; refine zr ?_; refine zf ?_; refine ⟨_, rfl, ?_, hS.sp⟩; rw [hd, all_z (by omega), Bool.and_true]; done)
end Go.Proofs.YtjecflbbcnocdaaDoor
namespace Go.Proofs.YtjecflbbcnocdaaDoor
open Go.Lir
set_option maxHeartbeats 1000000
attribute [local irreducible] LC.wp Q1 Qu Qw retQ Q1z LO.wp Qb Calls
set_option linter.unusedSimpArgs false
set_option linter.unusedVariables false
attribute [local irreducible] Lib.itoa Lib.join Q24 Q1b Ins.txt Tail.txt To.txt
variable {cx : Cx} {w : World} {L : List Res}
def Fun.head (f : Fun) : List UInt8 := Q4Y ++ [32] ++ Lib.itoa f.regs ++ [32] ++ Q24 f.params ++ [32] ++ Q38 ++ [32] ++ Q24 f.results ++ [32, 123, 10]
def Block.head (b : Block) : List UInt8 := Q2g ++ [32] ++ Lib.itoa b.regs ++ [32] ++ Q24 b.params ++ [32, 123, 10]
theorem Qh9 (f : Fun) : f.txt = Fun.head f ++ (Qo f.blocks ++ [125, 10]) := by
  unfold Fun.txt Fun.head; simp only [List.append_assoc]
theorem Qhj (b : Block) : b.txt = Block.head b ++ (Q11 b.code ++ ([9] ++ (b.fin.txt ++ [59, 10, 125, 10]))) := by
  unfold Block.txt Block.head; simp only [List.append_assoc]
theorem funs_s {l : List Fun} {j : Nat} {x : Fun} (h : l[j]? = some x) : Q17 (l.take (j + 1)) = Q17 (l.take j) ++ x.txt := by
  rw [Q37 h, Q97, Q17, Q17, List.append_nil]
theorem blocks_s {l : List Block} {j : Nat} {x : Block} (h : l[j]? = some x) : Qo (l.take (j + 1)) = Qo (l.take j) ++ x.txt := by
  rw [Q37 h, Q5U, Qo, Qo, List.append_nil]
theorem code_s {l : List Ins} {j : Nat} {x : Ins} (h : l[j]? = some x) : Q11 (l.take (j + 1)) = Q11 (l.take j) ++ ([9] ++ (x.txt ++ [59, 10])) := by
  rw [Q37 h, Q9p, Q11, Q11, List.append_nil]; simp only [List.append_assoc]
theorem QfJ {l : List Fun} (hn : l.length ≤ 8) (h : ∀ f ∈ l, f.Pr) (j : Nat) : (Q17 (l.take j)).length ≤ 280000000 := by
  have := Q6t (l := l.take j) fun f hf => h f (List.mem_of_mem_take hf)
  rw [List.length_take] at this; omega
theorem QbQ {l : List Block} (hn : l.length ≤ 12) (h : ∀ f ∈ l, f.Pr) (j : Nat) : (Qo (l.take j)).length ≤ 30000000 := by
  have := Q3X (l := l.take j) fun f hf => h f (List.mem_of_mem_take hf)
  rw [List.length_take] at this; omega
theorem QfO {l : List Ins} (hn : l.length ≤ 40) (h : ∀ f ∈ l, f.Pr) (j : Nat) : (Q11 (l.take j)).length ≤ 40000 := by
  have := Q6P (l := l.take j) fun f hf => h f (List.mem_of_mem_take hf)
  rw [List.length_take] at this; omega
theorem x2cs {v1 v2 v3 v4 v5 : Value} {e : Tail} (h1 : intR.sl cx v1 e.yes.regs) (h2 : intR.sl cx v2 e.yes.args) (h3 : intR.sl cx v3 e.no.regs) (h4 : intR.sl cx v4 e.no.args) (h5 : intR.sl cx v5 e.args) :
    endR.at cx [.int .i64 e.op, .int .i64 e.a, .int .i64 e.yes.block, v1, v2, .int .i64 e.no.block, v3, v4, v5] e := ⟨_, _, _, _, _, rfl, h1, h2, h3, h4, h5⟩
theorem funs_ne {l : List Fun} (h : 0 < l.length) : Q17 l ≠ [] := by
  cases l with
  | nil => simp at h
  | cons f l => rw [Q17, Qh9]; unfold Fun.head; simp [Q4Y]
theorem whole_c {m : Module} {cs : List Value} (hp : m.Pr) (h0 : 0 < m.funcs.length) (hx : modR.at cx cs m) (hT : PowT cx) (hS : St cx w L) : Rets Tryd.prog Q74 [.agg ⟨cs⟩] w fun u w' => u = strV m.txt ∧ St cx w' L := by
  obtain ⟨vf, rfl, hf⟩ := Q2p hx
  obtain ⟨l⟩ := m
  obtain ⟨hn, hpf⟩ := hp
  simp only at hn hpf h0
  have hf : funcR.sl cx vf l := hf
  have hfl := hf.len
  unfold Module.txt
  all_goals refine Q8C ?_
  all_goals (unfold render_whole_lc; refine Q0 ?_; refine Q2 ?_; refine zb hS ?_; intro p1 w1 hS; refine zm ?_; refine zn ?_; refine Q0 ?_; refine Q2 ?_; refine Qf hS ?_; intro p3 w1 hS; refine zn ?_; refine Q0 ?_; refine Q0 ?_; refine Q2 ?_; refine zf0 ?_; refine zl hS ?_; refine zL ?_; refine zm ?_; refine zn ?_; refine Q7 ?_)
  refine zo [3, 11, 12] (fun A ρ' w' => ∃ (j : Nat) (pv v : Value) (t : List UInt8), Has ρ' A ∧ Has ρ' [(13, .int .i64 j)] ∧ (j ≤ l.length) ∧ (pv = .pointer none ∨ pv = .pointer (some ⟨p3, 0, none⟩)) ∧ (t = Q17 (l.take j)) ∧ St cx w' (bldr p3 pv v :: sl 5 1 v ((t : List UInt8).map Q1Q) :: blk p1 37 [vf] :: L)) (fun ρ' _ => (l.length - iv (ρ' 13)).toNat) ?_ ?_
  · exact ⟨0, .pointer none, .slice none 0 0, [], zh, zh, (by omega), .inl rfl, by rw [List.take_zero]; rfl, by have hS := hS.nil (T := 5) (es := 1); exact hS.sp⟩
  rintro ρ w1 ⟨j, pv, v, t, hA, hρ, hj, hpv, ht, hS⟩; obtain ⟨ρ, rfl⟩ := env2 hA hρ
  unfold Q3H
  all_goals (refine Q0 ?_; refine Q2 ?_; refine Qp rfl rfl ?_; refine zn ?_; refine Q0 ?_)
  refine Qm rfl (fun hc => ?_) (fun hc => ?_)
  · skip
    all_goals (refine zsk ?_; refine Q0 ?_; refine Q7 ?_; refine Q0 ?_; refine Q2 ?_; refine zi ?_; intro b1 o1 cs1 x1 hat1 hx1 he1; obtain ⟨vp1, vr1, vb1, rfl, hp1, hr1, hb1⟩ := Q1l he1; (first | (refine zv hS ?_) | (refine zvk hS ?_)); refine Qf hS ?_; intro p5 w1 hS; refine zsn hS ?_; intro w1 hS; have hS := hS.ns; refine zn ?_; refine Q0 ?_; obtain ⟨i1, q1, q2, q3, q4⟩ := hpf _ (List.mem_of_getElem? hx1); have l1 := Q1T i1; have l2 := Q36 q1; have l3 := Q36 q2; have l4 := QfJ hn hpf j; rw [← ht] at l4; refine zC [(0, none), (1, none), (5, none), (6, none), (10, none), (11, none), (2, some (some [6, 11])), (3, none), (4, none), (7, some (some [11])), (8, none), (9, none), (12, some (some [])), (13, none), (14, none), (15, some none)] ?_; have hS := hS.drew; refine s_cq ?_; refine zf0 ?_; refine zt ?_; refine s_cq ?_; refine zl hS ?_; refine zt ?_; refine s_cq ?_; refine zf0 ?_; refine zt ?_; refine s_cq ?_; refine zl hS ?_; refine zt ?_; refine s_cq ?_; refine zf0 ?_; refine zt ?_; refine s_cq ?_; refine zl hS ?_)
    all_goals (refine zt ?_; refine Q13 ?_; refine zR1 (c := Q3c (by assumption) hT hS) (h := ?_); rintro v1 w1 ⟨rfl, hS⟩; refine zt ?_; refine zy ?_; refine s_cq ?_; refine Qr rfl rfl (by first | omega | (simp only [List.length_append, List.length_cons, List.length_nil]; omega)) ?_; refine zt ?_; refine s_cq ?_; refine Qr rfl rfl (by first | omega | (simp only [List.length_append, List.length_cons, List.length_nil]; omega)) ?_; refine zt ?_; refine Q13 ?_; refine zR1 (c := QeN q1 hp1 hT hS) (h := ?_); rintro v1 w1 ⟨rfl, hS⟩; refine zt ?_; refine zy ?_; refine s_cq ?_; refine Qr rfl rfl (by first | omega | (simp only [List.length_append, List.length_cons, List.length_nil]; omega)) ?_; refine zt ?_; refine s_cq ?_; refine Qr rfl rfl (by first | omega | (simp only [List.length_append, List.length_cons, List.length_nil]; omega)) ?_; refine zt ?_; refine Q13 ?_; refine zR1 (c := QeN q2 hr1 hT hS) (h := ?_); rintro v1 w1 ⟨rfl, hS⟩; refine zt ?_; refine zy ?_; refine s_cq ?_; refine Qr rfl rfl (by first | omega | (simp only [List.length_append, List.length_cons, List.length_nil]; omega)) ?_; refine zt ?_; refine s_cq ?_; refine Qr rfl rfl (by first | omega | (simp only [List.length_append, List.length_cons, List.length_nil]; omega)) ?_; refine zt ?_; refine s_cf ?_; have hS : St cx _ (bldr p3 pv v :: sl 5 1 v ((t : List UInt8).map Q1Q) :: blk p5 56 [.int .i64 x1.regs, vp1, vr1, vb1] :: blk p1 37 [vf] :: L) := hS.sp; refine zR2 (c := Q5T hpv (by simp only [List.length_append, List.length_cons, List.length_nil]; omega) hS) (h := ?_); rintro v1 w1 ⟨u1, t6, ht6, rfl, hu1, hS⟩)
    all_goals (refine zt ?_; refine zcn ?_; refine Q0 ?_; refine Q0 ?_; refine Q2 ?_; refine zf0 ?_; refine zl hS ?_; refine zL ?_; refine zm ?_; refine zn ?_; refine Q7 ?_; have hbl := hb1.len)
    refine zo [3, 11, 12, 13, 34, 35] (fun A ρ' w' => ∃ (j1 : Nat) (v1 : Value) (t1 : List UInt8), Has ρ' A ∧ Has ρ' [(36, .int .i64 j1)] ∧ (j1 ≤ x1.blocks.length) ∧ (t1 = t ++ (Fun.head x1 ++ Qo (x1.blocks.take j1))) ∧ St cx w' (bldr p3 (.pointer (some ⟨p3, 0, none⟩)) v1 :: sl 5 1 v1 ((t1 : List UInt8).map Q1Q) :: blk p5 56 [.int .i64 x1.regs, vp1, vr1, vb1] :: blk p1 37 [vf] :: L)) (fun ρ' _ => (x1.blocks.length - iv (ρ' 36)).toNat) ?_ ?_
    · exact ⟨0, u1, t6, zh, zh, (by omega), by rw [List.take_zero, ht6]; unfold Fun.head Qo; simp only [Q4Y, Q38, Q2g, Qak, tIf, tTo, Q8k, tRet, List.append_assoc, List.cons_append, List.nil_append], hS.sp⟩
    rintro ρ w1 ⟨j1, v1, t1, hA, hρ, hj1, ht1, hS⟩; obtain ⟨ρ, rfl⟩ := env2 hA hρ
    unfold Q3G
    all_goals (refine Q0 ?_; refine Q2 ?_; refine Qp rfl rfl ?_; refine zn ?_; refine Q0 ?_)
    refine Qm rfl (fun hc => ?_) (fun hc => ?_)
    · skip
      all_goals (refine zsk ?_; refine Q0 ?_; refine Q7 ?_; refine Q0 ?_; refine Q2 ?_; refine zi ?_; intro b2 o2 cs2 x2 hat2 hx2 he2; obtain ⟨vp2, vc2, ve21, ve22, ve23, ve24, ve25, rfl, hp2, hc2, he21, he22, he23, he24, he25⟩ := Q19 he2; (first | (refine zv hS ?_) | (refine zvk hS ?_)); refine Qf hS ?_; intro p7 w1 hS; refine zsn hS ?_; intro w1 hS; have hS := hS.ns; refine zn ?_; refine Q0 ?_; obtain ⟨i2, q5, ⟨q6, q7⟩, q8⟩ := q4 _ (List.mem_of_getElem? hx2); have l5 := Q1T i2; have l6 := Q36 q5; have l7 := QbQ q3 q4 j1; have l8 := Tail.txt_le q8; have l9 : t1.length ≤ 400000000 := (by rw [ht1]; unfold Fun.head; simp only [List.length_append, List.length_cons, List.length_nil]; omega); refine zC [(0, none), (1, none), (5, none), (6, none), (2, some (some [6])), (3, none), (4, none), (7, some (some [])), (8, none), (9, none), (10, some none)] ?_; have hS := hS.drew; refine s_cq ?_; refine zf0 ?_; refine zt ?_; refine s_cq ?_; refine zl hS ?_; refine zt ?_; refine s_cq ?_; refine zf0 ?_; refine zt ?_; refine s_cq ?_; refine zl hS ?_; refine zt ?_; refine Q13 ?_; refine zR1 (c := Q3c (by assumption) hT hS) (h := ?_); rintro v1 w1 ⟨rfl, hS⟩)
      all_goals (refine zt ?_; refine zy ?_; refine s_cq ?_; refine Qr rfl rfl (by first | omega | (simp only [List.length_append, List.length_cons, List.length_nil]; omega)) ?_; refine zt ?_; refine s_cq ?_; refine Qr rfl rfl (by first | omega | (simp only [List.length_append, List.length_cons, List.length_nil]; omega)) ?_; refine zt ?_; refine Q13 ?_; refine zR1 (c := QeN q5 hp2 hT hS) (h := ?_); rintro v2 w1 ⟨rfl, hS⟩; refine zt ?_; refine zy ?_; refine s_cq ?_; refine Qr rfl rfl (by first | omega | (simp only [List.length_append, List.length_cons, List.length_nil]; omega)) ?_; refine zt ?_; refine s_cq ?_; refine Qr rfl rfl (by first | omega | (simp only [List.length_append, List.length_cons, List.length_nil]; omega)) ?_; refine zt ?_; refine s_cf ?_; have hS : St cx _ (bldr p3 (.pointer (some ⟨p3, 0, none⟩)) v1 :: sl 5 1 v1 ((t1 : List UInt8).map Q1Q) :: blk p7 65 [.int .i64 x2.regs, vp2, vc2, .int .i64 x2.fin.op, .int .i64 x2.fin.a, .int .i64 x2.fin.yes.block, ve21, ve22, .int .i64 x2.fin.no.block, ve23, ve24, ve25] :: blk p5 56 [.int .i64 x1.regs, vp1, vr1, vb1] :: blk p1 37 [vf] :: L) := hS.sp; refine zR2 (c := Q5T (.inr rfl) (by simp only [List.length_append, List.length_cons, List.length_nil]; omega) hS) (h := ?_); rintro v2 w1 ⟨u2, t7, ht7, rfl, hu2, hS⟩; refine zt ?_; refine zcn ?_; refine Q0 ?_; refine Q0 ?_; refine Q2 ?_; refine zf0 ?_)
      all_goals (refine zl hS ?_; refine zL ?_; refine zm ?_; refine zn ?_; refine Q7 ?_; have hcl := hc2.len)
      refine zo [3, 7, 11, 12, 13, 34, 35, 36, 52, 53] (fun A ρ' w' => ∃ (j2 : Nat) (v2 : Value) (t2 : List UInt8), Has ρ' A ∧ Has ρ' [(54, .int .i64 j2)] ∧ (j2 ≤ x2.code.length) ∧ (t2 = t1 ++ (Block.head x2 ++ Q11 (x2.code.take j2))) ∧ St cx w' (bldr p3 (.pointer (some ⟨p3, 0, none⟩)) v2 :: sl 5 1 v2 ((t2 : List UInt8).map Q1Q) :: blk p7 65 [.int .i64 x2.regs, vp2, vc2, .int .i64 x2.fin.op, .int .i64 x2.fin.a, .int .i64 x2.fin.yes.block, ve21, ve22, .int .i64 x2.fin.no.block, ve23, ve24, ve25] :: blk p5 56 [.int .i64 x1.regs, vp1, vr1, vb1] :: blk p1 37 [vf] :: L)) (fun ρ' _ => (x2.code.length - iv (ρ' 54)).toNat) ?_ ?_
      · exact ⟨0, u2, t7, zh, zh, (by omega), by rw [List.take_zero, ht7]; unfold Block.head Q11; simp only [Q4Y, Q38, Q2g, Qak, tIf, tTo, Q8k, tRet, List.append_assoc, List.cons_append, List.nil_append], hS.sp⟩
      rintro ρ w1 ⟨j2, v2, t2, hA, hρ, hj2, ht2, hS⟩; obtain ⟨ρ, rfl⟩ := env2 hA hρ
      unfold Q3t
      all_goals (refine Q0 ?_; refine Q2 ?_; refine Qp rfl rfl ?_; refine zn ?_; refine Q0 ?_)
      refine Qm rfl (fun hc => ?_) (fun hc => ?_)
      · skip
        all_goals (refine zsk ?_; refine Q0 ?_; refine Q7 ?_; refine Q0 ?_; refine Q2 ?_; refine zi ?_; intro b3 o3 cs3 x3 hat3 hx3 he3; obtain ⟨vr3, va3, rfl, hr3, ha3⟩ := Q1U he3; (first | (refine zv hS ?_) | (refine zvk hS ?_)); refine Qf hS ?_; intro p9 w1 hS; refine zsn hS ?_; intro w1 hS; have hS := hS.ns; refine zn ?_; have q9 := q7 _ (List.mem_of_getElem? hx3); have l10 := Ins.txt_le q9; have l11 := QfO q6 q7 j2; have l12 : t2.length ≤ 500000000 := (by rw [ht2]; unfold Block.head; simp only [List.length_append, List.length_cons, List.length_nil]; omega); refine Q2 ?_; refine zv hS ?_; refine zR1 (c := ins_txt q9 he3 hT hS) (h := ?_); rintro v3 w1 ⟨rfl, hS⟩; refine Qr rfl rfl (by first | omega | (simp only [List.length_append, List.length_cons, List.length_nil]; omega)) ?_; refine Qr rfl rfl (by first | omega | (simp only [List.length_append, List.length_cons, List.length_nil]; omega)) ?_; have hS : St cx _ (bldr p3 (.pointer (some ⟨p3, 0, none⟩)) v2 :: sl 5 1 v2 ((t2 : List UInt8).map Q1Q) :: blk p9 67 [.int .i64 x3.op, .int .i64 x3.a, .int .i64 x3.b, .int .i64 x3.c, .int .i64 x3.k, .int .i64 x3.n, vr3, va3] :: blk p7 65 [.int .i64 x2.regs, vp2, vc2, .int .i64 x2.fin.op, .int .i64 x2.fin.a, .int .i64 x2.fin.yes.block, ve21, ve22, .int .i64 x2.fin.no.block, ve23, ve24, ve25] :: blk p5 56 [.int .i64 x1.regs, vp1, vr1, vb1] :: blk p1 37 [vf] :: L) := hS.sp; refine zR2 (c := Q5T (.inr rfl) (by simp only [List.length_append, List.length_cons, List.length_nil]; omega) hS) (h := ?_); rintro v3 w1 ⟨u3, t8, ht8, rfl, hu3, hS⟩)
        all_goals (refine zn ?_; refine Q2 ?_; refine zad ?_; refine zm ?_; refine zn ?_; exact ⟨⟨j2 + 1, u3, t8, zh, zh, (by omega), by rw [ht8, code_s hx3, ht2]; simp only [Q4Y, Q38, Q2g, Qak, tIf, tTo, Q8k, tRet, List.append_assoc, List.cons_append, List.nil_append], hS.sp⟩, Qk (by omega)⟩)
      · skip
        all_goals (refine zex ?_; have l11 := QfO q6 q7 j2; have l12 : t2.length ≤ 500000000 := (by rw [ht2]; unfold Block.head; simp only [List.length_append, List.length_cons, List.length_nil]; omega); refine Q2 ?_; refine zf0 ?_; refine zv hS ?_; refine zR1 (c := end_txt q8 (x2cs he21 he22 he23 he24 he25) hT hS) (h := ?_); rintro v3 w1 ⟨rfl, hS⟩; refine Qr rfl rfl (by first | omega | (simp only [List.length_append, List.length_cons, List.length_nil]; omega)) ?_; refine Qr rfl rfl (by first | omega | (simp only [List.length_append, List.length_cons, List.length_nil]; omega)) ?_; have hS : St cx _ (bldr p3 (.pointer (some ⟨p3, 0, none⟩)) v2 :: sl 5 1 v2 ((t2 : List UInt8).map Q1Q) :: blk p7 65 [.int .i64 x2.regs, vp2, vc2, .int .i64 x2.fin.op, .int .i64 x2.fin.a, .int .i64 x2.fin.yes.block, ve21, ve22, .int .i64 x2.fin.no.block, ve23, ve24, ve25] :: blk p5 56 [.int .i64 x1.regs, vp1, vr1, vb1] :: blk p1 37 [vf] :: L) := hS.sp; refine zR2 (c := Q5T (.inr rfl) (by simp only [List.length_append, List.length_cons, List.length_nil]; omega) hS) (h := ?_); rintro v3 w1 ⟨u3, t8, ht8, rfl, hu3, hS⟩; refine zn ?_; refine Q2 ?_; refine zad ?_; refine zm ?_; refine zn ?_; exact ⟨⟨j1 + 1, u3, t8, zh, zh, (by omega), by rw [ht8, blocks_s hx2, Qhj, ht2, ht1, List.take_of_length_le (l := x2.code) (by omega)]; simp only [Q4Y, Q38, Q2g, Qak, tIf, tTo, Q8k, tRet, List.append_assoc, List.cons_append, List.nil_append], hS.sp⟩, Qk (by omega)⟩)
    · skip
      all_goals (refine zex ?_; have l7 := QbQ q3 q4 j1; have l9 : t1.length ≤ 400000000 := (by rw [ht1]; unfold Fun.head; simp only [List.length_append, List.length_cons, List.length_nil]; omega); refine Q2 ?_; have hS : St cx _ (bldr p3 (.pointer (some ⟨p3, 0, none⟩)) v1 :: sl 5 1 v1 ((t1 : List UInt8).map Q1Q) :: blk p5 56 [.int .i64 x1.regs, vp1, vr1, vb1] :: blk p1 37 [vf] :: L) := hS.sp; refine zR2 (c := Q5T (s := [125, 10]) (.inr rfl) (by show _ + 2 ≤ _; omega) hS) (h := ?_); rintro v3 w1 ⟨u3, t8, ht8, rfl, hu3, hS⟩; refine zn ?_; refine Q2 ?_; refine zad ?_; refine zm ?_; refine zn ?_; exact ⟨⟨j + 1, _, u3, t8, zh, zh, (by omega), .inr rfl, by rw [ht8, funs_s hx1, Qh9, ht1, ht, List.take_of_length_le (l := x1.blocks) (by omega)]; simp only [Q4Y, Q38, Q2g, Qak, tIf, tTo, Q8k, tRet, List.append_assoc, List.cons_append, List.nil_append], hS.sp⟩, Qk (by omega)⟩)
  · skip
    all_goals (refine zex ?_; refine Q0 ?_; have l4 := QfJ hn hpf j; rw [List.take_of_length_le (by omega)] at ht l4; have hne : t ≠ [] := (by rw [ht]; exact funs_ne h0); refine Q2 ?_; refine zR1 (c := Qhi hne (by rw [ht]; omega) hS) (h := ?_); rintro v3 w1 ⟨rfl, hS⟩; refine zm ?_; refine zn ?_; refine zr ?_; refine zf ?_; refine ⟨_, rfl, ?_, hS.sp⟩; rw [ht]; done)
end Go.Proofs.YtjecflbbcnocdaaDoor
namespace Go.Proofs.YtjecflbbcnocdaaDoor
open Go.Lir
set_option maxHeartbeats 1000000
attribute [local irreducible] LC.wp Q1 Qu Qw retQ Q1z LO.wp Qb Calls
set_option linter.unusedSimpArgs false
set_option linter.unusedVariables false
attribute [local irreducible] Lib.itoa Lib.join Q24 Q1b Ins.txt Tail.txt To.txt
variable {cx : Cx} {w : World} {L : List Res}
end Go.Proofs.YtjecflbbcnocdaaDoor
