/- The modules of the program's api as plain data, and how they are read. -/
import Derived.Test.YtanlkfeogoganaaDoorLirRep
import Derived.Test.YtanlkfeogoganaaDoorTyFun
namespace Go.Lir
structure Ins where
  op : Int
  a : Int
  b : Int
  c : Int
  k : Int
  n : Int
  regs : List Int
  args : List Int
structure To where
  block : Int
  regs : List Int
  args : List Int
structure Tail where
  op : Int
  a : Int
  yes : To
  no : To
  args : List Int
structure Block where
  regs : Int
  params : List Ty
  code : List Ins
  fin : Tail
deriving instance DecidableEq for Ins
deriving instance DecidableEq for To
deriving instance DecidableEq for Tail
deriving instance DecidableEq for Block
structure Fun where
  regs : Int
  params : List Ty
  results : List Ty
  blocks : List Block
structure Module where
  funcs : List Fun
deriving instance DecidableEq for Fun
deriving instance DecidableEq for Module

/-! ### no list is long -/
def Ins.Short (x : Ins) : Prop := x.regs.length ≤ 100000 ∧ x.args.length ≤ 100000
def To.Short (x : To) : Prop := x.regs.length ≤ 100000 ∧ x.args.length ≤ 100000
def Tail.Short (x : Tail) : Prop := x.yes.Short ∧ x.no.Short ∧ x.args.length ≤ 100000
def Tys.Short (l : List Ty) : Prop := l.length ≤ 100000 ∧ ∀ t ∈ l, t.Short
def Block.Short (x : Block) : Prop := Tys.Short x.params ∧ x.code.length ≤ 100000 ∧ (∀ i ∈ x.code, i.Short) ∧ x.fin.Short
def Fun.Short (x : Fun) : Prop := Tys.Short x.params ∧ Tys.Short x.results ∧ x.blocks.length ≤ 100000 ∧ ∀ b ∈ x.blocks, b.Short
def Module.Short (x : Module) : Prop := x.funcs.length ≤ 100000 ∧ ∀ f ∈ x.funcs, f.Short
def insR : Rep Ins where
  es := 8
  pos := by decide
  R := fun H K cs x => ∃ vr va, cs = [.int .i64 x.op, .int .i64 x.a, .int .i64 x.b, .int .i64 x.c, .int .i64 x.k, .int .i64 x.n, vr, va] ∧ intR.SR H K vr x.regs ∧ intR.SR H K va x.args
  len := by rintro _ _ _ _ ⟨vr, va, rfl, _⟩; rfl
  one := by
    rintro _ _ _ _ ⟨vr, va, rfl, h1, h2⟩ u hu
    simp at hu
    rcases hu with rfl | rfl | rfl | rfl | rfl | rfl | rfl | rfl <;> first | rfl | exact h1.oneC | exact h2.oneC
  turn := by rintro _ _ _ _ _ _ ⟨vr, va, rfl, h1, h2⟩ hs; exact ⟨vr, va, rfl, h1.turn hs, h2.turn hs⟩
def toR : Rep To where
  es := 3
  pos := by decide
  R := fun H K cs x => ∃ vr va, cs = [.int .i64 x.block, vr, va] ∧ intR.SR H K vr x.regs ∧ intR.SR H K va x.args
  len := by rintro _ _ _ _ ⟨vr, va, rfl, _⟩; rfl
  one := by
    rintro _ _ _ _ ⟨vr, va, rfl, h1, h2⟩ u hu
    simp at hu
    rcases hu with rfl | rfl | rfl <;> first | rfl | exact h1.oneC | exact h2.oneC
  turn := by rintro _ _ _ _ _ _ ⟨vr, va, rfl, h1, h2⟩ hs; exact ⟨vr, va, rfl, h1.turn hs, h2.turn hs⟩
def endR : Rep Tail where
  es := 9
  pos := by decide
  R := fun H K cs x => ∃ v1 v2 v3 v4 v5, cs = [.int .i64 x.op, .int .i64 x.a, .int .i64 x.yes.block, v1, v2, .int .i64 x.no.block, v3, v4, v5] ∧ intR.SR H K v1 x.yes.regs ∧ intR.SR H K v2 x.yes.args ∧ intR.SR H K v3 x.no.regs ∧ intR.SR H K v4 x.no.args ∧ intR.SR H K v5 x.args
  len := by rintro _ _ _ _ ⟨_, _, _, _, _, rfl, _⟩; rfl
  one := by
    rintro _ _ _ _ ⟨_, _, _, _, _, rfl, h1, h2, h3, h4, h5⟩ u hu
    simp at hu
    rcases hu with rfl | rfl | rfl | rfl | rfl | rfl | rfl | rfl | rfl <;> first | rfl | exact h1.oneC | exact h2.oneC | exact h3.oneC | exact h4.oneC | exact h5.oneC
  turn := by rintro _ _ _ _ _ _ ⟨_, _, _, _, _, rfl, h1, h2, h3, h4, h5⟩ hs; exact ⟨_, _, _, _, _, rfl, h1.turn hs, h2.turn hs, h3.turn hs, h4.turn hs, h5.turn hs⟩
def blockR : Rep Block where
  es := 12
  pos := by decide
  R := fun H K cs x => ∃ vp vc ce, cs = .int .i64 x.regs :: vp :: vc :: ce ∧ tyR.SR H K vp x.params ∧ insR.SR H K vc x.code ∧ endR.R H K ce x.fin
  len := by rintro _ _ _ _ ⟨_, _, ce, rfl, _, _, h⟩; have := endR.len h; simp [this, endR]
  one := by
    rintro _ _ _ _ ⟨_, _, ce, rfl, h1, h2, h3⟩ u hu
    simp at hu
    rcases hu with rfl | rfl | rfl | hu
    · rfl
    · exact h1.oneC
    · exact h2.oneC
    · exact endR.one h3 u hu
  turn := by rintro _ _ _ _ _ _ ⟨_, _, _, rfl, h1, h2, h3⟩ hs; exact ⟨_, _, _, rfl, h1.turn hs, h2.turn hs, endR.turn h3 hs⟩
def funcR : Rep Fun where
  es := 4
  pos := by decide
  R := fun H K cs x => ∃ vp vr vb, cs = [.int .i64 x.regs, vp, vr, vb] ∧ tyR.SR H K vp x.params ∧ tyR.SR H K vr x.results ∧ blockR.SR H K vb x.blocks
  len := by rintro _ _ _ _ ⟨_, _, _, rfl, _⟩; rfl
  one := by
    rintro _ _ _ _ ⟨_, _, _, rfl, h1, h2, h3⟩ u hu
    simp at hu
    rcases hu with rfl | rfl | rfl | rfl <;> first | rfl | exact h1.oneC | exact h2.oneC | exact h3.oneC
  turn := by rintro _ _ _ _ _ _ ⟨_, _, _, rfl, h1, h2, h3⟩ hs; exact ⟨_, _, _, rfl, h1.turn hs, h2.turn hs, h3.turn hs⟩
/-! ### codecs -/
section
variable {P : Program} {T : TypeId}
/-- A field as a kind of data. -/
theorem Cod.Of.part {α : Type} {r : Rep α} (c : Cod.Of P T r) {H : Heap} {cs : List Value} {x : α} (h : c.cod.rd H cs x) : r.R H (· < H.size) cs x := c.rd _ _ _ h
def Cod.Of.to {TI TL : TypeId} (ci : Cod.Of P TI intR) (cl : Cod.Of P TL intR.list) (h0 : fieldAt P T 0 = some (0, 1, TI)) (h1 : fieldAt P T 1 = some (1, 1, TL)) (h2 : fieldAt P T 2 = some (2, 1, TL)) (hT : P.cellsOf T = 3) : Cod.Of P T toR :=
  Cod.of (Fld.cod (Fld.more ci.cod h0 (Fld.more cl.cod h1 (Fld.more cl.cod h2 Fld.none))) h0 3 hT) toR rfl fun H cs x h => by
    obtain ⟨hl, g0, g1, g2, _⟩ := h
    match cs, hl with
    | [a, b, c], _ =>
      have e0 : [a] = [_] := ci.part g0
      obtain ⟨v1, e1, s1⟩ := cl.part g1
      obtain ⟨v2, e2, s2⟩ := cl.part g2
      replace e1 : [b] = [v1] := e1
      replace e2 : [c] = [v2] := e2
      simp only [List.cons.injEq, and_true] at e0 e1 e2
      subst e0 e1 e2
      exact ⟨⟨x.1, x.2.1, x.2.2.1⟩, b, c, rfl, s1, s2⟩
def Cod.Of.block {TI TL TC TE : TypeId} (ci : Cod.Of P TI intR) (cl : Cod.Of P TL tyR.list) (cc : Cod.Of P TC insR.list) (ce : Cod.Of P TE endR) (h0 : fieldAt P T 0 = some (0, 1, TI)) (h1 : fieldAt P T 1 = some (1, 1, TL)) (h2 : fieldAt P T 2 = some (2, 1, TC)) (h3 : fieldAt P T 3 = some (3, 9, TE)) (hT : P.cellsOf T = 12) : Cod.Of P T blockR :=
  Cod.of (Fld.cod (Fld.more ci.cod h0 (Fld.more cl.cod h1 (Fld.more cc.cod h2 (Fld.more ce.cod h3 Fld.none)))) h0 12 hT) blockR rfl fun H cs x h => by
    obtain ⟨hl, g0, g1, g2, g3, _⟩ := h
    match cs, hl with
    | [a0, a1, a2, a3, a4, a5, a6, a7, a8, a9, a10, a11], _ =>
      have e0 : [a0] = [_] := ci.part g0
      obtain ⟨v1, e1, s1⟩ := cl.part g1
      obtain ⟨v2, e2, s2⟩ := cc.part g2
      have s3 := ce.part g3
      replace e1 : [a1] = _ := e1
      replace e2 : [a2] = _ := e2
      replace s3 : endR.R H (· < H.size) [a3, a4, a5, a6, a7, a8, a9, a10, a11] x.2.2.2.1 := s3
      simp only [List.cons.injEq, and_true] at e0 e1 e2
      subst e0 e1 e2
      exact ⟨⟨x.1, x.2.1, x.2.2.1, x.2.2.2.1⟩, _, _, _, rfl, s1, s2, s3⟩
def Cod.Of.func {TI TL TB : TypeId} (ci : Cod.Of P TI intR) (cl : Cod.Of P TL tyR.list) (cb : Cod.Of P TB blockR.list) (h0 : fieldAt P T 0 = some (0, 1, TI)) (h1 : fieldAt P T 1 = some (1, 1, TL)) (h2 : fieldAt P T 2 = some (2, 1, TL)) (h3 : fieldAt P T 3 = some (3, 1, TB)) (hT : P.cellsOf T = 4) : Cod.Of P T funcR :=
  Cod.of (Fld.cod (Fld.more ci.cod h0 (Fld.more cl.cod h1 (Fld.more cl.cod h2 (Fld.more cb.cod h3 Fld.none)))) h0 4 hT) funcR rfl fun H cs x h => by
    obtain ⟨hl, g0, g1, g2, g3, _⟩ := h
    match cs, hl with
    | [a0, a1, a2, a3], _ =>
      have e0 : [a0] = [_] := ci.part g0
      obtain ⟨v1, e1, s1⟩ := cl.part g1
      obtain ⟨v2, e2, s2⟩ := cl.part g2
      obtain ⟨v3, e3, s3⟩ := cb.part g3
      replace e1 : [a1] = _ := e1
      replace e2 : [a2] = _ := e2
      replace e3 : [a3] = _ := e3
      simp only [List.cons.injEq, and_true] at e0 e1 e2 e3
      subst e0 e1 e2 e3
      exact ⟨⟨x.1, x.2.1, x.2.2.1, x.2.2.2.1⟩, _, _, _, rfl, s1, s2, s3⟩
end
end Go.Lir
