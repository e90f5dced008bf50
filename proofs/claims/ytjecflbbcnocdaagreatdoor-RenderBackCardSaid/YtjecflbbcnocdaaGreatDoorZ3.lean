/- Lemmas of the proof, part 3: what the functions of the program do (contracts), and what follows. -/
import Derived.Test.YtjecflbbcnocdaaGreatDoorProg
import Derived.Test.YtjecflbbcnocdaaGreatDoorZ2
import Derived.Test.YtjecflbbcnocdaaGreatDoorZ1
import Derived.Lib.Join
import Derived.Lib.ItoaLen
import Derived.Lib.LaidTab
import Derived.Lib.Strings
import Derived.Laws.Concat
import Derived.Below
import Derived.Sort.Grow
import Derived.Deep.Draws
import Derived.Lib.ItoaNum
import Derived.Shelf.Strings.OnBuilder
import Derived.Shelf.Small.Strs
import Derived.Shelf.LaysM
import Derived.Shelf.Strconv.Itoa3
import Derived.Shelf.Strconv.ParseIntEmpty
import Derived.Shelf.Strconv.Clone
import Derived.Shelf.Strconv.SyntaxError
import Derived.Shelf.LaysC
import Derived.Shelf.Strconv.ToError
import Derived.Shelf.Strconv.Lower
import Derived.Shelf.Strconv.ParseUint10
import Derived.Shelf.Strconv.ParseUint10Empty
import Derived.Shelf.Strconv.ParseUint10Any
import Derived.Shelf.Strconv.ParseInt10
import Derived.Shelf.Strconv.RangeError
import Derived.Shelf.Strconv.ToErrorRange
import Derived.Shelf.Strconv.ParseUintEmpty
import Derived.Shelf.Strconv.ParseUint10b64
import Derived.Shelf.Strconv.ParseUint10b32
import Derived.Shelf.Strconv.ParseUint10b16
import Derived.Shelf.Strconv.ParseUint10b8
import Derived.Shelf.Strconv.ParseUint10At
import Derived.Shelf.Strconv.ParseInt10At64
import Derived.Shelf.Strconv.ParseInt10At32
import Derived.Shelf.Strconv.ParseInt10At16
import Derived.Shelf.Strconv.ParseInt10At8
import Derived.Shelf.Strconv.ParseInt10All
import Derived.Shelf.Strconv.ParseIntPublic10
import Derived.Shelf.Strings.Search1
import Derived.Lib.ParseIntB
namespace Go.Proofs.YtjecflbbcnocdaaGreatDoor
open Go.Lir
set_option maxRecDepth 100000

/- 3 -/
/- 4 -/
/- 5 -/
/- 6 -/
def Qdj : List GO := [qb 1 24 0, qk 2 (.bool false)]
def Qdi : List GO := [⟨none, .call (some 9) 7 []⟩, ⟨none, .un 10 .not (.tmp 9)⟩]
def Qdh : List GO := [qk 2 (.bool false)]
def Qdg : List GO := [qV 11 1 1, ⟨none, .call (some 12) 8 [(.tmp 11)]⟩]
def Qdf : List GO := [qk 2 (.bool true)]
def Qde : List GO := [qV 14 1 1, ⟨none, .call (some 15) 10 [(.tmp 14)]⟩, qm 13 15, qx 16 13 0, qx 17 13 1, ⟨none, .alloc 4 29 [(vi 0), (vi 0)]⟩, qm 3 16, qw 2 4 17]
def Qdd : List GO := [qf 18 4 0, ql 19 18, qj 20 .neq 3 19 0]
def Qdc : List GO := [qm 21 3, ⟨none, .bin 22 .eql 9 (.tmp 21) (.const (.string ⟨#[]⟩))⟩, qm 2 22]
def Qdb : List GO := [qm 24 3, ⟨none, .call (some 25) 14 [(.tmp 24)]⟩, qm 23 25, qx 26 23 0, qx 27 23 1, ⟨none, .alloc 5 24 [vn]⟩, ⟨none, .alloc 6 29 [(vi 0), (vi 0)]⟩, qw 1 5 26, qw 2 6 27]
def Qda : List GO := [qV 29 1 5, ⟨none, .call (some 30) 10 [(.tmp 29)]⟩, qm 28 30, qx 31 28 0, qx 32 28 1, ⟨none, .alloc 8 29 [(vi 0), (vi 0)]⟩, qm 7 31, qw 2 8 32]
def QbT : List GO := [qf 33 6 0, ql 34 33, qj 35 .eql 3 34 0, qm 36 35, qg 36 true (qf 37 8 0), qg 36 true (ql 38 37), qg 36 true (qj 39 .eql 3 38 0), ⟨none, .pick 40 (.tmp 36) (.tmp 39) (.const (.bool false))⟩, qm 41 40, qg 41 true (qm 42 3), qg 41 true (qm 43 7), qg 41 true (qt 44 .eql 9 42 43), ⟨none, .pick 45 (.tmp 41) (.tmp 44) (.const (.bool false))⟩, qm 46 45, qg 46 true (qV 47 1 1), qg 46 true (qV 48 1 5), ⟨some (46, true), .call (some 49) 12 [(.tmp 47), (.tmp 48)]⟩, ⟨none, .pick 50 (.tmp 46) (.tmp 49) (.const (.bool false))⟩, qm 2 50]
def Law_RenderBack_lc : LC := (.seq (.ops Qdj) (.seq (.seq (.ops Qdi) (.cond (.tmp 10) (.seq (.ops Qdh) .ret) .skip)) (.seq (.seq (.ops Qdg) (.cond (.tmp 12) (.seq (.ops Qdf) .ret) .skip)) (.seq (.ops Qde) (.seq (.seq (.ops Qdd) (.cond (.tmp 20) (.seq (.ops Qdc) .ret) .skip)) (.seq (.ops Qdb) (.seq (.ops Qda) (.seq (.ops QbT) .ret))))))))
@[reducible] def QU : FuncId := 6
theorem QbU : lowF Tryz.prog Tryz.f6 = some Law_RenderBack_lc := by kernel_rfl
theorem Qdk {a0 : Value} {w : World} {R : Ending → World → Prop} (h : Law_RenderBack_lc.wp Tryz.prog (retQ Tryz.prog [.tmp 2] R) (Qg [a0]) w) : Calls Tryz.prog QU ⟨[a0]⟩ w R :=
  Q4 Tryz.func6 QbU (by kernel_rfl) (by kernel_rfl) h

/- 7 -/
def QbR : List GO := [qk 0 (.bool false)]
def QbQ : List GO := [⟨none, .call (some 4) 21 []⟩, ⟨none, .call (some 5) 10 [(.tmp 4)]⟩, qm 3 5, qx 6 3 0, qx 7 3 1, ⟨none, .alloc 2 29 [(vi 0), (vi 0)]⟩, qm 1 6, qw 2 2 7]
def QbP : List GO := [qf 8 2 0, ql 9 8, qj 10 .eql 3 9 0, qm 11 10, qg 11 true (qm 12 1), ⟨some (11, true), .bin 13 .eql 9 (.tmp 12) (.const (.string ⟨#[102, 117, 110, 99, 32, 48, 32, 40, 41, 32, 45, 62, 32, 40, 41, 32, 123, 10, 98, 108, 111, 99, 107, 32, 48, 32, 40, 41, 32, 123, 10, 9, 114, 101, 116, 32, 40, 41, 59, 10, 125, 10, 125, 10]⟩))⟩, ⟨none, .pick 14 (.tmp 11) (.tmp 13) (.const (.bool false))⟩, qm 0 14]
def Law_renderBegun_lc : LC := (.seq (.ops QbR) (.seq (.ops QbQ) (.seq (.ops QbP) .ret)))
@[reducible] def Q7C : FuncId := 7
theorem Qax : lowF Tryz.prog Tryz.f7 = some Law_renderBegun_lc := by kernel_rfl
theorem QbS {w : World} {R : Ending → World → Prop} (h : Law_renderBegun_lc.wp Tryz.prog (retQ Tryz.prog [.tmp 0] R) (Qg []) w) : Calls Tryz.prog Q7C ⟨[]⟩ w R :=
  Q4 Tryz.func7 Qax (by kernel_rfl) (by kernel_rfl) h

/- 8 -/
def Qen : List GO := [qb 1 24 0, qk 2 (.bool false)]
def Qem : List GO := [qf 8 1 0, ql 9 8, qL 10 9, qj 11 .gtr 3 10 20]
def Qel : List GO := [qk 2 (.bool true)]
def Qek : List GO := [qk 3 (vi 0)]
def Qej : List GO := [qm 12 3, qf 13 1 0, ql 14 13, qL 15 14, qt 16 .lss 3 12 15]
def Qei : List GO := [qf 19 1 0, ql 20 19, qm 21 3, qi 22 4 20 21, qV 23 4 22, ⟨none, .alloc 4 43 [(vi 0), vn, vn, vn]⟩, qw 4 4 23]
def Qeh : List GO := [qf 24 4 3, ql 25 24, qL 26 25, qj 27 .gtr 3 26 30, qm 28 27, qg 28 false (qf 29 4 1), qg 28 false (ql 30 29), ⟨some (28, false), .call (some 31) 22 [(.tmp 30)]⟩, ⟨none, .pick 32 (.tmp 28) (.const (.bool true)) (.tmp 31)⟩, qm 33 32, qg 33 false (qf 34 4 2), qg 33 false (ql 35 34), ⟨some (33, false), .call (some 36) 22 [(.tmp 35)]⟩, ⟨none, .pick 37 (.tmp 33) (.const (.bool true)) (.tmp 36)⟩]
def Qeg : List GO := [qk 2 (.bool true)]
def Qef : List GO := [qk 5 (vi 0)]
def Qee : List GO := [qm 38 5, qf 39 4 3, ql 40 39, qL 41 40, qt 42 .lss 3 38 41]
def Qd8 : List GO := [qf 45 4 3, ql 46 45, qm 47 5, qi 48 12 46 47, qV 49 12 48, ⟨none, .alloc 6 52 [(vi 0), vn, vn, (vi 0), (vi 0), (vi 0), vn, vn, (vi 0), vn, vn, vn]⟩, qw 12 6 49]
def Qd7 : List GO := [qf 50 6 2, ql 51 50, qL 52 51, qj 53 .gtr 3 52 200, qm 54 53, qg 54 false (qf 55 6 1), qg 54 false (ql 56 55), ⟨some (54, false), .call (some 57) 22 [(.tmp 56)]⟩, ⟨none, .pick 58 (.tmp 54) (.const (.bool true)) (.tmp 57)⟩, qm 59 58, qg 59 false (qf 60 6 3), qg 59 false (qf 61 60 8), qg 59 false (ql 62 61), qg 59 false (qL 63 62), qg 59 false (qj 64 .gtr 3 63 300), ⟨none, .pick 65 (.tmp 59) (.const (.bool true)) (.tmp 64)⟩, qm 66 65, qg 66 false (qf 67 6 3), qg 66 false (qf 68 67 2), qg 66 false (qf 69 68 1), qg 66 false (ql 70 69), qg 66 false (qL 71 70), qg 66 false (qj 72 .gtr 3 71 300), ⟨none, .pick 73 (.tmp 66) (.const (.bool true)) (.tmp 72)⟩, qm 74 73, qg 74 false (qf 75 6 3), qg 74 false (qf 76 75 2), qg 74 false (qf 77 76 2), qg 74 false (ql 78 77), qg 74 false (qL 79 78), qg 74 false (qj 80 .gtr 3 79 300), ⟨none, .pick 81 (.tmp 74) (.const (.bool true)) (.tmp 80)⟩, qm 82 81, qg 82 false (qf 83 6 3), qg 82 false (qf 84 83 5), qg 82 false (qf 85 84 1), qg 82 false (ql 86 85), qg 82 false (qL 87 86), qg 82 false (qj 88 .gtr 3 87 300), ⟨none, .pick 89 (.tmp 82) (.const (.bool true)) (.tmp 88)⟩, qm 90 89, qg 90 false (qf 91 6 3), qg 90 false (qf 92 91 5), qg 90 false (qf 93 92 2), qg 90 false (ql 94 93), qg 90 false (qL 95 94), qg 90 false (qj 96 .gtr 3 95 300), ⟨none, .pick 97 (.tmp 90) (.const (.bool true)) (.tmp 96)⟩]
def Qd6 : List GO := [qk 2 (.bool true)]
def Qd5 : List GO := [qk 7 (vi 0)]
def Qd4 : List GO := [qm 98 7, qf 99 6 2, ql 100 99, qL 101 100, qt 102 .lss 3 98 101]
def Qd3 : List GO := [qf 105 6 2, ql 106 105, qm 107 7, qi 108 8 106 107, qf 109 108 6, ql 110 109, qL 111 110, qj 112 .gtr 3 111 300, qm 113 112, qg 113 false (qf 114 6 2), qg 113 false (ql 115 114), qg 113 false (qm 116 7), qg 113 false (qi 117 8 115 116), qg 113 false (qf 118 117 7), qg 113 false (ql 119 118), qg 113 false (qL 120 119), qg 113 false (qj 121 .gtr 3 120 300), ⟨none, .pick 122 (.tmp 113) (.const (.bool true)) (.tmp 121)⟩]
def Qd2 : List GO := [qk 2 (.bool true)]
def Qd1 : List GO := [qm 103 7, qj 104 .add 3 103 1, qm 7 104]
def Q56 : LC := (.seq (.seq (.ops Qd4) (.cond (.tmp 102) .skip (.exit 4))) (.seq (.block 5 (.seq (.ops Qd3) (.cond (.tmp 122) (.seq (.ops Qd2) .ret) .skip))) (.ops Qd1)))
def Qd0 : List GO := [qm 43 5, qj 44 .add 3 43 1, qm 5 44]
def Q5B : LC := (.seq (.seq (.ops Qee) (.cond (.tmp 42) .skip (.exit 2))) (.seq (.block 3 (.seq (.ops Qd8) (.seq (.seq (.ops Qd7) (.cond (.tmp 97) (.seq (.ops Qd6) .ret) .skip)) (.seq (.ops Qd5) (.block 4 (.loop Q56)))))) (.ops Qd0)))
def QcZ : List GO := [qm 17 3, qj 18 .add 3 17 1, qm 3 18]
def Q5C : LC := (.seq (.seq (.ops Qej) (.cond (.tmp 16) .skip (.exit 0))) (.seq (.block 1 (.seq (.ops Qei) (.seq (.seq (.ops Qeh) (.cond (.tmp 37) (.seq (.ops Qeg) .ret) .skip)) (.seq (.ops Qef) (.block 2 (.loop Q5B)))))) (.ops QcZ)))
def QcY : List GO := [qk 2 (.bool false)]
def R_GreatModule_lc : LC := (.seq (.ops Qen) (.seq (.seq (.ops Qem) (.cond (.tmp 11) (.seq (.ops Qel) .ret) .skip)) (.seq (.seq (.ops Qek) (.block 0 (.loop Q5C))) (.seq (.ops QcY) .ret))))
@[reducible] def QR : FuncId := 8
theorem Qd9 : lowF Tryz.prog Tryz.f8 = some R_GreatModule_lc := by kernel_rfl
theorem Qeo {a0 : Value} {w : World} {R : Ending → World → Prop} (h : R_GreatModule_lc.wp Tryz.prog (retQ Tryz.prog [.tmp 2] R) (Qg [a0]) w) : Calls Tryz.prog QR ⟨[a0]⟩ w R :=
  Q4 Tryz.func8 Qd9 (by kernel_rfl) (by kernel_rfl) h

/- 9 -/
/- 10 -/
def QfD : List GO := [qb 1 24 0, qk 2 (.string ⟨#[]⟩), ⟨none, .alloc 3 29 [(vi 0), (vi 0)]⟩]
def QfC : List GO := [qV 6 1 1, ⟨none, .call (some 7) 26 [(.tmp 6)]⟩, ⟨none, .alloc 4 29 [(vi 0), (vi 0)]⟩, qw 2 4 7]
def QfB : List GO := [qf 8 4 0, ql 9 8, qj 10 .neq 3 9 0]
def QfA : List GO := [qV 11 2 4, qk 2 (.string ⟨#[]⟩), qw 2 3 11]
def QfF : List (List Nat) := [[],[],[0,1,0,1]]
def Qfz : List GO := [qV 12 1 1, ⟨none, .call (some 13) 27 [(.tmp 12)]⟩, ⟨none, .un 14 .not (.tmp 13)⟩]
def Qfy : List GO := [⟨none, .build 15 [(vi 0), (vi 0)] [(0, (1, (.const (vi 8)))), (1, (1, (.const (vi (-1)))))]⟩, qk 2 (.string ⟨#[]⟩), qw 2 3 15]
def Qfx : List GO := [qV 16 1 1, ⟨none, .call (some 17) 28 [(.tmp 16)]⟩, qm 5 17]
def Qfw : List GO := [qm 18 5, ⟨none, .slen 19 (.tmp 18)⟩, qj 20 .gtr 3 19 40000]
def Qfv : List GO := [⟨none, .build 21 [(vi 0), (vi 0)] [(0, (1, (.const (vi 2)))), (1, (1, (.const (vi (-1)))))]⟩, qk 2 (.string ⟨#[]⟩), qw 2 3 21]
def Qfu : List GO := [qm 22 5, ⟨none, .build 23 [(vi 0), (vi 0)] []⟩, qm 2 22, qw 2 3 23]
def render_Print_lc : LC := (.seq (.ops QfD) (.seq (.seq (.ops QfC) (.seq (.ops QfB) (.cond (.tmp 10) (.seq (.draw QfA QfF) .ret) .skip))) (.seq (.seq (.ops Qfz) (.cond (.tmp 14) (.seq (.ops Qfy) .ret) .skip)) (.seq (.ops Qfx) (.seq (.seq (.ops Qfw) (.cond (.tmp 20) (.seq (.ops Qfv) .ret) .skip)) (.seq (.ops Qfu) .ret))))))
@[reducible] def Q1u : FuncId := 10
theorem QdQ : lowF Tryz.prog Tryz.f10 = some render_Print_lc := by kernel_rfl
theorem QfE {a0 : Value} {w : World} {R : Ending → World → Prop} (h : render_Print_lc.wp Tryz.prog (retQ Tryz.prog [.tmp 2, .cell 3 29] R) (Qg [a0]) w) : Calls Tryz.prog Q1u ⟨[a0]⟩ w R :=
  Q4 Tryz.func10 QdQ (by kernel_rfl) (by kernel_rfl) h

/- 11 -/
/- 12 -/
def Qgy : List GO := [qb 2 24 0, qb 3 24 1, qk 4 (.bool false)]
def Qgx : List GO := [qf 9 2 0, ql 10 9, qL 11 10, qf 12 3 0, ql 13 12, qL 14 13, qt 15 .neq 3 11 14]
def Qgw : List GO := [qk 4 (.bool false)]
def Qgv : List GO := [qk 5 (vi 0)]
def Qgu : List GO := [qm 16 5, qf 17 2 0, ql 18 17, qL 19 18, qt 20 .lss 3 16 19]
def Qgt : List GO := [qf 23 2 0, ql 24 23, qm 25 5, qi 26 4 24 25, qV 27 4 26, qf 28 3 0, ql 29 28, qm 30 5, qi 31 4 29 30, qV 32 4 31, ⟨none, .alloc 6 43 [(vi 0), vn, vn, vn]⟩, ⟨none, .alloc 7 43 [(vi 0), vn, vn, vn]⟩, qw 4 6 27, qw 4 7 32]
def QgA : List (List Nat) := [[],[0],[],[1,2],[3],[],[5],[],[6,7],[8],[],[],[10,4,0,1,2,3,4,10,11],[11,9,12,0,1,2,3,4,5,6,7,8,9,10,11,12]]
def Qgs : List GO := [qf 33 6 0, ql 34 33, qf 35 7 0, ql 36 35, qt 37 .neq 3 34 36, qm 38 37, qg 38 false (qf 39 6 1), qg 38 false (ql 40 39), qg 38 false (qf 41 7 1), qg 38 false (ql 42 41), ⟨some (38, false), .call (some 43) 32 [(.tmp 40), (.tmp 42)]⟩, ⟨some (38, false), .un 44 .not (.tmp 43)⟩, ⟨none, .pick 45 (.tmp 38) (.const (.bool true)) (.tmp 44)⟩, qm 46 45, qg 46 false (qf 47 6 2), qg 46 false (ql 48 47), qg 46 false (qf 49 7 2), qg 46 false (ql 50 49), ⟨some (46, false), .call (some 51) 32 [(.tmp 48), (.tmp 50)]⟩, ⟨some (46, false), .un 52 .not (.tmp 51)⟩, ⟨none, .pick 53 (.tmp 46) (.const (.bool true)) (.tmp 52)⟩, qm 54 53, qg 54 false (qf 55 6 3), qg 54 false (ql 56 55), qg 54 false (qL 57 56), qg 54 false (qf 58 7 3), qg 54 false (ql 59 58), qg 54 false (qL 60 59), qg 54 false (qt 61 .neq 3 57 60), ⟨none, .pick 62 (.tmp 54) (.const (.bool true)) (.tmp 61)⟩]
def Qgr : List GO := [qk 4 (.bool false)]
def Qgq : List GO := [qk 8 (vi 0)]
def Qgp : List GO := [qm 63 8, qf 64 6 3, ql 65 64, qL 66 65, qt 67 .lss 3 63 66]
def Qeb : List GO := [qf 70 6 3, ql 71 70, qm 72 8, qi 73 12 71 72, qV 74 12 73, qf 75 7 3, ql 76 75, qm 77 8, qi 78 12 76 77, qV 79 12 78, ⟨none, .call (some 80) 33 [(.tmp 74), (.tmp 79)]⟩, ⟨none, .un 81 .not (.tmp 80)⟩]
def Qed : List (List Nat) := [[],[0],[],[1,2],[3],[],[5],[],[6,7],[8],[4,9],[10]]
def Qea : List GO := [qk 4 (.bool false)]
def Qe9 : List GO := [qm 68 8, qj 69 .add 3 68 1, qm 8 69]
def Q46 : LC := (.seq (.seq (.ops Qgp) (.cond (.tmp 67) .skip (.exit 2))) (.seq (.block 3 (.seq (.draw Qeb Qed) (.cond (.tmp 81) (.seq (.ops Qea) .ret) .skip))) (.ops Qe9)))
def Qe8 : List GO := [qm 21 5, qj 22 .add 3 21 1, qm 5 22]
def Q7B : LC := (.seq (.seq (.ops Qgu) (.cond (.tmp 20) .skip (.exit 0))) (.seq (.block 1 (.seq (.draw Qgt QgA) (.seq (.seq (.ops Qgs) (.cond (.tmp 62) (.seq (.ops Qgr) .ret) .skip)) (.seq (.ops Qgq) (.block 2 (.loop Q46)))))) (.ops Qe8)))
def Qe7 : List GO := [qk 4 (.bool true)]
def R_SameModule_lc : LC := (.seq (.ops Qgy) (.seq (.seq (.ops Qgx) (.cond (.tmp 15) (.seq (.ops Qgw) .ret) .skip)) (.seq (.seq (.ops Qgv) (.block 0 (.loop Q7B))) (.seq (.ops Qe7) .ret))))
@[reducible] def QN : FuncId := 12
theorem Qec : lowF Tryz.prog Tryz.f12 = some R_SameModule_lc := by kernel_rfl
theorem Qgz {a0 a1 : Value} {w : World} {R : Ending → World → Prop} (h : R_SameModule_lc.wp Tryz.prog (retQ Tryz.prog [.tmp 4] R) (Qg [a0, a1]) w) : Calls Tryz.prog QN ⟨[a0, a1]⟩ w R :=
  Q4 Tryz.func12 Qec (by kernel_rfl) (by kernel_rfl) h

/- 13 -/
/- 14 -/
def QhM : List GO := [⟨none, .alloc 2 24 [vn]⟩, ⟨none, .alloc 3 29 [(vi 0), (vi 0)]⟩]
def QhL : List GO := [qm 8 0, ⟨none, .call (some 9) 34 [(.tmp 8)]⟩, qm 7 9, qx 10 7 0, qx 11 7 1, qm 4 10, qw 2 3 11]
def QhK : List GO := [qf 12 3 0, ql 13 12, qj 14 .neq 3 13 0]
def QhJ : List GO := [⟨none, .build 15 [vn] []⟩, qV 16 2 3, qw 1 2 15, qw 2 3 16]
def QhP : List (List Nat) := [[],[],[0,0],[1,2,0,1,2]]
def QhI : List GO := [⟨none, .mkfn 17 35 [(.tmp 2), (.tmp 3)]⟩]
def QhH : List GO := []
def QhG : List GO := [qm 18 4, qm 19 0, ⟨none, .slen 20 (.tmp 19)⟩, ⟨none, .build 21 [vn, (vi 0)] [(0, (1, (.tmp 18))), (1, (1, (.tmp 20)))]⟩, qb 22 70 21, qm 5 22]
def QhF : List GO := [qm 23 5, qn 24 23, qf 25 24 0, ql 26 25, qL 27 26, qj 28 .gtr 3 27 0]
def QhE : List GO := [qf 29 2 0, ql 30 29, qm 31 5, ⟨none, .call (some 32) 36 [(.tmp 31)]⟩, ⟨none, .buildS 33 43 1 [(vi 0), vn, vn, vn] [(0, (4, (.tmp 32)))]⟩, ⟨none, .raw ⟨(some 34), (.call ⟨(.builtin .append), #[(.tmp 30), (.tmp 33)], #[22, 22]⟩), 22, "", #[], none⟩⟩, qf 35 2 0, qs 35 34]
def QhO : List (List Nat) := [[],[0],[],[2],[3],[1,4,3],[0,1,2,3,4,5],[6,5,5,0,1,2,3,4,5]]
def Q9t : LC := (.seq (.seq (.ops QhF) (.cond (.tmp 28) .skip (.exit 0))) (.block 1 (.draw QhE QhO)))
def QhD : List GO := [qV 36 1 2, ⟨none, .call (some 37) 26 [(.tmp 36)]⟩, ⟨none, .alloc 6 29 [(vi 0), (vi 0)]⟩, qw 2 6 37]
def QfJ : List GO := [qf 38 6 0, ql 39 38, qj 40 .neq 3 39 0]
def QfI : List GO := [⟨none, .build 41 [vn] []⟩, qV 42 2 6, qw 1 2 41, qw 2 3 42]
def QfL : List (List Nat) := [[],[],[0,0],[1,2,0,1,2]]
def QfH : List GO := [qV 43 1 2, ⟨none, .build 44 [(vi 0), (vi 0)] []⟩, qw 1 2 43, qw 2 3 44]
def parse_Parse_ld : LD := (.seq (.pl (.ops QhM)) (.seq (.pl (.ops QhL)) (.seq (.pl (.seq (.ops QhK) (.cond (.tmp 14) (.seq (.draw QhJ QhP) .ret) .skip))) (.seq (.sp QhI (.dfr none (.tmp 17)) QhH) (.pl (.seq (.ops QhG) (.seq (.block 0 (.loop Q9t)) (.seq (.seq (.ops QhD) (.seq (.ops QfJ) (.cond (.tmp 40) (.seq (.draw QfI QfL) .ret) .skip))) (.seq (.ops QfH) .ret)))))))))
@[reducible] def Q36 : FuncId := 14
theorem QfK : Qo5 Tryz.prog Tryz.f14 = some parse_Parse_ld := by kernel_rfl
theorem QhN {a0 : Value} {w : World} {R : Ending → World → Prop} (h : parse_Parse_ld.wpD Tryz.prog (retD Tryz.prog [.cell 2 24, .cell 3 29] R) [] (Qg [a0]) w) : Calls Tryz.prog Q36 ⟨[a0]⟩ w R :=
  Ql2 Tryz.func14 QfK (by kernel_rfl) (by kernel_rfl) h
/- 15 -/
/- 16 -/
def QmL : List GO := [qk 2 (.string ⟨#[]⟩)]
def QmK : List GO := [qm 3 0, qj 4 .lss 3 3 0, qm 5 4, qg 5 false (qm 6 0), qg 5 false (qj 7 .gtr 3 6 14), ⟨none, .pick 8 (.tmp 5) (.const (.bool true)) (.tmp 7)⟩]
def QmJ : List GO := [qk 2 (.string ⟨#[]⟩)]
def QmI : List GO := [⟨none, .build 9 [(.string ⟨#[]⟩), (.string ⟨#[]⟩), (.string ⟨#[]⟩), (.string ⟨#[]⟩), (.string ⟨#[]⟩), (.string ⟨#[]⟩), (.string ⟨#[]⟩), (.string ⟨#[]⟩), (.string ⟨#[]⟩), (.string ⟨#[]⟩), (.string ⟨#[]⟩), (.string ⟨#[]⟩), (.string ⟨#[]⟩), (.string ⟨#[]⟩), (.string ⟨#[]⟩)] [(0, (1, (.const (.string ⟨#[]⟩)))), (1, (1, (.const (.string ⟨#[110, 117, 109]⟩)))), (2, (1, (.const (.string ⟨#[98, 105, 110]⟩)))), (3, (1, (.const (.string ⟨#[110, 101, 119]⟩)))), (4, (1, (.const (.string ⟨#[102, 114, 101, 101]⟩)))), (5, (1, (.const (.string ⟨#[116, 117, 112, 108, 101]⟩)))), (6, (1, (.const (.string ⟨#[103, 101, 116]⟩)))), (7, (1, (.const (.string ⟨#[115, 101, 116]⟩)))), (8, (1, (.const (.string ⟨#[97, 114, 114, 97, 121]⟩)))), (9, (1, (.const (.string ⟨#[108, 111, 97, 100]⟩)))), (10, (1, (.const (.string ⟨#[115, 116, 111, 114, 101]⟩)))), (11, (1, (.const (.string ⟨#[108, 101, 110]⟩)))), (12, (1, (.const (.string ⟨#[105, 110]⟩)))), (13, (1, (.const (.string ⟨#[111, 117, 116]⟩)))), (14, (1, (.const (.string ⟨#[99, 97, 108, 108]⟩))))]⟩, qm 10 0, ⟨none, .raw ⟨(some 11), (.index 85 (.tmp 9) (.tmp 10)), 9, "", #[], none⟩⟩, qm 2 11]
def parse_Op_lc : LC := (.seq (.ops QmL) (.seq (.seq (.ops QmK) (.cond (.tmp 8) (.seq (.ops QmJ) .ret) .skip)) (.seq (.ops QmI) .ret)))
@[reducible] def Qnq : FuncId := 16
theorem QlQ : lowF Tryz.prog Tryz.f16 = some parse_Op_lc := by kernel_rfl
theorem Qae {a0 : Value} {w : World} {R : Ending → World → Prop} (h : parse_Op_lc.wp Tryz.prog (retQ Tryz.prog [.tmp 2] R) (Qg [a0]) w) : Calls Tryz.prog Qnq ⟨[a0]⟩ w R :=
  Q4 Tryz.func16 QlQ (by kernel_rfl) (by kernel_rfl) h

/- 17 -/
/- 18 -/
def Qku : List GO := [qk 2 (.string ⟨#[]⟩)]
def Qkt : List GO := [qm 3 0, qj 4 .lss 3 3 0, qm 5 4, qg 5 false (qm 6 0), qg 5 false (qj 7 .gtr 3 6 9), ⟨none, .pick 8 (.tmp 5) (.const (.bool true)) (.tmp 7)⟩]
def Qks : List GO := [qk 2 (.string ⟨#[]⟩)]
def Qkr : List GO := [⟨none, .build 9 [(.string ⟨#[]⟩), (.string ⟨#[]⟩), (.string ⟨#[]⟩), (.string ⟨#[]⟩), (.string ⟨#[]⟩), (.string ⟨#[]⟩), (.string ⟨#[]⟩), (.string ⟨#[]⟩), (.string ⟨#[]⟩), (.string ⟨#[]⟩)] [(0, (1, (.const (.string ⟨#[]⟩)))), (1, (1, (.const (.string ⟨#[97, 100, 100]⟩)))), (2, (1, (.const (.string ⟨#[115, 117, 98]⟩)))), (3, (1, (.const (.string ⟨#[109, 117, 108]⟩)))), (4, (1, (.const (.string ⟨#[100, 105, 118]⟩)))), (5, (1, (.const (.string ⟨#[109, 111, 100]⟩)))), (6, (1, (.const (.string ⟨#[108, 101, 115, 115]⟩)))), (7, (1, (.const (.string ⟨#[101, 113]⟩)))), (8, (1, (.const (.string ⟨#[97, 110, 100]⟩)))), (9, (1, (.const (.string ⟨#[120, 111, 114]⟩))))]⟩, qm 10 0, ⟨none, .raw ⟨(some 11), (.index 87 (.tmp 9) (.tmp 10)), 9, "", #[], none⟩⟩, qm 2 11]
def parse_Kind_lc : LC := (.seq (.ops Qku) (.seq (.seq (.ops Qkt) (.cond (.tmp 8) (.seq (.ops Qks) .ret) .skip)) (.seq (.ops Qkr) .ret)))
@[reducible] def QiI : FuncId := 18
theorem QhQ : lowF Tryz.prog Tryz.f18 = some parse_Kind_lc := by kernel_rfl
theorem Q5r {a0 : Value} {w : World} {R : Ending → World → Prop} (h : parse_Kind_lc.wp Tryz.prog (retQ Tryz.prog [.tmp 2] R) (Qg [a0]) w) : Calls Tryz.prog QiI ⟨[a0]⟩ w R :=
  Q4 Tryz.func18 QhQ (by kernel_rfl) (by kernel_rfl) h

/- 19 -/
/- 20 -/
/- 21 -/
def Qmk : List GO := [⟨none, .alloc 0 24 [vn]⟩]
def Qmj : List GO := [⟨none, .build 1 [(vi 0), (vi 0), (vi 0), vn, vn, (vi 0), vn, vn, vn] [(0, (1, (.const (vi 3))))]⟩, ⟨none, .build 2 [(vi 0), vn, vn, (vi 0), (vi 0), (vi 0), vn, vn, (vi 0), vn, vn, vn] [(3, (9, (.tmp 1)))]⟩, ⟨none, .buildS 3 52 1 [(vi 0), vn, vn, (vi 0), (vi 0), (vi 0), vn, vn, (vi 0), vn, vn, vn] [(0, (12, (.tmp 2)))]⟩, ⟨none, .build 4 [(vi 0), vn, vn, vn] [(3, (1, (.tmp 3)))]⟩, ⟨none, .buildS 5 43 1 [(vi 0), vn, vn, vn] [(0, (4, (.tmp 4)))]⟩, ⟨none, .build 6 [vn] [(0, (1, (.tmp 5)))]⟩, qw 1 0 6]
def Law_least_lc : LC := (.seq (.ops Qmk) (.seq (.ops Qmj) .ret))
@[reducible] def Qmm : FuncId := 21
theorem Qls : lowF Tryz.prog Tryz.f21 = some Law_least_lc := by kernel_rfl
theorem Qml {w : World} {R : Ending → World → Prop} (h : Law_least_lc.wp Tryz.prog (retQ Tryz.prog [.cell 0 24] R) (Qg []) w) : Calls Tryz.prog Qmm ⟨[]⟩ w R :=
  Q4 Tryz.func21 Qls (by kernel_rfl) (by kernel_rfl) h

/- 22 -/
def Qgm : List GO := [qk 2 (.bool false)]
def Qgl : List GO := [qm 4 0, qL 5 4, qj 6 .gtr 3 5 200]
def Qgk : List GO := [qk 2 (.bool true)]
def Qgj : List GO := [qk 3 (vi 0)]
def Qgi : List GO := [qm 7 3, qm 8 0, qL 9 8, qt 10 .lss 3 7 9]
def Qgh : List GO := [qm 13 0, qm 14 3, qi 15 3 13 14, qV 16 3 15, ⟨none, .call (some 17) 48 [(.tmp 16)]⟩]
def Qgg : List GO := [qk 2 (.bool true)]
def Qgf : List GO := [qm 11 3, qj 12 .add 3 11 1, qm 3 12]
def Q7A : LC := (.seq (.seq (.ops Qgi) (.cond (.tmp 10) .skip (.exit 0))) (.seq (.block 1 (.seq (.ops Qgh) (.cond (.tmp 17) (.seq (.ops Qgg) .ret) .skip))) (.ops Qgf)))
def Qge : List GO := [qk 2 (.bool false)]
def R_greatTypes_lc : LC := (.seq (.ops Qgm) (.seq (.seq (.ops Qgl) (.cond (.tmp 6) (.seq (.ops Qgk) .ret) .skip)) (.seq (.seq (.ops Qgj) (.block 0 (.loop Q7A))) (.seq (.ops Qge) .ret))))
@[reducible] def Q2G : FuncId := 22
theorem Qe6 : lowF Tryz.prog Tryz.f22 = some R_greatTypes_lc := by kernel_rfl
theorem Qgn {a0 : Value} {w : World} {R : Ending → World → Prop} (h : R_greatTypes_lc.wp Tryz.prog (retQ Tryz.prog [.tmp 2] R) (Qg [a0]) w) : Calls Tryz.prog Q2G ⟨[a0]⟩ w R :=
  Q4 Tryz.func22 Qe6 (by kernel_rfl) (by kernel_rfl) h

/- 23 -/
/- 24 -/
/- 25 -/
/- 26 -/
def Ql0 : List GO := [qb 1 24 0, ⟨none, .alloc 2 29 [(vi 0), (vi 0)]⟩]
def QkZ : List GO := [qV 7 1 1, ⟨none, .build 8 [vn, (vi 0), (vi 0), (vi 0)] [(0, (1, (.tmp 7))), (3, (1, (.const (vi (-1)))))]⟩, qb 9 97 8, qm 3 9]
def QkY : List GO := [qm 10 3, qf 11 1 0, ql 12 11, qL 13 12, qj 14 .eql 3 13 0, qm 15 14, qg 15 false (qf 16 1 0), qg 15 false (ql 17 16), qg 15 false (qL 18 17), qg 15 false (qj 19 .gtr 3 18 8), ⟨none, .pick 20 (.tmp 15) (.const (.bool true)) (.tmp 19)⟩, ⟨none, .call (some 21) 50 [(.tmp 10), (.tmp 20), (.const (vi 2))]⟩]
def QkX : List GO := [qk 4 (vi 0)]
def QkW : List GO := [qm 22 4, qf 23 1 0, ql 24 23, qL 25 24, qt 26 .lss 3 22 25, qm 27 26, qg 27 true (qm 28 3), qg 27 true (qn 29 28), qg 27 true (qf 30 29 1), qg 27 true (qf 31 30 0), qg 27 true (ql 32 31), qg 27 true (qj 33 .eql 3 32 0), ⟨none, .pick 34 (.tmp 27) (.tmp 33) (.const (.bool false))⟩]
def QkV : List GO := [qf 37 1 0, ql 38 37, qm 39 4, qi 40 4 38 39, qV 41 4 40, ⟨none, .alloc 5 43 [(vi 0), vn, vn, vn]⟩, qw 4 5 41]
def QkU : List GO := [qm 42 3, qm 43 4, ⟨none, .call (some 44) 51 [(.tmp 43)]⟩, qn 45 42, qf 46 45 3, qs 46 44]
def QkT : List GO := [qm 47 3, qf 48 5 0, ql 49 48, qj 50 .lss 3 49 0, qm 51 50, qg 51 false (qf 52 5 0), qg 51 false (ql 53 52), qg 51 false (qj 54 .gtr 3 53 6), ⟨none, .pick 55 (.tmp 51) (.const (.bool true)) (.tmp 54)⟩, ⟨none, .call (some 56) 50 [(.tmp 47), (.tmp 55), (.const (vi 1))]⟩]
def QkS : List GO := [qm 57 3, qf 58 5 1, ql 59 58, qf 60 5 0, ql 61 60, ⟨none, .call (some 62) 52 [(.tmp 57), (.tmp 59), (.tmp 61)]⟩]
def QkR : List GO := [qm 63 3, qf 64 5 2, ql 65 64, qf 66 5 0, ql 67 66, ⟨none, .call (some 68) 52 [(.tmp 63), (.tmp 65), (.tmp 67)]⟩]
def Qi5 : List GO := [qm 69 3, qf 70 5 3, ql 71 70, qL 72 71, qj 73 .eql 3 72 0, qm 74 73, qg 74 false (qf 75 5 3), qg 74 false (ql 76 75), qg 74 false (qL 77 76), qg 74 false (qj 78 .gtr 3 77 12), ⟨none, .pick 79 (.tmp 74) (.const (.bool true)) (.tmp 78)⟩, ⟨none, .call (some 80) 50 [(.tmp 69), (.tmp 79), (.const (vi 2))]⟩]
def Qi4 : List GO := [qm 81 3, qm 82 4, qj 83 .eql 3 82 0, qm 84 83, qg 84 true (qf 85 5 0), qg 84 true (ql 86 85), qg 84 true (qj 87 .gtr 3 86 0), qg 84 true (qm 88 87), qg 88 false (qf 89 5 1), qg 88 false (ql 90 89), qg 88 false (qL 91 90), qg 88 false (qj 92 .gtr 3 91 0), ⟨some (84, true), .pick 93 (.tmp 88) (.const (.bool true)) (.tmp 92)⟩, qg 84 true (qm 94 93), qg 94 false (qf 95 5 2), qg 94 false (ql 96 95), ⟨some (94, false), .call (some 97) 53 [(.tmp 96), (.func 54)]⟩, ⟨some (84, true), .pick 98 (.tmp 94) (.const (.bool true)) (.tmp 97)⟩, ⟨none, .pick 99 (.tmp 84) (.tmp 98) (.const (.bool false))⟩, ⟨none, .call (some 100) 50 [(.tmp 81), (.tmp 99), (.const (vi 18))]⟩]
def Qi3 : List GO := [qk 6 (vi 0)]
def Qi2 : List GO := [qm 101 6, qf 102 5 3, ql 103 102, qL 104 103, qt 105 .lss 3 101 104, qm 106 105, qg 106 true (qm 107 3), qg 106 true (qn 108 107), qg 106 true (qf 109 108 1), qg 106 true (qf 110 109 0), qg 106 true (ql 111 110), qg 106 true (qj 112 .eql 3 111 0), ⟨none, .pick 113 (.tmp 106) (.tmp 112) (.const (.bool false))⟩]
def Qi1 : List GO := [qm 116 3, qm 117 4, qm 118 6, ⟨none, .call (some 119) 55 [(.tmp 116), (.tmp 117), (.tmp 118)]⟩]
def Qi0 : List GO := [qm 114 6, qj 115 .add 3 114 1, qm 6 115]
def Q9y : LC := (.seq (.seq (.ops Qi2) (.cond (.tmp 113) .skip (.exit 2))) (.seq (.block 3 (.ops Qi1)) (.ops Qi0)))
def QhZ : List GO := [qm 35 4, qj 36 .add 3 35 1, qm 4 36]
def QbG : LC := (.seq (.seq (.ops QkW) (.cond (.tmp 34) .skip (.exit 0))) (.seq (.block 1 (.seq (.ops QkV) (.seq (.ops QkU) (.seq (.ops QkT) (.seq (.ops QkS) (.seq (.ops QkR) (.seq (.ops Qi5) (.seq (.ops Qi4) (.seq (.ops Qi3) (.block 2 (.loop Q9y))))))))))) (.ops QhZ)))
def QhY : List GO := [qm 120 3, qn 121 120, qf 122 121 1, qV 123 2 122, qw 2 2 123]
def code_Check_lc : LC := (.seq (.ops Ql0) (.seq (.ops QkZ) (.seq (.ops QkY) (.seq (.seq (.ops QkX) (.block 0 (.loop QbG))) (.seq (.ops QhY) .ret)))))
@[reducible] def Q3L : FuncId := 26
theorem Qi6 : lowF Tryz.prog Tryz.f26 = some code_Check_lc := by kernel_rfl
theorem Ql1 {a0 : Value} {w : World} {R : Ending → World → Prop} (h : code_Check_lc.wp Tryz.prog (retQ Tryz.prog [.cell 2 29] R) (Qg [a0]) w) : Calls Tryz.prog Q3L ⟨[a0]⟩ w R :=
  Q4 Tryz.func26 Qi6 (by kernel_rfl) (by kernel_rfl) h

/- 27 -/
def Qcc : List GO := [qb 1 24 0, qk 2 (.bool false)]
def Qcb : List GO := [⟨none, .alloc 3 4 [(.bool false)]⟩, ⟨none, .store1 (.tmp 3) (.const (.bool true))⟩]
def Qca : List GO := [⟨none, .mkfn 13 56 [(.tmp 3)]⟩, qm 4 13]
def Qc9 : List GO := [qf 14 1 0, ql 15 14, qL 16 15, qk 17 (vi 0)]
def Qc8 : List GO := [qt 18 .lss 3 17 16]
def Qc7 : List GO := [qi 19 4 15 17, qV 20 4 19, ⟨none, .alloc 6 43 [(vi 0), vn, vn, vn]⟩, qw 4 6 20]
def Qc6 : List GO := [qf 21 6 3, ql 22 21, qL 23 22, qk 24 (vi 0)]
def Qc5 : List GO := [qt 25 .lss 3 24 23]
def Qc4 : List GO := [qi 26 12 22 24, qV 27 12 26, ⟨none, .alloc 8 52 [(vi 0), vn, vn, (vi 0), (vi 0), (vi 0), vn, vn, (vi 0), vn, vn, vn]⟩, qw 12 8 27]
def Qc3 : List GO := [qf 28 8 2, ql 29 28, qL 30 29, qk 31 (vi 0)]
def QaX : List GO := [qt 32 .lss 3 31 30]
def QaW : List GO := [qi 33 8 29 31, qV 34 8 33, ⟨none, .alloc 10 54 [(vi 0), (vi 0), (vi 0), (vi 0), (vi 0), (vi 0), vn, vn]⟩, qw 8 10 34]
def QaV : List GO := [qm 35 4, qf 36 10 1, ql 37 36, qf 38 10 2, ql 39 38, qf 40 10 3, ql 41 40, qf 42 10 4, ql 43 42, ⟨none, .buildS 44 3 4 [(vi 0), (vi 0), (vi 0), (vi 0)] [(0, (1, (.tmp 37))), (1, (1, (.tmp 39))), (2, (1, (.tmp 41))), (3, (1, (.tmp 43)))]⟩, ⟨none, .callv (some 45) (.tmp 35) [(.tmp 44)]⟩]
def QaU : List GO := [qm 46 4, qf 47 10 6, ql 48 47, ⟨none, .callv (some 49) (.tmp 46) [(.tmp 48)]⟩]
def QaT : List GO := [qm 50 4, qf 51 10 7, ql 52 51, ⟨none, .callv (some 53) (.tmp 50) [(.tmp 52)]⟩]
def QaS : List GO := [qj 54 .add 3 31 1, qm 31 54]
def Q4e : LC := (.seq (.ops QaX) (.seq (.cond (.tmp 32) .skip (.exit 4)) (.seq (.block 5 (.seq (.ops QaW) (.seq (.ops QaV) (.seq (.ops QaU) (.ops QaT))))) (.ops QaS))))
def QaR : List GO := [qm 55 4, qf 56 8 3, qf 57 56 1, ql 58 57, ⟨none, .buildS 59 3 1 [(vi 0)] [(0, (1, (.tmp 58)))]⟩, ⟨none, .callv (some 60) (.tmp 55) [(.tmp 59)]⟩]
def QaQ : List GO := [qm 61 4, qf 62 8 3, qf 63 62 8, ql 64 63, ⟨none, .callv (some 65) (.tmp 61) [(.tmp 64)]⟩]
def QaP : List GO := [qf 66 8 3, qf 67 66 2, qV 68 3 67, qf 69 8 3, qf 70 69 5, qV 71 3 70, ⟨none, .buildS 72 48 2 [(vi 0), vn, vn, (vi 0), vn, vn] [(0, (3, (.tmp 68))), (3, (3, (.tmp 71)))]⟩, qL 73 72, qk 74 (vi 0)]
def QaO : List GO := [qt 75 .lss 3 74 73]
def QaN : List GO := [qi 76 3 72 74, qV 77 3 76, ⟨none, .alloc 12 48 [(vi 0), vn, vn]⟩, qw 3 12 77]
def QaM : List GO := [qm 78 4, qf 79 12 1, ql 80 79, ⟨none, .callv (some 81) (.tmp 78) [(.tmp 80)]⟩]
def QaL : List GO := [qm 82 4, qf 83 12 2, ql 84 83, ⟨none, .callv (some 85) (.tmp 82) [(.tmp 84)]⟩]
def QaK : List GO := [qj 86 .add 3 74 1, qm 74 86]
def Q4d : LC := (.seq (.ops QaO) (.seq (.cond (.tmp 75) .skip (.exit 6)) (.seq (.block 7 (.seq (.ops QaN) (.seq (.ops QaM) (.ops QaL)))) (.ops QaK))))
def QaJ : List GO := [qj 87 .add 3 24 1, qm 24 87]
def Q4G : LC := (.seq (.ops Qc5) (.seq (.cond (.tmp 25) .skip (.exit 2)) (.seq (.block 3 (.seq (.ops Qc4) (.seq (.seq (.ops Qc3) (.block 4 (.loop Q4e))) (.seq (.ops QaR) (.seq (.ops QaQ) (.seq (.ops QaP) (.block 6 (.loop Q4d)))))))) (.ops QaJ))))
def QaI : List GO := [qj 88 .add 3 17 1, qm 17 88]
def Q4H : LC := (.seq (.ops Qc8) (.seq (.cond (.tmp 18) .skip (.exit 0)) (.seq (.block 1 (.seq (.ops Qc7) (.seq (.ops Qc6) (.block 2 (.loop Q4G))))) (.ops QaI))))
def QaH : List GO := [ql 89 3, qm 2 89]
def render_numbers_lc : LC := (.seq (.ops Qcc) (.seq (.ops Qcb) (.seq (.ops Qca) (.seq (.seq (.ops Qc9) (.block 0 (.loop Q4H))) (.seq (.ops QaH) .ret)))))
@[reducible] def Q9s : FuncId := 27
theorem QaY : lowF Tryz.prog Tryz.f27 = some render_numbers_lc := by kernel_rfl
theorem Qcd {a0 : Value} {w : World} {R : Ending → World → Prop} (h : render_numbers_lc.wp Tryz.prog (retQ Tryz.prog [.tmp 2] R) (Qg [a0]) w) : Calls Tryz.prog Q9s ⟨[a0]⟩ w R :=
  Q4 Tryz.func27 QaY (by kernel_rfl) (by kernel_rfl) h

/- 28 -/
def Qfh : List GO := [qb 1 24 0, qk 2 (.string ⟨#[]⟩)]
def Qfg : List GO := [⟨none, .alloc 3 107 [(.pointer none), vn]⟩]
def Qff : List GO := [qf 10 1 0, ql 11 10, qL 12 11, qk 13 (vi 0)]
def Qfe : List GO := [qt 14 .lss 3 13 12]
def Qfd : List GO := [qi 15 4 11 13, qV 16 4 15, ⟨none, .alloc 5 43 [(vi 0), vn, vn, vn]⟩, qw 4 5 16]
def Qfc : List GO := [qf 17 5 0, ql 18 17, ⟨none, .call (some 19) 58 [(.tmp 18)]⟩, ⟨none, .bin 20 .add 9 (.const (.string ⟨#[102, 117, 110, 99, 32]⟩)) (.tmp 19)⟩, ⟨none, .bin 21 .add 9 (.tmp 20) (.const (.string ⟨#[32]⟩))⟩, qf 22 5 1, ql 23 22, ⟨none, .call (some 24) 59 [(.tmp 23)]⟩, qt 25 .add 9 21 24, ⟨none, .bin 26 .add 9 (.tmp 25) (.const (.string ⟨#[32, 45, 62, 32]⟩))⟩, qf 27 5 2, ql 28 27, ⟨none, .call (some 29) 59 [(.tmp 28)]⟩, qt 30 .add 9 26 29, ⟨none, .bin 31 .add 9 (.tmp 30) (.const (.string ⟨#[32, 123, 10]⟩))⟩, ⟨none, .call (some 32) 57 [(.tmp 3), (.tmp 31)]⟩]
def Qfk : List (List Nat) := [[],[0],[1],[2],[3],[],[5],[6,2],[4,7],[8],[],[10],[11,7],[9,12],[13],[14,12]]
def Qfb : List GO := [qf 33 5 3, ql 34 33, qL 35 34, qk 36 (vi 0)]
def Qfa : List GO := [qt 37 .lss 3 36 35]
def Qf9 : List GO := [qi 38 12 34 36, qV 39 12 38, ⟨none, .alloc 7 52 [(vi 0), vn, vn, (vi 0), (vi 0), (vi 0), vn, vn, (vi 0), vn, vn, vn]⟩, qw 12 7 39]
def Qf8 : List GO := [qf 40 7 0, ql 41 40, ⟨none, .call (some 42) 58 [(.tmp 41)]⟩, ⟨none, .bin 43 .add 9 (.const (.string ⟨#[98, 108, 111, 99, 107, 32]⟩)) (.tmp 42)⟩, ⟨none, .bin 44 .add 9 (.tmp 43) (.const (.string ⟨#[32]⟩))⟩, qf 45 7 1, ql 46 45, ⟨none, .call (some 47) 59 [(.tmp 46)]⟩, qt 48 .add 9 44 47, ⟨none, .bin 49 .add 9 (.tmp 48) (.const (.string ⟨#[32, 123, 10]⟩))⟩, ⟨none, .call (some 50) 57 [(.tmp 3), (.tmp 49)]⟩]
def Qfj : List (List Nat) := [[],[0],[1],[2],[3],[],[5],[6,2],[4,7],[8],[9,7]]
def QdN : List GO := [qf 51 7 2, ql 52 51, qL 53 52, qk 54 (vi 0)]
def QdM : List GO := [qt 55 .lss 3 54 53]
def QdL : List GO := [qi 56 8 52 54, qV 57 8 56, ⟨none, .alloc 9 54 [(vi 0), (vi 0), (vi 0), (vi 0), (vi 0), (vi 0), vn, vn]⟩, qw 8 9 57]
def QdK : List GO := [qV 58 8 9, ⟨none, .call (some 59) 60 [(.tmp 58)]⟩, ⟨none, .bin 60 .add 9 (.const (.string ⟨#[9]⟩)) (.tmp 59)⟩, ⟨none, .bin 61 .add 9 (.tmp 60) (.const (.string ⟨#[10]⟩))⟩, ⟨none, .call (some 62) 57 [(.tmp 3), (.tmp 61)]⟩]
def QdJ : List GO := [qj 63 .add 3 54 1, qm 54 63]
def Q5z : LC := (.seq (.ops QdM) (.seq (.cond (.tmp 55) .skip (.exit 4)) (.seq (.block 5 (.seq (.ops QdL) (.ops QdK))) (.ops QdJ))))
def QdI : List GO := [qf 64 7 3, qV 65 9 64, ⟨none, .call (some 66) 61 [(.tmp 65)]⟩, ⟨none, .bin 67 .add 9 (.const (.string ⟨#[9]⟩)) (.tmp 66)⟩, ⟨none, .bin 68 .add 9 (.tmp 67) (.const (.string ⟨#[10, 125, 10]⟩))⟩, ⟨none, .call (some 69) 57 [(.tmp 3), (.tmp 68)]⟩]
def QdH : List GO := [qj 70 .add 3 36 1, qm 36 70]
def Q6L : LC := (.seq (.ops Qfa) (.seq (.cond (.tmp 37) .skip (.exit 2)) (.seq (.block 3 (.seq (.ops Qf9) (.seq (.draw Qf8 Qfj) (.seq (.seq (.ops QdN) (.block 4 (.loop Q5z))) (.ops QdI))))) (.ops QdH))))
def QdG : List GO := [⟨none, .call (some 71) 57 [(.tmp 3), (.const (.string ⟨#[125, 10]⟩))]⟩]
def QdF : List GO := [qj 72 .add 3 13 1, qm 13 72]
def Q6M : LC := (.seq (.ops Qfe) (.seq (.cond (.tmp 14) .skip (.exit 0)) (.seq (.block 1 (.seq (.ops Qfd) (.seq (.draw Qfc Qfk) (.seq (.seq (.ops Qfb) (.block 2 (.loop Q6L))) (.ops QdG))))) (.ops QdF))))
def QdE : List GO := [⟨none, .call (some 73) 62 [(.tmp 3)]⟩, qm 2 73]
def render_whole_lc : LC := (.seq (.ops Qfh) (.seq (.ops Qfg) (.seq (.seq (.ops Qff) (.block 0 (.loop Q6M))) (.seq (.ops QdE) .ret))))
@[reducible] def Qdp : FuncId := 28
theorem QdO : lowF Tryz.prog Tryz.f28 = some render_whole_lc := by kernel_rfl
theorem Qfi {a0 : Value} {w : World} {R : Ending → World → Prop} (h : render_whole_lc.wp Tryz.prog (retQ Tryz.prog [.tmp 2] R) (Qg [a0]) w) : Calls Tryz.prog Qdp ⟨[a0]⟩ w R :=
  Q4 Tryz.func28 QdO (by kernel_rfl) (by kernel_rfl) h

/- 29 -/
/- 30 -/
/- 31 -/
/- 32 -/
def Qit : List GO := [qk 4 (.bool false)]
def Qis : List GO := [qm 6 0, qL 7 6, qm 8 1, qL 9 8, qt 10 .neq 3 7 9]
def Qir : List GO := [qk 4 (.bool false)]
def Qiq : List GO := [qk 5 (vi 0)]
def Qip : List GO := [qm 11 5, qm 12 0, qL 13 12, qt 14 .lss 3 11 13]
def Qio : List GO := [qm 17 0, qm 18 5, qi 19 3 17 18, qV 20 3 19, qm 21 1, qm 22 5, qi 23 3 21 22, qV 24 3 23, ⟨none, .call (some 25) 68 [(.tmp 20), (.tmp 24)]⟩, ⟨none, .un 26 .not (.tmp 25)⟩]
def Qiv : List (List Nat) := [[],[],[0,1],[2],[],[],[4,5],[6],[3,7],[8]]
def Qin : List GO := [qk 4 (.bool false)]
def Qim : List GO := [qm 15 5, qj 16 .add 3 15 1, qm 5 16]
def Q9A : LC := (.seq (.seq (.ops Qip) (.cond (.tmp 14) .skip (.exit 0))) (.seq (.block 1 (.seq (.draw Qio Qiv) (.cond (.tmp 26) (.seq (.ops Qin) .ret) .skip))) (.ops Qim)))
def Qil : List GO := [qk 4 (.bool true)]
def R_SameTypes_lc : LC := (.seq (.ops Qit) (.seq (.seq (.ops Qis) (.cond (.tmp 10) (.seq (.ops Qir) .ret) .skip)) (.seq (.seq (.ops Qiq) (.block 0 (.loop Q9A))) (.seq (.ops Qil) .ret))))
@[reducible] def Q2z : FuncId := 32
theorem Qgo : lowF Tryz.prog Tryz.f32 = some R_SameTypes_lc := by kernel_rfl
theorem Qiu {a0 a1 : Value} {w : World} {R : Ending → World → Prop} (h : R_SameTypes_lc.wp Tryz.prog (retQ Tryz.prog [.tmp 4] R) (Qg [a0, a1]) w) : Calls Tryz.prog Q2z ⟨[a0, a1]⟩ w R :=
  Q4 Tryz.func32 Qgo (by kernel_rfl) (by kernel_rfl) h

/- 33 -/
def Qii : List GO := [qb 2 52 0, qb 3 52 1, qk 4 (.bool false)]
def Qih : List GO := [qf 6 2 0, ql 7 6, qf 8 3 0, ql 9 8, qt 10 .neq 3 7 9, qm 11 10, qg 11 false (qf 12 2 1), qg 11 false (ql 13 12), qg 11 false (qf 14 3 1), qg 11 false (ql 15 14), ⟨some (11, false), .call (some 16) 32 [(.tmp 13), (.tmp 15)]⟩, ⟨some (11, false), .un 17 .not (.tmp 16)⟩, ⟨none, .pick 18 (.tmp 11) (.const (.bool true)) (.tmp 17)⟩, qm 19 18, qg 19 false (qf 20 2 2), qg 19 false (ql 21 20), qg 19 false (qL 22 21), qg 19 false (qf 23 3 2), qg 19 false (ql 24 23), qg 19 false (qL 25 24), qg 19 false (qt 26 .neq 3 22 25), ⟨none, .pick 27 (.tmp 19) (.const (.bool true)) (.tmp 26)⟩]
def Qig : List GO := [qk 4 (.bool false)]
def Qif : List GO := [qk 5 (vi 0)]
def Qie : List GO := [qm 28 5, qf 29 2 2, ql 30 29, qL 31 30, qt 32 .lss 3 28 31]
def Qid : List GO := [qf 35 2 2, ql 36 35, qm 37 5, qi 38 8 36 37, qV 39 8 38, qf 40 3 2, ql 41 40, qm 42 5, qi 43 8 41 42, qV 44 8 43, ⟨none, .call (some 45) 69 [(.tmp 39), (.tmp 44)]⟩, ⟨none, .un 46 .not (.tmp 45)⟩]
def Qik : List (List Nat) := [[],[0],[],[1,2],[3],[],[5],[],[6,7],[8],[4,9],[10]]
def Qic : List GO := [qk 4 (.bool false)]
def Qib : List GO := [qm 33 5, qj 34 .add 3 33 1, qm 5 34]
def Q9z : LC := (.seq (.seq (.ops Qie) (.cond (.tmp 32) .skip (.exit 0))) (.seq (.block 1 (.seq (.draw Qid Qik) (.cond (.tmp 46) (.seq (.ops Qic) .ret) .skip))) (.ops Qib)))
def Qia : List GO := [qf 47 2 3, qf 48 47 0, ql 49 48, qf 50 3 3, qf 51 50 0, ql 52 51, qt 53 .eql 3 49 52, qm 54 53, qg 54 true (qf 55 2 3), qg 54 true (qf 56 55 1), qg 54 true (ql 57 56), qg 54 true (qf 58 3 3), qg 54 true (qf 59 58 1), qg 54 true (ql 60 59), qg 54 true (qt 61 .eql 3 57 60), ⟨none, .pick 62 (.tmp 54) (.tmp 61) (.const (.bool false))⟩, qm 63 62, qg 63 true (qf 64 2 3), qg 63 true (qf 65 64 2), qg 63 true (qV 66 3 65), qg 63 true (qf 67 3 3), qg 63 true (qf 68 67 2), qg 63 true (qV 69 3 68), ⟨some (63, true), .call (some 70) 70 [(.tmp 66), (.tmp 69)]⟩, ⟨none, .pick 71 (.tmp 63) (.tmp 70) (.const (.bool false))⟩, qm 72 71, qg 72 true (qf 73 2 3), qg 72 true (qf 74 73 5), qg 72 true (qV 75 3 74), qg 72 true (qf 76 3 3), qg 72 true (qf 77 76 5), qg 72 true (qV 78 3 77), ⟨some (72, true), .call (some 79) 70 [(.tmp 75), (.tmp 78)]⟩, ⟨none, .pick 80 (.tmp 72) (.tmp 79) (.const (.bool false))⟩, qm 81 80, qg 81 true (qf 82 2 3), qg 81 true (qf 83 82 8), qg 81 true (ql 84 83), qg 81 true (qf 85 3 3), qg 81 true (qf 86 85 8), qg 81 true (ql 87 86), ⟨some (81, true), .call (some 88) 71 [(.tmp 84), (.tmp 87)]⟩, ⟨none, .pick 89 (.tmp 81) (.tmp 88) (.const (.bool false))⟩, qm 4 89]
def R_sameBlock_lc : LC := (.seq (.ops Qii) (.seq (.seq (.ops Qih) (.cond (.tmp 27) (.seq (.ops Qig) .ret) .skip)) (.seq (.seq (.ops Qif) (.block 0 (.loop Q9z))) (.seq (.ops Qia) .ret))))
@[reducible] def Q37 : FuncId := 33
theorem Qgd : lowF Tryz.prog Tryz.f33 = some R_sameBlock_lc := by kernel_rfl
theorem Qij {a0 a1 : Value} {w : World} {R : Ending → World → Prop} (h : R_sameBlock_lc.wp Tryz.prog (retQ Tryz.prog [.tmp 4] R) (Qg [a0, a1]) w) : Calls Tryz.prog Q37 ⟨[a0, a1]⟩ w R :=
  Q4 Tryz.func33 Qgd (by kernel_rfl) (by kernel_rfl) h

/- 34 -/
def Qjy : List GO := [qk 2 vn, ⟨none, .alloc 3 29 [(vi 0), (vi 0)]⟩]
def Qjx : List GO := [qm 9 0, ⟨none, .slen 10 (.tmp 9)⟩, qj 11 .gtr 3 10 40000]
def Qjw : List GO := [⟨none, .build 12 [(vi 0), (vi 0)] [(0, (1, (.const (vi 2)))), (1, (1, (.const (vi 40000))))]⟩, qk 2 vn, qw 2 3 12]
def Qjv : List GO := [qm 13 0, ⟨none, .build 14 [(.string ⟨#[]⟩), (vi 0)] [(0, (1, (.tmp 13)))]⟩, qb 15 124 14, qm 4 15]
def Qju : List GO := [qk 5 vn]
def Qjt : List GO := [qm 16 4, ⟨none, .call (some 17) 72 [(.tmp 16)]⟩]
def Qjs : List GO := [qm 18 4, qn 19 18, qf 20 19 1, ql 21 20, qm 22 0, ⟨none, .slen 23 (.tmp 22)⟩, qt 24 .lss 3 21 23]
def Qjr : List GO := [qm 27 4, qn 28 27, qf 29 28 1, ql 30 29, qm 6 30]
def Qjq : List GO := [qm 32 4, ⟨none, .call (some 33) 73 [(.tmp 32)]⟩, qm 31 33, qx 34 31 0, qx 35 31 1, ⟨none, .alloc 7 126 [(vi 0), (.string ⟨#[]⟩), (.bool false), (vi 0)]⟩, qw 4 7 34, qm 8 35]
def Qjp : List GO := [qm 36 8, qj 37 .neq 3 36 0]
def Qh9 : List GO := [qm 38 8, qm 39 6, ⟨none, .build 40 [(vi 0), (vi 0)] [(0, (1, (.tmp 38))), (1, (1, (.tmp 39)))]⟩, qk 2 vn, qw 2 3 40]
def Qh8 : List GO := [qm 41 5, qV 42 4 7, ⟨none, .buildS 43 126 1 [(vi 0), (.string ⟨#[]⟩), (.bool false), (vi 0)] [(0, (4, (.tmp 42)))]⟩, ⟨none, .raw ⟨(some 44), (.call ⟨(.builtin .append), #[(.tmp 41), (.tmp 43)], #[63, 63]⟩), 63, "", #[], none⟩⟩, qm 5 44]
def Qh7 : List GO := [qm 25 4, ⟨none, .call (some 26) 72 [(.tmp 25)]⟩]
def QaB : LC := (.seq (.seq (.ops Qjs) (.cond (.tmp 24) .skip (.exit 0))) (.seq (.block 1 (.seq (.ops Qjr) (.seq (.ops Qjq) (.seq (.seq (.ops Qjp) (.cond (.tmp 37) (.seq (.ops Qh9) .ret) .skip)) (.ops Qh8))))) (.ops Qh7)))
def Qh6 : List GO := [qm 45 5, ⟨none, .build 46 [(vi 0), (vi 0)] []⟩, qm 2 45, qw 2 3 46]
def token_Scan_lc : LC := (.seq (.ops Qjy) (.seq (.seq (.ops Qjx) (.cond (.tmp 11) (.seq (.ops Qjw) .ret) .skip)) (.seq (.ops Qjv) (.seq (.ops Qju) (.seq (.seq (.ops Qjt) (.block 0 (.loop QaB))) (.seq (.ops Qh6) .ret))))))
@[reducible] def Q3J : FuncId := 34
theorem Qha : lowF Tryz.prog Tryz.f34 = some token_Scan_lc := by kernel_rfl
theorem Qjz {a0 : Value} {w : World} {R : Ending → World → Prop} (h : token_Scan_lc.wp Tryz.prog (retQ Tryz.prog [.tmp 2, .cell 3 29] R) (Qg [a0]) w) : Calls Tryz.prog Q3J ⟨[a0]⟩ w R :=
  Q4 Tryz.func34 Qha (by kernel_rfl) (by kernel_rfl) h

/- 35 -/
def QdX : List GO := []
def QdW : List GO := [qm 2 5]
def QdV : List GO := [qm 6 2, ⟨none, .bin 7 .neq 20 (.tmp 6) (.const .nilIface)⟩]
def QdU : List GO := [qm 9 2, ⟨none, .raw ⟨(some 10), (.typeAssert (.tmp 9) 20 66 true), 67, "", #[], none⟩⟩, qm 8 10, qx 11 8 0, qx 12 8 1, ⟨none, .alloc 3 66 [(vi 0), (vi 0)]⟩, qw 2 3 11, qm 4 12]
def QdT : List GO := [qm 13 4, ⟨none, .un 14 .not (.tmp 13)⟩]
def QdS : List GO := [qm 15 2, ⟨none, .raw ⟨none, (.panic (.tmp 15)), 0, "", #[], none⟩⟩]
def QdR : List GO := [⟨none, .build 16 [vn] []⟩, qV 17 2 3, qw 1 0 16, qw 2 1 17]
def QdY : List (List Nat) := [[],[],[0,0],[1,2,0,1,2]]
def parse_Parse_1_ld : LD := (.seq (.sp QdX (.rcv (some 5)) QdW) (.pl (.seq (.ops QdV) (.cond (.tmp 7) (.seq (.ops QdU) (.seq (.seq (.ops QdT) (.cond (.tmp 14) (.ops QdS) .skip)) (.draw QdR QdY))) .skip))))
@[reducible] def Q5q : FuncId := 35
theorem Qcq : Qo5 Tryz.prog Tryz.f35 = some parse_Parse_1_ld := by kernel_rfl
theorem Q4Y {a0 a1 : Value} {u : FrameMode} {w : World} {R : Ending → FrameMode → World → Prop} (h : parse_Parse_1_ld.wpR Tryz.prog (retR Tryz.prog [] R) u (Qg [a0, a1]) w) : CallsD Tryz.prog Q5q ⟨[a0, a1]⟩ u w R :=
  Qi7 Tryz.func35 Qcq (by kernel_rfl) (by kernel_rfl) h

/- 36 -/
def Q4U : List GO := [⟨none, .alloc 2 43 [(vi 0), vn, vn, vn]⟩]
def Q4T : List GO := [qm 4 0, ⟨none, .buildS 5 9 1 [(.string ⟨#[]⟩)] [(0, (1, (.const (.string ⟨#[102, 117, 110, 99]⟩))))]⟩, ⟨none, .call (some 6) 74 [(.tmp 4), (.tmp 5)]⟩]
def Q4S : List GO := [qm 7 0, ⟨none, .call (some 8) 75 [(.tmp 7)]⟩, ⟨none, .build 9 [(vi 0), vn, vn, vn] [(0, (1, (.tmp 8)))]⟩, ⟨none, .alloc 3 43 [(vi 0), vn, vn, vn]⟩, qw 4 3 9]
def Q4R : List GO := [qm 10 0, ⟨none, .call (some 11) 76 [(.tmp 10)]⟩, qf 12 3 1, qs 12 11]
def Q4Q : List GO := [qm 13 0, ⟨none, .buildS 14 9 1 [(.string ⟨#[]⟩)] [(0, (1, (.const (.string ⟨#[45, 62]⟩))))]⟩, ⟨none, .call (some 15) 74 [(.tmp 13), (.tmp 14)]⟩]
def Q4P : List GO := [qm 16 0, ⟨none, .call (some 17) 76 [(.tmp 16)]⟩, qf 18 3 2, qs 18 17]
def Q4O : List GO := [qm 19 0, ⟨none, .buildS 20 9 1 [(.string ⟨#[]⟩)] [(0, (1, (.const (.string ⟨#[123]⟩))))]⟩, ⟨none, .call (some 21) 74 [(.tmp 19), (.tmp 20)]⟩]
def Q4N : List GO := [qm 22 0, ⟨none, .call (some 23) 77 [(.tmp 22), (.const (.string ⟨#[98, 108, 111, 99, 107]⟩))]⟩]
def Q4M : List GO := [qf 24 3 3, ql 25 24, qm 26 0, ⟨none, .call (some 27) 78 [(.tmp 26)]⟩, ⟨none, .buildS 28 52 1 [(vi 0), vn, vn, (vi 0), (vi 0), (vi 0), vn, vn, (vi 0), vn, vn, vn] [(0, (12, (.tmp 27)))]⟩, ⟨none, .raw ⟨(some 29), (.call ⟨(.builtin .append), #[(.tmp 25), (.tmp 28)], #[41, 41]⟩), 41, "", #[], none⟩⟩, qf 30 3 3, qs 30 29]
def Q4W : List (List Nat) := [[],[0],[],[2],[3],[1,4,3],[0,1,2,3,4,5],[6,5,5,0,1,2,3,4,5]]
def Q2B : LC := (.seq (.seq (.ops Q4N) (.cond (.tmp 23) .skip (.exit 0))) (.block 1 (.draw Q4M Q4W)))
def Q4L : List GO := [qm 31 0, ⟨none, .buildS 32 9 1 [(.string ⟨#[]⟩)] [(0, (1, (.const (.string ⟨#[125]⟩))))]⟩, ⟨none, .call (some 33) 74 [(.tmp 31), (.tmp 32)]⟩]
def Q4y : List GO := [qV 34 4 3, qw 4 2 34]
def parse_parser_function_lc : LC := (.seq (.ops Q4U) (.seq (.ops Q4T) (.seq (.ops Q4S) (.seq (.ops Q4R) (.seq (.ops Q4Q) (.seq (.ops Q4P) (.seq (.ops Q4O) (.seq (.block 0 (.loop Q2B)) (.seq (.ops Q4L) (.seq (.ops Q4y) .ret))))))))))
@[reducible] def Q1v : FuncId := 36
theorem Q4z : lowF Tryz.prog Tryz.f36 = some parse_parser_function_lc := by kernel_rfl
theorem Q4V {a0 : Value} {w : World} {R : Ending → World → Prop} (h : parse_parser_function_lc.wp Tryz.prog (retQ Tryz.prog [.cell 2 43] R) (Qg [a0]) w) : Calls Tryz.prog Q1v ⟨[a0]⟩ w R :=
  Q4 Tryz.func36 Q4z (by kernel_rfl) (by kernel_rfl) h

/- 37 -/
/- 38 -/
/- 39 -/
/- 40 -/
/- 41 -/
/- 42 -/
/- 43 -/
/- 44 -/
/- 45 -/
/- 46 -/
/- 47 -/
/- 48 -/
def Qiz : List GO := [qb 1 91 0, qk 2 (.bool false)]
def Qiy : List GO := [qV 3 3 1, ⟨none, .call (some 4) 96 [(.tmp 3), (.const (vi 2000))]⟩, qj 5 .lss 3 4 0, qm 2 5]
def R_GreatType_lc : LC := (.seq (.ops Qiz) (.seq (.ops Qiy) .ret))
@[reducible] def QgC : FuncId := 48
theorem QgB : lowF Tryz.prog Tryz.f48 = some R_GreatType_lc := by kernel_rfl
theorem QiA {a0 : Value} {w : World} {R : Ending → World → Prop} (h : R_GreatType_lc.wp Tryz.prog (retQ Tryz.prog [.tmp 2] R) (Qg [a0]) w) : Calls Tryz.prog QgC ⟨[a0]⟩ w R :=
  Q4 Tryz.func48 QgB (by kernel_rfl) (by kernel_rfl) h

/- 49 -/
/- 50 -/
def QbE : List GO := [qm 6 1, qm 7 6, qg 7 true (qm 8 0), qg 7 true (qn 9 8), qg 7 true (qf 10 9 1), qg 7 true (qf 11 10 0), qg 7 true (ql 12 11), qg 7 true (qj 13 .eql 3 12 0), ⟨none, .pick 14 (.tmp 7) (.tmp 13) (.const (.bool false))⟩]
def QbD : List GO := [qm 15 0, qm 16 2, qm 17 0, qn 18 17, qf 19 18 3, ql 20 19, ⟨none, .build 21 [(vi 0), (vi 0)] [(0, (1, (.tmp 16))), (1, (1, (.tmp 20)))]⟩, qn 22 15, qf 23 22 1, qw 2 23 21]
def code_judge_fail_lc : LC := (.seq (.ops QbE) (.cond (.tmp 14) (.ops QbD) .skip))
@[reducible] def Q2Y : FuncId := 50
theorem Qal : lowF Tryz.prog Tryz.f50 = some code_judge_fail_lc := by kernel_rfl
theorem Q2X {a0 a1 a2 : Value} {w : World} {R : Ending → World → Prop} (h : code_judge_fail_lc.wp Tryz.prog (retQ Tryz.prog [] R) (Qg [a0, a1, a2]) w) : Calls Tryz.prog Q2Y ⟨[a0, a1, a2]⟩ w R :=
  Q4 Tryz.func50 Qal (by kernel_rfl) (by kernel_rfl) h

/- 51 -/
def QhV : List GO := [qk 2 (vi 0)]
def QhU : List GO := [qm 3 0, qj 4 .mul 3 3 10000, qj 5 .add 3 4 9999, qm 2 5]
def code_FuncAt_lc : LC := (.seq (.ops QhV) (.seq (.ops QhU) .ret))
@[reducible] def Qg2 : FuncId := 51
theorem Qg1 : lowF Tryz.prog Tryz.f51 = some code_FuncAt_lc := by kernel_rfl
theorem QhW {a0 : Value} {w : World} {R : Ending → World → Prop} (h : code_FuncAt_lc.wp Tryz.prog (retQ Tryz.prog [.tmp 2] R) (Qg [a0]) w) : Calls Tryz.prog Qg2 ⟨[a0]⟩ w R :=
  Q4 Tryz.func51 Qg1 (by kernel_rfl) (by kernel_rfl) h

/- 52 -/
def Qbu : List GO := [qm 9 0, qm 10 1, qL 11 10, qj 12 .gtr 3 11 8, ⟨none, .call (some 13) 50 [(.tmp 9), (.tmp 12), (.const (vi 2))]⟩]
def Qbt : List GO := [qm 14 1, qL 15 14, qk 16 (vi 0)]
def Qbs : List GO := [qt 17 .lss 3 16 15]
def Qbr : List GO := [qi 18 3 14 16, qV 19 3 18, ⟨none, .alloc 7 91 [(vi 0), (vi 0), vn]⟩, qw 3 7 19]
def Qbq : List GO := [qV 20 3 7, qm 21 2, ⟨none, .call (some 22) 97 [(.tmp 20), (.tmp 21)]⟩, qm 8 22]
def Qbp : List GO := [qm 23 0, qm 24 8, qj 25 .neq 3 24 0, qm 26 8, ⟨none, .call (some 27) 50 [(.tmp 23), (.tmp 25), (.tmp 26)]⟩]
def Qbo : List GO := [qj 28 .add 3 16 1, qm 16 28]
def Q4i : LC := (.seq (.ops Qbs) (.seq (.cond (.tmp 17) .skip (.exit 0)) (.seq (.block 1 (.seq (.ops Qbr) (.seq (.ops Qbq) (.ops Qbp)))) (.ops Qbo))))
def code_judge_list_lc : LC := (.seq (.ops Qbu) (.seq (.ops Qbt) (.block 0 (.loop Q4i))))
@[reducible] def Q7v : FuncId := 52
theorem Qak : lowF Tryz.prog Tryz.f52 = some code_judge_list_lc := by kernel_rfl
theorem Qbv {a0 a1 a2 : Value} {w : World} {R : Ending → World → Prop} (h : code_judge_list_lc.wp Tryz.prog (retQ Tryz.prog [] R) (Qg [a0, a1, a2]) w) : Calls Tryz.prog Q7v ⟨[a0, a1, a2]⟩ w R :=
  Q4 Tryz.func52 Qak (by kernel_rfl) (by kernel_rfl) h

/- 53 -/
def Q1V : List GO := [qk 4 (.bool false)]
def Q1U : List GO := [qm 5 0, qm 6 1, ⟨none, .call (some 7) 98 [(.tmp 5), (.tmp 6)]⟩, qj 8 .geq 3 7 0, qm 4 8]
def slices_ContainsFunc_api_Type_api_Type_lc : LC := (.seq (.ops Q1V) (.seq (.ops Q1U) .ret))
@[reducible] def Q1d : FuncId := 53
theorem Q1N : lowF Tryz.prog Tryz.f53 = some slices_ContainsFunc_api_Type_api_Type_lc := by kernel_rfl
theorem Q1W {a0 a1 : Value} {w : World} {R : Ending → World → Prop} (h : slices_ContainsFunc_api_Type_api_Type_lc.wp Tryz.prog (retQ Tryz.prog [.tmp 4] R) (Qg [a0, a1]) w) : Calls Tryz.prog Q1d ⟨[a0, a1]⟩ w R :=
  Q4 Tryz.func53 Q1N (by kernel_rfl) (by kernel_rfl) h

/- 54 -/
def Qg4 : List GO := [qb 1 91 0, qk 2 (.bool false)]
def Qg3 : List GO := [qf 3 1 0, ql 4 3, qj 5 .neq 3 4 1, qm 2 5]
def code_Check_1_lc : LC := (.seq (.ops Qg4) (.seq (.ops Qg3) .ret))
@[reducible] def Q4j : FuncId := 54
theorem Qe4 : lowF Tryz.prog Tryz.f54 = some code_Check_1_lc := by kernel_rfl
theorem Qg5 {a0 : Value} {w : World} {R : Ending → World → Prop} (h : code_Check_1_lc.wp Tryz.prog (retQ Tryz.prog [.tmp 2] R) (Qg [a0]) w) : Calls Tryz.prog Q4j ⟨[a0]⟩ w R :=
  Q4 Tryz.func54 Qe4 (by kernel_rfl) (by kernel_rfl) h

/- 55 -/
def Qav : List GO := [qm 9 0, qn 10 9, qf 11 10 0, qf 12 11 0, ql 13 12, qm 14 1, qi 15 4 13 14, qV 16 4 15, ⟨none, .alloc 6 43 [(vi 0), vn, vn, vn]⟩, qw 4 6 16]
def Qau : List GO := [qf 17 6 3, ql 18 17, qm 19 2, qi 20 12 18 19, qV 21 12 20, ⟨none, .alloc 7 52 [(vi 0), vn, vn, (vi 0), (vi 0), (vi 0), vn, vn, (vi 0), vn, vn, vn]⟩, qw 12 7 21]
def Qat : List GO := [qm 22 0, qm 23 1, qm 24 2, ⟨none, .call (some 25) 99 [(.tmp 23), (.tmp 24)]⟩, qn 26 22, qf 27 26 3, qs 27 25]
def Qas : List GO := [qm 28 0, qf 29 7 0, ql 30 29, qf 31 6 0, ql 32 31, qt 33 .lss 3 30 32, qm 34 33, qg 34 false (qf 35 7 0), qg 34 false (ql 36 35), qg 34 false (qj 37 .gtr 3 36 16), ⟨none, .pick 38 (.tmp 34) (.const (.bool true)) (.tmp 37)⟩, ⟨none, .call (some 39) 50 [(.tmp 28), (.tmp 38), (.const (vi 1))]⟩]
def Qar : List GO := [qm 40 0, qf 41 7 1, ql 42 41, qf 43 7 0, ql 44 43, ⟨none, .call (some 45) 52 [(.tmp 40), (.tmp 42), (.tmp 44)]⟩]
def Qaq : List GO := [qm 46 0, qm 47 2, qj 48 .eql 3 47 0, qm 49 48, qg 49 true (qf 50 7 0), qg 49 true (ql 51 50), qg 49 true (qf 52 6 0), qg 49 true (ql 53 52), qg 49 true (qt 54 .neq 3 51 53), qg 49 true (qm 55 54), qg 55 false (qf 56 7 1), qg 55 false (ql 57 56), qg 55 false (qf 58 6 1), qg 55 false (ql 59 58), ⟨some (55, false), .call (some 60) 100 [(.tmp 57), (.tmp 59), (.func 101)]⟩, ⟨some (55, false), .un 61 .not (.tmp 60)⟩, ⟨some (49, true), .pick 62 (.tmp 55) (.const (.bool true)) (.tmp 61)⟩, ⟨none, .pick 63 (.tmp 49) (.tmp 62) (.const (.bool false))⟩, ⟨none, .call (some 64) 50 [(.tmp 46), (.tmp 63), (.const (vi 9))]⟩]
def Qap : List GO := [qm 65 0, qf 66 7 2, ql 67 66, qL 68 67, qj 69 .gtr 3 68 40, ⟨none, .call (some 70) 50 [(.tmp 65), (.tmp 69), (.const (vi 2))]⟩]
def Qao : List GO := [qk 8 (vi 0)]
def Qan : List GO := [qm 71 8, qf 72 7 2, ql 73 72, qL 74 73, qt 75 .lss 3 71 74, qm 76 75, qg 76 true (qm 77 0), qg 76 true (qn 78 77), qg 76 true (qf 79 78 1), qg 76 true (qf 80 79 0), qg 76 true (ql 81 80), qg 76 true (qj 82 .eql 3 81 0), ⟨none, .pick 83 (.tmp 76) (.tmp 82) (.const (.bool false))⟩]
def Qam : List GO := [qm 86 0, qm 87 1, qm 88 2, qm 89 8, ⟨none, .call (some 90) 102 [(.tmp 87), (.tmp 88), (.tmp 89)]⟩, qn 91 86, qf 92 91 3, qs 92 90]
def Q9j : List GO := [qm 93 0, qf 94 7 2, ql 95 94, qm 96 8, qi 97 8 95 96, qV 98 8 97, ⟨none, .call (some 99) 103 [(.tmp 93), (.tmp 98)]⟩]
def Q9i : List GO := [qm 84 8, qj 85 .add 3 84 1, qm 8 85]
def Q44 : LC := (.seq (.seq (.ops Qan) (.cond (.tmp 83) .skip (.exit 0))) (.seq (.block 1 (.seq (.ops Qam) (.ops Q9j))) (.ops Q9i)))
def Q9h : List GO := [qm 100 0, qm 101 1, qm 102 2, ⟨none, .call (some 103) 104 [(.tmp 101), (.tmp 102)]⟩, qn 104 100, qf 105 104 3, qs 105 103]
def Q9g : List GO := [qm 106 0, qV 107 4 6, qf 108 7 3, qV 109 9 108, ⟨none, .call (some 110) 105 [(.tmp 106), (.tmp 107), (.tmp 109)]⟩]
def code_judge_block_lc : LC := (.seq (.ops Qav) (.seq (.ops Qau) (.seq (.ops Qat) (.seq (.ops Qas) (.seq (.ops Qar) (.seq (.ops Qaq) (.seq (.ops Qap) (.seq (.seq (.ops Qao) (.block 0 (.loop Q44))) (.seq (.ops Q9h) (.ops Q9g))))))))))
@[reducible] def Q2q : FuncId := 55
theorem Q9k : lowF Tryz.prog Tryz.f55 = some code_judge_block_lc := by kernel_rfl
theorem Qaw {a0 a1 a2 : Value} {w : World} {R : Ending → World → Prop} (h : code_judge_block_lc.wp Tryz.prog (retQ Tryz.prog [] R) (Qg [a0, a1, a2]) w) : Calls Tryz.prog Q2q ⟨[a0, a1, a2]⟩ w R :=
  Q4 Tryz.func55 Q9k (by kernel_rfl) (by kernel_rfl) h

/- 56 -/
def Q9K : List GO := [qm 5 0, qL 6 5, qk 7 (vi 0)]
def Q9J : List GO := [qt 8 .lss 3 7 6]
def Q9I : List GO := [qi 9 1 5 7, ql 10 9, qm 4 10]
def Q9H : List GO := [ql 11 1, qm 12 11, qg 12 true (qm 13 4), qg 12 true (qj 14 .geq 3 13 0), ⟨none, .pick 15 (.tmp 12) (.tmp 14) (.const (.bool false))⟩, qm 16 15, qg 16 true (qm 17 4), qg 16 true (qj 18 .leq 3 17 1000000), ⟨none, .pick 19 (.tmp 16) (.tmp 18) (.const (.bool false))⟩, qs 1 19]
def Q9G : List GO := [qj 20 .add 3 7 1, qm 7 20]
def Q3T : LC := (.seq (.ops Q9J) (.seq (.cond (.tmp 8) .skip (.exit 0)) (.seq (.block 1 (.seq (.ops Q9I) (.ops Q9H))) (.ops Q9G))))
def render_numbers_1_lc : LC := (.seq (.ops Q9K) (.block 0 (.loop Q3T)))
@[reducible] def Q2o : FuncId := 56
theorem Q7U : lowF Tryz.prog Tryz.f56 = some render_numbers_1_lc := by kernel_rfl
theorem Q9L {a0 a1 : Value} {w : World} {R : Ending → World → Prop} (h : render_numbers_1_lc.wp Tryz.prog (retQ Tryz.prog [] R) (Qg [a0, a1]) w) : Calls Tryz.prog Q2o ⟨[a0, a1]⟩ w R :=
  Q4 Tryz.func56 Q7U (by kernel_rfl) (by kernel_rfl) h

/- 57 -/
def Q3d : List GO := [qk 4 (vi 0), qk 5 .nilIface]
def Q3c : List GO := [qm 6 0, ⟨none, .call (some 7) 106 [(.tmp 6)]⟩]
def Q3b : List GO := [qm 8 0, qm 9 0, qn 10 9, qf 11 10 1, ql 12 11, qm 13 1, ⟨none, .raw ⟨(some 14), (.call ⟨(.builtin .append), #[(.tmp 12), (.tmp 13)], #[105, 9]⟩), 105, "", #[], none⟩⟩, qn 15 8, qf 16 15 1, qs 16 14]
def Q3a : List GO := [qm 17 1, ⟨none, .slen 18 (.tmp 17)⟩, qm 4 18, qk 5 .nilIface]
def strings_Builder_WriteString_lc : LC := (.seq (.ops Q3d) (.seq (.ops Q3c) (.seq (.ops Q3b) (.seq (.ops Q3a) .ret))))
@[reducible] def Q1j : FuncId := 57
theorem Q35 : lowF Tryz.prog Tryz.f57 = some strings_Builder_WriteString_lc := by kernel_rfl
theorem Q3e {a0 a1 : Value} {w : World} {R : Ending → World → Prop} (h : strings_Builder_WriteString_lc.wp Tryz.prog (retQ Tryz.prog [.tmp 4, .tmp 5] R) (Qg [a0, a1]) w) : Calls Tryz.prog Q1j ⟨[a0, a1]⟩ w R :=
  Q4 Tryz.func57 Q35 (by kernel_rfl) (by kernel_rfl) h

/- 58 -/
def QjR : List GO := [qk 2 (.string ⟨#[]⟩)]
def QjQ : List GO := [qm 3 0, ⟨none, .call (some 4) 63 [(.tmp 3)]⟩, qm 2 4]
def render_num_lc : LC := (.seq (.ops QjR) (.seq (.ops QjQ) .ret))
@[reducible] def QiF : FuncId := 58
theorem Qhe : lowF Tryz.prog Tryz.f58 = some render_num_lc := by kernel_rfl
theorem QjS {a0 : Value} {w : World} {R : Ending → World → Prop} (h : render_num_lc.wp Tryz.prog (retQ Tryz.prog [.tmp 2] R) (Qg [a0]) w) : Calls Tryz.prog QiF ⟨[a0]⟩ w R :=
  Q4 Tryz.func58 Qhe (by kernel_rfl) (by kernel_rfl) h

/- 59 -/
def Qfs : List GO := [qk 2 (.string ⟨#[]⟩)]
def Qfr : List GO := [qk 3 vn]
def Qfq : List GO := [qm 6 0, qL 7 6, qk 8 (vi 0)]
def Qfp : List GO := [qt 9 .lss 3 8 7]
def Qfo : List GO := [qi 10 3 6 8, qV 11 3 10, ⟨none, .alloc 5 91 [(vi 0), (vi 0), vn]⟩, qw 3 5 11]
def Qfn : List GO := [qm 12 3, qV 13 3 5, ⟨none, .call (some 14) 107 [(.tmp 13)]⟩, ⟨none, .buildS 15 9 1 [(.string ⟨#[]⟩)] [(0, (1, (.tmp 14)))]⟩, ⟨none, .raw ⟨(some 16), (.call ⟨(.builtin .append), #[(.tmp 12), (.tmp 15)], #[86, 86]⟩), 86, "", #[], none⟩⟩, qm 3 16]
def Qfm : List GO := [qj 17 .add 3 8 1, qm 8 17]
def Q6N : LC := (.seq (.ops Qfp) (.seq (.cond (.tmp 9) .skip (.exit 0)) (.seq (.block 1 (.seq (.ops Qfo) (.ops Qfn))) (.ops Qfm))))
def Qfl : List GO := [qm 18 3, ⟨none, .call (some 19) 108 [(.tmp 18), (.const (.string ⟨#[44, 32]⟩))]⟩, ⟨none, .bin 20 .add 9 (.const (.string ⟨#[40]⟩)) (.tmp 19)⟩, ⟨none, .bin 21 .add 9 (.tmp 20) (.const (.string ⟨#[41]⟩))⟩, qm 2 21]
def render_typed_lc : LC := (.seq (.ops Qfs) (.seq (.ops Qfr) (.seq (.seq (.ops Qfq) (.block 0 (.loop Q6N))) (.seq (.ops Qfl) .ret))))
@[reducible] def Qdq : FuncId := 59
theorem QdP : lowF Tryz.prog Tryz.f59 = some render_typed_lc := by kernel_rfl
theorem Qft {a0 : Value} {w : World} {R : Ending → World → Prop} (h : render_typed_lc.wp Tryz.prog (retQ Tryz.prog [.tmp 2] R) (Qg [a0]) w) : Calls Tryz.prog Qdq ⟨[a0]⟩ w R :=
  Q4 Tryz.func59 QdP (by kernel_rfl) (by kernel_rfl) h

/- 60 -/
def Qk2 : List GO := [qb 1 54 0, qk 2 (.string ⟨#[]⟩)]
def Qk1 : List GO := [qf 4 1 0, ql 5 4, ⟨none, .call (some 6) 16 [(.tmp 5)]⟩, ⟨none, .buildS 7 9 1 [(.string ⟨#[]⟩)] [(0, (1, (.tmp 6)))]⟩, qm 3 7]
def Qk0 : List GO := [qf 8 1 0, ql 9 8]
def QjZ : List GO := [qj 11 .eql 3 9 1, qm 10 11]
def QjY : List GO := [qm 12 3, qf 13 1 5, ql 14 13, ⟨none, .call (some 15) 109 [(.tmp 14), (.const (vi 10))]⟩, ⟨none, .buildS 16 9 1 [(.string ⟨#[]⟩)] [(0, (1, (.tmp 15)))]⟩, ⟨none, .raw ⟨(some 17), (.call ⟨(.builtin .append), #[(.tmp 12), (.tmp 16)], #[86, 86]⟩), 86, "", #[], none⟩⟩, qm 3 17]
def QjX : List GO := [qj 19 .eql 3 9 2, qm 18 19]
def QjW : List GO := [qm 20 3, qf 21 1 4, ql 22 21, ⟨none, .call (some 23) 18 [(.tmp 22)]⟩, qf 24 1 1, ql 25 24, ⟨none, .call (some 26) 58 [(.tmp 25)]⟩, qf 27 1 2, ql 28 27, ⟨none, .call (some 29) 58 [(.tmp 28)]⟩, ⟨none, .buildS 30 9 3 [(.string ⟨#[]⟩), (.string ⟨#[]⟩), (.string ⟨#[]⟩)] [(0, (1, (.tmp 23))), (1, (1, (.tmp 26))), (2, (1, (.tmp 29)))]⟩, ⟨none, .raw ⟨(some 31), (.call ⟨(.builtin .append), #[(.tmp 20), (.tmp 30)], #[86, 86]⟩), 86, "", #[], none⟩⟩, qm 3 31]
def Qk4 : List (List Nat) := [[],[],[1],[2],[],[4],[5,3],[],[7],[8,6],[3,6,9],[0,10,9],[11,11,0,1,2,3,4,5,6,7,8,9,10,11]]
def QjV : List GO := [qj 33 .eql 3 9 4, qm 32 33]
def QjU : List GO := [qj 34 .eql 3 9 11, qm 32 34]
def QjT : List GO := [qj 35 .eql 3 9 13, qm 32 35]
def Qht : List GO := [qm 36 3, qf 37 1 1, ql 38 37, ⟨none, .call (some 39) 58 [(.tmp 38)]⟩, ⟨none, .buildS 40 9 1 [(.string ⟨#[]⟩)] [(0, (1, (.tmp 39)))]⟩, ⟨none, .raw ⟨(some 41), (.call ⟨(.builtin .append), #[(.tmp 36), (.tmp 40)], #[86, 86]⟩), 86, "", #[], none⟩⟩, qm 3 41]
def Qhs : List GO := [qj 43 .eql 3 9 5, qm 42 43]
def Qhr : List GO := [qm 44 3, qf 45 1 1, ql 46 45, ⟨none, .call (some 47) 58 [(.tmp 46)]⟩, qf 48 1 7, ql 49 48, ⟨none, .call (some 50) 110 [(.const (.string ⟨#[40]⟩)), (.tmp 49), (.const (.string ⟨#[41]⟩))]⟩, ⟨none, .buildS 51 9 2 [(.string ⟨#[]⟩), (.string ⟨#[]⟩)] [(0, (1, (.tmp 47))), (1, (1, (.tmp 50)))]⟩, ⟨none, .raw ⟨(some 52), (.call ⟨(.builtin .append), #[(.tmp 44), (.tmp 51)], #[86, 86]⟩), 86, "", #[], none⟩⟩, qm 3 52]
def QhA : List (List Nat) := [[],[],[1],[2],[],[4],[5,3],[3,6],[0,7,6],[8,8,0,1,2,3,4,5,6,7,8]]
def Qhq : List GO := [qj 54 .eql 3 9 6, qm 53 54]
def Qhp : List GO := [qm 55 3, qf 56 1 1, ql 57 56, ⟨none, .call (some 58) 58 [(.tmp 57)]⟩, qf 59 1 4, ql 60 59, ⟨none, .call (some 61) 58 [(.tmp 60)]⟩, ⟨none, .buildS 62 9 2 [(.string ⟨#[]⟩), (.string ⟨#[]⟩)] [(0, (1, (.tmp 58))), (1, (1, (.tmp 61)))]⟩, ⟨none, .raw ⟨(some 63), (.call ⟨(.builtin .append), #[(.tmp 55), (.tmp 62)], #[86, 86]⟩), 86, "", #[], none⟩⟩, qm 3 63]
def Qhz : List (List Nat) := [[],[],[1],[2],[],[4],[5,3],[3,6],[0,7,6],[8,8,0,1,2,3,4,5,6,7,8]]
def Qho : List GO := [qj 65 .eql 3 9 7, qm 64 65]
def Qhn : List GO := [qm 66 3, qf 67 1 1, ql 68 67, ⟨none, .call (some 69) 58 [(.tmp 68)]⟩, qf 70 1 4, ql 71 70, ⟨none, .call (some 72) 58 [(.tmp 71)]⟩, qf 73 1 2, ql 74 73, ⟨none, .call (some 75) 58 [(.tmp 74)]⟩, ⟨none, .buildS 76 9 3 [(.string ⟨#[]⟩), (.string ⟨#[]⟩), (.string ⟨#[]⟩)] [(0, (1, (.tmp 69))), (1, (1, (.tmp 72))), (2, (1, (.tmp 75)))]⟩, ⟨none, .raw ⟨(some 77), (.call ⟨(.builtin .append), #[(.tmp 66), (.tmp 76)], #[86, 86]⟩), 86, "", #[], none⟩⟩, qm 3 77]
def Qhy : List (List Nat) := [[],[],[1],[2],[],[4],[5,3],[],[7],[8,6],[3,6,9],[0,10,9],[11,11,0,1,2,3,4,5,6,7,8,9,10,11]]
def Qhm : List GO := [qj 79 .eql 3 9 8, qm 78 79]
def Qhl : List GO := [qj 80 .eql 3 9 9, qm 78 80]
def Qhk : List GO := [qm 81 3, qf 82 1 1, ql 83 82, ⟨none, .call (some 84) 58 [(.tmp 83)]⟩, qf 85 1 2, ql 86 85, ⟨none, .call (some 87) 58 [(.tmp 86)]⟩, ⟨none, .buildS 88 9 2 [(.string ⟨#[]⟩), (.string ⟨#[]⟩)] [(0, (1, (.tmp 84))), (1, (1, (.tmp 87)))]⟩, ⟨none, .raw ⟨(some 89), (.call ⟨(.builtin .append), #[(.tmp 81), (.tmp 88)], #[86, 86]⟩), 86, "", #[], none⟩⟩, qm 3 89]
def Qhx : List (List Nat) := [[],[],[1],[2],[],[4],[5,3],[3,6],[0,7,6],[8,8,0,1,2,3,4,5,6,7,8]]
def Qhj : List GO := [qj 91 .eql 3 9 10, qm 90 91]
def Qhi : List GO := [qm 92 3, qf 93 1 1, ql 94 93, ⟨none, .call (some 95) 58 [(.tmp 94)]⟩, qf 96 1 2, ql 97 96, ⟨none, .call (some 98) 58 [(.tmp 97)]⟩, qf 99 1 3, ql 100 99, ⟨none, .call (some 101) 58 [(.tmp 100)]⟩, ⟨none, .buildS 102 9 3 [(.string ⟨#[]⟩), (.string ⟨#[]⟩), (.string ⟨#[]⟩)] [(0, (1, (.tmp 95))), (1, (1, (.tmp 98))), (2, (1, (.tmp 101)))]⟩, ⟨none, .raw ⟨(some 103), (.call ⟨(.builtin .append), #[(.tmp 92), (.tmp 102)], #[86, 86]⟩), 86, "", #[], none⟩⟩, qm 3 103]
def Qhw : List (List Nat) := [[],[],[1],[2],[],[4],[5,3],[],[7],[8,6],[3,6,9],[0,10,9],[11,11,0,1,2,3,4,5,6,7,8,9,10,11]]
def Qhh : List GO := [qj 105 .eql 3 9 14, qm 104 105]
def Qhg : List GO := [qm 106 3, qf 107 1 4, ql 108 107, ⟨none, .call (some 109) 58 [(.tmp 108)]⟩, qf 110 1 6, ql 111 110, ⟨none, .call (some 112) 110 [(.const (.string ⟨#[60]⟩)), (.tmp 111), (.const (.string ⟨#[62]⟩))]⟩, qf 113 1 7, ql 114 113, ⟨none, .call (some 115) 110 [(.const (.string ⟨#[40]⟩)), (.tmp 114), (.const (.string ⟨#[41]⟩))]⟩, ⟨none, .buildS 116 9 3 [(.string ⟨#[]⟩), (.string ⟨#[]⟩), (.string ⟨#[]⟩)] [(0, (1, (.tmp 109))), (1, (1, (.tmp 112))), (2, (1, (.tmp 115)))]⟩, ⟨none, .raw ⟨(some 117), (.call ⟨(.builtin .append), #[(.tmp 106), (.tmp 116)], #[86, 86]⟩), 86, "", #[], none⟩⟩, qm 3 117]
def Qhv : List (List Nat) := [[],[],[1],[2],[],[4],[5,3],[],[7],[8,6],[3,6,9],[0,10,9],[11,11,0,1,2,3,4,5,6,7,8,9,10,11]]
def Qhf : List GO := [qm 118 3, ⟨none, .call (some 119) 108 [(.tmp 118), (.const (.string ⟨#[32]⟩))]⟩, ⟨none, .bin 120 .add 9 (.tmp 119) (.const (.string ⟨#[59]⟩))⟩, qm 2 120]
def render_ins_lc : LC := (.seq (.ops Qk2) (.seq (.ops Qk1) (.seq (.seq (.ops Qk0) (.block 0 (.seq (.ops QjZ) (.cond (.tmp 10) (.ops QjY) (.seq (.ops QjX) (.cond (.tmp 18) (.draw QjW Qk4) (.seq (.seq (.ops QjV) (.cond (.tmp 32) .skip (.seq (.ops QjU) (.cond (.tmp 32) .skip (.ops QjT))))) (.cond (.tmp 32) (.ops Qht) (.seq (.ops Qhs) (.cond (.tmp 42) (.draw Qhr QhA) (.seq (.ops Qhq) (.cond (.tmp 53) (.draw Qhp Qhz) (.seq (.ops Qho) (.cond (.tmp 64) (.draw Qhn Qhy) (.seq (.seq (.ops Qhm) (.cond (.tmp 78) .skip (.ops Qhl))) (.cond (.tmp 78) (.draw Qhk Qhx) (.seq (.ops Qhj) (.cond (.tmp 90) (.draw Qhi Qhw) (.seq (.ops Qhh) (.cond (.tmp 104) (.draw Qhg Qhv) .skip)))))))))))))))))))) (.seq (.ops Qhf) .ret))))
@[reducible] def Qp : FuncId := 60
theorem Qhu : lowF Tryz.prog Tryz.f60 = some render_ins_lc := by kernel_rfl
theorem Qk3 {a0 : Value} {w : World} {R : Ending → World → Prop} (h : render_ins_lc.wp Tryz.prog (retQ Tryz.prog [.tmp 2] R) (Qg [a0]) w) : Calls Tryz.prog Qp ⟨[a0]⟩ w R :=
  Q4 Tryz.func60 Qhu (by kernel_rfl) (by kernel_rfl) h

/- 61 -/
def Qkb : List GO := [qb 1 50 0, qk 2 (.string ⟨#[]⟩)]
def Qka : List GO := [qf 3 1 0, ql 4 3]
def Qk9 : List GO := [qj 6 .eql 3 4 1, qm 5 6]
def Qk8 : List GO := [qf 7 1 2, qV 8 3 7, ⟨none, .call (some 9) 111 [(.tmp 8)]⟩, ⟨none, .bin 10 .add 9 (.const (.string ⟨#[106, 117, 109, 112, 32]⟩)) (.tmp 9)⟩, ⟨none, .bin 11 .add 9 (.tmp 10) (.const (.string ⟨#[59]⟩))⟩, qm 2 11]
def Qk7 : List GO := [qj 13 .eql 3 4 2, qm 12 13]
def Qk6 : List GO := [qf 14 1 1, ql 15 14, ⟨none, .call (some 16) 58 [(.tmp 15)]⟩, ⟨none, .bin 17 .add 9 (.const (.string ⟨#[105, 102, 32]⟩)) (.tmp 16)⟩, ⟨none, .bin 18 .add 9 (.tmp 17) (.const (.string ⟨#[32, 116, 111, 32]⟩))⟩, qf 19 1 2, qV 20 3 19, ⟨none, .call (some 21) 111 [(.tmp 20)]⟩, qt 22 .add 9 18 21, ⟨none, .bin 23 .add 9 (.tmp 22) (.const (.string ⟨#[32, 101, 108, 115, 101, 32]⟩))⟩, qf 24 1 5, qV 25 3 24, ⟨none, .call (some 26) 111 [(.tmp 25)]⟩, qt 27 .add 9 23 26, ⟨none, .bin 28 .add 9 (.tmp 27) (.const (.string ⟨#[59]⟩))⟩, qm 2 28]
def Qkd : List (List Nat) := [[],[0],[1],[2],[3],[],[5],[6,2],[4,7],[8],[],[10],[11,7],[9,12],[13],[14,12,0,1,2,3,4,5,6,7,8,9,10,11,12,13,14]]
def Qk5 : List GO := [qf 29 1 8, ql 30 29, ⟨none, .call (some 31) 110 [(.const (.string ⟨#[40]⟩)), (.tmp 30), (.const (.string ⟨#[41]⟩))]⟩, ⟨none, .bin 32 .add 9 (.const (.string ⟨#[114, 101, 116, 32]⟩)) (.tmp 31)⟩, ⟨none, .bin 33 .add 9 (.tmp 32) (.const (.string ⟨#[59]⟩))⟩, qm 2 33]
def render_end_lc : LC := (.seq (.ops Qkb) (.seq (.seq (.ops Qka) (.block 0 (.seq (.ops Qk9) (.cond (.tmp 5) (.seq (.ops Qk8) .ret) (.seq (.ops Qk7) (.cond (.tmp 12) (.seq (.draw Qk6 Qkd) .ret) .skip)))))) (.seq (.ops Qk5) .ret)))
@[reducible] def Q3K : FuncId := 61
theorem QhB : lowF Tryz.prog Tryz.f61 = some render_end_lc := by kernel_rfl
theorem Qkc {a0 : Value} {w : World} {R : Ending → World → Prop} (h : render_end_lc.wp Tryz.prog (retQ Tryz.prog [.tmp 2] R) (Qg [a0]) w) : Calls Tryz.prog Q3K ⟨[a0]⟩ w R :=
  Q4 Tryz.func61 QhB (by kernel_rfl) (by kernel_rfl) h

/- 62 -/
def Q4m : List GO := [qk 2 (.string ⟨#[]⟩)]
def Q4l : List GO := [qm 3 0, qn 4 3, qf 5 4 1, ql 6 5, ⟨none, .raw ⟨(some 7), (.call ⟨(.builtin .unsafeSliceData), #[(.tmp 6)], #[105]⟩), 154, "", #[], none⟩⟩, qm 8 0, qn 9 8, qf 10 9 1, ql 11 10, qL 12 11, ⟨none, .raw ⟨(some 13), (.call ⟨(.builtin .unsafeString), #[(.tmp 7), (.tmp 12)], #[154, 3]⟩), 9, "", #[], none⟩⟩, qm 2 13]
def Q4o : List (List Nat) := [[],[0],[1],[2],[3],[],[5],[6],[7],[8],[4,9],[10,0,1,2,3,4,5,6,7,8,9,10]]
def strings_Builder_String_lc : LC := (.seq (.ops Q4m) (.seq (.draw Q4l Q4o) .ret))
@[reducible] def Q33 : FuncId := 62
theorem Q47 : lowF Tryz.prog Tryz.f62 = some strings_Builder_String_lc := by kernel_rfl
theorem Q4n {a0 : Value} {w : World} {R : Ending → World → Prop} (h : strings_Builder_String_lc.wp Tryz.prog (retQ Tryz.prog [.tmp 2] R) (Qg [a0]) w) : Calls Tryz.prog Q33 ⟨[a0]⟩ w R :=
  Q4 Tryz.func62 Q47 (by kernel_rfl) (by kernel_rfl) h

/- 63 -/
@[reducible] def strconv_Itoa : FuncId := 63
/- 64 -/
/- 65 -/
/- 66 -/
/- 67 -/
/- 68 -/
def Qlf : List GO := [qb 2 91 0, qb 3 91 1, qk 4 (.bool false)]
def Qle : List GO := [qf 5 2 0, ql 6 5, qf 7 3 0, ql 8 7, qt 9 .eql 3 6 8, qm 10 9, qg 10 true (qf 11 2 1), qg 10 true (ql 12 11), qg 10 true (qf 13 3 1), qg 10 true (ql 14 13), qg 10 true (qt 15 .eql 3 12 14), ⟨none, .pick 16 (.tmp 10) (.tmp 15) (.const (.bool false))⟩, qm 17 16, qg 17 true (qf 18 2 2), qg 17 true (ql 19 18), qg 17 true (qf 20 3 2), qg 17 true (ql 21 20), ⟨some (17, true), .call (some 22) 32 [(.tmp 19), (.tmp 21)]⟩, ⟨none, .pick 23 (.tmp 17) (.tmp 22) (.const (.bool false))⟩, qm 4 23]
def R_SameType_lc : LC := (.seq (.ops Qlf) (.seq (.ops Qle) .ret))
@[reducible] def QcX : FuncId := 68
theorem Qiw : lowF Tryz.prog Tryz.f68 = some R_SameType_lc := by kernel_rfl
theorem Qlg {a0 a1 : Value} {w : World} {R : Ending → World → Prop} (h : R_SameType_lc.wp Tryz.prog (retQ Tryz.prog [.tmp 4] R) (Qg [a0, a1]) w) : Calls Tryz.prog QcX ⟨[a0, a1]⟩ w R :=
  Q4 Tryz.func68 Qiw (by kernel_rfl) (by kernel_rfl) h

/- 69 -/
def Qmg : List GO := [qb 2 54 0, qb 3 54 1, qk 4 (.bool false)]
def Qmf : List GO := [qf 5 2 0, ql 6 5, qf 7 3 0, ql 8 7, qt 9 .eql 3 6 8, qm 10 9, qg 10 true (qf 11 2 1), qg 10 true (ql 12 11), qg 10 true (qf 13 3 1), qg 10 true (ql 14 13), qg 10 true (qt 15 .eql 3 12 14), ⟨none, .pick 16 (.tmp 10) (.tmp 15) (.const (.bool false))⟩, qm 17 16, qg 17 true (qf 18 2 2), qg 17 true (ql 19 18), qg 17 true (qf 20 3 2), qg 17 true (ql 21 20), qg 17 true (qt 22 .eql 3 19 21), ⟨none, .pick 23 (.tmp 17) (.tmp 22) (.const (.bool false))⟩, qm 24 23, qg 24 true (qf 25 2 3), qg 24 true (ql 26 25), qg 24 true (qf 27 3 3), qg 24 true (ql 28 27), qg 24 true (qt 29 .eql 3 26 28), ⟨none, .pick 30 (.tmp 24) (.tmp 29) (.const (.bool false))⟩, qm 31 30, qg 31 true (qf 32 2 4), qg 31 true (ql 33 32), qg 31 true (qf 34 3 4), qg 31 true (ql 35 34), qg 31 true (qt 36 .eql 3 33 35), ⟨none, .pick 37 (.tmp 31) (.tmp 36) (.const (.bool false))⟩, qm 38 37, qg 38 true (qf 39 2 5), qg 38 true (ql 40 39), qg 38 true (qf 41 3 5), qg 38 true (ql 42 41), qg 38 true (qt 43 .eql 2 40 42), ⟨none, .pick 44 (.tmp 38) (.tmp 43) (.const (.bool false))⟩, qm 45 44, qg 45 true (qf 46 2 6), qg 45 true (ql 47 46), qg 45 true (qf 48 3 6), qg 45 true (ql 49 48), ⟨some (45, true), .call (some 50) 71 [(.tmp 47), (.tmp 49)]⟩, ⟨none, .pick 51 (.tmp 45) (.tmp 50) (.const (.bool false))⟩, qm 52 51, qg 52 true (qf 53 2 7), qg 52 true (ql 54 53), qg 52 true (qf 55 3 7), qg 52 true (ql 56 55), ⟨some (52, true), .call (some 57) 71 [(.tmp 54), (.tmp 56)]⟩, ⟨none, .pick 58 (.tmp 52) (.tmp 57) (.const (.bool false))⟩, qm 4 58]
def R_sameIns_lc : LC := (.seq (.ops Qmg) (.seq (.ops Qmf) .ret))
@[reducible] def Qmi : FuncId := 69
theorem Qld : lowF Tryz.prog Tryz.f69 = some R_sameIns_lc := by kernel_rfl
theorem Qmh {a0 a1 : Value} {w : World} {R : Ending → World → Prop} (h : R_sameIns_lc.wp Tryz.prog (retQ Tryz.prog [.tmp 4] R) (Qg [a0, a1]) w) : Calls Tryz.prog Qmi ⟨[a0, a1]⟩ w R :=
  Q4 Tryz.func69 Qld (by kernel_rfl) (by kernel_rfl) h

/- 70 -/
def Qn6 : List GO := [qb 2 48 0, qb 3 48 1, qk 4 (.bool false)]
def Qn5 : List GO := [qf 5 2 0, ql 6 5, qf 7 3 0, ql 8 7, qt 9 .eql 3 6 8, qm 10 9, qg 10 true (qf 11 2 1), qg 10 true (ql 12 11), qg 10 true (qf 13 3 1), qg 10 true (ql 14 13), ⟨some (10, true), .call (some 15) 71 [(.tmp 12), (.tmp 14)]⟩, ⟨none, .pick 16 (.tmp 10) (.tmp 15) (.const (.bool false))⟩, qm 17 16, qg 17 true (qf 18 2 2), qg 17 true (ql 19 18), qg 17 true (qf 20 3 2), qg 17 true (ql 21 20), ⟨some (17, true), .call (some 22) 71 [(.tmp 19), (.tmp 21)]⟩, ⟨none, .pick 23 (.tmp 17) (.tmp 22) (.const (.bool false))⟩, qm 4 23]
def R_sameTo_lc : LC := (.seq (.ops Qn6) (.seq (.ops Qn5) .ret))
@[reducible] def QnK : FuncId := 70
theorem Qme : lowF Tryz.prog Tryz.f70 = some R_sameTo_lc := by kernel_rfl
theorem Qn7 {a0 a1 : Value} {w : World} {R : Ending → World → Prop} (h : R_sameTo_lc.wp Tryz.prog (retQ Tryz.prog [.tmp 4] R) (Qg [a0, a1]) w) : Calls Tryz.prog QnK ⟨[a0, a1]⟩ w R :=
  Q4 Tryz.func70 Qme (by kernel_rfl) (by kernel_rfl) h

/- 71 -/
def Qlp : List GO := [qk 4 (.bool false)]
def Qlo : List GO := [qm 6 0, qL 7 6, qm 8 1, qL 9 8, qt 10 .neq 3 7 9]
def Qln : List GO := [qk 4 (.bool false)]
def Qlm : List GO := [qk 5 (vi 0)]
def Qll : List GO := [qm 11 5, qm 12 0, qL 13 12, qt 14 .lss 3 11 13]
def Qlk : List GO := [qm 17 0, qm 18 5, qi 19 1 17 18, ql 20 19, qm 21 1, qm 22 5, qi 23 1 21 22, ql 24 23, qt 25 .neq 3 20 24]
def Qlr : List (List Nat) := [[],[],[0,1],[2],[],[],[4,5],[6],[3,7]]
def Qlj : List GO := [qk 4 (.bool false)]
def Qli : List GO := [qm 15 5, qj 16 .add 3 15 1, qm 5 16]
def QbO : LC := (.seq (.seq (.ops Qll) (.cond (.tmp 14) .skip (.exit 0))) (.seq (.block 1 (.seq (.draw Qlk Qlr) (.cond (.tmp 25) (.seq (.ops Qlj) .ret) .skip))) (.ops Qli)))
def Qlh : List GO := [qk 4 (.bool true)]
def R_SameInts_lc : LC := (.seq (.ops Qlp) (.seq (.seq (.ops Qlo) (.cond (.tmp 10) (.seq (.ops Qln) .ret) .skip)) (.seq (.seq (.ops Qlm) (.block 0 (.loop QbO))) (.seq (.ops Qlh) .ret))))
@[reducible] def Q3M : FuncId := 71
theorem Qix : lowF Tryz.prog Tryz.f71 = some R_SameInts_lc := by kernel_rfl
theorem Qlq {a0 a1 : Value} {w : World} {R : Ending → World → Prop} (h : R_SameInts_lc.wp Tryz.prog (retQ Tryz.prog [.tmp 4] R) (Qg [a0, a1]) w) : Calls Tryz.prog Q3M ⟨[a0, a1]⟩ w R :=
  Q4 Tryz.func71 Qix (by kernel_rfl) (by kernel_rfl) h

/- 72 -/
def Q61 : List GO := [qk 2 (.bool false)]
def Q60 : List GO := [qm 4 0, qn 5 4, qf 6 5 1, ql 7 6, qm 8 0, qn 9 8, qf 10 9 0, ql 11 10, ⟨none, .slen 12 (.tmp 11)⟩, qt 13 .lss 3 7 12]
def Q64 : List (List Nat) := [[],[0],[1],[2],[],[4],[5],[6],[7],[3,8]]
def Q5Z : List GO := [qm 21 0, qn 22 21, qf 23 22 0, ql 24 23, qm 25 0, qn 26 25, qf 27 26 1, ql 28 27, ⟨none, .sidx 29 (.tmp 24) (.tmp 28)⟩, qm 3 29]
def Q63 : List (List Nat) := [[],[0],[1],[2],[],[4],[5],[6],[3,7],[8,0,1,2,3,4,5,6,7,8]]
def Q5Y : List GO := [qm 31 3, ⟨none, .bin 32 .eql 5 (.tmp 31) (.const (.int .u8 10))⟩, qm 30 32]
def Q5X : List GO := [qk 2 (.bool false)]
def Q5W : List GO := [qm 34 2, qm 35 34, qg 35 false (qm 36 3), ⟨some (35, false), .bin 37 .eql 5 (.tmp 36) (.const (.int .u8 32))⟩, ⟨none, .pick 38 (.tmp 35) (.const (.bool true)) (.tmp 37)⟩, qm 39 38, qg 39 false (qm 40 3), ⟨some (39, false), .bin 41 .eql 5 (.tmp 40) (.const (.int .u8 9))⟩, ⟨none, .pick 42 (.tmp 39) (.const (.bool true)) (.tmp 41)⟩, qm 43 42, qg 43 false (qm 44 3), ⟨some (43, false), .bin 45 .eql 5 (.tmp 44) (.const (.int .u8 13))⟩, ⟨none, .pick 46 (.tmp 43) (.const (.bool true)) (.tmp 45)⟩, qm 33 46]
def Q5V : List GO := [qm 48 3, ⟨none, .bin 49 .eql 5 (.tmp 48) (.const (.int .u8 35))⟩, qm 47 49]
def Q5U : List GO := [qk 2 (.bool true)]
def Q5T : List GO := [qm 14 0, qn 15 14, qf 16 15 1, ql 17 16, qj 18 .add 3 17 1, qn 19 14, qf 20 19 1, qs 20 18]
def Q32 : LC := (.seq (.seq (.draw Q60 Q64) (.cond (.tmp 13) .skip (.exit 0))) (.seq (.block 1 (.seq (.draw Q5Z Q63) (.block 2 (.seq (.ops Q5Y) (.cond (.tmp 30) (.ops Q5X) (.seq (.ops Q5W) (.cond (.tmp 33) .skip (.seq (.ops Q5V) (.cond (.tmp 47) (.ops Q5U) .ret))))))))) (.ops Q5T)))
def token_scanner_blank_lc : LC := (.seq (.ops Q61) (.block 0 (.loop Q32)))
@[reducible] def Qq : FuncId := 72
theorem Q5i : lowF Tryz.prog Tryz.f72 = some token_scanner_blank_lc := by kernel_rfl
theorem Q62 {a0 : Value} {w : World} {R : Ending → World → Prop} (h : token_scanner_blank_lc.wp Tryz.prog (retQ Tryz.prog [] R) (Qg [a0]) w) : Calls Tryz.prog Qq ⟨[a0]⟩ w R :=
  Q4 Tryz.func72 Q5i (by kernel_rfl) (by kernel_rfl) h

/- 73 -/
def Q6B : List GO := [⟨none, .alloc 2 126 [(vi 0), (.string ⟨#[]⟩), (.bool false), (vi 0)]⟩, qk 3 (vi 0)]
def Q6A : List GO := [qm 6 0, qn 7 6, qf 8 7 1, ql 9 8, qm 4 9]
def Q6z : List GO := [qm 10 0, qn 11 10, qf 12 11 0, ql 13 12, qm 14 4, ⟨none, .sidx 15 (.tmp 13) (.tmp 14)⟩, qm 5 15]
def Q6y : List GO := [qm 17 5, ⟨none, .call (some 18) 116 [(.tmp 17)]⟩, qm 16 18]
def Q6x : List GO := [qm 19 4, qm 20 0, ⟨none, .call (some 21) 117 [(.tmp 20), (.func 116)]⟩, ⟨none, .build 22 [(vi 0), (.string ⟨#[]⟩), (.bool false), (vi 0)] [(0, (1, (.tmp 19))), (1, (1, (.tmp 21)))]⟩, qw 4 2 22, qk 3 (vi 0)]
def Q6w : List GO := [qm 24 5, ⟨none, .call (some 25) 118 [(.tmp 24)]⟩, qm 23 25]
def Q6v : List GO := [qm 26 0, qm 27 4, ⟨none, .call (some 28) 119 [(.tmp 26), (.tmp 27), (.const (.string ⟨#[]⟩))]⟩, qx 29 28 0, qx 30 28 1, qw 4 2 29, qm 3 30]
def Q6u : List GO := [qm 32 0, qn 33 32, qf 34 33 0, ql 35 34, qm 36 4, ⟨none, .ssub 37 (.tmp 35) (some (.tmp 36)) none⟩, ⟨none, .call (some 38) 120 [(.tmp 37), (.const (.string ⟨#[45, 62]⟩))]⟩, qm 31 38]
def Q6t : List GO := [qm 39 0, qn 40 39, qf 41 40 1, ql 42 41, qj 43 .add 3 42 2, qn 44 39, qf 45 44 1, qs 45 43]
def Q6s : List GO := [qm 46 4, ⟨none, .build 47 [(vi 0), (.string ⟨#[]⟩), (.bool false), (vi 0)] [(0, (1, (.tmp 46))), (1, (1, (.const (.string ⟨#[45, 62]⟩))))]⟩, qw 4 2 47, qk 3 (vi 0)]
def Q5R : List GO := [qm 49 5, ⟨none, .bin 50 .eql 5 (.tmp 49) (.const (.int .u8 45))⟩, qm 51 50, qg 51 true (qm 52 4), qg 51 true (qj 53 .add 3 52 1), qg 51 true (qm 54 0), qg 51 true (qn 55 54), qg 51 true (qf 56 55 0), qg 51 true (ql 57 56), ⟨some (51, true), .slen 58 (.tmp 57)⟩, qg 51 true (qt 59 .lss 3 53 58), ⟨none, .pick 60 (.tmp 51) (.tmp 59) (.const (.bool false))⟩, qm 61 60, qg 61 true (qm 62 0), qg 61 true (qn 63 62), qg 61 true (qf 64 63 0), qg 61 true (ql 65 64), qg 61 true (qm 66 4), qg 61 true (qj 67 .add 3 66 1), ⟨some (61, true), .sidx 68 (.tmp 65) (.tmp 67)⟩, ⟨some (61, true), .call (some 69) 118 [(.tmp 68)]⟩, ⟨none, .pick 70 (.tmp 61) (.tmp 69) (.const (.bool false))⟩, qm 48 70]
def Q5Q : List GO := [qm 71 0, qn 72 71, qf 73 72 1, ql 74 73, qj 75 .add 3 74 1, qn 76 71, qf 77 76 1, qs 77 75]
def Q5P : List GO := [qm 78 0, qm 79 4, ⟨none, .call (some 80) 119 [(.tmp 78), (.tmp 79), (.const (.string ⟨#[45]⟩))]⟩, qx 81 80 0, qx 82 80 1, qw 4 2 81, qm 3 82]
def Q5O : List GO := [qm 84 5, ⟨none, .bin 85 .neq 5 (.tmp 84) (.const (.int .u8 45))⟩, qm 86 85, qg 86 true (qm 87 5), ⟨some (86, true), .call (some 88) 121 [(.const (.string ⟨#[40, 41, 123, 125, 60, 62, 44, 59, 45]⟩)), (.tmp 87)]⟩, qg 86 true (qj 89 .geq 3 88 0), ⟨none, .pick 90 (.tmp 86) (.tmp 89) (.const (.bool false))⟩, qm 83 90]
def Q5N : List GO := [qm 91 0, qn 92 91, qf 93 92 1, ql 94 93, qj 95 .add 3 94 1, qn 96 91, qf 97 96 1, qs 97 95]
def Q5M : List GO := [qm 98 4, qm 99 0, qn 100 99, qf 101 100 0, ql 102 101, qm 103 4, qm 104 4, qj 105 .add 3 104 1, ⟨none, .ssub 106 (.tmp 102) (some (.tmp 103)) (some (.tmp 105))⟩, ⟨none, .build 107 [(vi 0), (.string ⟨#[]⟩), (.bool false), (vi 0)] [(0, (1, (.tmp 98))), (1, (1, (.tmp 106)))]⟩, qw 4 2 107, qk 3 (vi 0)]
def Q5L : List GO := [⟨none, .build 108 [(vi 0), (.string ⟨#[]⟩), (.bool false), (vi 0)] []⟩, qw 4 2 108, qk 3 (vi 6)]
def token_scanner_next_lc : LC := (.seq (.ops Q6B) (.seq (.ops Q6A) (.seq (.seq (.ops Q6z) (.block 0 (.seq (.ops Q6y) (.cond (.tmp 16) (.seq (.ops Q6x) .ret) (.seq (.ops Q6w) (.cond (.tmp 23) (.seq (.ops Q6v) .ret) (.seq (.ops Q6u) (.cond (.tmp 31) (.seq (.ops Q6t) (.seq (.ops Q6s) .ret)) (.seq (.ops Q5R) (.cond (.tmp 48) (.seq (.ops Q5Q) (.seq (.ops Q5P) .ret)) (.seq (.ops Q5O) (.cond (.tmp 83) (.seq (.ops Q5N) (.seq (.ops Q5M) .ret)) .skip)))))))))))) (.seq (.ops Q5L) .ret))))
@[reducible] def Qo : FuncId := 73
theorem Q5S : lowF Tryz.prog Tryz.f73 = some token_scanner_next_lc := by kernel_rfl
theorem Q6C {a0 : Value} {w : World} {R : Ending → World → Prop} (h : token_scanner_next_lc.wp Tryz.prog (retQ Tryz.prog [.cell 2 126, .tmp 3] R) (Qg [a0]) w) : Calls Tryz.prog Qo ⟨[a0]⟩ w R :=
  Q4 Tryz.func73 Q5S (by kernel_rfl) (by kernel_rfl) h

/- 74 -/
def Q81 : List GO := [qm 6 1, qL 7 6, qk 8 (vi 0)]
def Q80 : List GO := [qt 9 .lss 3 8 7]
def Q7Z : List GO := [qi 10 1 6 8, ql 11 10, qm 5 11]
def Q7Y : List GO := [qm 12 0, qm 13 5, ⟨none, .call (some 14) 77 [(.tmp 12), (.tmp 13)]⟩, ⟨none, .un 15 .not (.tmp 14)⟩]
def Q7X : List GO := [qm 16 0, ⟨none, .call (some 17) 122 [(.tmp 16), (.const (vi 4))]⟩]
def Q7W : List GO := [qm 18 0, ⟨none, .call (some 19) 123 [(.tmp 18)]⟩]
def Q7V : List GO := [qj 20 .add 3 8 1, qm 8 20]
def Q3t : LC := (.seq (.ops Q80) (.seq (.cond (.tmp 9) .skip (.exit 0)) (.seq (.block 1 (.seq (.ops Q7Z) (.seq (.seq (.ops Q7Y) (.cond (.tmp 15) (.ops Q7X) .skip)) (.ops Q7W)))) (.ops Q7V))))
def parse_parser_want_lc : LC := (.seq (.ops Q81) (.block 0 (.loop Q3t)))
@[reducible] def Q1A : FuncId := 74
theorem Q6R : lowF Tryz.prog Tryz.f74 = some parse_parser_want_lc := by kernel_rfl
theorem Q82 {a0 a1 : Value} {w : World} {R : Ending → World → Prop} (h : parse_parser_want_lc.wp Tryz.prog (retQ Tryz.prog [] R) (Qg [a0, a1]) w) : Calls Tryz.prog Q1A ⟨[a0, a1]⟩ w R :=
  Q4 Tryz.func74 Q6R (by kernel_rfl) (by kernel_rfl) h

/- 75 -/
def Qa2 : List GO := [qk 2 (vi 0)]
def Qa1 : List GO := [qm 3 0, qn 4 3, qf 5 4 0, ql 6 5, qL 7 6, qj 8 .gtr 3 7 0, qm 9 8, qg 9 true (qm 10 0), qg 9 true (qn 11 10), qg 9 true (qf 12 11 0), qg 9 true (ql 13 12), ⟨some (9, true), .idx 14 4 (.tmp 13) (.const (vi 0))⟩, qg 9 true (qf 15 14 2), qg 9 true (ql 16 15), ⟨none, .pick 17 (.tmp 9) (.tmp 16) (.const (.bool false))⟩, qm 18 17, qg 18 true (qm 19 0), qg 18 true (qn 20 19), qg 18 true (qf 21 20 0), qg 18 true (ql 22 21), ⟨some (18, true), .idx 23 4 (.tmp 22) (.const (vi 0))⟩, qg 18 true (qf 24 23 3), qg 18 true (ql 25 24), qg 18 true (qj 26 .lss 2 25 0), qg 18 true (qm 27 26), qg 27 false (qm 28 0), qg 27 false (qn 29 28), qg 27 false (qf 30 29 0), qg 27 false (ql 31 30), ⟨some (27, false), .idx 32 4 (.tmp 31) (.const (vi 0))⟩, qg 27 false (qf 33 32 3), qg 27 false (ql 34 33), qg 27 false (qj 35 .gtr 2 34 1000000), ⟨some (18, true), .pick 36 (.tmp 27) (.const (.bool true)) (.tmp 35)⟩, ⟨none, .pick 37 (.tmp 18) (.tmp 36) (.const (.bool false))⟩]
def Qa0 : List GO := [qm 38 0, ⟨none, .call (some 39) 122 [(.tmp 38), (.const (vi 8))]⟩]
def Q9Z : List GO := [qm 40 0, ⟨none, .call (some 41) 124 [(.tmp 40)]⟩, qm 2 41]
def parse_parser_num_lc : LC := (.seq (.ops Qa2) (.seq (.seq (.ops Qa1) (.cond (.tmp 37) (.ops Qa0) .skip)) (.seq (.ops Q9Z) .ret)))
@[reducible] def Q1t : FuncId := 75
theorem Q8d : lowF Tryz.prog Tryz.f75 = some parse_parser_num_lc := by kernel_rfl
theorem Q2s {a0 : Value} {w : World} {R : Ending → World → Prop} (h : parse_parser_num_lc.wp Tryz.prog (retQ Tryz.prog [.tmp 2] R) (Qg [a0]) w) : Calls Tryz.prog Q1t ⟨[a0]⟩ w R :=
  Q4 Tryz.func75 Q8d (by kernel_rfl) (by kernel_rfl) h

/- 76 -/
def Q6T : List GO := [qb 1 68 0, qk 2 vn]
def Q6S : List GO := [ql 3 1, ⟨none, .mkfn 4 126 [(.tmp 1)]⟩, ⟨none, .call (some 5) 125 [(.tmp 3), (.const (.string ⟨#[40]⟩)), (.const (.string ⟨#[41]⟩)), (.tmp 4)]⟩, qm 2 5]
def parse_parser_types_lc : LC := (.seq (.ops Q6T) (.seq (.ops Q6S) .ret))
@[reducible] def Q4f : FuncId := 76
theorem Q66 : lowF Tryz.prog Tryz.f76 = some parse_parser_types_lc := by kernel_rfl
theorem Q6U {a0 : Value} {w : World} {R : Ending → World → Prop} (h : parse_parser_types_lc.wp Tryz.prog (retQ Tryz.prog [.tmp 2] R) (Qg [a0]) w) : Calls Tryz.prog Q4f ⟨[a0]⟩ w R :=
  Q4 Tryz.func76 Q66 (by kernel_rfl) (by kernel_rfl) h

/- 77 -/
def Qb8 : List GO := [qk 4 (.bool false)]
def Qb7 : List GO := [qm 5 0, qn 6 5, qf 7 6 0, ql 8 7, qL 9 8, qj 10 .gtr 3 9 0, qm 11 10, qg 11 true (qm 12 0), qg 11 true (qn 13 12), qg 11 true (qf 14 13 0), qg 11 true (ql 15 14), ⟨some (11, true), .idx 16 4 (.tmp 15) (.const (vi 0))⟩, qg 11 true (qf 17 16 2), qg 11 true (ql 18 17), ⟨some (11, true), .un 19 .not (.tmp 18)⟩, ⟨none, .pick 20 (.tmp 11) (.tmp 19) (.const (.bool false))⟩, qm 21 20, qg 21 true (qm 22 0), qg 21 true (qn 23 22), qg 21 true (qf 24 23 0), qg 21 true (ql 25 24), ⟨some (21, true), .idx 26 4 (.tmp 25) (.const (vi 0))⟩, qg 21 true (qf 27 26 1), qg 21 true (ql 28 27), qg 21 true (qm 29 1), qg 21 true (qt 30 .eql 9 28 29), ⟨none, .pick 31 (.tmp 21) (.tmp 30) (.const (.bool false))⟩, qm 4 31]
def parse_parser_is_lc : LC := (.seq (.ops Qb8) (.seq (.ops Qb7) .ret))
@[reducible] def Q3Z : FuncId := 77
theorem Qa3 : lowF Tryz.prog Tryz.f77 = some parse_parser_is_lc := by kernel_rfl
theorem Q2P {a0 a1 : Value} {w : World} {R : Ending → World → Prop} (h : parse_parser_is_lc.wp Tryz.prog (retQ Tryz.prog [.tmp 4] R) (Qg [a0, a1]) w) : Calls Tryz.prog Q3Z ⟨[a0, a1]⟩ w R :=
  Q4 Tryz.func77 Qa3 (by kernel_rfl) (by kernel_rfl) h

/- 78 -/
def Q7j : List GO := [⟨none, .alloc 2 52 [(vi 0), vn, vn, (vi 0), (vi 0), (vi 0), vn, vn, (vi 0), vn, vn, vn]⟩]
def Q7i : List GO := [qm 6 0, ⟨none, .buildS 7 9 1 [(.string ⟨#[]⟩)] [(0, (1, (.const (.string ⟨#[98, 108, 111, 99, 107]⟩))))]⟩, ⟨none, .call (some 8) 74 [(.tmp 6), (.tmp 7)]⟩]
def Q7h : List GO := [qm 9 0, ⟨none, .call (some 10) 75 [(.tmp 9)]⟩, ⟨none, .build 11 [(vi 0), vn, vn, (vi 0), (vi 0), (vi 0), vn, vn, (vi 0), vn, vn, vn] [(0, (1, (.tmp 10)))]⟩, ⟨none, .alloc 3 52 [(vi 0), vn, vn, (vi 0), (vi 0), (vi 0), vn, vn, (vi 0), vn, vn, vn]⟩, qw 12 3 11]
def Q7g : List GO := [qm 12 0, ⟨none, .call (some 13) 76 [(.tmp 12)]⟩, qf 14 3 1, qs 14 13]
def Q7f : List GO := [qm 15 0, ⟨none, .buildS 16 9 1 [(.string ⟨#[]⟩)] [(0, (1, (.const (.string ⟨#[123]⟩))))]⟩, ⟨none, .call (some 17) 74 [(.tmp 15), (.tmp 16)]⟩]
def Q7e : List GO := [qm 19 0, ⟨none, .call (some 20) 128 [(.tmp 19)]⟩, qm 18 20, qx 21 18 0, qx 22 18 1, ⟨none, .alloc 4 54 [(vi 0), (vi 0), (vi 0), (vi 0), (vi 0), (vi 0), vn, vn]⟩, qw 8 4 21, qm 5 22]
def Q7d : List GO := [qm 23 5]
def Q7c : List GO := [qf 29 3 2, ql 30 29, qV 31 8 4, ⟨none, .buildS 32 54 1 [(vi 0), (vi 0), (vi 0), (vi 0), (vi 0), (vi 0), vn, vn] [(0, (8, (.tmp 31)))]⟩, ⟨none, .raw ⟨(some 33), (.call ⟨(.builtin .append), #[(.tmp 30), (.tmp 32)], #[45, 45]⟩), 45, "", #[], none⟩⟩, qf 34 3 2, qs 34 33]
def Q7b : List GO := [qV 35 8 4]
def Q7a : List GO := [⟨none, .alloc 4 54 [(vi 0), (vi 0), (vi 0), (vi 0), (vi 0), (vi 0), vn, vn]⟩, qw 8 4 35]
def Q6b : List GO := [qm 25 0, ⟨none, .call (some 26) 128 [(.tmp 25)]⟩, qm 24 26, qx 27 24 0, qx 28 24 1, qw 8 4 27, qm 5 28]
def Q3f : LC := (.seq (.seq (.ops Q7d) (.cond (.tmp 23) .skip (.exit 0))) (.seq (.block 1 (.ops Q7c)) (.seq (.seq (.ops Q7b) (.ops Q7a)) (.ops Q6b))))
def Q6a : List GO := [qm 36 0, ⟨none, .call (some 37) 129 [(.tmp 36)]⟩, qf 38 3 3, qw 9 38 37]
def Q69 : List GO := [qm 39 0, ⟨none, .buildS 40 9 1 [(.string ⟨#[]⟩)] [(0, (1, (.const (.string ⟨#[125]⟩))))]⟩, ⟨none, .call (some 41) 74 [(.tmp 39), (.tmp 40)]⟩]
def Q68 : List GO := [qV 42 12 3, qw 12 2 42]
def parse_parser_block_lc : LC := (.seq (.ops Q7j) (.seq (.ops Q7i) (.seq (.ops Q7h) (.seq (.ops Q7g) (.seq (.ops Q7f) (.seq (.seq (.ops Q7e) (.block 0 (.loop Q3f))) (.seq (.ops Q6a) (.seq (.ops Q69) (.seq (.ops Q68) .ret)))))))))
@[reducible] def Q1T : FuncId := 78
theorem Q6c : lowF Tryz.prog Tryz.f78 = some parse_parser_block_lc := by kernel_rfl
theorem Q7k {a0 : Value} {w : World} {R : Ending → World → Prop} (h : parse_parser_block_lc.wp Tryz.prog (retQ Tryz.prog [.cell 2 52] R) (Qg [a0]) w) : Calls Tryz.prog Q1T ⟨[a0]⟩ w R :=
  Q4 Tryz.func78 Q6c (by kernel_rfl) (by kernel_rfl) h

/- 79 -/
/- 80 -/
/- 81 -/
/- 82 -/
/- 83 -/
/- 84 -/
/- 85 -/
/- 86 -/
/- 87 -/
/- 88 -/
/- 89 -/
/- 90 -/
/- 91 -/
/- 92 -/
/- 93 -/
/- 94 -/
/- 95 -/
/- 96 -/
def Qlb : List GO := [qb 2 91 0, qk 4 (vi 0)]
def Qla : List GO := [qm 6 1, qj 7 .sub 3 6 1, qm 1 7]
def Ql9 : List GO := [qk 5 (vi 0)]
def Ql8 : List GO := [qm 8 5, qf 9 2 2, ql 10 9, qL 11 10, qt 12 .lss 3 8 11, qm 13 12, qg 13 true (qm 14 1), qg 13 true (qj 15 .geq 3 14 0), ⟨none, .pick 16 (.tmp 13) (.tmp 15) (.const (.bool false))⟩]
def Ql7 : List GO := [qf 19 2 2, ql 20 19, qm 21 5, qi 22 3 20 21, qV 23 3 22, qm 24 1, ⟨none, .call (some 25) 96 [(.tmp 23), (.tmp 24)]⟩, qm 1 25]
def Ql6 : List GO := [qm 17 5, qj 18 .add 3 17 1, qm 5 18]
def QbN : LC := (.seq (.seq (.ops Ql8) (.cond (.tmp 16) .skip (.exit 0))) (.seq (.block 1 (.ops Ql7)) (.ops Ql6)))
def Ql5 : List GO := [qm 26 1, qm 4 26]
def R_typeSize_lc : LC := (.seq (.ops Qlb) (.seq (.ops Qla) (.seq (.seq (.ops Ql9) (.block 0 (.loop QbN))) (.seq (.ops Ql5) .ret))))
@[reducible] def Q7M : FuncId := 96
theorem Qi9 : lowF Tryz.prog Tryz.f96 = some R_typeSize_lc := by kernel_rfl
theorem Qlc {a0 a1 : Value} {w : World} {R : Ending → World → Prop} (h : R_typeSize_lc.wp Tryz.prog (retQ Tryz.prog [.tmp 4] R) (Qg [a0, a1]) w) : Calls Tryz.prog Q7M ⟨[a0, a1]⟩ w R :=
  Q4 Tryz.func96 Qi9 (by kernel_rfl) (by kernel_rfl) h

/- 97 -/
def Qh1 : List GO := [qb 2 91 0, qk 4 (vi 0)]
def Qh0 : List GO := [qV 5 3 2, ⟨none, .call (some 6) 134 [(.tmp 5), (.const (vi 4))]⟩, ⟨none, .un 7 .not (.tmp 6)⟩]
def QgZ : List GO := [qk 4 (vi 19)]
def QgY : List GO := [qV 8 3 2, qm 9 1, ⟨none, .call (some 10) 135 [(.tmp 8), (.tmp 9)]⟩, qm 4 10]
def types_Check_lc : LC := (.seq (.ops Qh1) (.seq (.seq (.ops Qh0) (.cond (.tmp 7) (.seq (.ops QgZ) .ret) .skip)) (.seq (.ops QgY) .ret)))
@[reducible] def Q59 : FuncId := 97
theorem QeS : lowF Tryz.prog Tryz.f97 = some types_Check_lc := by kernel_rfl
theorem Qh2 {a0 a1 : Value} {w : World} {R : Ending → World → Prop} (h : types_Check_lc.wp Tryz.prog (retQ Tryz.prog [.tmp 4] R) (Qg [a0, a1]) w) : Calls Tryz.prog Q59 ⟨[a0, a1]⟩ w R :=
  Q4 Tryz.func97 QeS (by kernel_rfl) (by kernel_rfl) h

/- 98 -/
def Q2c : List GO := [qk 4 (vi 0)]
def Q2b : List GO := [qm 6 0, qL 7 6, qk 8 (vi 0)]
def Q2a : List GO := [qt 9 .lss 3 8 7]
def Q29 : List GO := [qm 10 8, qm 5 10]
def Q28 : List GO := [qm 11 1, qm 12 0, qm 13 5, qi 14 3 12 13, qV 15 3 14, ⟨none, .callv (some 16) (.tmp 11) [(.tmp 15)]⟩]
def Q27 : List GO := [qm 17 5, qm 4 17]
def Q26 : List GO := [qj 18 .add 3 8 1, qm 8 18]
def Q1c : LC := (.seq (.ops Q2a) (.seq (.cond (.tmp 9) .skip (.exit 0)) (.seq (.block 1 (.seq (.ops Q29) (.seq (.ops Q28) (.cond (.tmp 16) (.seq (.ops Q27) .ret) .skip)))) (.ops Q26))))
def Q25 : List GO := [qk 4 (vi (-1))]
def slices_IndexFunc_api_Type_api_Type_lc : LC := (.seq (.ops Q2c) (.seq (.seq (.ops Q2b) (.block 0 (.loop Q1c))) (.seq (.ops Q25) .ret)))
@[reducible] def Qy : FuncId := 98
theorem Q22 : lowF Tryz.prog Tryz.f98 = some slices_IndexFunc_api_Type_api_Type_lc := by kernel_rfl
theorem Q2d {a0 a1 : Value} {w : World} {R : Ending → World → Prop} (h : slices_IndexFunc_api_Type_api_Type_lc.wp Tryz.prog (retQ Tryz.prog [.tmp 4] R) (Qg [a0, a1]) w) : Calls Tryz.prog Qy ⟨[a0, a1]⟩ w R :=
  Q4 Tryz.func98 Q22 (by kernel_rfl) (by kernel_rfl) h

/- 99 -/
def Qg7 : List GO := [qk 4 (vi 0)]
def Qg6 : List GO := [qm 5 0, qj 6 .mul 3 5 10000, qm 7 1, qj 8 .mul 3 7 100, qt 9 .add 3 6 8, qj 10 .add 3 9 90, qm 4 10]
def code_BlockAt_lc : LC := (.seq (.ops Qg7) (.seq (.ops Qg6) .ret))
@[reducible] def Qdv : FuncId := 99
theorem Qe5 : lowF Tryz.prog Tryz.f99 = some code_BlockAt_lc := by kernel_rfl
theorem Qg8 {a0 a1 : Value} {w : World} {R : Ending → World → Prop} (h : code_BlockAt_lc.wp Tryz.prog (retQ Tryz.prog [.tmp 4] R) (Qg [a0, a1]) w) : Calls Tryz.prog Qdv ⟨[a0, a1]⟩ w R :=
  Q4 Tryz.func99 Qe5 (by kernel_rfl) (by kernel_rfl) h

/- 100 -/
def Q18 : List GO := [qk 6 (.bool false)]
def Q17 : List GO := [qm 10 0, qL 11 10, qm 12 1, qL 13 12, qt 14 .neq 3 11 13]
def Q16 : List GO := [qk 6 (.bool false)]
def Q15 : List GO := [qm 15 0, qL 16 15, qk 17 (vi 0)]
def Q14 : List GO := [qt 18 .lss 3 17 16]
def Q13 : List GO := [qm 19 17, qi 20 3 15 17, qV 21 3 20, ⟨none, .alloc 8 91 [(vi 0), (vi 0), vn]⟩, qm 7 19, qw 3 8 21]
def Q12 : List GO := [qm 22 1, qm 23 7, qi 24 3 22 23, qV 25 3 24, ⟨none, .alloc 9 91 [(vi 0), (vi 0), vn]⟩, qw 3 9 25]
def Q11 : List GO := [qm 26 2, qV 27 3 8, qV 28 3 9, ⟨none, .callv (some 29) (.tmp 26) [(.tmp 27), (.tmp 28)]⟩, ⟨none, .un 30 .not (.tmp 29)⟩]
def Q10 : List GO := [qk 6 (.bool false)]
def QZ : List GO := [qj 31 .add 3 17 1, qm 17 31]
def Qx : LC := (.seq (.ops Q14) (.seq (.cond (.tmp 18) .skip (.exit 0)) (.seq (.block 1 (.seq (.ops Q13) (.seq (.ops Q12) (.seq (.ops Q11) (.cond (.tmp 30) (.seq (.ops Q10) .ret) .skip))))) (.ops QZ))))
def QX : List GO := [qk 6 (.bool true)]
def slices_EqualFunc_api_Type_api_Type_api_Type_api_Type_lc : LC := (.seq (.ops Q18) (.seq (.seq (.ops Q17) (.cond (.tmp 14) (.seq (.ops Q16) .ret) .skip)) (.seq (.seq (.ops Q15) (.block 0 (.loop Qx))) (.seq (.ops QX) .ret))))
@[reducible] def Qc : FuncId := 100
theorem QY : lowF Tryz.prog Tryz.f100 = some slices_EqualFunc_api_Type_api_Type_api_Type_api_Type_lc := by kernel_rfl
theorem Q19 {a0 a1 a2 : Value} {w : World} {R : Ending → World → Prop} (h : slices_EqualFunc_api_Type_api_Type_api_Type_api_Type_lc.wp Tryz.prog (retQ Tryz.prog [.tmp 6] R) (Qg [a0, a1, a2]) w) : Calls Tryz.prog Qc ⟨[a0, a1, a2]⟩ w R :=
  Q4 Tryz.func100 QY (by kernel_rfl) (by kernel_rfl) h

/- 101 -/
def Qjn : List GO := [qb 2 91 0, qb 3 91 1, qk 4 (.bool false)]
def Qjm : List GO := [qf 5 2 0, ql 6 5, qf 7 3 0, ql 8 7, qt 9 .eql 3 6 8, qm 10 9, qg 10 true (qf 11 2 1), qg 10 true (ql 12 11), qg 10 true (qf 13 3 1), qg 10 true (ql 14 13), qg 10 true (qt 15 .eql 3 12 14), ⟨none, .pick 16 (.tmp 10) (.tmp 15) (.const (.bool false))⟩, qm 17 16, qg 17 true (qf 18 2 2), qg 17 true (ql 19 18), qg 17 true (qf 20 3 2), qg 17 true (ql 21 20), ⟨some (17, true), .call (some 22) 100 [(.tmp 19), (.tmp 21), (.func 101)]⟩, ⟨none, .pick 23 (.tmp 17) (.tmp 22) (.const (.bool false))⟩, qm 4 23]
def types_Same_lc : LC := (.seq (.ops Qjn) (.seq (.ops Qjm) .ret))
@[reducible] def QiC : FuncId := 101
theorem QgX : lowF Tryz.prog Tryz.f101 = some types_Same_lc := by kernel_rfl
theorem Qjo {a0 a1 : Value} {w : World} {R : Ending → World → Prop} (h : types_Same_lc.wp Tryz.prog (retQ Tryz.prog [.tmp 4] R) (Qg [a0, a1]) w) : Calls Tryz.prog QiC ⟨[a0, a1]⟩ w R :=
  Q4 Tryz.func101 QgX (by kernel_rfl) (by kernel_rfl) h

/- 102 -/
def QkM : List GO := [qk 6 (vi 0)]
def QkL : List GO := [qm 7 0, qj 8 .mul 3 7 10000, qm 9 1, qj 10 .mul 3 9 100, qt 11 .add 3 8 10, qm 12 2, qt 13 .add 3 11 12, qm 6 13]
def code_InsAt_lc : LC := (.seq (.ops QkM) (.seq (.ops QkL) .ret))
@[reducible] def QiQ : FuncId := 102
theorem QhT : lowF Tryz.prog Tryz.f102 = some code_InsAt_lc := by kernel_rfl
theorem QkN {a0 a1 a2 : Value} {w : World} {R : Ending → World → Prop} (h : code_InsAt_lc.wp Tryz.prog (retQ Tryz.prog [.tmp 6] R) (Qg [a0, a1, a2]) w) : Calls Tryz.prog QiQ ⟨[a0, a1, a2]⟩ w R :=
  Q4 Tryz.func102 QhT (by kernel_rfl) (by kernel_rfl) h

/- 103 -/
def QcM : List GO := [qb 3 54 1]
def QcL : List GO := [qm 5 0, qf 6 3 0, ql 7 6, qj 8 .lss 3 7 1, qm 9 8, qg 9 false (qf 10 3 0), qg 9 false (ql 11 10), qg 9 false (qj 12 .gtr 3 11 14), ⟨none, .pick 13 (.tmp 9) (.const (.bool true)) (.tmp 12)⟩, ⟨none, .call (some 14) 50 [(.tmp 5), (.tmp 13), (.const (vi 3))]⟩]
def QcK : List GO := [qf 15 3 0, ql 16 15, ⟨none, .call (some 17) 136 [(.tmp 16)]⟩, qm 4 17]
def QcJ : List GO := [qm 18 0, qm 19 4, ⟨none, .call (some 20) 137 [(.tmp 19), (.const (.int .u8 97))]⟩, ⟨none, .un 21 .not (.tmp 20)⟩, qm 22 21, qg 22 true (qf 23 3 1), qg 22 true (ql 24 23), qg 22 true (qj 25 .neq 3 24 0), ⟨none, .pick 26 (.tmp 22) (.tmp 25) (.const (.bool false))⟩, qm 27 26, qg 27 false (qm 28 4), ⟨some (27, false), .call (some 29) 137 [(.tmp 28), (.const (.int .u8 98))]⟩, ⟨some (27, false), .un 30 .not (.tmp 29)⟩, qg 27 false (qm 31 30), qg 31 true (qf 32 3 2), qg 31 true (ql 33 32), qg 31 true (qj 34 .neq 3 33 0), ⟨some (27, false), .pick 35 (.tmp 31) (.tmp 34) (.const (.bool false))⟩, ⟨none, .pick 36 (.tmp 27) (.const (.bool true)) (.tmp 35)⟩, qm 37 36, qg 37 false (qm 38 4), ⟨some (37, false), .call (some 39) 137 [(.tmp 38), (.const (.int .u8 99))]⟩, ⟨some (37, false), .un 40 .not (.tmp 39)⟩, qg 37 false (qm 41 40), qg 41 true (qf 42 3 3), qg 41 true (ql 43 42), qg 41 true (qj 44 .neq 3 43 0), ⟨some (37, false), .pick 45 (.tmp 41) (.tmp 44) (.const (.bool false))⟩, ⟨none, .pick 46 (.tmp 37) (.const (.bool true)) (.tmp 45)⟩, qm 47 46, qg 47 false (qm 48 4), ⟨some (47, false), .call (some 49) 137 [(.tmp 48), (.const (.int .u8 107))]⟩, ⟨some (47, false), .un 50 .not (.tmp 49)⟩, qg 47 false (qm 51 50), qg 51 true (qf 52 3 4), qg 51 true (ql 53 52), qg 51 true (qj 54 .neq 3 53 0), ⟨some (47, false), .pick 55 (.tmp 51) (.tmp 54) (.const (.bool false))⟩, ⟨none, .pick 56 (.tmp 47) (.const (.bool true)) (.tmp 55)⟩, qm 57 56, qg 57 false (qm 58 4), ⟨some (57, false), .call (some 59) 137 [(.tmp 58), (.const (.int .u8 110))]⟩, ⟨some (57, false), .un 60 .not (.tmp 59)⟩, qg 57 false (qm 61 60), qg 61 true (qf 62 3 5), qg 61 true (ql 63 62), qg 61 true (qj 64 .neq 2 63 0), ⟨some (57, false), .pick 65 (.tmp 61) (.tmp 64) (.const (.bool false))⟩, ⟨none, .pick 66 (.tmp 57) (.const (.bool true)) (.tmp 65)⟩, qm 67 66, qg 67 false (qm 68 4), ⟨some (67, false), .call (some 69) 137 [(.tmp 68), (.const (.int .u8 103))]⟩, ⟨some (67, false), .un 70 .not (.tmp 69)⟩, qg 67 false (qm 71 70), qg 71 true (qf 72 3 6), qg 71 true (ql 73 72), qg 71 true (qL 74 73), qg 71 true (qj 75 .gtr 3 74 0), ⟨some (67, false), .pick 76 (.tmp 71) (.tmp 75) (.const (.bool false))⟩, ⟨none, .pick 77 (.tmp 67) (.const (.bool true)) (.tmp 76)⟩, qm 78 77, qg 78 false (qm 79 4), ⟨some (78, false), .call (some 80) 137 [(.tmp 79), (.const (.int .u8 114))]⟩, ⟨some (78, false), .un 81 .not (.tmp 80)⟩, qg 78 false (qm 82 81), qg 82 true (qf 83 3 7), qg 82 true (ql 84 83), qg 82 true (qL 85 84), qg 82 true (qj 86 .gtr 3 85 0), ⟨some (78, false), .pick 87 (.tmp 82) (.tmp 86) (.const (.bool false))⟩, ⟨none, .pick 88 (.tmp 78) (.const (.bool true)) (.tmp 87)⟩, ⟨none, .call (some 89) 50 [(.tmp 18), (.tmp 88), (.const (vi 4))]⟩]
def QcI : List GO := [qf 90 3 0, ql 91 90]
def QcH : List GO := [qj 93 .eql 3 91 2, qm 92 93]
def QcG : List GO := [qm 94 0, qf 95 3 4, ql 96 95, qj 97 .lss 3 96 1, qm 98 97, qg 98 false (qf 99 3 4), qg 98 false (ql 100 99), qg 98 false (qj 101 .gtr 3 100 9), ⟨none, .pick 102 (.tmp 98) (.const (.bool true)) (.tmp 101)⟩, ⟨none, .call (some 103) 50 [(.tmp 94), (.tmp 102), (.const (vi 1))]⟩]
def QcF : List GO := [qj 105 .eql 3 91 5, qm 104 105]
def QcE : List GO := [qm 106 0, qf 107 3 7, ql 108 107, qL 109 108, qj 110 .gtr 3 109 8, ⟨none, .call (some 111) 50 [(.tmp 106), (.tmp 110), (.const (vi 2))]⟩]
def QcD : List GO := [qj 113 .eql 3 91 6, qm 112 113]
def QbA : List GO := [qj 114 .eql 3 91 7, qm 112 114]
def Qbz : List GO := [qm 115 0, qf 116 3 4, ql 117 116, qj 118 .lss 3 117 0, qm 119 118, qg 119 false (qf 120 3 4), qg 119 false (ql 121 120), qg 119 false (qj 122 .geq 3 121 8), ⟨none, .pick 123 (.tmp 119) (.const (.bool true)) (.tmp 122)⟩, ⟨none, .call (some 124) 50 [(.tmp 115), (.tmp 123), (.const (vi 1))]⟩]
def Qby : List GO := [qj 126 .eql 3 91 14, qm 125 126]
def Qbx : List GO := [qm 127 0, qf 128 3 4, ql 129 128, qj 130 .lss 3 129 0, qm 131 130, qg 131 false (qf 132 3 4), qg 131 false (ql 133 132), qg 131 false (qm 134 0), qg 131 false (qn 135 134), qg 131 false (qf 136 135 0), qg 131 false (qf 137 136 0), qg 131 false (ql 138 137), qg 131 false (qL 139 138), qg 131 false (qt 140 .geq 3 133 139), ⟨none, .pick 141 (.tmp 131) (.const (.bool true)) (.tmp 140)⟩, ⟨none, .call (some 142) 50 [(.tmp 127), (.tmp 141), (.const (vi 1))]⟩]
def QbC : List (List Nat) := [[],[],[1],[2],[3],[4],[5,4],[4],[7,4],[8,4],[9,4],[10,4],[11,4],[6,12,4],[4,13],[0,14,4]]
def Qbw : List GO := [qm 143 0, qf 144 3 6, ql 145 144, qL 146 145, qj 147 .gtr 3 146 6, qm 148 147, qg 148 false (qf 149 3 7), qg 148 false (ql 150 149), qg 148 false (qL 151 150), qg 148 false (qj 152 .gtr 3 151 8), ⟨none, .pick 153 (.tmp 148) (.const (.bool true)) (.tmp 152)⟩, ⟨none, .call (some 154) 50 [(.tmp 143), (.tmp 153), (.const (vi 2))]⟩]
def code_judge_ins_lc : LC := (.seq (.ops QcM) (.seq (.ops QcL) (.seq (.ops QcK) (.seq (.ops QcJ) (.seq (.ops QcI) (.block 0 (.seq (.ops QcH) (.cond (.tmp 92) (.ops QcG) (.seq (.ops QcF) (.cond (.tmp 104) (.ops QcE) (.seq (.seq (.ops QcD) (.cond (.tmp 112) .skip (.ops QbA))) (.cond (.tmp 112) (.ops Qbz) (.seq (.ops Qby) (.cond (.tmp 125) (.seq (.draw Qbx QbC) (.ops Qbw)) .skip))))))))))))))
@[reducible] def QE : FuncId := 103
theorem QbB : lowF Tryz.prog Tryz.f103 = some code_judge_ins_lc := by kernel_rfl
theorem QcN {a0 a1 : Value} {w : World} {R : Ending → World → Prop} (h : code_judge_ins_lc.wp Tryz.prog (retQ Tryz.prog [] R) (Qg [a0, a1]) w) : Calls Tryz.prog QE ⟨[a0, a1]⟩ w R :=
  Q4 Tryz.func103 QbB (by kernel_rfl) (by kernel_rfl) h

/- 104 -/
def QkP : List GO := [qk 4 (vi 0)]
def QkO : List GO := [qm 5 0, qj 6 .mul 3 5 10000, qm 7 1, qj 8 .mul 3 7 100, qt 9 .add 3 6 8, qj 10 .add 3 9 91, qm 4 10]
def code_EndAt_lc : LC := (.seq (.ops QkP) (.seq (.ops QkO) .ret))
@[reducible] def QiR : FuncId := 104
theorem QhX : lowF Tryz.prog Tryz.f104 = some code_EndAt_lc := by kernel_rfl
theorem QkQ {a0 a1 : Value} {w : World} {R : Ending → World → Prop} (h : code_EndAt_lc.wp Tryz.prog (retQ Tryz.prog [.tmp 4] R) (Qg [a0, a1]) w) : Calls Tryz.prog QiR ⟨[a0, a1]⟩ w R :=
  Q4 Tryz.func104 QhX (by kernel_rfl) (by kernel_rfl) h

/- 105 -/
def QcT : List GO := [qb 4 43 1, qb 5 50 2]
def QcS : List GO := [qm 6 0, qf 7 5 0, ql 8 7, qj 9 .lss 3 8 1, qm 10 9, qg 10 false (qf 11 5 0), qg 10 false (ql 12 11), qg 10 false (qj 13 .gtr 3 12 3), ⟨none, .pick 14 (.tmp 10) (.const (.bool true)) (.tmp 13)⟩, ⟨none, .call (some 15) 50 [(.tmp 6), (.tmp 14), (.const (vi 3))]⟩]
def QcR : List GO := [qm 16 0, qf 17 5 0, ql 18 17, qj 19 .neq 3 18 2, qm 20 19, qg 20 true (qf 21 5 1), qg 20 true (ql 22 21), qg 20 true (qj 23 .neq 3 22 0), ⟨none, .pick 24 (.tmp 20) (.tmp 23) (.const (.bool false))⟩, qm 25 24, qg 25 false (qf 26 5 0), qg 25 false (ql 27 26), qg 25 false (qj 28 .neq 3 27 3), qg 25 false (qm 29 28), qg 29 true (qf 30 5 8), qg 29 true (ql 31 30), qg 29 true (qL 32 31), qg 29 true (qj 33 .gtr 3 32 0), ⟨some (25, false), .pick 34 (.tmp 29) (.tmp 33) (.const (.bool false))⟩, ⟨none, .pick 35 (.tmp 25) (.const (.bool true)) (.tmp 34)⟩, ⟨none, .call (some 36) 50 [(.tmp 16), (.tmp 35), (.const (vi 4))]⟩]
def QcQ : List GO := [qm 37 0, qf 38 5 8, ql 39 38, qL 40 39, qj 41 .gtr 3 40 8, ⟨none, .call (some 42) 50 [(.tmp 37), (.tmp 41), (.const (vi 2))]⟩]
def QcP : List GO := [qm 43 0, qV 44 4 4, qf 45 5 2, qV 46 3 45, qf 47 5 0, ql 48 47, qj 49 .neq 3 48 3, ⟨none, .call (some 50) 138 [(.tmp 43), (.tmp 44), (.tmp 46), (.tmp 49)]⟩]
def QcO : List GO := [qm 51 0, qV 52 4 4, qf 53 5 5, qV 54 3 53, qf 55 5 0, ql 56 55, qj 57 .eql 3 56 2, ⟨none, .call (some 58) 138 [(.tmp 51), (.tmp 52), (.tmp 54), (.tmp 57)]⟩]
def code_judge_end_lc : LC := (.seq (.ops QcT) (.seq (.ops QcS) (.seq (.ops QcR) (.seq (.ops QcQ) (.seq (.ops QcP) (.ops QcO))))))
@[reducible] def Q9x : FuncId := 105
theorem QbF : lowF Tryz.prog Tryz.f105 = some code_judge_end_lc := by kernel_rfl
theorem QcU {a0 a1 a2 : Value} {w : World} {R : Ending → World → Prop} (h : code_judge_end_lc.wp Tryz.prog (retQ Tryz.prog [] R) (Qg [a0, a1, a2]) w) : Calls Tryz.prog Q9x ⟨[a0, a1, a2]⟩ w R :=
  Q4 Tryz.func105 QbF (by kernel_rfl) (by kernel_rfl) h

/- 106 -/
def Q3A : List GO := [qm 2 0, qn 3 2, qf 4 3 0, ql 5 4, ⟨none, .bin 6 .eql 104 (.tmp 5) (.const (.pointer none))⟩]
def Q3z : List GO := [qm 7 0, qm 8 0, ⟨none, .raw ⟨(some 9), (.convert 104 171 (.tmp 8)), 171, "", #[], none⟩⟩, ⟨none, .raw ⟨(some 10), (.call ⟨(.value (.func 139)), #[(.tmp 9)], #[171]⟩), 171, "", #[], none⟩⟩, ⟨none, .raw ⟨(some 11), (.convert 171 104 (.tmp 10)), 104, "", #[], none⟩⟩, qn 12 7, qf 13 12 0, qs 13 11]
def Q3y : List GO := [qm 14 0, qn 15 14, qf 16 15 0, ql 17 16, qm 18 0, qt 19 .neq 104 17 18]
def strings_Builder_copyCheck_lc : LC := (.seq (.ops Q3A) (.cond (.tmp 6) (.ops Q3z) (.seq (.ops Q3y) (.cond (.tmp 19) .bad .skip))))
@[reducible] def Q2h : FuncId := 106
theorem Q3l : lowF Tryz.prog Tryz.f106 = some strings_Builder_copyCheck_lc := by kernel_rfl
theorem Q1S {a0 : Value} {w : World} {R : Ending → World → Prop} (h : strings_Builder_copyCheck_lc.wp Tryz.prog (retQ Tryz.prog [] R) (Qg [a0]) w) : Calls Tryz.prog Q2h ⟨[a0]⟩ w R :=
  Q4 Tryz.func106 Q3l (by kernel_rfl) (by kernel_rfl) h

/- 107 -/
def Qjk : List GO := [qb 1 91 0, qk 2 (.string ⟨#[]⟩)]
def Qjj : List GO := [qf 7 1 1, ql 8 7, ⟨none, .call (some 9) 63 [(.tmp 8)]⟩, qm 3 9]
def Qji : List GO := [qf 10 1 0, ql 11 10]
def Qjh : List GO := [qj 13 .eql 3 11 2, qm 12 13]
def Qjg : List GO := [qm 14 3, ⟨none, .bin 15 .add 9 (.const (.string ⟨#[104, 97, 110, 100, 108, 101, 32]⟩)) (.tmp 14)⟩, qm 2 15]
def Qjf : List GO := [qj 17 .eql 3 11 4, qm 16 17]
def Qje : List GO := [qm 18 3, ⟨none, .bin 19 .add 9 (.const (.string ⟨#[97, 114, 114, 97, 121, 32]⟩)) (.tmp 18)⟩, qm 2 19]
def Qjd : List GO := [qj 21 .eql 3 11 3, qm 20 21]
def Qjc : List GO := [qk 4 vn]
def Qjb : List GO := [qf 22 1 2, ql 23 22, qL 24 23, qk 25 (vi 0)]
def QgV : List GO := [qt 26 .lss 3 25 24]
def QgU : List GO := [qi 27 3 23 25, qV 28 3 27, ⟨none, .alloc 6 91 [(vi 0), (vi 0), vn]⟩, qw 3 6 28]
def QgT : List GO := [qm 29 4, qV 30 3 6, ⟨none, .call (some 31) 107 [(.tmp 30)]⟩, ⟨none, .buildS 32 9 1 [(.string ⟨#[]⟩)] [(0, (1, (.tmp 31)))]⟩, ⟨none, .raw ⟨(some 33), (.call ⟨(.builtin .append), #[(.tmp 29), (.tmp 32)], #[86, 86]⟩), 86, "", #[], none⟩⟩, qm 4 33]
def QgS : List GO := [qj 34 .add 3 25 1, qm 25 34]
def Q9m : LC := (.seq (.ops QgV) (.seq (.cond (.tmp 26) .skip (.exit 1)) (.seq (.block 2 (.seq (.ops QgU) (.ops QgT))) (.ops QgS))))
def QgR : List GO := [qm 35 3, ⟨none, .bin 36 .add 9 (.const (.string ⟨#[116, 117, 112, 108, 101, 32]⟩)) (.tmp 35)⟩, ⟨none, .bin 37 .add 9 (.tmp 36) (.const (.string ⟨#[32, 40]⟩))⟩, qm 38 4, ⟨none, .call (some 39) 108 [(.tmp 38), (.const (.string ⟨#[44, 32]⟩))]⟩, qt 40 .add 9 37 39, ⟨none, .bin 41 .add 9 (.tmp 40) (.const (.string ⟨#[41]⟩))⟩, qm 2 41]
def QgQ : List GO := [qk 2 (.string ⟨#[105, 110, 116]⟩)]
def types_Text_lc : LC := (.seq (.ops Qjk) (.seq (.ops Qjj) (.seq (.seq (.ops Qji) (.block 0 (.seq (.ops Qjh) (.cond (.tmp 12) (.seq (.ops Qjg) .ret) (.seq (.ops Qjf) (.cond (.tmp 16) (.seq (.ops Qje) .ret) (.seq (.ops Qjd) (.cond (.tmp 20) (.seq (.ops Qjc) (.seq (.seq (.ops Qjb) (.block 1 (.loop Q9m))) (.seq (.ops QgR) .ret))) .skip)))))))) (.seq (.ops QgQ) .ret))))
@[reducible] def Q2A : FuncId := 107
theorem QgW : lowF Tryz.prog Tryz.f107 = some types_Text_lc := by kernel_rfl
theorem Qjl {a0 : Value} {w : World} {R : Ending → World → Prop} (h : types_Text_lc.wp Tryz.prog (retQ Tryz.prog [.tmp 2] R) (Qg [a0]) w) : Calls Tryz.prog Q2A ⟨[a0]⟩ w R :=
  Q4 Tryz.func107 QgW (by kernel_rfl) (by kernel_rfl) h

/- 108 -/
@[reducible] def strings_Join : FuncId := 108
/- 109 -/
def Q7S : List GO := [qk 4 (.string ⟨#[]⟩)]
def Q7R : List GO := [qm 5 0, qm 6 1, ⟨none, .call (some 7) 141 [(.tmp 5), (.tmp 6)]⟩, qm 4 7]
def strconv_FormatInt_lc : LC := (.seq (.ops Q7S) (.seq (.ops Q7R) .ret))
@[reducible] def QbY : FuncId := 109
theorem Q6F : lowF Tryz.prog Tryz.f109 = some strconv_FormatInt_lc := by kernel_rfl
theorem Q7T {a0 a1 : Value} {w : World} {R : Ending → World → Prop} (h : strconv_FormatInt_lc.wp Tryz.prog (retQ Tryz.prog [.tmp 4] R) (Qg [a0, a1]) w) : Calls Tryz.prog QbY ⟨[a0, a1]⟩ w R :=
  Q4 Tryz.func109 Q6F (by kernel_rfl) (by kernel_rfl) h

/- 110 -/
def QjO : List GO := [qk 6 (.string ⟨#[]⟩)]
def QjN : List GO := [qk 7 vn]
def QjM : List GO := [qm 10 1, qL 11 10, qk 12 (vi 0)]
def QjL : List GO := [qt 13 .lss 3 12 11]
def QjK : List GO := [qi 14 1 10 12, ql 15 14, qm 9 15]
def QjJ : List GO := [qm 16 7, qm 17 9, ⟨none, .call (some 18) 58 [(.tmp 17)]⟩, ⟨none, .buildS 19 9 1 [(.string ⟨#[]⟩)] [(0, (1, (.tmp 18)))]⟩, ⟨none, .raw ⟨(some 20), (.call ⟨(.builtin .append), #[(.tmp 16), (.tmp 19)], #[86, 86]⟩), 86, "", #[], none⟩⟩, qm 7 20]
def QjI : List GO := [qj 21 .add 3 12 1, qm 12 21]
def QaG : LC := (.seq (.ops QjL) (.seq (.cond (.tmp 13) .skip (.exit 0)) (.seq (.block 1 (.seq (.ops QjK) (.ops QjJ))) (.ops QjI))))
def QjH : List GO := [qm 22 0, qm 23 7, ⟨none, .call (some 24) 108 [(.tmp 23), (.const (.string ⟨#[44, 32]⟩))]⟩, qt 25 .add 9 22 24, qm 26 2, qt 27 .add 9 25 26, qm 6 27]
def render_row_lc : LC := (.seq (.ops QjO) (.seq (.ops QjN) (.seq (.seq (.ops QjM) (.block 0 (.loop QaG))) (.seq (.ops QjH) .ret))))
@[reducible] def QiE : FuncId := 110
theorem Qhd : lowF Tryz.prog Tryz.f110 = some render_row_lc := by kernel_rfl
theorem QjP {a0 a1 a2 : Value} {w : World} {R : Ending → World → Prop} (h : render_row_lc.wp Tryz.prog (retQ Tryz.prog [.tmp 6] R) (Qg [a0, a1, a2]) w) : Calls Tryz.prog QiE ⟨[a0, a1, a2]⟩ w R :=
  Q4 Tryz.func110 Qhd (by kernel_rfl) (by kernel_rfl) h

/- 111 -/
def QlI : List GO := [qb 1 48 0, qk 2 (.string ⟨#[]⟩)]
def QlH : List GO := [qf 3 1 0, ql 4 3, ⟨none, .call (some 5) 58 [(.tmp 4)]⟩, ⟨none, .bin 6 .add 9 (.tmp 5) (.const (.string ⟨#[32]⟩))⟩, qf 7 1 1, ql 8 7, ⟨none, .call (some 9) 110 [(.const (.string ⟨#[60]⟩)), (.tmp 8), (.const (.string ⟨#[62]⟩))]⟩, qt 10 .add 9 6 9, ⟨none, .bin 11 .add 9 (.tmp 10) (.const (.string ⟨#[32]⟩))⟩, qf 12 1 2, ql 13 12, ⟨none, .call (some 14) 110 [(.const (.string ⟨#[40]⟩)), (.tmp 13), (.const (.string ⟨#[41]⟩))]⟩, qt 15 .add 9 11 14, qm 2 15]
def QlK : List (List Nat) := [[],[0],[1],[2],[],[4],[5,2],[3,6],[7],[],[9],[10,6],[8,11],[12,11,0,1,2,3,4,5,6,7,8,9,10,11,12]]
def render_to_lc : LC := (.seq (.ops QlI) (.seq (.draw QlH QlK) .ret))
@[reducible] def QlL : FuncId := 111
theorem QjG : lowF Tryz.prog Tryz.f111 = some render_to_lc := by kernel_rfl
theorem QlJ {a0 : Value} {w : World} {R : Ending → World → Prop} (h : render_to_lc.wp Tryz.prog (retQ Tryz.prog [.tmp 2] R) (Qg [a0]) w) : Calls Tryz.prog QlL ⟨[a0]⟩ w R :=
  Q4 Tryz.func111 QjG (by kernel_rfl) (by kernel_rfl) h

/- 112 -/
/- 113 -/
/- 114 -/
/- 115 -/
/- 116 -/
def QeU : List GO := [qk 2 (.bool false)]
def QeT : List GO := [qm 3 0, ⟨none, .bin 4 .geq 5 (.tmp 3) (.const (.int .u8 97))⟩, qm 5 4, qg 5 true (qm 6 0), ⟨some (5, true), .bin 7 .leq 5 (.tmp 6) (.const (.int .u8 122))⟩, ⟨none, .pick 8 (.tmp 5) (.tmp 7) (.const (.bool false))⟩, qm 2 8]
def token_letter_lc : LC := (.seq (.ops QeU) (.seq (.ops QeT) .ret))
@[reducible] def Qdn : FuncId := 116
theorem QdB : lowF Tryz.prog Tryz.f116 = some token_letter_lc := by kernel_rfl
theorem QeV {a0 : Value} {w : World} {R : Ending → World → Prop} (h : token_letter_lc.wp Tryz.prog (retQ Tryz.prog [.tmp 2] R) (Qg [a0]) w) : Calls Tryz.prog Qdn ⟨[a0]⟩ w R :=
  Q4 Tryz.func116 QdB (by kernel_rfl) (by kernel_rfl) h

/- 117 -/
def Q5H : List GO := [qk 4 (.string ⟨#[]⟩)]
def Q5G : List GO := [qm 6 0, qn 7 6, qf 8 7 1, ql 9 8, qm 5 9]
def Q5F : List GO := [qm 10 0, qn 11 10, qf 12 11 1, ql 13 12, qm 14 0, qn 15 14, qf 16 15 0, ql 17 16, ⟨none, .slen 18 (.tmp 17)⟩, qt 19 .lss 3 13 18, qm 20 19, qg 20 true (qm 21 1), qg 20 true (qm 22 0), qg 20 true (qn 23 22), qg 20 true (qf 24 23 0), qg 20 true (ql 25 24), qg 20 true (qm 26 0), qg 20 true (qn 27 26), qg 20 true (qf 28 27 1), qg 20 true (ql 29 28), ⟨some (20, true), .sidx 30 (.tmp 25) (.tmp 29)⟩, ⟨some (20, true), .callv (some 31) (.tmp 21) [(.tmp 30)]⟩, ⟨none, .pick 32 (.tmp 20) (.tmp 31) (.const (.bool false))⟩]
def Q5K : List (List Nat) := [[],[0],[1],[2],[],[4],[5],[6],[7],[3,8],[9],[10],[10],[12,10],[13,10],[14,10],[10],[16,10],[17,10],[18,10],[15,19,10],[11,20,10,10],[10,21]]
def Q5E : List GO := [qm 33 0, qn 34 33, qf 35 34 1, ql 36 35, qj 37 .add 3 36 1, qn 38 33, qf 39 38 1, qs 39 37]
def Q31 : LC := (.seq (.seq (.draw Q5F Q5K) (.cond (.tmp 32) .skip (.exit 0))) (.block 1 (.ops Q5E)))
def Q5D : List GO := [qm 40 0, qn 41 40, qf 42 41 0, ql 43 42, qm 44 5, qm 45 0, qn 46 45, qf 47 46 1, ql 48 47, ⟨none, .ssub 49 (.tmp 43) (some (.tmp 44)) (some (.tmp 48))⟩, qm 4 49]
def Q5J : List (List Nat) := [[],[0],[1],[2],[],[],[5],[6],[7],[3,4,8],[9,0,1,2,3,4,5,6,7,8,9]]
def token_scanner_while_lc : LC := (.seq (.ops Q5H) (.seq (.ops Q5G) (.seq (.block 0 (.loop Q31)) (.seq (.draw Q5D Q5J) .ret))))
@[reducible] def Q1D : FuncId := 117
theorem Q5a : lowF Tryz.prog Tryz.f117 = some token_scanner_while_lc := by kernel_rfl
theorem Q5I {a0 a1 : Value} {w : World} {R : Ending → World → Prop} (h : token_scanner_while_lc.wp Tryz.prog (retQ Tryz.prog [.tmp 4] R) (Qg [a0, a1]) w) : Calls Tryz.prog Q1D ⟨[a0, a1]⟩ w R :=
  Q4 Tryz.func117 Q5a (by kernel_rfl) (by kernel_rfl) h

/- 118 -/
def Qh4 : List GO := [qk 2 (.bool false)]
def Qh3 : List GO := [qm 3 0, ⟨none, .bin 4 .geq 5 (.tmp 3) (.const (.int .u8 48))⟩, qm 5 4, qg 5 true (qm 6 0), ⟨some (5, true), .bin 7 .leq 5 (.tmp 6) (.const (.int .u8 57))⟩, ⟨none, .pick 8 (.tmp 5) (.tmp 7) (.const (.bool false))⟩, qm 2 8]
def token_digit_lc : LC := (.seq (.ops Qh4) (.seq (.ops Qh3) .ret))
@[reducible] def QeX : FuncId := 118
theorem QeW : lowF Tryz.prog Tryz.f118 = some token_digit_lc := by kernel_rfl
theorem Qh5 {a0 : Value} {w : World} {R : Ending → World → Prop} (h : token_digit_lc.wp Tryz.prog (retQ Tryz.prog [.tmp 2] R) (Qg [a0]) w) : Calls Tryz.prog QeX ⟨[a0]⟩ w R :=
  Q4 Tryz.func118 QeW (by kernel_rfl) (by kernel_rfl) h

/- 119 -/
def Q5g : List GO := [⟨none, .alloc 6 126 [(vi 0), (.string ⟨#[]⟩), (.bool false), (vi 0)]⟩, qk 7 (vi 0)]
def Q5f : List GO := [qm 11 2, qm 12 0, ⟨none, .call (some 13) 117 [(.tmp 12), (.func 118)]⟩, qt 14 .add 9 11 13, qm 8 14]
def Q5e : List GO := [qm 16 8, ⟨none, .call (some 17) 130 [(.tmp 16), (.const (vi 10)), (.const (vi 64))]⟩, qm 15 17, qx 18 15 0, qx 19 15 1, qm 9 18, qm 10 19]
def Q5d : List GO := [qm 20 10, ⟨none, .bin 21 .neq 109 (.tmp 20) (.const .nilIface)⟩, qm 22 21, qg 22 false (qm 23 9), ⟨some (22, false), .call (some 24) 109 [(.tmp 23), (.const (vi 10))]⟩, qg 22 false (qm 25 8), qg 22 false (qt 26 .neq 9 24 25), ⟨none, .pick 27 (.tmp 22) (.const (.bool true)) (.tmp 26)⟩]
def Q5c : List GO := [⟨none, .build 28 [(vi 0), (.string ⟨#[]⟩), (.bool false), (vi 0)] []⟩, qw 4 6 28, qk 7 (vi 8)]
def Q5b : List GO := [qm 29 1, qm 30 8, qm 31 9, ⟨none, .build 32 [(vi 0), (.string ⟨#[]⟩), (.bool false), (vi 0)] [(0, (1, (.tmp 29))), (1, (1, (.tmp 30))), (2, (1, (.const (.bool true)))), (3, (1, (.tmp 31)))]⟩, qw 4 6 32, qk 7 (vi 0)]
def token_scanner_number_lc : LC := (.seq (.ops Q5g) (.seq (.ops Q5f) (.seq (.ops Q5e) (.seq (.seq (.ops Q5d) (.cond (.tmp 27) (.seq (.ops Q5c) .ret) .skip)) (.seq (.ops Q5b) .ret)))))
@[reducible] def Q1y : FuncId := 119
theorem Q4E : lowF Tryz.prog Tryz.f119 = some token_scanner_number_lc := by kernel_rfl
theorem Q5h {a0 a1 a2 : Value} {w : World} {R : Ending → World → Prop} (h : token_scanner_number_lc.wp Tryz.prog (retQ Tryz.prog [.cell 6 126, .tmp 7] R) (Qg [a0, a1, a2]) w) : Calls Tryz.prog Q1y ⟨[a0, a1, a2]⟩ w R :=
  Q4 Tryz.func119 Q4E (by kernel_rfl) (by kernel_rfl) h

/- 120 -/
def Q7P : List GO := [qk 4 (.bool false)]
def Q7O : List GO := [qm 5 0, qm 6 1, ⟨none, .call (some 7) 142 [(.tmp 5), (.tmp 6)]⟩, qm 4 7]
def strings_HasPrefix_lc : LC := (.seq (.ops Q7P) (.seq (.ops Q7O) .ret))
@[reducible] def QbX : FuncId := 120
theorem Q6E : lowF Tryz.prog Tryz.f120 = some strings_HasPrefix_lc := by kernel_rfl
theorem Q7Q {a0 a1 : Value} {w : World} {R : Ending → World → Prop} (h : strings_HasPrefix_lc.wp Tryz.prog (retQ Tryz.prog [.tmp 4] R) (Qg [a0, a1]) w) : Calls Tryz.prog QbX ⟨[a0, a1]⟩ w R :=
  Q4 Tryz.func120 Q6E (by kernel_rfl) (by kernel_rfl) h

/- 121 -/
@[reducible] def strings_IndexByte : FuncId := 121
/- 122 -/
def Q93 : List GO := [qm 5 0, qn 6 5, qf 7 6 1, ql 8 7, qm 4 8]
def Q92 : List GO := [qm 9 0, qn 10 9, qf 11 10 0, ql 12 11, qL 13 12, qj 14 .gtr 3 13 0]
def Q91 : List GO := [qm 15 0, qn 16 15, qf 17 16 0, ql 18 17, ⟨none, .idx 19 4 (.tmp 18) (.const (vi 0))⟩, qf 20 19 0, ql 21 20, qm 4 21]
def Q90 : List GO := [qm 22 1, qj 23 .eql 3 22 4]
def Q8Z : List GO := [qk 1 (vi 5)]
def Q8Y : List GO := [qm 24 1, qm 25 4, ⟨none, .build 26 [(vi 0), (vi 0)] [(0, (1, (.tmp 24))), (1, (1, (.tmp 25)))]⟩, ⟨none, .mki 27 66 (.tmp 26)⟩, ⟨none, .raw ⟨none, (.panic (.tmp 27)), 0, "", #[], none⟩⟩]
def parse_parser_fail_lc : LC := (.seq (.ops Q93) (.seq (.seq (.ops Q92) (.cond (.tmp 14) (.ops Q91) (.seq (.ops Q90) (.cond (.tmp 23) (.ops Q8Z) .skip)))) (.ops Q8Y)))
@[reducible] def Q23 : FuncId := 122
theorem Q72 : lowF Tryz.prog Tryz.f122 = some parse_parser_fail_lc := by kernel_rfl
theorem Q3u {a0 a1 : Value} {w : World} {R : Ending → World → Prop} (h : parse_parser_fail_lc.wp Tryz.prog (retQ Tryz.prog [] R) (Qg [a0, a1]) w) : Calls Tryz.prog Q23 ⟨[a0, a1]⟩ w R :=
  Q4 Tryz.func122 Q72 (by kernel_rfl) (by kernel_rfl) h

/- 123 -/
def Q8h : List GO := [⟨none, .alloc 2 126 [(vi 0), (.string ⟨#[]⟩), (.bool false), (vi 0)]⟩]
def Q8g : List GO := [qm 4 0, qn 5 4, qf 6 5 0, ql 7 6, ⟨none, .idx 8 4 (.tmp 7) (.const (vi 0))⟩, qV 9 4 8, ⟨none, .alloc 3 126 [(vi 0), (.string ⟨#[]⟩), (.bool false), (vi 0)]⟩, qw 4 3 9]
def Q8f : List GO := [qm 10 0, qm 11 0, qn 12 11, qf 13 12 0, ql 14 13, ⟨none, .sub 15 4 (.tmp 14) (some (.const (vi 1))) none none⟩, qn 16 10, qf 17 16 0, qs 17 15]
def Q8e : List GO := [qV 18 4 3, qw 4 2 18]
def parse_parser_next_lc : LC := (.seq (.ops Q8h) (.seq (.ops Q8g) (.seq (.ops Q8f) (.seq (.ops Q8e) .ret))))
@[reducible] def Q1h : FuncId := 123
theorem Q70 : lowF Tryz.prog Tryz.f123 = some parse_parser_next_lc := by kernel_rfl
theorem Q8i {a0 : Value} {w : World} {R : Ending → World → Prop} (h : parse_parser_next_lc.wp Tryz.prog (retQ Tryz.prog [.cell 2 126] R) (Qg [a0]) w) : Calls Tryz.prog Q1h ⟨[a0]⟩ w R :=
  Q4 Tryz.func123 Q70 (by kernel_rfl) (by kernel_rfl) h

/- 124 -/
def Q8m : List GO := [qk 2 (vi 0)]
def Q8l : List GO := [qm 3 0, qn 4 3, qf 5 4 0, ql 6 5, qL 7 6, qj 8 .eql 3 7 0, qm 9 8, qg 9 false (qm 10 0), qg 9 false (qn 11 10), qg 9 false (qf 12 11 0), qg 9 false (ql 13 12), ⟨some (9, false), .idx 14 4 (.tmp 13) (.const (vi 0))⟩, qg 9 false (qf 15 14 2), qg 9 false (ql 16 15), ⟨some (9, false), .un 17 .not (.tmp 16)⟩, ⟨none, .pick 18 (.tmp 9) (.const (.bool true)) (.tmp 17)⟩]
def Q8k : List GO := [qm 19 0, ⟨none, .call (some 20) 122 [(.tmp 19), (.const (vi 4))]⟩]
def Q8j : List GO := [qm 21 0, ⟨none, .call (some 22) 123 [(.tmp 21)]⟩, ⟨none, .fldv 23 (.tmp 22) 3⟩, qm 2 23]
def parse_parser_long_lc : LC := (.seq (.ops Q8m) (.seq (.seq (.ops Q8l) (.cond (.tmp 18) (.ops Q8k) .skip)) (.seq (.ops Q8j) .ret)))
@[reducible] def Q4K : FuncId := 124
theorem Q71 : lowF Tryz.prog Tryz.f124 = some parse_parser_long_lc := by kernel_rfl
theorem Q2g {a0 : Value} {w : World} {R : Ending → World → Prop} (h : parse_parser_long_lc.wp Tryz.prog (retQ Tryz.prog [.tmp 2] R) (Qg [a0]) w) : Calls Tryz.prog Q4K ⟨[a0]⟩ w R :=
  Q4 Tryz.func124 Q71 (by kernel_rfl) (by kernel_rfl) h

/- 125 -/
def Q6m : List GO := [qk 8 vn]
def Q6l : List GO := [qm 10 0, qm 11 1, ⟨none, .buildS 12 9 1 [(.string ⟨#[]⟩)] [(0, (1, (.tmp 11)))]⟩, ⟨none, .call (some 13) 74 [(.tmp 10), (.tmp 12)]⟩]
def Q6k : List GO := [qk 9 vn]
def Q6j : List GO := [qm 14 0, qm 15 2, ⟨none, .call (some 16) 77 [(.tmp 14), (.tmp 15)]⟩, ⟨none, .un 17 .not (.tmp 16)⟩]
def Q6i : List GO := [qm 18 9, qL 19 18, qj 20 .gtr 3 19 0]
def Q6h : List GO := [qm 21 0, ⟨none, .buildS 22 9 1 [(.string ⟨#[]⟩)] [(0, (1, (.const (.string ⟨#[44]⟩))))]⟩, ⟨none, .call (some 23) 74 [(.tmp 21), (.tmp 22)]⟩]
def Q6g : List GO := [qm 24 9, qm 25 3, ⟨none, .callv (some 26) (.tmp 25) []⟩, ⟨none, .buildS 27 91 1 [(vi 0), (vi 0), vn] [(0, (3, (.tmp 26)))]⟩, ⟨none, .raw ⟨(some 28), (.call ⟨(.builtin .append), #[(.tmp 24), (.tmp 27)], #[40, 40]⟩), 40, "", #[], none⟩⟩, qm 9 28]
def Q6f : List GO := [qm 29 9, qL 30 29, qj 31 .gtr 3 30 100]
def Q6e : List GO := [qm 32 0, ⟨none, .call (some 33) 122 [(.tmp 32), (.const (vi 2))]⟩]
def Q34 : LC := (.seq (.seq (.ops Q6j) (.cond (.tmp 17) .skip (.exit 0))) (.block 1 (.seq (.seq (.ops Q6i) (.cond (.tmp 20) (.ops Q6h) .skip)) (.seq (.ops Q6g) (.seq (.ops Q6f) (.cond (.tmp 31) (.ops Q6e) .skip))))))
def Q6d : List GO := [qm 34 0, qm 35 2, ⟨none, .buildS 36 9 1 [(.string ⟨#[]⟩)] [(0, (1, (.tmp 35)))]⟩, ⟨none, .call (some 37) 74 [(.tmp 34), (.tmp 36)]⟩]
def Q5o : List GO := [qm 38 9, qm 8 38]
def parse_list_api_Type_lc : LC := (.seq (.ops Q6m) (.seq (.ops Q6l) (.seq (.ops Q6k) (.seq (.block 0 (.loop Q34)) (.seq (.ops Q6d) (.seq (.ops Q5o) .ret))))))
@[reducible] def Qv : FuncId := 125
theorem Q5p : lowF Tryz.prog Tryz.f125 = some parse_list_api_Type_lc := by kernel_rfl
theorem Q6n {a0 a1 a2 a3 : Value} {w : World} {R : Ending → World → Prop} (h : parse_list_api_Type_lc.wp Tryz.prog (retQ Tryz.prog [.tmp 8] R) (Qg [a0, a1, a2, a3]) w) : Calls Tryz.prog Qv ⟨[a0, a1, a2, a3]⟩ w R :=
  Q4 Tryz.func125 Q5p (by kernel_rfl) (by kernel_rfl) h

/- 126 -/
def Q5m : List GO := [⟨none, .alloc 1 91 [(vi 0), (vi 0), vn]⟩]
def Q5l : List GO := [ql 2 0, ⟨none, .call (some 3) 127 [(.tmp 2), (.const (vi 0))]⟩, qw 3 1 3]
def parse_parser_types_1_lc : LC := (.seq (.ops Q5m) (.seq (.ops Q5l) .ret))
@[reducible] def Q2f : FuncId := 126
theorem Q4I : lowF Tryz.prog Tryz.f126 = some parse_parser_types_1_lc := by kernel_rfl
theorem Q5n {a0 : Value} {w : World} {R : Ending → World → Prop} (h : parse_parser_types_1_lc.wp Tryz.prog (retQ Tryz.prog [.cell 1 91] R) (Qg [a0]) w) : Calls Tryz.prog Q2f ⟨[a0]⟩ w R :=
  Q4 Tryz.func126 Q4I (by kernel_rfl) (by kernel_rfl) h

/- 127 -/
def Q9X : List GO := [qb 2 68 0, qb 3 3 1, ⟨none, .alloc 4 91 [(vi 0), (vi 0), vn]⟩]
def Q9W : List GO := [ql 6 3, qj 7 .gtr 3 6 4]
def Q9V : List GO := [ql 8 2, ⟨none, .call (some 9) 122 [(.tmp 8), (.const (vi 19))]⟩]
def Q9U : List GO := [ql 11 2, ⟨none, .call (some 12) 77 [(.tmp 11), (.const (.string ⟨#[105, 110, 116]⟩))]⟩, qm 10 12]
def Q9T : List GO := [ql 13 2, ⟨none, .call (some 14) 123 [(.tmp 13)]⟩]
def Q9S : List GO := [⟨none, .build 15 [(vi 0), (vi 0), vn] [(0, (1, (.const (vi 1))))]⟩, qw 3 4 15]
def Q9R : List GO := [ql 17 2, ⟨none, .call (some 18) 77 [(.tmp 17), (.const (.string ⟨#[104, 97, 110, 100, 108, 101]⟩))]⟩, qm 16 18]
def Q9Q : List GO := [ql 19 2, ⟨none, .call (some 20) 123 [(.tmp 19)]⟩]
def Q9P : List GO := [ql 21 2, ⟨none, .call (some 22) 75 [(.tmp 21)]⟩, ⟨none, .build 23 [(vi 0), (vi 0), vn] [(0, (1, (.const (vi 2)))), (1, (1, (.tmp 22)))]⟩, qw 3 4 23]
def Q9O : List GO := [ql 25 2, ⟨none, .call (some 26) 77 [(.tmp 25), (.const (.string ⟨#[97, 114, 114, 97, 121]⟩))]⟩, qm 24 26]
def Q88 : List GO := [ql 27 2, ⟨none, .call (some 28) 123 [(.tmp 27)]⟩]
def Q87 : List GO := [ql 29 2, ⟨none, .call (some 30) 75 [(.tmp 29)]⟩, ⟨none, .build 31 [(vi 0), (vi 0), vn] [(0, (1, (.const (vi 4)))), (1, (1, (.tmp 30)))]⟩, qw 3 4 31]
def Q86 : List GO := [ql 32 2, ⟨none, .buildS 33 9 1 [(.string ⟨#[]⟩)] [(0, (1, (.const (.string ⟨#[116, 117, 112, 108, 101]⟩))))]⟩, ⟨none, .call (some 34) 74 [(.tmp 32), (.tmp 33)]⟩]
def Q85 : List GO := [ql 35 2, ⟨none, .call (some 36) 75 [(.tmp 35)]⟩, ⟨none, .build 37 [(vi 0), (vi 0), vn] [(0, (1, (.const (vi 3)))), (1, (1, (.tmp 36)))]⟩, ⟨none, .alloc 5 91 [(vi 0), (vi 0), vn]⟩, qw 3 5 37]
def Q84 : List GO := [ql 38 2, ⟨none, .mkfn 39 144 [(.tmp 2), (.tmp 3)]⟩, ⟨none, .call (some 40) 125 [(.tmp 38), (.const (.string ⟨#[40]⟩)), (.const (.string ⟨#[41]⟩)), (.tmp 39)]⟩, qf 41 5 2, qs 41 40]
def Q83 : List GO := [qV 42 3 5, qw 3 4 42]
def parse_parser_typ_lc : LC := (.seq (.ops Q9X) (.seq (.seq (.ops Q9W) (.cond (.tmp 7) (.ops Q9V) .skip)) (.seq (.block 0 (.seq (.ops Q9U) (.cond (.tmp 10) (.seq (.ops Q9T) (.seq (.ops Q9S) .ret)) (.seq (.ops Q9R) (.cond (.tmp 16) (.seq (.ops Q9Q) (.seq (.ops Q9P) .ret)) (.seq (.ops Q9O) (.cond (.tmp 24) (.seq (.ops Q88) (.seq (.ops Q87) .ret)) .skip))))))) (.seq (.ops Q86) (.seq (.ops Q85) (.seq (.ops Q84) (.seq (.ops Q83) .ret)))))))
@[reducible] def QI : FuncId := 127
theorem Q89 : lowF Tryz.prog Tryz.f127 = some parse_parser_typ_lc := by kernel_rfl
theorem Q3Y {a0 a1 : Value} {w : World} {R : Ending → World → Prop} (h : parse_parser_typ_lc.wp Tryz.prog (retQ Tryz.prog [.cell 4 91] R) (Qg [a0, a1]) w) : Calls Tryz.prog QI ⟨[a0, a1]⟩ w R :=
  Q4 Tryz.func127 Q89 (by kernel_rfl) (by kernel_rfl) h

/- 128 -/
def Qad : List GO := [⟨none, .alloc 2 54 [(vi 0), (vi 0), (vi 0), (vi 0), (vi 0), (vi 0), vn, vn]⟩, qk 3 (.bool false)]
def Qac : List GO := [qm 5 0, qn 6 5, qf 7 6 0, ql 8 7, qL 9 8, qj 10 .eql 3 9 0, qm 11 10, qg 11 false (qm 12 0), qg 11 false (qn 13 12), qg 11 false (qf 14 13 0), qg 11 false (ql 15 14), ⟨some (11, false), .idx 16 4 (.tmp 15) (.const (vi 0))⟩, qg 11 false (qf 17 16 2), qg 11 false (ql 18 17), ⟨none, .pick 19 (.tmp 11) (.const (.bool true)) (.tmp 18)⟩]
def Qab : List GO := [⟨none, .build 20 [(vi 0), (vi 0), (vi 0), (vi 0), (vi 0), (vi 0), vn, vn] []⟩, qw 8 2 20, qk 3 (.bool false)]
def Qaa : List GO := [qm 21 0, qn 22 21, qf 23 22 0, ql 24 23, ⟨none, .idx 25 4 (.tmp 24) (.const (vi 0))⟩, qf 26 25 1, ql 27 26, ⟨none, .call (some 28) 145 [(.tmp 27), (.const (vi 14)), (.func 16)]⟩, ⟨none, .build 29 [(vi 0), (vi 0), (vi 0), (vi 0), (vi 0), (vi 0), vn, vn] [(0, (1, (.tmp 28)))]⟩, ⟨none, .alloc 4 54 [(vi 0), (vi 0), (vi 0), (vi 0), (vi 0), (vi 0), vn, vn]⟩, qw 8 4 29]
def Qa9 : List GO := [qf 30 4 0, ql 31 30, qj 32 .eql 3 31 0]
def Qa8 : List GO := [⟨none, .build 33 [(vi 0), (vi 0), (vi 0), (vi 0), (vi 0), (vi 0), vn, vn] []⟩, qw 8 2 33, qk 3 (.bool false)]
def Qa7 : List GO := [qm 34 0, ⟨none, .call (some 35) 123 [(.tmp 34)]⟩]
def Qa6 : List GO := [qf 36 4 0, ql 37 36]
def Qa5 : List GO := [qj 39 .eql 3 37 1, qm 38 39]
def Qa4 : List GO := [qm 40 0, ⟨none, .call (some 41) 124 [(.tmp 40)]⟩, qf 42 4 5, qs 42 41]
def Q8W : List GO := [qj 44 .eql 3 37 2, qm 43 44]
def Q8V : List GO := [qm 45 0, qn 46 45, qf 47 46 0, ql 48 47, qL 49 48, qj 50 .gtr 3 49 0, qm 51 50, qg 51 true (qm 52 0), qg 51 true (qn 53 52), qg 51 true (qf 54 53 0), qg 51 true (ql 55 54), ⟨some (51, true), .idx 56 4 (.tmp 55) (.const (vi 0))⟩, qg 51 true (qf 57 56 2), qg 51 true (ql 58 57), ⟨some (51, true), .un 59 .not (.tmp 58)⟩, ⟨none, .pick 60 (.tmp 51) (.tmp 59) (.const (.bool false))⟩]
def Q8U : List GO := [qm 61 0, qn 62 61, qf 63 62 0, ql 64 63, ⟨none, .idx 65 4 (.tmp 64) (.const (vi 0))⟩, qf 66 65 1, ql 67 66, ⟨none, .call (some 68) 145 [(.tmp 67), (.const (vi 9)), (.func 18)]⟩, qf 69 4 4, qs 69 68]
def Q8T : List GO := [qf 70 4 4, ql 71 70, qj 72 .eql 3 71 0]
def Q8S : List GO := [qm 73 0, ⟨none, .call (some 74) 122 [(.tmp 73), (.const (vi 4))]⟩]
def Q8R : List GO := [qm 75 0, ⟨none, .call (some 76) 123 [(.tmp 75)]⟩]
def Q8Q : List GO := [qm 77 0, ⟨none, .call (some 78) 75 [(.tmp 77)]⟩, qf 79 4 1, qs 79 78]
def Q8P : List GO := [qm 80 0, ⟨none, .call (some 81) 75 [(.tmp 80)]⟩, qf 82 4 2, qs 82 81]
def Q8O : List GO := [qj 84 .eql 3 37 4, qm 83 84]
def Q8N : List GO := [qj 85 .eql 3 37 11, qm 83 85]
def Q8M : List GO := [qj 86 .eql 3 37 13, qm 83 86]
def Q8L : List GO := [qm 87 0, ⟨none, .call (some 88) 75 [(.tmp 87)]⟩, qf 89 4 1, qs 89 88]
def Q8K : List GO := [qj 91 .eql 3 37 5, qm 90 91]
def Q8J : List GO := [qm 92 0, ⟨none, .call (some 93) 75 [(.tmp 92)]⟩, qf 94 4 1, qs 94 93]
def Q8I : List GO := [qm 95 0, ⟨none, .call (some 96) 146 [(.tmp 95), (.const (.string ⟨#[40]⟩)), (.const (.string ⟨#[41]⟩))]⟩, qf 97 4 7, qs 97 96]
def Q8H : List GO := [qj 99 .eql 3 37 6, qm 98 99]
def Q8G : List GO := [qm 100 0, ⟨none, .call (some 101) 75 [(.tmp 100)]⟩, qf 102 4 1, qs 102 101]
def Q8F : List GO := [qm 103 0, ⟨none, .call (some 104) 75 [(.tmp 103)]⟩, qf 105 4 4, qs 105 104]
def Q8E : List GO := [qj 107 .eql 3 37 7, qm 106 107]
def Q8D : List GO := [qm 108 0, ⟨none, .call (some 109) 75 [(.tmp 108)]⟩, qf 110 4 1, qs 110 109]
def Q8C : List GO := [qm 111 0, ⟨none, .call (some 112) 75 [(.tmp 111)]⟩, qf 113 4 4, qs 113 112]
def Q8B : List GO := [qm 114 0, ⟨none, .call (some 115) 75 [(.tmp 114)]⟩, qf 116 4 2, qs 116 115]
def Q8A : List GO := [qj 118 .eql 3 37 8, qm 117 118]
def Q8z : List GO := [qj 119 .eql 3 37 9, qm 117 119]
def Q8y : List GO := [qm 120 0, ⟨none, .call (some 121) 75 [(.tmp 120)]⟩, qf 122 4 1, qs 122 121]
def Q8x : List GO := [qm 123 0, ⟨none, .call (some 124) 75 [(.tmp 123)]⟩, qf 125 4 2, qs 125 124]
def Q8w : List GO := [qj 127 .eql 3 37 10, qm 126 127]
def Q8v : List GO := [qm 128 0, ⟨none, .call (some 129) 75 [(.tmp 128)]⟩, qf 130 4 1, qs 130 129]
def Q8u : List GO := [qm 131 0, ⟨none, .call (some 132) 75 [(.tmp 131)]⟩, qf 133 4 2, qs 133 132]
def Q8t : List GO := [qm 134 0, ⟨none, .call (some 135) 75 [(.tmp 134)]⟩, qf 136 4 3, qs 136 135]
def Q8s : List GO := [qj 138 .eql 3 37 14, qm 137 138]
def Q8r : List GO := [qm 139 0, ⟨none, .call (some 140) 75 [(.tmp 139)]⟩, qf 141 4 4, qs 141 140]
def Q8q : List GO := [qm 142 0, ⟨none, .call (some 143) 146 [(.tmp 142), (.const (.string ⟨#[60]⟩)), (.const (.string ⟨#[62]⟩))]⟩, qf 144 4 6, qs 144 143]
def Q8p : List GO := [qm 145 0, ⟨none, .call (some 146) 146 [(.tmp 145), (.const (.string ⟨#[40]⟩)), (.const (.string ⟨#[41]⟩))]⟩, qf 147 4 7, qs 147 146]
def Q8o : List GO := [qm 148 0, ⟨none, .buildS 149 9 1 [(.string ⟨#[]⟩)] [(0, (1, (.const (.string ⟨#[59]⟩))))]⟩, ⟨none, .call (some 150) 74 [(.tmp 148), (.tmp 149)]⟩]
def Q8n : List GO := [qV 151 8 4, qw 8 2 151, qk 3 (.bool true)]
def parse_parser_ins_lc : LC := (.seq (.ops Qad) (.seq (.seq (.ops Qac) (.cond (.tmp 19) (.seq (.ops Qab) .ret) .skip)) (.seq (.ops Qaa) (.seq (.seq (.ops Qa9) (.cond (.tmp 32) (.seq (.ops Qa8) .ret) .skip)) (.seq (.ops Qa7) (.seq (.seq (.ops Qa6) (.block 0 (.seq (.ops Qa5) (.cond (.tmp 38) (.ops Qa4) (.seq (.ops Q8W) (.cond (.tmp 43) (.seq (.seq (.ops Q8V) (.cond (.tmp 60) (.ops Q8U) .skip)) (.seq (.seq (.ops Q8T) (.cond (.tmp 72) (.ops Q8S) .skip)) (.seq (.ops Q8R) (.seq (.ops Q8Q) (.ops Q8P))))) (.seq (.seq (.ops Q8O) (.cond (.tmp 83) .skip (.seq (.ops Q8N) (.cond (.tmp 83) .skip (.ops Q8M))))) (.cond (.tmp 83) (.ops Q8L) (.seq (.ops Q8K) (.cond (.tmp 90) (.seq (.ops Q8J) (.ops Q8I)) (.seq (.ops Q8H) (.cond (.tmp 98) (.seq (.ops Q8G) (.ops Q8F)) (.seq (.ops Q8E) (.cond (.tmp 106) (.seq (.ops Q8D) (.seq (.ops Q8C) (.ops Q8B))) (.seq (.seq (.ops Q8A) (.cond (.tmp 117) .skip (.ops Q8z))) (.cond (.tmp 117) (.seq (.ops Q8y) (.ops Q8x)) (.seq (.ops Q8w) (.cond (.tmp 126) (.seq (.ops Q8v) (.seq (.ops Q8u) (.ops Q8t))) (.seq (.ops Q8s) (.cond (.tmp 137) (.seq (.ops Q8r) (.seq (.ops Q8q) (.ops Q8p))) .skip)))))))))))))))))))) (.seq (.ops Q8o) (.seq (.ops Q8n) .ret))))))))
@[reducible] def Q8 : FuncId := 128
theorem Q8X : lowF Tryz.prog Tryz.f128 = some parse_parser_ins_lc := by kernel_rfl
theorem Q2t {a0 : Value} {w : World} {R : Ending → World → Prop} (h : parse_parser_ins_lc.wp Tryz.prog (retQ Tryz.prog [.cell 2 54, .tmp 3] R) (Qg [a0]) w) : Calls Tryz.prog Q8 ⟨[a0]⟩ w R :=
  Q4 Tryz.func128 Q8X (by kernel_rfl) (by kernel_rfl) h

/- 129 -/
def Q9d : List GO := [⟨none, .alloc 2 50 [(vi 0), (vi 0), (vi 0), vn, vn, (vi 0), vn, vn, vn]⟩]
def Q9c : List GO := [⟨none, .alloc 3 50 [(vi 0), (vi 0), (vi 0), vn, vn, (vi 0), vn, vn, vn]⟩]
def Q9b : List GO := [qm 11 0, ⟨none, .call (some 12) 77 [(.tmp 11), (.const (.string ⟨#[106, 117, 109, 112]⟩))]⟩, qm 10 12]
def Q9a : List GO := [qm 13 0, ⟨none, .call (some 14) 123 [(.tmp 13)]⟩]
def Q99 : List GO := [qm 15 0, ⟨none, .call (some 16) 147 [(.tmp 15)]⟩, ⟨none, .build 17 [(vi 0), (vi 0), (vi 0), vn, vn, (vi 0), vn, vn, vn] [(0, (1, (.const (vi 1)))), (2, (3, (.tmp 16)))]⟩, qw 9 3 17]
def Q98 : List GO := [qm 19 0, ⟨none, .call (some 20) 77 [(.tmp 19), (.const (.string ⟨#[105, 102]⟩))]⟩, qm 18 20]
def Q97 : List GO := [qm 21 0, ⟨none, .call (some 22) 123 [(.tmp 21)]⟩]
def Q96 : List GO := [qm 23 0, ⟨none, .call (some 24) 75 [(.tmp 23)]⟩, ⟨none, .build 25 [(vi 0), (vi 0), (vi 0), vn, vn, (vi 0), vn, vn, vn] [(0, (1, (.const (vi 2)))), (1, (1, (.tmp 24)))]⟩, qw 9 3 25]
def Q95 : List GO := [qm 26 0, ⟨none, .buildS 27 9 1 [(.string ⟨#[]⟩)] [(0, (1, (.const (.string ⟨#[116, 111]⟩))))]⟩, ⟨none, .call (some 28) 74 [(.tmp 26), (.tmp 27)]⟩]
def Q94 : List GO := [qm 29 0, ⟨none, .call (some 30) 147 [(.tmp 29)]⟩, qf 31 3 2, qw 3 31 30]
def Q78 : List GO := [qm 32 0, ⟨none, .buildS 33 9 1 [(.string ⟨#[]⟩)] [(0, (1, (.const (.string ⟨#[101, 108, 115, 101]⟩))))]⟩, ⟨none, .call (some 34) 74 [(.tmp 32), (.tmp 33)]⟩]
def Q77 : List GO := [qm 35 0, ⟨none, .call (some 36) 147 [(.tmp 35)]⟩, qf 37 3 5, qw 3 37 36]
def Q76 : List GO := [qm 4 0, ⟨none, .buildS 5 9 1 [(.string ⟨#[]⟩)] [(0, (1, (.const (.string ⟨#[114, 101, 116]⟩))))]⟩, ⟨none, .call (some 6) 74 [(.tmp 4), (.tmp 5)]⟩]
def Q75 : List GO := [qm 7 0, ⟨none, .call (some 8) 146 [(.tmp 7), (.const (.string ⟨#[40]⟩)), (.const (.string ⟨#[41]⟩))]⟩, ⟨none, .build 9 [(vi 0), (vi 0), (vi 0), vn, vn, (vi 0), vn, vn, vn] [(0, (1, (.const (vi 3)))), (8, (1, (.tmp 8)))]⟩, qw 9 3 9]
def Q74 : List GO := [qm 38 0, ⟨none, .buildS 39 9 1 [(.string ⟨#[]⟩)] [(0, (1, (.const (.string ⟨#[59]⟩))))]⟩, ⟨none, .call (some 40) 74 [(.tmp 38), (.tmp 39)]⟩]
def Q73 : List GO := [qV 41 9 3, qw 9 2 41]
def parse_parser_ends_lc : LC := (.seq (.ops Q9d) (.seq (.ops Q9c) (.seq (.block 0 (.seq (.ops Q9b) (.cond (.tmp 10) (.seq (.ops Q9a) (.ops Q99)) (.seq (.ops Q98) (.cond (.tmp 18) (.seq (.ops Q97) (.seq (.ops Q96) (.seq (.ops Q95) (.seq (.ops Q94) (.seq (.ops Q78) (.ops Q77)))))) (.seq (.ops Q76) (.ops Q75))))))) (.seq (.ops Q74) (.seq (.ops Q73) .ret)))))
@[reducible] def Q1i : FuncId := 129
theorem Q79 : lowF Tryz.prog Tryz.f129 = some parse_parser_ends_lc := by kernel_rfl
theorem Q9e {a0 : Value} {w : World} {R : Ending → World → Prop} (h : parse_parser_ends_lc.wp Tryz.prog (retQ Tryz.prog [.cell 2 50] R) (Qg [a0]) w) : Calls Tryz.prog Q1i ⟨[a0]⟩ w R :=
  Q4 Tryz.func129 Q79 (by kernel_rfl) (by kernel_rfl) h

/- 130 -/
/- 131 -/
/- 132 -/
/- 133 -/
/- 134 -/
def Qj9 : List GO := [qb 2 91 0, qk 4 (.bool false)]
def Qj8 : List GO := [qm 7 1, qj 8 .lss 3 7 0]
def Qj7 : List GO := [qk 4 (.bool false)]
def Qj6 : List GO := [qf 9 2 2, ql 10 9, qL 11 10, qk 12 (vi 0)]
def Qj5 : List GO := [qt 13 .lss 3 12 11]
def Qj4 : List GO := [qi 14 3 10 12, qV 15 3 14, ⟨none, .alloc 6 91 [(vi 0), (vi 0), vn]⟩, qw 3 6 15]
def Qj3 : List GO := [qV 16 3 6, qm 17 1, qj 18 .sub 3 17 1, ⟨none, .call (some 19) 134 [(.tmp 16), (.tmp 18)]⟩, ⟨none, .un 20 .not (.tmp 19)⟩]
def Qj2 : List GO := [qk 4 (.bool false)]
def Qj1 : List GO := [qj 21 .add 3 12 1, qm 12 21]
def QaA : LC := (.seq (.ops Qj5) (.seq (.cond (.tmp 13) .skip (.exit 0)) (.seq (.block 1 (.seq (.ops Qj4) (.seq (.ops Qj3) (.cond (.tmp 20) (.seq (.ops Qj2) .ret) .skip)))) (.ops Qj1))))
def Qj0 : List GO := [qk 4 (.bool true)]
def types_deep_lc : LC := (.seq (.ops Qj9) (.seq (.seq (.ops Qj8) (.cond (.tmp 8) (.seq (.ops Qj7) .ret) .skip)) (.seq (.seq (.ops Qj6) (.block 0 (.loop QaA))) (.seq (.ops Qj0) .ret))))
@[reducible] def Q3I : FuncId := 134
theorem QgP : lowF Tryz.prog Tryz.f134 = some types_deep_lc := by kernel_rfl
theorem Qja {a0 a1 : Value} {w : World} {R : Ending → World → Prop} (h : types_deep_lc.wp Tryz.prog (retQ Tryz.prog [.tmp 4] R) (Qg [a0, a1]) w) : Calls Tryz.prog Q3I ⟨[a0, a1]⟩ w R :=
  Q4 Tryz.func134 QgP (by kernel_rfl) (by kernel_rfl) h

/- 135 -/
def QgN : List GO := [qb 2 91 0, qk 4 (vi 0)]
def QgM : List GO := [qf 8 2 0, ql 9 8]
def QgL : List GO := [qj 11 .eql 3 9 1, qm 10 11]
def QgK : List GO := [qf 12 2 1, ql 13 12, qj 14 .neq 3 13 0, qm 15 14, qg 15 false (qf 16 2 2), qg 15 false (ql 17 16), qg 15 false (qL 18 17), qg 15 false (qj 19 .gtr 3 18 0), ⟨none, .pick 20 (.tmp 15) (.const (.bool true)) (.tmp 19)⟩]
def QgJ : List GO := [qk 4 (vi 4)]
def QgI : List GO := [qk 4 (vi 0)]
def QgH : List GO := [qj 22 .eql 3 9 2, qm 21 22]
def QgG : List GO := [qj 23 .eql 3 9 4, qm 21 23]
def QgF : List GO := [qf 24 2 2, ql 25 24, qL 26 25, qj 27 .gtr 3 26 0]
def QgE : List GO := [qk 4 (vi 4)]
def QeQ : List GO := [qj 29 .eql 3 9 3, qm 28 29]
def QeP : List GO := [qf 30 2 2, ql 31 30, qL 32 31, qj 33 .gtr 3 32 8]
def QeO : List GO := [qk 4 (vi 2)]
def QeN : List GO := [qk 4 (vi 3)]
def QeM : List GO := [qf 34 2 1, ql 35 34, qj 36 .lss 3 35 0, qm 37 36, qg 37 false (qf 38 2 1), qg 37 false (ql 39 38), qg 37 false (qm 40 1), qg 37 false (qt 41 .geq 3 39 40), ⟨none, .pick 42 (.tmp 37) (.const (.bool true)) (.tmp 41)⟩]
def QeL : List GO := [qk 4 (vi 1)]
def QeK : List GO := [qf 43 2 2, ql 44 43, qL 45 44, qk 46 (vi 0)]
def QeJ : List GO := [qt 47 .lss 3 46 45]
def QeI : List GO := [qi 48 3 44 46, qV 49 3 48, ⟨none, .alloc 6 91 [(vi 0), (vi 0), vn]⟩, qw 3 6 49]
def QeH : List GO := [qV 50 3 6, qm 51 1, ⟨none, .call (some 52) 135 [(.tmp 50), (.tmp 51)]⟩, qm 7 52]
def QeG : List GO := [qm 53 7, qj 54 .neq 3 53 0]
def QeF : List GO := [qm 55 7, qm 4 55]
def QeE : List GO := [qj 56 .add 3 46 1, qm 46 56]
def Q6q : LC := (.seq (.ops QeJ) (.seq (.cond (.tmp 47) .skip (.exit 1)) (.seq (.block 2 (.seq (.ops QeI) (.seq (.ops QeH) (.seq (.ops QeG) (.cond (.tmp 54) (.seq (.ops QeF) .ret) .skip))))) (.ops QeE))))
def QeD : List GO := [qk 4 (vi 0)]
def types_wrong_lc : LC := (.seq (.ops QgN) (.seq (.seq (.ops QgM) (.block 0 (.seq (.ops QgL) (.cond (.tmp 10) (.seq (.seq (.ops QgK) (.cond (.tmp 20) (.seq (.ops QgJ) .ret) .skip)) (.seq (.ops QgI) .ret)) (.seq (.seq (.ops QgH) (.cond (.tmp 21) .skip (.ops QgG))) (.cond (.tmp 21) (.seq (.ops QgF) (.cond (.tmp 27) (.seq (.ops QgE) .ret) .skip)) (.seq (.ops QeQ) (.cond (.tmp 28) (.seq (.ops QeP) (.cond (.tmp 33) (.seq (.ops QeO) .ret) .skip)) (.seq (.ops QeN) .ret))))))))) (.seq (.seq (.ops QeM) (.cond (.tmp 42) (.seq (.ops QeL) .ret) .skip)) (.seq (.seq (.ops QeK) (.block 1 (.loop Q6q))) (.seq (.ops QeD) .ret)))))
@[reducible] def Qs : FuncId := 135
theorem QeR : lowF Tryz.prog Tryz.f135 = some types_wrong_lc := by kernel_rfl
theorem QgO {a0 a1 : Value} {w : World} {R : Ending → World → Prop} (h : types_wrong_lc.wp Tryz.prog (retQ Tryz.prog [.tmp 4] R) (Qg [a0, a1]) w) : Calls Tryz.prog Qs ⟨[a0, a1]⟩ w R :=
  Q4 Tryz.func135 QeR (by kernel_rfl) (by kernel_rfl) h

/- 136 -/
def Qn2 : List GO := [qk 2 (.string ⟨#[]⟩)]
def Qn1 : List GO := [qm 3 0, qj 4 .lss 3 3 1, qm 5 4, qg 5 false (qm 6 0), qg 5 false (qj 7 .gtr 3 6 14), ⟨none, .pick 8 (.tmp 5) (.const (.bool true)) (.tmp 7)⟩]
def Qn0 : List GO := [qk 2 (.string ⟨#[]⟩)]
def QmZ : List GO := [⟨none, .build 9 [(.string ⟨#[]⟩), (.string ⟨#[]⟩), (.string ⟨#[]⟩), (.string ⟨#[]⟩), (.string ⟨#[]⟩), (.string ⟨#[]⟩), (.string ⟨#[]⟩), (.string ⟨#[]⟩), (.string ⟨#[]⟩), (.string ⟨#[]⟩), (.string ⟨#[]⟩), (.string ⟨#[]⟩), (.string ⟨#[]⟩), (.string ⟨#[]⟩), (.string ⟨#[]⟩)] [(0, (1, (.const (.string ⟨#[]⟩)))), (1, (1, (.const (.string ⟨#[110]⟩)))), (2, (1, (.const (.string ⟨#[97, 98, 107]⟩)))), (3, (1, (.const (.string ⟨#[]⟩)))), (4, (1, (.const (.string ⟨#[97]⟩)))), (5, (1, (.const (.string ⟨#[97, 114]⟩)))), (6, (1, (.const (.string ⟨#[97, 107]⟩)))), (7, (1, (.const (.string ⟨#[97, 98, 107]⟩)))), (8, (1, (.const (.string ⟨#[97, 98]⟩)))), (9, (1, (.const (.string ⟨#[97, 98]⟩)))), (10, (1, (.const (.string ⟨#[97, 98, 99]⟩)))), (11, (1, (.const (.string ⟨#[97]⟩)))), (12, (1, (.const (.string ⟨#[]⟩)))), (13, (1, (.const (.string ⟨#[97]⟩)))), (14, (1, (.const (.string ⟨#[107, 103, 114]⟩))))]⟩, qm 10 0, ⟨none, .raw ⟨(some 11), (.index 85 (.tmp 9) (.tmp 10)), 9, "", #[], none⟩⟩, qm 2 11]
def code_has_lc : LC := (.seq (.ops Qn2) (.seq (.seq (.ops Qn1) (.cond (.tmp 8) (.seq (.ops Qn0) .ret) .skip)) (.seq (.ops QmZ) .ret)))
@[reducible] def QnG : FuncId := 136
theorem Qma : lowF Tryz.prog Tryz.f136 = some code_has_lc := by kernel_rfl
theorem Qg0 {a0 : Value} {w : World} {R : Ending → World → Prop} (h : code_has_lc.wp Tryz.prog (retQ Tryz.prog [.tmp 2] R) (Qg [a0]) w) : Calls Tryz.prog QnG ⟨[a0]⟩ w R :=
  Q4 Tryz.func136 Qma (by kernel_rfl) (by kernel_rfl) h

/- 137 -/
def Qm7 : List GO := [qk 4 (.bool false)]
def Qm6 : List GO := [qm 5 0, ⟨none, .raw ⟨(some 6), (.convert 9 105 (.tmp 5)), 105, "", #[], none⟩⟩, qm 7 1, ⟨none, .call (some 8) 150 [(.tmp 6), (.tmp 7)]⟩, qm 4 8]
def code_with_lc : LC := (.seq (.ops Qm7) (.seq (.ops Qm6) .ret))
@[reducible] def Qm9 : FuncId := 137
theorem QkK : lowF Tryz.prog Tryz.f137 = some code_with_lc := by kernel_rfl
theorem Qm8 {a0 a1 : Value} {w : World} {R : Ending → World → Prop} (h : code_with_lc.wp Tryz.prog (retQ Tryz.prog [.tmp 4] R) (Qg [a0, a1]) w) : Calls Tryz.prog Qm9 ⟨[a0, a1]⟩ w R :=
  Q4 Tryz.func137 QkK (by kernel_rfl) (by kernel_rfl) h

/- 138 -/
def Qe3 : List GO := [qb 5 43 1, qb 6 48 2]
def Qe2 : List GO := [qm 8 3, ⟨none, .un 9 .not (.tmp 8)⟩]
def Qe1 : List GO := [qm 10 0, qf 11 6 0, ql 12 11, qj 13 .neq 3 12 0, qm 14 13, qg 14 false (qf 15 6 1), qg 14 false (ql 16 15), qg 14 false (qL 17 16), qg 14 false (qj 18 .gtr 3 17 0), ⟨none, .pick 19 (.tmp 14) (.const (.bool true)) (.tmp 18)⟩, qm 20 19, qg 20 false (qf 21 6 2), qg 20 false (ql 22 21), qg 20 false (qL 23 22), qg 20 false (qj 24 .gtr 3 23 0), ⟨none, .pick 25 (.tmp 20) (.const (.bool true)) (.tmp 24)⟩, ⟨none, .call (some 26) 50 [(.tmp 10), (.tmp 25), (.const (vi 4))]⟩]
def Qe0 : List GO := [qm 27 0, qf 28 6 0, ql 29 28, qj 30 .lss 3 29 0, qm 31 30, qg 31 false (qf 32 6 0), qg 31 false (ql 33 32), qg 31 false (qf 34 5 3), qg 31 false (ql 35 34), qg 31 false (qL 36 35), qg 31 false (qt 37 .geq 3 33 36), ⟨none, .pick 38 (.tmp 31) (.const (.bool true)) (.tmp 37)⟩, ⟨none, .call (some 39) 50 [(.tmp 27), (.tmp 38), (.const (vi 1))]⟩]
def QdZ : List GO := [qm 40 0, qf 41 6 1, ql 42 41, qL 43 42, qj 44 .gtr 3 43 16, qm 45 44, qg 45 false (qf 46 6 2), qg 45 false (ql 47 46), qg 45 false (qL 48 47), qg 45 false (qj 49 .gtr 3 48 8), ⟨none, .pick 50 (.tmp 45) (.const (.bool true)) (.tmp 49)⟩, ⟨none, .call (some 51) 50 [(.tmp 40), (.tmp 50), (.const (vi 2))]⟩]
def code_judge_to_lc : LC := (.seq (.ops Qe3) (.seq (.seq (.ops Qe2) (.cond (.tmp 9) (.seq (.ops Qe1) .ret) .skip)) (.seq (.ops Qe0) (.ops QdZ))))
@[reducible] def Qbn : FuncId := 138
theorem QcC : lowF Tryz.prog Tryz.f138 = some code_judge_to_lc := by kernel_rfl
theorem Q5A {a0 a1 a2 a3 : Value} {w : World} {R : Ending → World → Prop} (h : code_judge_to_lc.wp Tryz.prog (retQ Tryz.prog [] R) (Qg [a0, a1, a2, a3]) w) : Calls Tryz.prog Qbn ⟨[a0, a1, a2, a3]⟩ w R :=
  Q4 Tryz.func138 QcC (by kernel_rfl) (by kernel_rfl) h

/- 142 -/
def Q2V : List GO := [qk 4 (.bool false)]
def Q2U : List GO := [qm 5 0, ⟨none, .slen 6 (.tmp 5)⟩, qm 7 1, ⟨none, .slen 8 (.tmp 7)⟩, qt 9 .geq 3 6 8, qm 10 9, qg 10 true (qm 11 0), qg 10 true (qm 12 1), ⟨some (10, true), .slen 13 (.tmp 12)⟩, ⟨some (10, true), .ssub 14 (.tmp 11) none (some (.tmp 13))⟩, qg 10 true (qm 15 1), qg 10 true (qt 16 .eql 9 14 15), ⟨none, .pick 17 (.tmp 10) (.tmp 16) (.const (.bool false))⟩, qm 4 17]
def internal_stringslite_HasPrefix_lc : LC := (.seq (.ops Q2V) (.seq (.ops Q2U) .ret))
@[reducible] def Q3g : FuncId := 142
theorem Q2K : lowF Tryz.prog Tryz.f142 = some internal_stringslite_HasPrefix_lc := by kernel_rfl
theorem Q2W {a0 a1 : Value} {w : World} {R : Ending → World → Prop} (h : internal_stringslite_HasPrefix_lc.wp Tryz.prog (retQ Tryz.prog [.tmp 4] R) (Qg [a0, a1]) w) : Calls Tryz.prog Q3g ⟨[a0, a1]⟩ w R :=
  Q4 Tryz.func142 Q2K (by kernel_rfl) (by kernel_rfl) h

/- 144 -/
def Q6W : List GO := [⟨none, .alloc 2 91 [(vi 0), (vi 0), vn]⟩]
def Q6V : List GO := [ql 3 0, ql 4 1, qj 5 .add 3 4 1, ⟨none, .call (some 6) 127 [(.tmp 3), (.tmp 5)]⟩, qw 3 2 6]
def parse_parser_typ_1_lc : LC := (.seq (.ops Q6W) (.seq (.ops Q6V) .ret))
@[reducible] def Q2O : FuncId := 144
theorem Q67 : lowF Tryz.prog Tryz.f144 = some parse_parser_typ_1_lc := by kernel_rfl
theorem Q6X {a0 a1 : Value} {w : World} {R : Ending → World → Prop} (h : parse_parser_typ_1_lc.wp Tryz.prog (retQ Tryz.prog [.cell 2 91] R) (Qg [a0, a1]) w) : Calls Tryz.prog Q2O ⟨[a0, a1]⟩ w R :=
  Q4 Tryz.func144 Q67 (by kernel_rfl) (by kernel_rfl) h

/- 145 -/
def Qkp : List GO := [qk 6 (vi 0)]
def Qko : List GO := [qk 7 (vi 1)]
def Qkn : List GO := [qm 8 7, qm 9 1, qt 10 .leq 3 8 9]
def Qkm : List GO := [qm 13 2, qm 14 7, ⟨none, .callv (some 15) (.tmp 13) [(.tmp 14)]⟩, qm 16 0, qt 17 .eql 9 15 16]
def Qkl : List GO := [qm 18 7, qm 6 18]
def Qkk : List GO := [qm 11 7, qj 12 .add 3 11 1, qm 7 12]
def Qbb : LC := (.seq (.seq (.ops Qkn) (.cond (.tmp 10) .skip (.exit 0))) (.seq (.block 1 (.seq (.ops Qkm) (.cond (.tmp 17) (.seq (.ops Qkl) .ret) .skip))) (.ops Qkk)))
def Qkj : List GO := [qk 6 (vi 0)]
def parse_find_lc : LC := (.seq (.ops Qkp) (.seq (.seq (.ops Qko) (.block 0 (.loop Qbb))) (.seq (.ops Qkj) .ret)))
@[reducible] def Q7F : FuncId := 145
theorem QhC : lowF Tryz.prog Tryz.f145 = some parse_find_lc := by kernel_rfl
theorem Qkq {a0 a1 a2 : Value} {w : World} {R : Ending → World → Prop} (h : parse_find_lc.wp Tryz.prog (retQ Tryz.prog [.tmp 6] R) (Qg [a0, a1, a2]) w) : Calls Tryz.prog Q7F ⟨[a0, a1, a2]⟩ w R :=
  Q4 Tryz.func145 QhC (by kernel_rfl) (by kernel_rfl) h

/- 146 -/
def Q8b : List GO := [qk 6 vn]
def Q8a : List GO := [qm 7 0, qm 8 1, qm 9 2, qm 10 0, ⟨none, .raw ⟨(some 11), (.makeFunc (.func 75) #[(.tmp 10)] #[]), 79, "", #[], none⟩⟩, ⟨none, .call (some 12) 157 [(.tmp 7), (.tmp 8), (.tmp 9), (.tmp 11)]⟩, qm 6 12]
def parse_parser_nums_lc : LC := (.seq (.ops Q8b) (.seq (.ops Q8a) .ret))
@[reducible] def Q4J : FuncId := 146
theorem Q6Z : lowF Tryz.prog Tryz.f146 = some parse_parser_nums_lc := by kernel_rfl
theorem Q8c {a0 a1 a2 : Value} {w : World} {R : Ending → World → Prop} (h : parse_parser_nums_lc.wp Tryz.prog (retQ Tryz.prog [.tmp 6] R) (Qg [a0, a1, a2]) w) : Calls Tryz.prog Q4J ⟨[a0, a1, a2]⟩ w R :=
  Q4 Tryz.func146 Q6Z (by kernel_rfl) (by kernel_rfl) h

/- 147 -/
def Qb5 : List GO := [⟨none, .alloc 2 48 [(vi 0), vn, vn]⟩]
def Qb4 : List GO := [qm 4 0, ⟨none, .call (some 5) 75 [(.tmp 4)]⟩, ⟨none, .build 6 [(vi 0), vn, vn] [(0, (1, (.tmp 5)))]⟩, ⟨none, .alloc 3 48 [(vi 0), vn, vn]⟩, qw 3 3 6]
def Qb3 : List GO := [qm 7 0, ⟨none, .call (some 8) 146 [(.tmp 7), (.const (.string ⟨#[60]⟩)), (.const (.string ⟨#[62]⟩))]⟩, qf 9 3 1, qs 9 8]
def Qb2 : List GO := [qm 10 0, ⟨none, .call (some 11) 146 [(.tmp 10), (.const (.string ⟨#[40]⟩)), (.const (.string ⟨#[41]⟩))]⟩, qf 12 3 2, qs 12 11]
def Qb1 : List GO := [qV 13 3 3, qw 3 2 13]
def parse_parser_to_lc : LC := (.seq (.ops Qb5) (.seq (.ops Qb4) (.seq (.ops Qb3) (.seq (.ops Qb2) (.seq (.ops Qb1) .ret)))))
@[reducible] def Q6Y : FuncId := 147
theorem Q9Y : lowF Tryz.prog Tryz.f147 = some parse_parser_to_lc := by kernel_rfl
theorem Qb6 {a0 : Value} {w : World} {R : Ending → World → Prop} (h : parse_parser_to_lc.wp Tryz.prog (retQ Tryz.prog [.cell 2 48] R) (Qg [a0]) w) : Calls Tryz.prog Q6Y ⟨[a0]⟩ w R :=
  Q4 Tryz.func147 Q9Y (by kernel_rfl) (by kernel_rfl) h

/- 150 -/
def Q3C : List GO := [qk 4 (.bool false)]
def Q3B : List GO := [qm 5 0, qm 6 1, ⟨none, .call (some 7) 163 [(.tmp 5), (.tmp 6)]⟩, qj 8 .geq 3 7 0, qm 4 8]
def slices_Contains_byte_byte_lc : LC := (.seq (.ops Q3C) (.seq (.ops Q3B) .ret))
@[reducible] def Q2j : FuncId := 150
theorem Q3m : lowF Tryz.prog Tryz.f150 = some slices_Contains_byte_byte_lc := by kernel_rfl
theorem Q3D {a0 a1 : Value} {w : World} {R : Ending → World → Prop} (h : slices_Contains_byte_byte_lc.wp Tryz.prog (retQ Tryz.prog [.tmp 4] R) (Qg [a0, a1]) w) : Calls Tryz.prog Q2j ⟨[a0, a1]⟩ w R :=
  Q4 Tryz.func150 Q3m (by kernel_rfl) (by kernel_rfl) h

/- 157 -/
def Qco : List GO := [qk 8 vn]
def Qcn : List GO := [qm 10 0, qm 11 1, ⟨none, .buildS 12 9 1 [(.string ⟨#[]⟩)] [(0, (1, (.tmp 11)))]⟩, ⟨none, .call (some 13) 74 [(.tmp 10), (.tmp 12)]⟩]
def Qcm : List GO := [qk 9 vn]
def Qcl : List GO := [qm 14 0, qm 15 2, ⟨none, .call (some 16) 77 [(.tmp 14), (.tmp 15)]⟩, ⟨none, .un 17 .not (.tmp 16)⟩]
def Qck : List GO := [qm 18 9, qL 19 18, qj 20 .gtr 3 19 0]
def Qcj : List GO := [qm 21 0, ⟨none, .buildS 22 9 1 [(.string ⟨#[]⟩)] [(0, (1, (.const (.string ⟨#[44]⟩))))]⟩, ⟨none, .call (some 23) 74 [(.tmp 21), (.tmp 22)]⟩]
def Qci : List GO := [qm 24 9, qm 25 3, ⟨none, .callv (some 26) (.tmp 25) []⟩, ⟨none, .buildS 27 3 1 [(vi 0)] [(0, (1, (.tmp 26)))]⟩, ⟨none, .raw ⟨(some 28), (.call ⟨(.builtin .append), #[(.tmp 24), (.tmp 27)], #[46, 46]⟩), 46, "", #[], none⟩⟩, qm 9 28]
def Qch : List GO := [qm 29 9, qL 30 29, qj 31 .gtr 3 30 100]
def Qcg : List GO := [qm 32 0, ⟨none, .call (some 33) 122 [(.tmp 32), (.const (vi 2))]⟩]
def Q4X : LC := (.seq (.seq (.ops Qcl) (.cond (.tmp 17) .skip (.exit 0))) (.block 1 (.seq (.seq (.ops Qck) (.cond (.tmp 20) (.ops Qcj) .skip)) (.seq (.ops Qci) (.seq (.ops Qch) (.cond (.tmp 31) (.ops Qcg) .skip))))))
def Qcf : List GO := [qm 34 0, qm 35 2, ⟨none, .buildS 36 9 1 [(.string ⟨#[]⟩)] [(0, (1, (.tmp 35)))]⟩, ⟨none, .call (some 37) 74 [(.tmp 34), (.tmp 36)]⟩]
def Qb9 : List GO := [qm 38 9, qm 8 38]
def parse_list_int_lc : LC := (.seq (.ops Qco) (.seq (.ops Qcn) (.seq (.ops Qcm) (.seq (.block 0 (.loop Q4X)) (.seq (.ops Qcf) (.seq (.ops Qb9) .ret))))))
@[reducible] def Q1f : FuncId := 157
theorem Qba : lowF Tryz.prog Tryz.f157 = some parse_list_int_lc := by kernel_rfl
theorem Qcp {a0 a1 a2 a3 : Value} {w : World} {R : Ending → World → Prop} (h : parse_list_int_lc.wp Tryz.prog (retQ Tryz.prog [.tmp 8] R) (Qg [a0, a1, a2, a3]) w) : Calls Tryz.prog Q1f ⟨[a0, a1, a2, a3]⟩ w R :=
  Q4 Tryz.func157 Qba (by kernel_rfl) (by kernel_rfl) h

/- 163 -/
def Q4w : List GO := [qk 4 (vi 0)]
def Q4v : List GO := [qm 6 0, qL 7 6, qk 8 (vi 0)]
def Q4u : List GO := [qt 9 .lss 3 8 7]
def Q4t : List GO := [qm 10 8, qm 5 10]
def Q4s : List GO := [qm 11 1, qm 12 0, qm 13 5, qi 14 1 12 13, ql 15 14, qt 16 .eql 5 11 15]
def Q4r : List GO := [qm 17 5, qm 4 17]
def Q4q : List GO := [qj 18 .add 3 8 1, qm 8 18]
def Q2i : LC := (.seq (.ops Q4u) (.seq (.cond (.tmp 9) .skip (.exit 0)) (.seq (.block 1 (.seq (.ops Q4t) (.seq (.ops Q4s) (.cond (.tmp 16) (.seq (.ops Q4r) .ret) .skip)))) (.ops Q4q))))
def Q4p : List GO := [qk 4 (vi (-1))]
def slices_Index_byte_byte_lc : LC := (.seq (.ops Q4w) (.seq (.seq (.ops Q4v) (.block 0 (.loop Q2i))) (.seq (.ops Q4p) .ret)))
@[reducible] def Q1o : FuncId := 163
theorem Q48 : lowF Tryz.prog Tryz.f163 = some slices_Index_byte_byte_lc := by kernel_rfl
theorem Q4x {a0 a1 : Value} {w : World} {R : Ending → World → Prop} (h : slices_Index_byte_byte_lc.wp Tryz.prog (retQ Tryz.prog [.tmp 4] R) (Qg [a0, a1]) w) : Calls Tryz.prog Q1o ⟨[a0, a1]⟩ w R :=
  Q4 Tryz.func163 Q48 (by kernel_rfl) (by kernel_rfl) h

end Go.Proofs.YtjecflbbcnocdaaGreatDoor
namespace Go.Proofs.YtjecflbbcnocdaaGreatDoor
open Go.Lir
set_option maxHeartbeats 1000000
attribute [local irreducible] LC.wp Q3 Qt QA retQ Q1m LO.wp Qm Calls
set_option linter.unusedSimpArgs false
set_option linter.unusedVariables false
theorem size_c : ∀ (t : Ty) {cx : Cx} {w : World} {L : List Res} {cs : List Value} {left : Int}, tyR.at cx cs t → -1 ≤ left → left ≤ 1000000 → St cx w L →
    Rets Tryz.prog Q7M [.agg ⟨cs⟩, .int .i64 left] w fun v w' => v = .int .i64 (t.size left) ∧ St cx w' L := by
  intro t
  induction t using Ty.ind with
  | h k r l ih =>
    intro cx w L cs left ht h1 h2 hS
    obtain ⟨v, rfl, hl⟩ := QV ht
    simp only [Ty.kind, Ty.r, Ty.l] at hl ht ⊢
    have hlen := hl.len
    rw [Ty.size]
    all_goals refine Qlc ?_
    all_goals (unfold R_typeSize_lc; refine Q0 ?_; refine Q1 ?_; refine zb hS ?_; intro p2 w1 hS; refine zm ?_; refine zn ?_; refine Q0 ?_; refine Q1 ?_; refine zm ?_; refine zsu ?_; refine zm ?_; refine zn ?_; refine Q0 ?_; refine Q0 ?_; refine Q1 ?_; refine zm ?_; refine zn ?_; refine Qa ?_)
    refine zoL hS [2] (fun A LL ρ' w' => ∃ (j : Nat) (n : Int), Has ρ' A ∧ Has ρ' [(1, .int .i64 n), (5, .int .i64 j)] ∧ (j ≤ l.length) ∧ (n ≤ 1000000) ∧ (-2 ≤ n) ∧ (Tys.size l (left - 1) = Tys.size (l.drop j) n) ∧ St cx w' (LL)) (fun ρ' _ => (l.length - iv (ρ' 5)).toNat) ?_ ?_
    · exact ⟨0, left - 1, zh, zh, (by omega), (by omega), (by omega), by simp, hS.sp⟩
    rintro ρ w1 ⟨j, n, hA, hρ, hj, hn, hn1, hd, hS⟩; obtain ⟨ρ, rfl⟩ := env2 hA hρ
    unfold QbN
    all_goals (refine Q0 ?_; refine Q0 ?_; refine Q1 ?_; refine zm ?_; refine Q2 rfl ?_; refine zl hS ?_; refine zL ?_)
    all_goals (first | (refine Q3i ?_) | (refine Q3j ?_) | (refine Q1w rfl rfl (fun hc => ?_) (fun hc => ?_)))
    all_goals (refine zm ?_; (first | refine s_gn rfl rfl ?_ | (refine s_gy rfl ?_; refine zm ?_)))
    all_goals (first | refine s_gn rfl rfl ?_ | (refine s_gy rfl ?_; (first | (refine Qdy ?_) | (refine Qdz ?_) | (refine Q3p rfl rfl (fun hc => ?_) (fun hc => ?_)))))
    all_goals ((first | (refine zpt ?_) | (refine zpf ?_)); refine zn ?_)
    all_goals
      first
      | (refine Q5 rfl ?_ -- Q7M c0
         all_goals (refine zex ?_; refine Q0 ?_; refine Q1 ?_; refine zm ?_; refine zm ?_; refine zn ?_; refine zr ?_; refine zf ?_)
         all_goals (refine ⟨_, rfl, ?_, hS.sp⟩; (rw [hd]; congr 1; first | (rw [Tys.size_neg _ (by omega)]; done) | (rw [List.drop_of_length_le (by omega), Tys.size]; done)); done))
      | (refine Q6 rfl ?_ -- Q7M c0
         all_goals (refine zsk ?_; refine Q0 ?_; refine Qa ?_; refine Q1 ?_; refine Q2 rfl ?_; refine zl hS ?_; refine zm ?_; refine zi ?_; intro b1 o1 cs1 x1 hat1 hx1 he1; obtain ⟨vl1, rfl, hl1⟩ := QV he1; (first | (refine zv hS ?_) | (refine zvk hS ?_)); refine zm ?_; refine zR2 (c := ih _ (List.mem_of_getElem? (by assumption)) (by assumption) (by omega) (by omega) hS) (h := ?_); rintro v1 w1 ⟨rfl, hS⟩; refine zm ?_; refine zn ?_; refine Q1 ?_; refine zm ?_; refine zad ?_; refine zm ?_; refine zn ?_)
         all_goals (exact ⟨⟨j + 1, _, zh, zh, (by omega), by have := Ty.size_rng x1 (left := n) (by omega); omega, by have := Ty.size_rng x1 (left := n) (by omega); omega, by rw [hd, Q7 hx1, Tys.size, if_pos (by omega)], hS.sp⟩, Qz (by omega)⟩))
theorem great_c {t : Ty} {cx : Cx} {w : World} {L : List Res} {cs : List Value} (ht : tyR.at cx cs t) (hS : St cx w L) :
    Rets Tryz.prog QgC [.agg ⟨cs⟩] w fun v w' => v = .bool t.great ∧ St cx w' L := by
  obtain ⟨v, rfl, hl⟩ := QV ht
  all_goals refine QiA ?_
  all_goals (unfold R_GreatType_lc; refine Q0 ?_; refine Q1 ?_; refine zb hS ?_; intro p1 w1 hS; refine zm ?_; refine zn ?_; refine Q0 ?_; refine Q1 ?_; refine zv hS ?_; refine zR2 (c := size_c t ht (by omega) (by omega) hS) (h := ?_); rintro v1 w1 ⟨rfl, hS⟩; refine QG rfl rfl ?_; refine zm ?_; refine zn ?_; refine zr ?_; refine zf ?_; refine ⟨_, rfl, ?_, hS.sp⟩; (rfl); done)
theorem QkB {l : List Ty} {cx : Cx} {w : World} {L : List Res} {v : Value} (hl : tyR.sl cx v l) (hS : St cx w L) :
    Rets Tryz.prog Q2G [v] w fun u w' => u = .bool (Tys.great l) ∧ St cx w' L := by
  have hlen := hl.len
  unfold Tys.great
  all_goals refine Qgn ?_
  all_goals (unfold R_greatTypes_lc; refine Q0 ?_; refine Q1 ?_; refine zm ?_; refine zn ?_; refine Q0 ?_; refine Q0 ?_; refine Q1 ?_; refine zm ?_; refine zL ?_)
  all_goals (first | (refine QW ?_) | (refine Q1g ?_) | (refine Qr rfl rfl (fun hc => ?_) (fun hc => ?_)))
  all_goals (refine zn ?_)
  all_goals
    first
    | (refine Q6 rfl ?_ -- Q2G c0
       all_goals (refine Q0 ?_; refine Q1 ?_; refine zm ?_; refine zn ?_; refine zr ?_; refine zf ?_)
       all_goals (refine ⟨_, rfl, ?_, hS.sp⟩; rw [decide_eq_true (by omega), Bool.true_or]; done))
    | (refine Q5 rfl ?_ -- Q2G c0
       all_goals refine zsk ?_)
  all_goals (refine Q0 ?_; refine Q0 ?_; refine Q1 ?_; refine zm ?_; refine zn ?_; refine Qa ?_)
  refine zoL hS [0] (fun A LL ρ' w' => ∃ (j : Nat), Has ρ' A ∧ Has ρ' [(3, .int .i64 j)] ∧ (j ≤ l.length) ∧ (l.any Ty.great = (l.drop j).any Ty.great) ∧ St cx w' (LL)) (fun ρ' _ => (l.length - iv (ρ' 3)).toNat) ?_ ?_
  · exact ⟨0, zh, zh, (by omega), by simp, hS.sp⟩
  rintro ρ w1 ⟨j, hA, hρ, hj, hd, hS⟩; obtain ⟨ρ, rfl⟩ := env2 hA hρ
  unfold Q7A
  all_goals (refine Q0 ?_; refine Q0 ?_; refine Q1 ?_; refine zm ?_; refine zm ?_; refine zL ?_; refine QG rfl rfl ?_; refine zn ?_)
  refine Qu rfl (fun hc => ?_) (fun hc => ?_)
  · skip
    all_goals (refine zsk ?_; refine Q0 ?_; refine Qa ?_; refine Q0 ?_; refine Q1 ?_; refine zm ?_; refine zm ?_; refine zi ?_; intro b1 o1 cs1 x1 hat1 hx1 he1; obtain ⟨vl1, rfl, hl1⟩ := QV he1; (first | (refine zv hS ?_) | (refine zvk hS ?_)))
    all_goals (refine zR1 (c := great_c (by assumption) hS) (h := ?_); rintro v1 w1 ⟨rfl, hS⟩; cases hg : x1.great)
    all_goals (refine zn ?_)
    all_goals
      first
      | (refine Q6 rfl ?_ -- Q2G c2
         all_goals (refine Q0 ?_; refine Q1 ?_; refine zm ?_; refine zn ?_; refine zr ?_; refine zf ?_)
         all_goals (first | (refine ⟨_, rfl, ?_, hS.sp⟩; rw [decide_eq_true (by omega), Bool.true_or]; done) | (refine ⟨_, rfl, ?_, hS.sp⟩; rw [decide_eq_false (by omega), hd, Bool.false_or, Q7 hx1, List.any_cons, hg, Bool.true_or]; done)))
      | (refine Q5 rfl ?_ -- Q2G c2
         all_goals refine zsk ?_)
    all_goals (refine Q1 ?_; refine zm ?_; refine zad ?_; refine zm ?_; refine zn ?_; exact ⟨⟨j + 1, zh, zh, (by omega), by rw [hd, Q7 hx1, List.any_cons, hg, Bool.false_or], hS.sp⟩, Qz (by omega)⟩)
  · skip
    all_goals (refine zex ?_; refine Q0 ?_; refine Q1 ?_; refine zm ?_; refine zn ?_; refine zr ?_; refine zf ?_; (first | (refine ⟨_, rfl, ?_, hS.sp⟩; rw [decide_eq_true (by omega), Bool.true_or]; done) | (refine ⟨_, rfl, ?_, hS.sp⟩; rw [decide_eq_false (by omega), hd, Bool.false_or, Q7 hx1, List.any_cons, hg, Bool.true_or]; done) | (refine ⟨_, rfl, ?_, hS.sp⟩; rw [decide_eq_false (by omega), hd, Bool.false_or, List.drop_of_length_le (by omega)]; rfl; done)))
theorem deep_c : ∀ (t : Ty) {cx : Cx} {w : World} {L : List Res} {cs : List Value} {left : Int}, tyR.at cx cs t → left ≤ 1000000 → St cx w L →
    Rets Tryz.prog Q3I [.agg ⟨cs⟩, .int .i64 left] w fun v w' => v = .bool (t.deepB left) ∧ St cx w' L := by
  intro t
  induction t using Ty.ind with
  | h k r l ih =>
    intro cx w L cs left ht h1 hS
    obtain ⟨v, rfl, hl⟩ := QV ht
    simp only [Ty.kind, Ty.r, Ty.l] at hl ht ⊢
    have hlen := hl.len
    rw [Ty.deepB]
    all_goals refine Qja ?_
    all_goals (unfold types_deep_lc; refine Q0 ?_; refine Q1 ?_; refine zb hS ?_; intro p2 w1 hS; refine zm ?_; refine zn ?_; refine Q0 ?_; refine Q0 ?_; refine Q1 ?_; refine zm ?_)
    all_goals (first | (refine Q3i ?_) | (refine Q3j ?_) | (refine Q1w rfl rfl (fun hc => ?_) (fun hc => ?_)))
    all_goals (refine zn ?_)
    all_goals
      first
      | (refine Q6 rfl ?_ -- Q3I c0
         all_goals (refine Q0 ?_; refine Q1 ?_; refine zm ?_; refine zn ?_; refine zr ?_; refine zf ?_)
         all_goals (refine ⟨_, rfl, ?_, hS.sp⟩; rw [if_pos (by omega)]; done))
      | (refine Q5 rfl ?_ -- Q3I c0
         all_goals refine zsk ?_)
    all_goals (refine Q0 ?_; refine Q0 ?_; refine Q1 ?_; refine Q2 rfl ?_; refine zl hS ?_; refine zL ?_; refine zm ?_; refine zn ?_; refine Qa ?_)
    refine zoL hS [1, 10, 11] (fun A LL ρ' w' => ∃ (j : Nat), Has ρ' A ∧ Has ρ' [(12, .int .i64 j)] ∧ (j ≤ l.length) ∧ (Tys.deepB l (left - 1) = Tys.deepB (l.drop j) (left - 1)) ∧ St cx w' (LL)) (fun ρ' _ => (l.length - iv (ρ' 12)).toNat) ?_ ?_
    · exact ⟨0, zh, zh, (by omega), by simp, hS.sp⟩
    rintro ρ w1 ⟨j, hA, hρ, hj, hd, hS⟩; obtain ⟨ρ, rfl⟩ := env2 hA hρ
    unfold QaA
    all_goals (refine Q0 ?_; refine Q1 ?_; refine QG rfl rfl ?_; refine zn ?_; refine Q0 ?_)
    refine Qu rfl (fun hc => ?_) (fun hc => ?_)
    · skip
      all_goals (refine zsk ?_; refine Q0 ?_; refine Qa ?_; refine Q0 ?_; refine Q1 ?_; refine zi ?_; intro b1 o1 cs1 x1 hat1 hx1 he1; obtain ⟨vl1, rfl, hl1⟩ := QV he1; (first | (refine zv hS ?_) | (refine zvk hS ?_)); refine Qe hS ?_; intro p6 w1 hS; refine zsn hS ?_; intro w1 hS; have hS := hS.ns; refine zn ?_; refine Q0 ?_; refine Q1 ?_; refine zv hS ?_; refine zm ?_; refine zsu ?_)
      all_goals (refine zR2 (c := ih _ (List.mem_of_getElem? (by assumption)) (by assumption) (by omega) hS) (h := ?_); rintro v1 w1 ⟨rfl, hS⟩; cases hg : x1.deepB (left - 1))
      all_goals (refine Q2e rfl ?_; refine zn ?_)
      all_goals
        first
        | (refine Q5 rfl ?_ -- Q3I c2
           all_goals refine zsk ?_)
        | (refine Q6 rfl ?_ -- Q3I c2
           all_goals (refine Q0 ?_; refine Q1 ?_; refine zm ?_; refine zn ?_; refine zr ?_; refine zf ?_)
           all_goals (first | (refine ⟨_, rfl, ?_, hS.sp⟩; rw [if_pos (by omega)]; done) | (refine ⟨_, rfl, ?_, hS.sp⟩; rw [if_neg (by omega), hd, Q7 hx1, Tys.deepB, hg, Bool.false_and]; done)))
      all_goals (refine Q1 ?_; refine zad ?_; refine zm ?_; refine zn ?_; exact ⟨⟨j + 1, zh, zh, (by omega), by rw [hd, Q7 hx1, Tys.deepB, hg, Bool.true_and], hS.sp⟩, Qz (by omega)⟩)
    · skip
      all_goals (refine zex ?_; refine Q0 ?_; refine Q1 ?_; refine zm ?_; refine zn ?_; refine zr ?_; refine zf ?_; (first | (refine ⟨_, rfl, ?_, hS.sp⟩; rw [if_pos (by omega)]; done) | (refine ⟨_, rfl, ?_, hS.sp⟩; rw [if_neg (by omega), hd, Q7 hx1, Tys.deepB, hg, Bool.false_and]; done) | (refine ⟨_, rfl, ?_, hS.sp⟩; rw [if_neg (by omega), hd, List.drop_of_length_le (by omega), Tys.deepB]; done)))
theorem wrong_c : ∀ (t : Ty) {cx : Cx} {w : World} {L : List Res} {cs : List Value} {regs : Int}, tyR.at cx cs t → St cx w L →
    Rets Tryz.prog Qs [.agg ⟨cs⟩, .int .i64 regs] w fun v w' => v = .int .i64 (t.wrong 8 regs) ∧ St cx w' L := by
  intro t
  induction t using Ty.ind with
  | h k r l ih =>
    intro cx w L cs regs ht hS
    obtain ⟨v, rfl, hl⟩ := QV ht
    simp only [Ty.kind, Ty.r, Ty.l] at hl ht ⊢
    have hlen := hl.len
    rw [Ty.wrong]
    all_goals refine QgO ?_
    all_goals (unfold types_wrong_lc; refine Q0 ?_; refine Q1 ?_; refine zb hS ?_; intro p2 w1 hS; refine zm ?_; refine zn ?_)
    refine zML hS [1, 2] (fun A LL ρ' w' => Has ρ' A ∧ Has ρ' [] ∧ (1 ≤ k ∧ k ≤ 4 ∧ k ≠ 1 ∧ (k ≠ 3 → l.length = 0) ∧ l.length ≤ 8) ∧ St cx w' (LL)) ?_ ?_
    · skip
      all_goals (refine Q0 ?_; refine Q1 ?_; refine Q2 rfl ?_; refine zl hS ?_; refine zn ?_; refine Qa ?_; refine Q0 ?_; refine Q1 ?_)
      all_goals (first | (refine QB ?_) | (refine QF ?_) | (refine Qf rfl rfl (fun hc => ?_) (fun hc => ?_)))
      all_goals (refine zm ?_; refine zn ?_)
      all_goals
        first
        | (refine Q6 rfl ?_ -- Qs c0
           all_goals (refine Q0 ?_; refine Q0 ?_; refine Q1 ?_; refine Q2 rfl ?_; refine zl hS ?_)
           all_goals (first | (refine Q2L ?_) | (refine Q2M ?_) | (refine Q1a rfl rfl (fun hc => ?_) (fun hc => ?_)))
           all_goals (refine zm ?_; (first | refine s_gn rfl rfl ?_ | (refine s_gy rfl ?_; refine Q2 rfl ?_)); (first | refine s_gn rfl rfl ?_ | (refine s_gy rfl ?_; refine zl hS ?_)); (first | refine s_gn rfl rfl ?_ | (refine s_gy rfl ?_; refine zL ?_)))
           all_goals (first | refine s_gn rfl rfl ?_ | (refine s_gy rfl ?_; (first | (refine QW ?_) | (refine Q1g ?_) | (refine Qr rfl rfl (fun hc => ?_) (fun hc => ?_)))))
           all_goals ((first | (refine zpt ?_) | (refine zpf ?_)); refine zn ?_)
           all_goals
             first
             | (refine Q6 rfl ?_ -- Qs c1
                all_goals (refine Q0 ?_; refine Q1 ?_; refine zm ?_; refine zn ?_; refine zr ?_; refine zf ?_)
                all_goals (refine ⟨_, rfl, ?_, hS.sp⟩; (repeat (first | rw [if_pos (by omega)] | rw [if_neg (by omega)])); done))
             | (refine Q5 rfl ?_ -- Qs c1
                all_goals refine zsk ?_)
           all_goals (refine Q0 ?_; refine Q1 ?_; refine zm ?_; refine zn ?_; refine zr ?_; refine zf ?_)
           all_goals (first | (refine ⟨_, rfl, ?_, hS.sp⟩; (repeat (first | rw [if_pos (by omega)] | rw [if_neg (by omega)])); done) | (refine ⟨_, rfl, ?_, hS.sp⟩; ((repeat (first | rw [if_pos (by omega)] | rw [if_neg (by omega)])); rw [hd, Q7 hx1, Tys.wrong, if_pos (by assumption)]); done) | (refine ⟨_, rfl, ?_, hS.sp⟩; ((repeat (first | rw [if_pos (by omega)] | rw [if_neg (by omega)])); rw [List.eq_nil_of_length_eq_zero (l := l) (by omega), Tys.wrong]); done)))
        | (refine Q5 rfl ?_ -- Qs c0
           all_goals (refine Q0 ?_; refine Q0 ?_; refine Q1 ?_)
           all_goals (first | (refine QB ?_) | (refine QF ?_) | (refine Qf rfl rfl (fun hc => ?_) (fun hc => ?_)))
           all_goals (refine zm ?_; refine zn ?_)
           all_goals
             first
             | (refine Q6 rfl ?_ -- Qs c2
                all_goals refine zsk ?_)
             | (refine Q5 rfl ?_ -- Qs c2
                all_goals (refine Q1 ?_)
                all_goals (first | (refine QB ?_) | (refine QF ?_) | (refine Qf rfl rfl (fun hc => ?_) (fun hc => ?_)))
                all_goals (refine zm ?_)
                all_goals refine zn ?_)
           all_goals
             first
             | (refine Q6 rfl ?_ -- Qs c3
                all_goals (refine Q0 ?_; refine Q1 ?_; refine Q2 rfl ?_; refine zl hS ?_; refine zL ?_)
                all_goals (first | (refine QW ?_) | (refine Q1g ?_) | (refine Qr rfl rfl (fun hc => ?_) (fun hc => ?_)))
                all_goals (refine zn ?_)
                all_goals
                  first
                  | (refine Q6 rfl ?_ -- Qs c4
                     all_goals (refine Q0 ?_; refine Q1 ?_; refine zm ?_; refine zn ?_; refine zr ?_; refine zf ?_)
                     all_goals (refine ⟨_, rfl, ?_, hS.sp⟩; (repeat (first | rw [if_pos (by omega)] | rw [if_neg (by omega)])); done))
                  | (refine Q5 rfl ?_ -- Qs c4
                     all_goals refine zsk ?_))
             | (refine Q5 rfl ?_ -- Qs c3
                all_goals (refine Q0 ?_; refine Q1 ?_)
                all_goals (first | (refine QB ?_) | (refine QF ?_) | (refine Qf rfl rfl (fun hc => ?_) (fun hc => ?_)))
                all_goals (refine zm ?_; refine zn ?_)
                all_goals
                  first
                  | (refine Q6 rfl ?_ -- Qs c5
                     all_goals (refine Q0 ?_; refine Q1 ?_; refine Q2 rfl ?_; refine zl hS ?_; refine zL ?_)
                     all_goals (first | (refine QW ?_) | (refine Q1g ?_) | (refine Qr rfl rfl (fun hc => ?_) (fun hc => ?_)))
                     all_goals (refine zn ?_)
                     all_goals
                       first
                       | (refine Q6 rfl ?_ -- Qs c6
                          all_goals (refine Q0 ?_; refine Q1 ?_; refine zm ?_; refine zn ?_; refine zr ?_; refine zf ?_)
                          all_goals (refine ⟨_, rfl, ?_, hS.sp⟩; (repeat (first | rw [if_pos (by omega)] | rw [if_neg (by omega)])); done))
                       | (refine Q5 rfl ?_ -- Qs c6
                          all_goals refine zsk ?_))
                  | (refine Q5 rfl ?_ -- Qs c5
                     all_goals (refine Q0 ?_; refine Q1 ?_; refine zm ?_; refine zn ?_; refine zr ?_; refine zf ?_)
                     all_goals (refine ⟨_, rfl, ?_, hS.sp⟩; (repeat (first | rw [if_pos (by omega)] | rw [if_neg (by omega)])); done))))
      all_goals (exact ⟨zh, zh, by omega, hS.sp⟩)
    rintro ρ w1 ⟨hA, hρ, hk, hS⟩; obtain ⟨ρ, rfl⟩ := env2 hA hρ
    all_goals (refine Q0 ?_; refine Q0 ?_; refine Q1 ?_; refine Q2 rfl ?_; refine zl hS ?_)
    all_goals (first | (refine Q3i ?_) | (refine Q3j ?_) | (refine Q1w rfl rfl (fun hc => ?_) (fun hc => ?_)))
    all_goals (refine zm ?_; (first | refine s_gn rfl rfl ?_ | (refine s_gy rfl ?_; refine Q2 rfl ?_)); (first | refine s_gn rfl rfl ?_ | (refine s_gy rfl ?_; refine zl hS ?_)); (first | refine s_gn rfl rfl ?_ | (refine s_gy rfl ?_; refine zm ?_)))
    all_goals (first | refine s_gn rfl rfl ?_ | (refine s_gy rfl ?_; (first | (refine Qdy ?_) | (refine Qdz ?_) | (refine Q3p rfl rfl (fun hc => ?_) (fun hc => ?_)))))
    all_goals ((first | (refine zpt ?_) | (refine zpf ?_)); refine zn ?_)
    all_goals
      first
      | (refine Q6 rfl ?_ -- Qs c7
         all_goals (refine Q0 ?_; refine Q1 ?_; refine zm ?_; refine zn ?_; refine zr ?_; refine zf ?_)
         all_goals (refine ⟨_, rfl, ?_, hS.sp⟩; (repeat (first | rw [if_pos (by omega)] | rw [if_neg (by omega)])); done))
      | (refine Q5 rfl ?_ -- Qs c7
         all_goals refine zsk ?_)
    all_goals (refine Q0 ?_; refine Q0 ?_; refine Q1 ?_; refine Q2 rfl ?_; refine zl hS ?_; refine zL ?_; refine zm ?_; refine zn ?_; refine Qa ?_)
    refine zoL hS [1, 44, 45] (fun A LL ρ' w' => ∃ (j : Nat), Has ρ' A ∧ Has ρ' [(46, .int .i64 j)] ∧ (j ≤ l.length) ∧ (Tys.wrong 8 l regs = Tys.wrong 8 (l.drop j) regs) ∧ St cx w' (LL)) (fun ρ' _ => (l.length - iv (ρ' 46)).toNat) ?_ ?_
    · exact ⟨0, zh, zh, (by omega), by simp, hS.sp⟩
    rintro ρ w1 ⟨j, hA, hρ, hj, hd, hS⟩; obtain ⟨ρ, rfl⟩ := env2 hA hρ
    unfold Q6q
    all_goals (refine Q0 ?_; refine Q1 ?_; refine QG rfl rfl ?_; refine zn ?_; refine Q0 ?_)
    refine Qu rfl (fun hc => ?_) (fun hc => ?_)
    · skip
      all_goals (refine zsk ?_; refine Q0 ?_; refine Qa ?_; refine Q0 ?_; refine Q1 ?_; refine zi ?_; intro b1 o1 cs1 x1 hat1 hx1 he1; obtain ⟨vl1, rfl, hl1⟩ := QV he1; (first | (refine zv hS ?_) | (refine zvk hS ?_)); refine Qe hS ?_; intro p6 w1 hS; refine zsn hS ?_; intro w1 hS; have hS := hS.ns; refine zn ?_; refine Q0 ?_; refine Q1 ?_; refine zv hS ?_; refine zm ?_; refine zR2 (c := ih _ (List.mem_of_getElem? (by assumption)) (by assumption) hS) (h := ?_); rintro v1 w1 ⟨rfl, hS⟩; refine zm ?_; refine zn ?_; refine Q0 ?_; refine Q1 ?_; refine zm ?_)
      all_goals (first | (refine Q2L ?_) | (refine Q2M ?_) | (refine Q1a rfl rfl (fun hc => ?_) (fun hc => ?_)))
      all_goals (refine zn ?_)
      all_goals
        first
        | (refine Q6 rfl ?_ -- Qs c9
           all_goals (refine Q0 ?_; refine Q1 ?_; refine zm ?_; refine zm ?_; refine zn ?_; refine zr ?_; refine zf ?_)
           all_goals (first | (refine ⟨_, rfl, ?_, hS.sp⟩; (repeat (first | rw [if_pos (by omega)] | rw [if_neg (by omega)])); done) | (refine ⟨_, rfl, ?_, hS.sp⟩; ((repeat (first | rw [if_pos (by omega)] | rw [if_neg (by omega)])); rw [hd, Q7 hx1, Tys.wrong, if_pos (by assumption)]); done)))
        | (refine Q5 rfl ?_ -- Qs c9
           all_goals refine zsk ?_)
      all_goals (refine Q1 ?_; refine zad ?_; refine zm ?_; refine zn ?_; exact ⟨⟨j + 1, zh, zh, (by omega), by rw [hd, Q7 hx1, Tys.wrong, if_neg (by omega)], hS.sp⟩, Qz (by omega)⟩)
    · skip
      all_goals (refine zex ?_; refine Q0 ?_; refine Q1 ?_; refine zm ?_; refine zn ?_; refine zr ?_; refine zf ?_; (first | (refine ⟨_, rfl, ?_, hS.sp⟩; (repeat (first | rw [if_pos (by omega)] | rw [if_neg (by omega)])); done) | (refine ⟨_, rfl, ?_, hS.sp⟩; ((repeat (first | rw [if_pos (by omega)] | rw [if_neg (by omega)])); rw [hd, Q7 hx1, Tys.wrong, if_pos (by assumption)]); done) | (refine ⟨_, rfl, ?_, hS.sp⟩; ((repeat (first | rw [if_pos (by omega)] | rw [if_neg (by omega)])); rw [List.eq_nil_of_length_eq_zero (l := l) (by omega), Tys.wrong]); done) | (refine ⟨_, rfl, ?_, hS.sp⟩; ((repeat (first | rw [if_pos (by omega)] | rw [if_neg (by omega)])); rw [hd, List.drop_of_length_le (by omega), Tys.wrong]); done)))
theorem tcheck_c {t : Ty} {cx : Cx} {w : World} {L : List Res} {cs : List Value} {regs : Int} (ht : tyR.at cx cs t) (hS : St cx w L) :
    Rets Tryz.prog Q59 [.agg ⟨cs⟩, .int .i64 regs] w fun v w' => v = .int .i64 (t.fault regs) ∧ St cx w' L := by
  obtain ⟨v, rfl, hl⟩ := QV ht
  unfold Ty.fault
  all_goals refine Qh2 ?_
  all_goals (unfold types_Check_lc; refine Q0 ?_; refine Q1 ?_; refine zb hS ?_; intro p2 w1 hS; refine zm ?_; refine zn ?_; refine Q0 ?_; refine Q0 ?_; refine Q1 ?_; refine zv hS ?_)
  all_goals (refine zR2 (c := deep_c t ht (by omega) hS) (h := ?_); rintro v1 w1 ⟨rfl, hS⟩; cases hg : t.deepB 4)
  all_goals (refine Q2e rfl ?_; refine zn ?_)
  all_goals
    first
    | (refine Q6 rfl ?_ -- Q59 c0
       all_goals (refine Q0 ?_; refine Q1 ?_; refine zm ?_; refine zn ?_; refine zr ?_; refine zf ?_)
       all_goals (refine ⟨_, rfl, ?_, hS.sp⟩; (rfl); done))
    | (refine Q5 rfl ?_ -- Q59 c0
       all_goals refine zsk ?_)
  all_goals (refine Q0 ?_; refine Q1 ?_; refine zv hS ?_; refine zm ?_; refine zR2 (c := wrong_c t ht hS) (h := ?_); rintro v1 w1 ⟨rfl, hS⟩; refine zm ?_; refine zn ?_; refine zr ?_; refine zf ?_; refine ⟨_, rfl, ?_, hS.sp⟩; (rfl); done)
end Go.Proofs.YtjecflbbcnocdaaGreatDoor
namespace Go.Proofs.YtjecflbbcnocdaaGreatDoor
open Go.Lir
set_option maxRecDepth 100000
theorem el_T22 : Q2F Tryz.prog 22 = some (43, 4, 80, [(.int .i64 0), (.slice none 0 0), (.slice none 0 0), (.slice none 0 0)]) := by kernel_rfl
theorem u_T22 : ∃ e2, Tryz.prog.underlying 22 = some (.slice e2) := ⟨43, by kernel_rfl⟩
theorem el_T40 : Q2F Tryz.prog 40 = some (91, 3, 40, [(.int .i64 0), (.int .i64 0), (.slice none 0 0)]) := by kernel_rfl
theorem u_T40 : ∃ e2, Tryz.prog.underlying 40 = some (.slice e2) := ⟨91, by kernel_rfl⟩
theorem el_T41 : Q2F Tryz.prog 41 = some (52, 12, 208, [(.int .i64 0), (.slice none 0 0), (.slice none 0 0), (.int .i64 0), (.int .i64 0), (.int .i64 0), (.slice none 0 0), (.slice none 0 0), (.int .i64 0), (.slice none 0 0), (.slice none 0 0), (.slice none 0 0)]) := by kernel_rfl
theorem u_T41 : ∃ e2, Tryz.prog.underlying 41 = some (.slice e2) := ⟨52, by kernel_rfl⟩
theorem el_T45 : Q2F Tryz.prog 45 = some (54, 8, 96, [(.int .i64 0), (.int .i64 0), (.int .i64 0), (.int .i64 0), (.int .i64 0), (.int .i64 0), (.slice none 0 0), (.slice none 0 0)]) := by kernel_rfl
theorem u_T45 : ∃ e2, Tryz.prog.underlying 45 = some (.slice e2) := ⟨54, by kernel_rfl⟩
theorem el_T46 : Q2F Tryz.prog 46 = some (3, 1, 8, [(.int .i64 0)]) := by kernel_rfl
theorem u_T46 : ∃ e2, Tryz.prog.underlying 46 = some (.slice e2) := ⟨3, by kernel_rfl⟩
theorem el_T63 : Q2F Tryz.prog 63 = some (126, 4, 40, [(.int .i64 0), (.string ⟨#[]⟩), (.bool false), (.int .i64 0)]) := by kernel_rfl
theorem u_T63 : ∃ e2, Tryz.prog.underlying 63 = some (.slice e2) := ⟨126, by kernel_rfl⟩
theorem Q1r : Q2F Tryz.prog 86 = some (9, 1, 16, [(.string ⟨#[]⟩)]) := by kernel_rfl
theorem Q2I : ∃ e2, Tryz.prog.underlying 86 = some (.slice e2) := ⟨9, by kernel_rfl⟩
theorem el_T105 : Q2F Tryz.prog 105 = some (5, 1, 1, [(.int .u8 0)]) := by kernel_rfl
end Go.Proofs.YtjecflbbcnocdaaGreatDoor
namespace Go.Proofs.YtjecflbbcnocdaaGreatDoor
open Go.Lir
set_option maxHeartbeats 1000000
attribute [local irreducible] LC.wp Q3 Qt QA retQ Q1m LO.wp Qm Calls
set_option linter.unusedSimpArgs false
set_option linter.unusedVariables false
end Go.Proofs.YtjecflbbcnocdaaGreatDoor
namespace Go.Proofs.YtjecflbbcnocdaaGreatDoor
open Go.Lir
set_option maxHeartbeats 1000000
attribute [local irreducible] LC.wp Q3 Qt QA retQ Q1m LO.wp Qm Calls
set_option linter.unusedSimpArgs false
set_option linter.unusedVariables false
theorem QlG {l : List Ty} (ih : ∀ x ∈ l, ∀ (y : Ty) {cx : Cx} {w : World} {L : List Res} {cs ds : List Value}, tyR.at cx cs x → tyR.at cx ds y → St cx w L → Rets Tryz.prog QcX [.agg ⟨cs⟩, .agg ⟨ds⟩] w fun u w' => u = .bool (decide (x = y)) ∧ St cx w' L)
    {m : List Ty} {cx : Cx} {w : World} {L : List Res} {v v2 : Value} (hl : tyR.sl cx v l) (hm : tyR.sl cx v2 m) (hS : St cx w L) : Rets Tryz.prog Q2z [v, v2] w fun u w' => u = .bool (decide (l = m)) ∧ St cx w' L := by
  have hlen := hl.len
  all_goals refine Qiu ?_
  all_goals (unfold R_SameTypes_lc; refine Q0 ?_; refine Q1 ?_; refine zm ?_; refine zn ?_; refine Q0 ?_; refine Q0 ?_; refine Q1 ?_; refine zm ?_; refine zL ?_; refine zm ?_; refine zL ?_)
  all_goals (first | (refine Q2L ?_) | (refine Q2M ?_) | (refine Q1a rfl rfl (fun hc => ?_) (fun hc => ?_)))
  all_goals (refine zn ?_)
  all_goals
    first
    | (refine Q6 rfl ?_ -- Q2z c0
       all_goals (refine Q0 ?_; refine Q1 ?_; refine zm ?_; refine zn ?_; refine zr ?_; refine zf ?_)
       all_goals (refine ⟨_, rfl, ?_, hS.sp⟩; rw [decide_eq_false]; exact fun e => absurd (congrArg List.length e) (by omega); done))
    | (refine Q5 rfl ?_ -- Q2z c0
       all_goals refine zsk ?_)
  all_goals (refine Q0 ?_; refine Q0 ?_; refine Q1 ?_; refine zm ?_; refine zn ?_; refine Qa ?_)
  refine zoL hS [0, 1] (fun A LL ρ' w' => ∃ (j : Nat), Has ρ' A ∧ Has ρ' [(5, .int .i64 j)] ∧ (j ≤ l.length) ∧ (l.length = m.length) ∧ (l = m ↔ l.drop j = m.drop j) ∧ St cx w' (LL)) (fun ρ' _ => (l.length - iv (ρ' 5)).toNat) ?_ ?_
  · exact ⟨0, zh, zh, (by omega), (by omega), by simp, hS.sp⟩
  rintro ρ w1 ⟨j, hA, hρ, hj, hlm, hd, hS⟩; obtain ⟨ρ, rfl⟩ := env2 hA hρ
  unfold Q9A
  all_goals (refine Q0 ?_; refine Q0 ?_; refine Q1 ?_; refine zm ?_; refine zm ?_; refine zL ?_; refine QG rfl rfl ?_; refine zn ?_)
  refine Qu rfl (fun hc => ?_) (fun hc => ?_)
  · skip
    all_goals (refine zsk ?_; refine Q0 ?_; refine Qa ?_; refine Q0 ?_; refine zD [(0, none), (1, none), (2, none), (3, none), (4, none), (5, none), (6, none), (7, none), (8, some none), (9, some none)] ?_; have hS := hS.drew; refine zm ?_; refine zm ?_; refine zi ?_; intro b1 o1 cs1 x1 hat1 hx1 he1; obtain ⟨vl1, rfl, hl1⟩ := QV he1; (first | (refine zv hS ?_) | (refine zvk hS ?_)); refine zm ?_; refine zm ?_; refine zi ?_; intro b2 o2 cs2 x2 hat2 hx2 he2; obtain ⟨vl2, rfl, hl2⟩ := QV he2; (first | (refine zv hS ?_) | (refine zvk hS ?_)))
    all_goals (refine zR2 (c := ih _ (List.mem_of_getElem? hx1) _ he1 he2 hS) (h := ?_); rintro v1 w1 ⟨rfl, hS⟩; (cases hdec : decide (x1 = x2)); have hg := of_decide_eq_false hdec; rotate_left; have hg := of_decide_eq_true hdec; all_goals skip)
    all_goals (refine Q2e rfl ?_; refine zn ?_)
    all_goals
      first
      | (refine Q6 rfl ?_ -- Q2z c2
         all_goals (refine Q0 ?_; refine Q1 ?_; refine zm ?_; refine zn ?_; refine zr ?_; refine zf ?_)
         all_goals (first | (refine ⟨_, rfl, ?_, hS.sp⟩; rw [decide_eq_false]; exact fun e => absurd (congrArg List.length e) (by omega); done) | (refine ⟨_, rfl, ?_, hS.sp⟩; rw [decide_eq_false]; rw [hd, Q7 hx1, Q7 hx2]; simp [hg]; done)))
      | (refine Q5 rfl ?_ -- Q2z c2
         all_goals refine zsk ?_)
    all_goals (refine Q1 ?_; refine zm ?_; refine zad ?_; refine zm ?_; refine zn ?_; exact ⟨⟨j + 1, zh, zh, (by omega), (by omega), by rw [hd, Q7 hx1, Q7 hx2, hg]; simp, hS.sp⟩, Qz (by omega)⟩)
  · skip
    all_goals (refine zex ?_; refine Q0 ?_; refine Q1 ?_; refine zm ?_; refine zn ?_; refine zr ?_; refine zf ?_; (first | (refine ⟨_, rfl, ?_, hS.sp⟩; rw [decide_eq_false]; exact fun e => absurd (congrArg List.length e) (by omega); done) | (refine ⟨_, rfl, ?_, hS.sp⟩; rw [decide_eq_false]; rw [hd, Q7 hx1, Q7 hx2]; simp [hg]; done) | (refine ⟨_, rfl, ?_, hS.sp⟩; rw [decide_eq_true]; rw [hd, List.drop_of_length_le (by omega), List.drop_of_length_le (by omega)]; done)))
theorem rsame_c : ∀ (t u : Ty) {cx : Cx} {w : World} {L : List Res} {cs ds : List Value}, tyR.at cx cs t → tyR.at cx ds u → St cx w L →
    Rets Tryz.prog QcX [.agg ⟨cs⟩, .agg ⟨ds⟩] w fun v w' => v = .bool (decide (t = u)) ∧ St cx w' L := by
  intro t
  induction t using Ty.ind with
  | h k r l ih =>
    rintro ⟨k2, r2, m⟩ cx w L cs ds ht hu hS
    obtain ⟨v, rfl, hl⟩ := QV ht
    obtain ⟨v2, rfl, hm⟩ := QV hu
    simp only [Ty.kind, Ty.r, Ty.l, Ty.mk.injEq] at hl hm ht hu ⊢
    all_goals refine Qlg ?_
    all_goals (unfold R_SameType_lc; refine Q0 ?_; refine Q1 ?_; refine zb hS ?_; intro p2 w1 hS; refine zb hS ?_; intro p3 w1 hS; refine zm ?_; refine zn ?_; refine Q0 ?_; refine Q1 ?_; refine Q2 rfl ?_; refine zl hS ?_; refine Q2 rfl ?_; refine zl hS ?_)
    all_goals (first | (refine QB ?_) | (refine QF ?_) | (refine Qf rfl rfl (fun hc => ?_) (fun hc => ?_)))
    all_goals (refine zm ?_; (first | refine s_gn rfl rfl ?_ | (refine s_gy rfl ?_; refine Q2 rfl ?_)); (first | refine s_gn rfl rfl ?_ | (refine s_gy rfl ?_; refine zl hS ?_)); (first | refine s_gn rfl rfl ?_ | (refine s_gy rfl ?_; refine Q2 rfl ?_)); (first | refine s_gn rfl rfl ?_ | (refine s_gy rfl ?_; refine zl hS ?_)))
    all_goals (first | refine s_gn rfl rfl ?_ | (refine s_gy rfl ?_; (first | (refine QB ?_) | (refine QF ?_) | (refine Qf rfl rfl (fun hc => ?_) (fun hc => ?_)))))
    all_goals ((first | (refine zpt ?_) | (refine zpf ?_)); refine zm ?_; (first | refine s_gn rfl rfl ?_ | (refine s_gy rfl ?_; refine Q2 rfl ?_)); (first | refine s_gn rfl rfl ?_ | (refine s_gy rfl ?_; refine zl hS ?_)); (first | refine s_gn rfl rfl ?_ | (refine s_gy rfl ?_; refine Q2 rfl ?_)); (first | refine s_gn rfl rfl ?_ | (refine s_gy rfl ?_; refine zl hS ?_)); (first | refine s_gn rfl rfl ?_ | (refine s_gy rfl ?_; refine zR2 (c := QlG ih hl hm hS) (h := ?_); rintro v1 w1 ⟨rfl, hS⟩)); (first | (refine zpt ?_) | (refine zpf ?_)); refine zm ?_; refine zn ?_; refine zr ?_; refine zf ?_; refine ⟨_, rfl, ?_, hS.sp⟩; (simp [*]); done)
theorem QaF {l m : List Ty} {cx : Cx} {w : World} {L : List Res} {v v2 : Value} (hl : tyR.sl cx v l) (hm : tyR.sl cx v2 m) (hS : St cx w L) : Rets Tryz.prog Q2z [v, v2] w fun u w' => u = .bool (decide (l = m)) ∧ St cx w' L :=
  QlG (fun x _ => rsame_c x) hl hm hS
/-- slices.EqualFunc, by a function that tells whether two are the same. -/
theorem eqfT_c {l : List Ty} {f : FuncId} (hf : Q2E Tryz.prog f = true) {m : List Ty} {cx : Cx} {w : World} {L : List Res} {v v2 : Value}
    (hcall : ∀ x ∈ l, ∀ y ∈ m, ∀ {w : World} {L : List Res} {cs ds : List Value}, tyR.at cx cs x → tyR.at cx ds y → St cx w L → Rets Tryz.prog f [.agg ⟨cs⟩, .agg ⟨ds⟩] w fun u w' => u = .bool (decide (x = y)) ∧ St cx w' L)
    (hl : tyR.sl cx v l) (hm : tyR.sl cx v2 m) (hS : St cx w L) : Rets Tryz.prog Qc [v, v2, .func (.func f) #[] #[]] w fun u w' => u = .bool (decide (l = m)) ∧ St cx w' L := by
  have hlen := hl.len
  all_goals refine Q19 ?_
  all_goals (unfold slices_EqualFunc_api_Type_api_Type_api_Type_api_Type_lc; refine Q0 ?_; refine Q1 ?_; refine zm ?_; refine zn ?_; refine Q0 ?_; refine Q0 ?_; refine Q1 ?_; refine zm ?_; refine zL ?_; refine zm ?_; refine zL ?_)
  all_goals (first | (refine Q2L ?_) | (refine Q2M ?_) | (refine Q1a rfl rfl (fun hc => ?_) (fun hc => ?_)))
  all_goals (refine zn ?_)
  all_goals
    first
    | (refine Q6 rfl ?_ -- Qc c0
       all_goals (refine Q0 ?_; refine Q1 ?_; refine zm ?_; refine zn ?_; refine zr ?_; refine zf ?_)
       all_goals (refine ⟨_, rfl, ?_, hS.sp⟩; rw [decide_eq_false]; exact fun e => absurd (congrArg List.length e) (by omega); done))
    | (refine Q5 rfl ?_ -- Qc c0
       all_goals refine zsk ?_)
  all_goals (refine Q0 ?_; refine Q0 ?_; refine Q1 ?_; refine zm ?_; refine zL ?_; refine zm ?_; refine zn ?_; refine Qa ?_)
  refine zoL hS [1, 2, 15, 16] (fun A LL ρ' w' => ∃ (j : Nat), Has ρ' A ∧ Has ρ' [(17, .int .i64 j)] ∧ (j ≤ l.length) ∧ (l.length = m.length) ∧ (l = m ↔ l.drop j = m.drop j) ∧ St cx w' (LL)) (fun ρ' _ => (l.length - iv (ρ' 17)).toNat) ?_ ?_
  · exact ⟨0, zh, zh, (by omega), (by omega), by simp, hS.sp⟩
  rintro ρ w1 ⟨j, hA, hρ, hj, hlm, hd, hS⟩; obtain ⟨ρ, rfl⟩ := env2 hA hρ
  unfold Qx
  all_goals (refine Q0 ?_; refine Q1 ?_; refine QG rfl rfl ?_; refine zn ?_; refine Q0 ?_)
  refine Qu rfl (fun hc => ?_) (fun hc => ?_)
  · skip
    all_goals (refine zsk ?_; refine Q0 ?_; refine Qa ?_; refine Q0 ?_; refine Q1 ?_; refine zm ?_; refine zi ?_; intro b1 o1 cs1 x1 hat1 hx1 he1; obtain ⟨vl1, rfl, hl1⟩ := QV he1; (first | (refine zv hS ?_) | (refine zvk hS ?_)); refine Qe hS ?_; intro p8 w1 hS; refine zm ?_; refine zsn hS ?_; intro w1 hS; have hS := hS.ns; refine zn ?_; refine Q0 ?_; refine Q1 ?_; refine zm ?_; refine zm ?_; refine zi ?_; intro b2 o2 cs2 x2 hat2 hx2 he2; obtain ⟨vl2, rfl, hl2⟩ := QV he2; (first | (refine zv hS ?_) | (refine zvk hS ?_)); refine Qe hS ?_; intro p9 w1 hS; refine zsn hS ?_; intro w1 hS; have hS := hS.ns; refine zn ?_; refine Q0 ?_; refine Q1 ?_; refine zm ?_; refine zv hS ?_; refine zv hS ?_)
    all_goals (refine QoE rfl hf (by rfl) (hcall _ (List.mem_of_getElem? hx1) _ (List.mem_of_getElem? hx2) he1 he2 hS) ?_; rintro v1 w1 ⟨rfl, hS⟩; (cases hdec : decide (x1 = x2)); have hg := of_decide_eq_false hdec; rotate_left; have hg := of_decide_eq_true hdec; all_goals skip)
    all_goals (refine Q2e rfl ?_; refine zn ?_)
    all_goals
      first
      | (refine Q6 rfl ?_ -- Qc c2
         all_goals (refine Q0 ?_; refine Q1 ?_; refine zm ?_; refine zn ?_; refine zr ?_; refine zf ?_)
         all_goals (first | (refine ⟨_, rfl, ?_, hS.sp⟩; rw [decide_eq_false]; exact fun e => absurd (congrArg List.length e) (by omega); done) | (refine ⟨_, rfl, ?_, hS.sp⟩; rw [decide_eq_false]; rw [hd, Q7 hx1, Q7 hx2]; simp [hg]; done)))
      | (refine Q5 rfl ?_ -- Qc c2
         all_goals refine zsk ?_)
    all_goals (refine Q1 ?_; refine zad ?_; refine zm ?_; refine zn ?_; exact ⟨⟨j + 1, zh, zh, (by omega), (by omega), by rw [hd, Q7 hx1, Q7 hx2, hg]; simp, hS.sp⟩, Qz (by omega)⟩)
  · skip
    all_goals (refine zex ?_; refine Q0 ?_; refine Q1 ?_; refine zm ?_; refine zn ?_; refine zr ?_; refine zf ?_; (first | (refine ⟨_, rfl, ?_, hS.sp⟩; rw [decide_eq_false]; exact fun e => absurd (congrArg List.length e) (by omega); done) | (refine ⟨_, rfl, ?_, hS.sp⟩; rw [decide_eq_false]; rw [hd, Q7 hx1, Q7 hx2]; simp [hg]; done) | (refine ⟨_, rfl, ?_, hS.sp⟩; rw [decide_eq_true]; rw [hd, List.drop_of_length_le (by omega), List.drop_of_length_le (by omega)]; done)))
theorem psame_c : ∀ (t u : Ty) {cx : Cx} {w : World} {L : List Res} {cs ds : List Value}, tyR.at cx cs t → tyR.at cx ds u → St cx w L →
    Rets Tryz.prog QiC [.agg ⟨cs⟩, .agg ⟨ds⟩] w fun v w' => v = .bool (decide (t = u)) ∧ St cx w' L := by
  intro t
  induction t using Ty.ind with
  | h k r l ih =>
    rintro ⟨k2, r2, m⟩ cx w L cs ds ht hu hS
    obtain ⟨v, rfl, hl⟩ := QV ht
    obtain ⟨v2, rfl, hm⟩ := QV hu
    simp only [Ty.kind, Ty.r, Ty.l, Ty.mk.injEq] at hl hm ht hu ⊢
    all_goals refine Qjo ?_
    all_goals (unfold types_Same_lc; refine Q0 ?_; refine Q1 ?_; refine zb hS ?_; intro p2 w1 hS; refine zb hS ?_; intro p3 w1 hS; refine zm ?_; refine zn ?_; refine Q0 ?_; refine Q1 ?_; refine Q2 rfl ?_; refine zl hS ?_; refine Q2 rfl ?_; refine zl hS ?_)
    all_goals (first | (refine QB ?_) | (refine QF ?_) | (refine Qf rfl rfl (fun hc => ?_) (fun hc => ?_)))
    all_goals (refine zm ?_; (first | refine s_gn rfl rfl ?_ | (refine s_gy rfl ?_; refine Q2 rfl ?_)); (first | refine s_gn rfl rfl ?_ | (refine s_gy rfl ?_; refine zl hS ?_)); (first | refine s_gn rfl rfl ?_ | (refine s_gy rfl ?_; refine Q2 rfl ?_)); (first | refine s_gn rfl rfl ?_ | (refine s_gy rfl ?_; refine zl hS ?_)))
    all_goals (first | refine s_gn rfl rfl ?_ | (refine s_gy rfl ?_; (first | (refine QB ?_) | (refine QF ?_) | (refine Qf rfl rfl (fun hc => ?_) (fun hc => ?_)))))
    all_goals ((first | (refine zpt ?_) | (refine zpf ?_)); refine zm ?_; (first | refine s_gn rfl rfl ?_ | (refine s_gy rfl ?_; refine Q2 rfl ?_)); (first | refine s_gn rfl rfl ?_ | (refine s_gy rfl ?_; refine zl hS ?_)); (first | refine s_gn rfl rfl ?_ | (refine s_gy rfl ?_; refine Q2 rfl ?_)); (first | refine s_gn rfl rfl ?_ | (refine s_gy rfl ?_; refine zl hS ?_)); (first | refine s_gn rfl rfl ?_ | (refine s_gy rfl ?_; refine zR3 (c := eqfT_c (by kernel_rfl) (fun x hx y _ {_ _ _ _} h1 h2 h3 => ih x hx y h1 h2 h3) hl hm hS) (h := ?_); rintro v1 w1 ⟨rfl, hS⟩)); (first | (refine zpt ?_) | (refine zpf ?_)); refine zm ?_; refine zn ?_; refine zr ?_; refine zf ?_; refine ⟨_, rfl, ?_, hS.sp⟩; (simp [*]); done)
end Go.Proofs.YtjecflbbcnocdaaGreatDoor
namespace Go.Lir
set_option linter.unusedVariables false
mutual
/-- Text -/
def Ty.txt : Ty → List UInt8
  | .mk k r l => if k = 2 then [104, 97, 110, 100, 108, 101, 32] ++ Lib.itoa r else if k = 4 then [97, 114, 114, 97, 121, 32] ++ Lib.itoa r else if k = 3 then [116, 117, 112, 108, 101, 32] ++ Lib.itoa r ++ [32, 40] ++ Lib.join (Tys.txts l) [44, 32] ++ [41] else [105, 110, 116]
def Tys.txts : List Ty → List (List UInt8)
  | [] => []
  | x :: l => x.txt :: Tys.txts l
end
theorem Tys.txts_map : ∀ (l : List Ty), Tys.txts l = l.map Ty.txt
  | [] => by rw [Tys.txts]; rfl
  | x :: l => by rw [Tys.txts, Tys.txts_map l]; rfl
mutual
theorem Ty.txt_len : ∀ (t : Ty), t.InR → t.txt.length + 2 ≤ 60 * t.nodes
  | .mk k r l, h => by
    obtain ⟨_, ⟨h1, h2⟩, hl⟩ := h.parts
    have hi := Lib.itoa_length_le r h1 h2
    have hj := Tys.join_len l hl
    rw [Ty.txt, Ty.nodes]
    split
    · simp only [List.length_append, List.length_cons, List.length_nil]; omega
    · split
      · simp only [List.length_append, List.length_cons, List.length_nil]; omega
      · split
        · simp only [List.length_append, List.length_cons, List.length_nil]; omega
        · simp only [List.length_cons, List.length_nil]; omega
theorem Tys.join_len : ∀ (l : List Ty), (∀ x ∈ l, x.InR) → (Lib.join (Tys.txts l) [44, 32]).length ≤ 60 * Tys.nodes l
  | [], _ => by rw [Tys.txts, Lib.join_nil]; simp
  | x :: l, h => by
    have h1 := Ty.txt_len x (h x (List.mem_cons_self ..))
    have h2 := Tys.tail_len l fun y hy => h y (List.mem_cons_of_mem _ hy)
    rw [Tys.txts, Lib.join_cons, List.length_append, Tys.nodes]
    omega
theorem Tys.tail_len : ∀ (l : List Ty), (∀ x ∈ l, x.InR) → (Lib.joinTail [44, 32] (Tys.txts l)).length ≤ 60 * Tys.nodes l
  | [], _ => by rw [Tys.txts]; simp [Lib.joinTail]
  | x :: l, h => by
    have h1 := Ty.txt_len x (h x (List.mem_cons_self ..))
    have h2 := Tys.tail_len l fun y hy => h y (List.mem_cons_of_mem _ hy)
    rw [Tys.txts, Tys.nodes]
    simp only [Lib.joinTail, List.map_cons, List.flatten_cons, List.length_append, List.length_cons, List.length_nil] at h2 ⊢
    omega
end
end Go.Lir
namespace Go.Lir
section
variable {P : Program} {l : List GO} {Q : QT} {ρ : Env} {w : World} {c : Cx} {L : List Res} {v : Value}
theorem QL {d T : Nat} {x y : Operand} {a b : List UInt8} (hx : ρ.ev x = .string ⟨a.toArray⟩) (hy : ρ.ev y = .string ⟨b.toArray⟩) (hl : a.length + b.length ≤ 9223372036854775807)
    (h : Q3 P l Q (upd ρ d (.string ⟨(a ++ b).toArray⟩)) w) : Q3 P (⟨none, .bin d .add T x y⟩ :: l) Q ρ w :=
  ⟨_, fun w0 => by
    rw [hx, hy]
    have := run_string_add_sum (P := P) w0 (⟨a.toArray⟩ : ByteArray) ⟨b.toArray⟩ (by simpa [ByteArray.size] using hl)
    rw [ByteArray.mk_append_mk] at this
    simpa [eqGuard, binOp] using this, h⟩
theorem Qng {d T : Nat} {x y : Operand} {a b : List UInt8} (hx : ρ.ev x = .string ⟨a.toArray⟩) (hy : ρ.ev y = .string ⟨b.toArray⟩)
    (h : Q3 P l Q (upd ρ d (.bool (decide (a = b)))) w) : Q3 P (⟨none, .bin d .eql T x y⟩ :: l) Q ρ w :=
  ⟨_, fun w0 => by
    rw [hx, hy]
    have e : ∀ c : List UInt8, (⟨c.toArray⟩ : ByteArray).toList = c := fun c => Lib.toList_data _
    have e2 : (a == b) = decide (a = b) := by by_cases h : a = b <;> simp [h]
    simp [eqGuard, binOp, Op.stringOp, e, e2], h⟩
theorem QoD {d T : Nat} {x y : Operand} {a b : List UInt8} (hx : ρ.ev x = .string ⟨a.toArray⟩) (hy : ρ.ev y = .string ⟨b.toArray⟩) (hab : a = b)
    (h : Q3 P l Q (upd ρ d (.bool true)) w) : Q3 P (⟨none, .bin d .eql T x y⟩ :: l) Q ρ w :=
  Qng hx hy (by rw [decide_eq_true hab]; exact h)
theorem Ql3 {w w' : World} (h : Go.RowKit.Below w.heap.size w w') : Fr NF w w' := ⟨h.os, h.tape, h.output, h.size, fun b hb _ => h.block b hb⟩
theorem Qpw (w : World) (k : Nat) (os : Array Obj) : Fr NF w (Go.Sort.grow (w.drewN k) os) :=
  ⟨rfl, rfl, rfl, by simp [Go.Sort.grow], fun b hb _ => by simp only [Go.Sort.grow, World.heap_drewN]; rw [Array.getElem?_append_left hb]⟩
/-- The table lies in what is only read. -/
def TabK (P : Program) (c : Cx) (name : String) (k : IntKind) (zs : List Int) : Prop := ∃ g, c.K g ∧ ∀ w : World, w.heap[g]? = c.H0[g]? → Lib.TabIs P w name k zs
theorem TabK.up {name : String} {k : IntKind} {zs : List Int} {c' : Cx} (h : TabK P c name k zs) (hle : c.Le c') : TabK P c' name k zs := by
  obtain ⟨g, h1, h2⟩ := h
  exact ⟨g, (hle.K g h1).1, fun w hw => h2 w (hw.trans (hle.K g h1).2)⟩
theorem TabK.now {name : String} {k : IntKind} {zs : List Int} (h : TabK P c name k zs) (hS : St c w L) : Lib.TabIs P w name k zs := by
  obtain ⟨g, h1, h2⟩ := h
  exact h2 w (hS.1.same g h1)
theorem TabK.top {name : String} {k : IntKind} {zs : List Int} (h : Lib.TabIs P w name k zs) : TabK P (Cx.top w) name k zs := by
  unfold Lib.TabIs World.var? at h
  cases hg : P.globalNamed name with
  | none => simp [hg] at h
  | some g =>
    simp only [hg, Option.bind_some] at h
    have hlt : g < w.heap.size := by
      rcases Nat.lt_or_ge g w.heap.size with h' | h'
      · exact h'
      · rw [Array.getElem?_eq_none h'] at h; simp at h
    refine ⟨g, hlt, fun w' hw' => ?_⟩
    have hw2 : w'.heap[g]? = w.heap[g]? := hw'
    unfold Lib.TabIs World.var?
    simp only [hg, Option.bind_some]
    rw [hw2]; exact h
/-- An own slice of strings: its cells. -/
theorem St.strs {T : TypeId} {i : Nat} {css : List (List Value)} {xs : List ByteArray} (hS : St c w L) (hi : nth L i = some (sl T 1 v css)) (hl : strR.ls c css xs) :
    ∃ a cap, v = .slice a xs.length cap ∧ xs.length ≤ cap ∧ (xs = [] ∨ ∃ b off, a = some ⟨b, off, none⟩ ∧ b < w.heap.size ∧ ∀ (j : Nat) x, xs[j]? = some x → w.cell? ⟨b, off + j, none⟩ = some (.string x)) := by
  obtain ⟨F, hA⟩ := hS.res hi
  have hA : Sl w.heap T 1 v F css := hA
  obtain ⟨h0, a, cap, hv, hlc, hc⟩ := hA.toR
  refine ⟨a, cap, by rw [hv, hl.1], by rw [← hl.1]; exact hlc, ?_⟩
  rcases hc with hc | ⟨b, off, ha, _, hb, hat⟩
  · exact .inl (List.eq_nil_of_length_eq_zero (by rw [← hl.1, hc]; rfl))
  · refine .inr ⟨b, off, ha, hb, fun j x hx => ?_⟩
    obtain ⟨d, h1, h2⟩ := hl.2 j x hx
    have h2 : d = [.string x] := h2
    have := At.cell (hat j d h1) (j := 0) (u := .string x) (by rw [h2]; rfl)
    rw [Nat.mul_one, Nat.add_zero] at this
    exact this
end
end Go.Lir
namespace Go.Proofs.YtjecflbbcnocdaaGreatDoor
open Go.Lir
/-- The table of powers of ten lies in what is only read. -/
abbrev PowT (c : Cx) : Prop := TabK Tryz.prog c "internal/strconv.uint64pow10" .u64 Lib.pow10Tab
end Go.Proofs.YtjecflbbcnocdaaGreatDoor
namespace Go.Proofs
open Go.Shelf
def Tryz.lays156_ren : Go.Shelf.Ren := ⟨fun | 156 => 108 | 165 => 140 | 166 => 57 | 169 => 62 | 240 => 106 | 241 => 151 | 276 => 139 | 277 => 164 | n => n, fun | 31 => 86 | 9 => 9 | 3 => 3 | 4 => 4 | 0 => 0 | 20 => 20 | 72 => 107 | 76 => 110 | 70 => 104 | 37 => 105 | 75 => 109 | 127 => 154 | 164 => 171 | 5 => 5 | 80 => 115 | n => n, fun | n => n⟩
theorem Tryz.lays156 : Go.Proofs.Lays.n156 Tryz.prog Tryz.lays156_ren := {
  mixed := by kernel_rfl
  f156 := Tryz.func108.trans (congrArg some (by kernel_rfl))
  f165 := Tryz.func140.trans (congrArg some (by kernel_rfl))
  f166 := Tryz.func57.trans (congrArg some (by kernel_rfl))
  f169 := Tryz.func62.trans (congrArg some (by kernel_rfl))
  f240 := Tryz.func106.trans (congrArg some (by kernel_rfl))
  f241 := Tryz.func151.trans (congrArg some (by kernel_rfl))
  f276 := Tryz.func139.trans (congrArg some (by kernel_rfl))
  f277 := Tryz.func164.trans (congrArg some (by kernel_rfl))
  t0 := Tryz.underlying0
  a0 := Tryz.isAgg0
  z0 := Tryz.sizeOf0
  v0 := Tryz.zeroValue0
  t3 := Tryz.underlying3
  a3 := Tryz.isAgg3
  z3 := Tryz.sizeOf3
  v3 := Tryz.zeroValue3
  t4 := Tryz.underlying4
  a4 := Tryz.isAgg4
  z4 := Tryz.sizeOf4
  v4 := Tryz.zeroValue4
  t9 := Tryz.underlying9
  a9 := Tryz.isAgg9
  z9 := Tryz.sizeOf9
  v9 := Tryz.zeroValue9
  t20 := Tryz.underlying20
  a20 := Tryz.isAgg20
  z20 := Tryz.sizeOf20
  v20 := Tryz.zeroValue20
  t31 := Tryz.underlying86
  a31 := Tryz.isAgg86
  z31 := Tryz.sizeOf86
  v31 := Tryz.zeroValue86
  t37 := Tryz.underlying105
  a37 := Tryz.isAgg105
  z37 := Tryz.sizeOf105
  v37 := Tryz.zeroValue105
  t70 := Tryz.underlying104
  a70 := Tryz.isAgg104
  z70 := Tryz.sizeOf104
  v70 := Tryz.zeroValue104
  t72 := Tryz.underlying107
  a72 := Tryz.isAgg107
  z72 := Tryz.sizeOf107
  v72 := Tryz.zeroValue107
  t75 := Tryz.underlying109
  a75 := Tryz.isAgg109
  z75 := Tryz.sizeOf109
  v75 := Tryz.zeroValue109
  t76 := Tryz.underlying110
  a76 := Tryz.isAgg110
  z76 := Tryz.sizeOf110
  v76 := Tryz.zeroValue110
  t127 := Tryz.underlying154
  a127 := Tryz.isAgg154
  z127 := Tryz.sizeOf154
  v127 := Tryz.zeroValue154
  t164 := Tryz.underlying171
  a164 := Tryz.isAgg171
  z164 := Tryz.sizeOf171
  v164 := Tryz.zeroValue171 }
theorem Tryz.Builder_Extra_156 : Builder.Extra Tryz.prog Tryz.lays156_ren := {
  sizeBuilder := by kernel_rfl
  liesBuilder := by kernel_rfl
  t5 := Tryz.underlying5
  a5 := Tryz.isAgg5
  z5 := Tryz.sizeOf5
  v5 := Tryz.zeroValue5
  infoByte := by kernel_rfl
  cellsByte := by kernel_rfl
  sizeByte := by kernel_rfl
  neB5 := by decide }
open Go.RowKit in
/-- No element: the empty string; the world is as it was. (Whatever the slice's address and capacity: a nil slice too.) (LAID: no walk: one application.) -/
theorem Tryz.strings_Join_none (a : Option Addr) (c : Nat) (sep : ByteArray) (w : World) :
    Calls Tryz.prog 108 #[.slice a 0 c, .string sep] w fun e w' => e = .returned (.string ⟨#[]⟩) ∧ w' = w := Any.strings_Join_none Tryz.lays156 Tryz.Builder_Extra_156 a c sep w
open Go.RowKit in
/-- strings.Join: "Join concatenates the elements of its first argument to create a single string. The separator string sep is placed between elements in the resulting string.": HOWEVER MANY ELEMENTS. Below the heap's end the world is as it was. (LAID: no walk: one application.) -/
theorem Tryz.strings_Join (bk o c : Nat) (xs : List ByteArray) (sep : ByteArray) (w : World) (hcells : ∀ (j : Nat) x, xs[j]? = some x → w.cell? ⟨bk, o + j, none⟩ = some (.string x)) (hbk : bk < w.heap.size) (hN : xs.length ≤ 140737488355328) (hcap : xs.length ≤ c) (hlen : (Lib.join (xs.map (·.data.toList)) sep.data.toList).length ≤ 140737488355328) :
    Calls Tryz.prog 108 #[.slice (some ⟨bk, o, none⟩) xs.length c, .string sep] w fun e w' => e = .returned (.string ⟨(Lib.join (xs.map (·.data.toList)) sep.data.toList).toArray⟩) ∧ Below w.heap.size w w' := Any.strings_Join Tryz.lays156 Tryz.Builder_Extra_156 bk o c xs sep w hcells hbk hN hcap hlen
def Tryz.lays137_ren : Go.Shelf.Ren := ⟨fun | 137 => 121 | 217 => 143 | 266 => 156 | n => n, fun | 9 => 9 | 5 => 5 | 3 => 3 | n => n, fun | n => n⟩
theorem Tryz.lays137 : Go.Proofs.Lays.n137 Tryz.prog Tryz.lays137_ren := {
  mixed := by kernel_rfl
  f137 := Tryz.func121.trans (congrArg some (by kernel_rfl))
  f217 := Tryz.func143.trans (congrArg some (by kernel_rfl))
  f266 := Tryz.func156.trans (congrArg some (by kernel_rfl))
  t3 := Tryz.underlying3
  a3 := Tryz.isAgg3
  z3 := Tryz.sizeOf3
  v3 := Tryz.zeroValue3
  t5 := Tryz.underlying5
  a5 := Tryz.isAgg5
  z5 := Tryz.sizeOf5
  v5 := Tryz.zeroValue5
  t9 := Tryz.underlying9
  a9 := Tryz.isAgg9
  z9 := Tryz.sizeOf9
  v9 := Tryz.zeroValue9 }
open Go.RowKit in
/-- strings.IndexByte: "IndexByte returns the index of the first instance of c in s, or -1 if c is not present in s.": IT RETURNS 'Lib.indexByte s c'; the world is as it was. (LAID: no walk: one application.) -/
theorem Tryz.strings_IndexByte (s : ByteArray) (c : Int) (w : World) :
    Calls Tryz.prog 121 #[.string s, .int .u8 c] w fun e w' => e = .returned (.int .i64 (Lib.indexByte s.data.toList c.toNat.toUInt8)) ∧ w' = w := Any.strings_IndexByte Tryz.lays137 s c w
def Tryz.laysM246_ren : Go.Shelf.Ren := ⟨fun | 246 => 141 | 283 => 152 | 284 => 153 | 285 => 154 | 286 => 155 | 129 => 166 | 317 => 165 | 318 => 167 | 319 => 168 | 320 => 169 | 337 => 174 | 338 => 175 | n => n, fun | 2 => 2 | 3 => 3 | 9 => 9 | 4 => 4 | 171 => 176 | 0 => 0 | 53 => 177 | 37 => 105 | 5 => 5 | 173 => 180 | 212 => 193 | 51 => 194 | 20 => 20 | 213 => 195 | 46 => 186 | 232 => 207 | 233 => 208 | n => n, fun | 17 => 0 | 18 => 4 | 19 => 5 | n => n⟩
theorem Tryz.laysM246 : Go.Proofs.LaysM.n246 Tryz.prog Tryz.laysM246_ren := {
  mixed := by kernel_rfl
  f129 := Tryz.func166.trans (congrArg some (by kernel_rfl))
  f246 := Tryz.func141.trans (congrArg some (by kernel_rfl))
  f283 := Tryz.func152.trans (congrArg some (by kernel_rfl))
  f284 := Tryz.func153.trans (congrArg some (by kernel_rfl))
  f285 := Tryz.func154.trans (congrArg some (by kernel_rfl))
  f286 := Tryz.func155.trans (congrArg some (by kernel_rfl))
  f317 := Tryz.func165.trans (congrArg some (by kernel_rfl))
  f318 := Tryz.func167.trans (congrArg some (by kernel_rfl))
  f319 := Tryz.func168.trans (congrArg some (by kernel_rfl))
  f320 := Tryz.func169.trans (congrArg some (by kernel_rfl))
  f337 := Tryz.func174.trans (congrArg some (by kernel_rfl))
  f338 := Tryz.func175.trans (congrArg some (by kernel_rfl))
  t0 := Tryz.underlying0
  a0 := Tryz.isAgg0
  z0 := Tryz.sizeOf0
  v0 := Tryz.zeroValue0
  t2 := Tryz.underlying2
  a2 := Tryz.isAgg2
  z2 := Tryz.sizeOf2
  v2 := Tryz.zeroValue2
  t3 := Tryz.underlying3
  a3 := Tryz.isAgg3
  z3 := Tryz.sizeOf3
  v3 := Tryz.zeroValue3
  t4 := Tryz.underlying4
  a4 := Tryz.isAgg4
  z4 := Tryz.sizeOf4
  v4 := Tryz.zeroValue4
  t5 := Tryz.underlying5
  a5 := Tryz.isAgg5
  z5 := Tryz.sizeOf5
  v5 := Tryz.zeroValue5
  t9 := Tryz.underlying9
  a9 := Tryz.isAgg9
  z9 := Tryz.sizeOf9
  v9 := Tryz.zeroValue9
  t20 := Tryz.underlying20
  a20 := Tryz.isAgg20
  z20 := Tryz.sizeOf20
  v20 := Tryz.zeroValue20
  t37 := Tryz.underlying105
  a37 := Tryz.isAgg105
  z37 := Tryz.sizeOf105
  v37 := Tryz.zeroValue105
  t46 := Tryz.underlying186
  a46 := Tryz.isAgg186
  z46 := Tryz.sizeOf186
  v46 := Tryz.zeroValue186
  t51 := Tryz.underlying194
  a51 := Tryz.isAgg194
  z51 := Tryz.sizeOf194
  v51 := Tryz.zeroValue194
  t53 := Tryz.underlying177
  a53 := Tryz.isAgg177
  z53 := Tryz.sizeOf177
  v53 := Tryz.zeroValue177
  t171 := Tryz.underlying176
  a171 := Tryz.isAgg176
  z171 := Tryz.sizeOf176
  v171 := Tryz.zeroValue176
  t173 := Tryz.underlying180
  a173 := Tryz.isAgg180
  z173 := Tryz.sizeOf180
  v173 := Tryz.zeroValue180
  t212 := Tryz.underlying193
  a212 := Tryz.isAgg193
  z212 := Tryz.sizeOf193
  v212 := Tryz.zeroValue193
  t213 := Tryz.underlying195
  a213 := Tryz.isAgg195
  z213 := Tryz.sizeOf195
  t232 := Tryz.underlying207
  a232 := Tryz.isAgg207
  z232 := Tryz.sizeOf207
  v232 := Tryz.zeroValue207
  t233 := Tryz.underlying208
  a233 := Tryz.isAgg208
  z233 := Tryz.sizeOf208
  v233 := Tryz.zeroValue208
  g17 := by kernel_rfl
  g18 := by kernel_rfl
  g19 := by kernel_rfl
  i0 := by kernel_rfl
  i2 := by kernel_rfl
  i3 := by kernel_rfl
  i4 := by kernel_rfl
  i5 := by kernel_rfl
  i9 := by kernel_rfl
  i20 := by kernel_rfl
  i37 := by kernel_rfl
  i46 := by kernel_rfl
  i51 := by kernel_rfl
  i53 := by kernel_rfl
  i171 := by kernel_rfl
  i173 := by kernel_rfl
  i212 := by kernel_rfl
  i232 := by kernel_rfl
  i233 := by kernel_rfl
  m17 := by kernel_rfl
  m18 := by kernel_rfl
  m19 := by kernel_rfl }
open Go.RowKit Go.Sort Go.Lib in
/-- internal/strconv.FormatInt: "FormatInt returns the string representation of i in the given base": AT BASE 10: i's decimal numeral, for every int64. The world behind the call: the world before it, new blocks behind the heap, draws. (LAID: no walk: one application.) -/
theorem Tryz.internal_strconv_FormatInt_10 (n : Int) (h0 : -9223372036854775808 ≤ n) (h1 : n ≤ 9223372036854775807) (w : World) (htab : Lib.TabIs Tryz.prog w "internal/strconv.uint64pow10" .u64 Lib.pow10Tab) :
    Calls Tryz.prog 141 #[.int .i64 n, .int .i64 10] w fun e w' => e = .returned (.string ⟨(Lib.itoa n).toArray⟩) ∧ ∃ k os, w' = grow (w.drewN k) os := Any.internal_strconv_FormatInt_10 Tryz.laysM246 n h0 h1 w htab
def Tryz.laysM171_ren : Go.Shelf.Ren := ⟨fun | 171 => 63 | 243 => 112 | 246 => 141 | 283 => 152 | 284 => 153 | 285 => 154 | 286 => 155 | 129 => 166 | 317 => 165 | 318 => 167 | 319 => 168 | 320 => 169 | 337 => 174 | 338 => 175 | n => n, fun | 3 => 3 | 9 => 9 | 2 => 2 | 4 => 4 | 171 => 176 | 0 => 0 | 53 => 177 | 37 => 105 | 5 => 5 | 173 => 180 | 212 => 193 | 51 => 194 | 20 => 20 | 213 => 195 | 46 => 186 | 232 => 207 | 233 => 208 | n => n, fun | 17 => 0 | 18 => 4 | 19 => 5 | n => n⟩
theorem Tryz.laysM171 : Go.Proofs.LaysM.n171 Tryz.prog Tryz.laysM171_ren := {
  mixed := by kernel_rfl
  f129 := Tryz.func166.trans (congrArg some (by kernel_rfl))
  f171 := Tryz.func63.trans (congrArg some (by kernel_rfl))
  f243 := Tryz.func112.trans (congrArg some (by kernel_rfl))
  f246 := Tryz.func141.trans (congrArg some (by kernel_rfl))
  f283 := Tryz.func152.trans (congrArg some (by kernel_rfl))
  f284 := Tryz.func153.trans (congrArg some (by kernel_rfl))
  f285 := Tryz.func154.trans (congrArg some (by kernel_rfl))
  f286 := Tryz.func155.trans (congrArg some (by kernel_rfl))
  f317 := Tryz.func165.trans (congrArg some (by kernel_rfl))
  f318 := Tryz.func167.trans (congrArg some (by kernel_rfl))
  f319 := Tryz.func168.trans (congrArg some (by kernel_rfl))
  f320 := Tryz.func169.trans (congrArg some (by kernel_rfl))
  f337 := Tryz.func174.trans (congrArg some (by kernel_rfl))
  f338 := Tryz.func175.trans (congrArg some (by kernel_rfl))
  t0 := Tryz.underlying0
  a0 := Tryz.isAgg0
  z0 := Tryz.sizeOf0
  v0 := Tryz.zeroValue0
  t2 := Tryz.underlying2
  a2 := Tryz.isAgg2
  z2 := Tryz.sizeOf2
  v2 := Tryz.zeroValue2
  t3 := Tryz.underlying3
  a3 := Tryz.isAgg3
  z3 := Tryz.sizeOf3
  v3 := Tryz.zeroValue3
  t4 := Tryz.underlying4
  a4 := Tryz.isAgg4
  z4 := Tryz.sizeOf4
  v4 := Tryz.zeroValue4
  t5 := Tryz.underlying5
  a5 := Tryz.isAgg5
  z5 := Tryz.sizeOf5
  v5 := Tryz.zeroValue5
  t9 := Tryz.underlying9
  a9 := Tryz.isAgg9
  z9 := Tryz.sizeOf9
  v9 := Tryz.zeroValue9
  t20 := Tryz.underlying20
  a20 := Tryz.isAgg20
  z20 := Tryz.sizeOf20
  v20 := Tryz.zeroValue20
  t37 := Tryz.underlying105
  a37 := Tryz.isAgg105
  z37 := Tryz.sizeOf105
  v37 := Tryz.zeroValue105
  t46 := Tryz.underlying186
  a46 := Tryz.isAgg186
  z46 := Tryz.sizeOf186
  v46 := Tryz.zeroValue186
  t51 := Tryz.underlying194
  a51 := Tryz.isAgg194
  z51 := Tryz.sizeOf194
  v51 := Tryz.zeroValue194
  t53 := Tryz.underlying177
  a53 := Tryz.isAgg177
  z53 := Tryz.sizeOf177
  v53 := Tryz.zeroValue177
  t171 := Tryz.underlying176
  a171 := Tryz.isAgg176
  z171 := Tryz.sizeOf176
  v171 := Tryz.zeroValue176
  t173 := Tryz.underlying180
  a173 := Tryz.isAgg180
  z173 := Tryz.sizeOf180
  v173 := Tryz.zeroValue180
  t212 := Tryz.underlying193
  a212 := Tryz.isAgg193
  z212 := Tryz.sizeOf193
  v212 := Tryz.zeroValue193
  t213 := Tryz.underlying195
  a213 := Tryz.isAgg195
  z213 := Tryz.sizeOf195
  t232 := Tryz.underlying207
  a232 := Tryz.isAgg207
  z232 := Tryz.sizeOf207
  v232 := Tryz.zeroValue207
  t233 := Tryz.underlying208
  a233 := Tryz.isAgg208
  z233 := Tryz.sizeOf208
  v233 := Tryz.zeroValue208
  g17 := by kernel_rfl
  g18 := by kernel_rfl
  g19 := by kernel_rfl
  i0 := by kernel_rfl
  i2 := by kernel_rfl
  i3 := by kernel_rfl
  i4 := by kernel_rfl
  i5 := by kernel_rfl
  i9 := by kernel_rfl
  i20 := by kernel_rfl
  i37 := by kernel_rfl
  i46 := by kernel_rfl
  i51 := by kernel_rfl
  i53 := by kernel_rfl
  i171 := by kernel_rfl
  i173 := by kernel_rfl
  i212 := by kernel_rfl
  i232 := by kernel_rfl
  i233 := by kernel_rfl
  m17 := by kernel_rfl
  m18 := by kernel_rfl
  m19 := by kernel_rfl }
open Go.RowKit Go.Sort Go.Lib in
/-- strconv.Itoa: "Itoa is equivalent to FormatInt(int64(i), 10).": i's DECIMAL NUMERAL ('Lib.itoa': a '-' where i is negative, then the digits), FOR EVERY int. The world behind the call: the world before it, new blocks behind the heap (the library's 'var a [24]byte'), draws. (LAID: no walk: one application.) -/
theorem Tryz.strconv_Itoa (n : Int) (h0 : -9223372036854775808 ≤ n) (h1 : n ≤ 9223372036854775807) (w : World) (htab : Lib.TabIs Tryz.prog w "internal/strconv.uint64pow10" .u64 Lib.pow10Tab) :
    Calls Tryz.prog 63 #[.int .i64 n] w fun e w' => e = .returned (.string ⟨(Lib.itoa n).toArray⟩) ∧ ∃ k os, w' = grow (w.drewN k) os := Any.strconv_Itoa Tryz.laysM171 n h0 h1 w htab
def Tryz.laysC174_ren : Go.Shelf.Ren := ⟨fun | 174 => 130 | 247 => 148 | 245 => 149 | 287 => 158 | 279 => 159 | 280 => 160 | 281 => 161 | 282 => 162 | 321 => 170 | 322 => 171 | 316 => 172 | 171 => 63 | 205 => 173 | 243 => 112 | 246 => 141 | 283 => 152 | 284 => 153 | 285 => 154 | 286 => 155 | 129 => 166 | 317 => 165 | 318 => 167 | 319 => 168 | 320 => 169 | 337 => 174 | 338 => 175 | n => n, fun | 9 => 9 | 3 => 3 | 2 => 2 | 75 => 109 | 85 => 165 | 4 => 4 | 167 => 183 | 5 => 5 | 53 => 177 | 175 => 184 | 46 => 186 | 168 => 187 | 37 => 105 | 0 => 0 | 210 => 201 | 21 => 21 | 127 => 154 | 145 => 206 | 143 => 204 | 171 => 176 | 173 => 180 | 212 => 193 | 51 => 194 | 20 => 20 | 213 => 195 | 232 => 207 | 233 => 208 | 80 => 115 | n => n, fun | 15 => 2 | 16 => 3 | 17 => 0 | 18 => 4 | 19 => 5 | n => n⟩
theorem Tryz.laysC174 : Go.Proofs.LaysC.n174 Tryz.prog Tryz.laysC174_ren := {
  mixed := by kernel_rfl
  f129 := Tryz.func166.trans (congrArg some (by kernel_rfl))
  f171 := Tryz.func63.trans (congrArg some (by kernel_rfl))
  f174 := Tryz.func130.trans (congrArg some (by kernel_rfl))
  f205 := Tryz.func173.trans (congrArg some (by kernel_rfl))
  f243 := Tryz.func112.trans (congrArg some (by kernel_rfl))
  f245 := Tryz.func149.trans (congrArg some (by kernel_rfl))
  f246 := Tryz.func141.trans (congrArg some (by kernel_rfl))
  f247 := Tryz.func148.trans (congrArg some (by kernel_rfl))
  f279 := Tryz.func159.trans (congrArg some (by kernel_rfl))
  f280 := Tryz.func160.trans (congrArg some (by kernel_rfl))
  f281 := Tryz.func161.trans (congrArg some (by kernel_rfl))
  f282 := Tryz.func162.trans (congrArg some (by kernel_rfl))
  f283 := Tryz.func152.trans (congrArg some (by kernel_rfl))
  f284 := Tryz.func153.trans (congrArg some (by kernel_rfl))
  f285 := Tryz.func154.trans (congrArg some (by kernel_rfl))
  f286 := Tryz.func155.trans (congrArg some (by kernel_rfl))
  f287 := Tryz.func158.trans (congrArg some (by kernel_rfl))
  f316 := Tryz.func172.trans (congrArg some (by kernel_rfl))
  f317 := Tryz.func165.trans (congrArg some (by kernel_rfl))
  f318 := Tryz.func167.trans (congrArg some (by kernel_rfl))
  f319 := Tryz.func168.trans (congrArg some (by kernel_rfl))
  f320 := Tryz.func169.trans (congrArg some (by kernel_rfl))
  f321 := Tryz.func170.trans (congrArg some (by kernel_rfl))
  f322 := Tryz.func171.trans (congrArg some (by kernel_rfl))
  f337 := Tryz.func174.trans (congrArg some (by kernel_rfl))
  f338 := Tryz.func175.trans (congrArg some (by kernel_rfl))
  t0 := Tryz.underlying0
  a0 := Tryz.isAgg0
  z0 := Tryz.sizeOf0
  v0 := Tryz.zeroValue0
  t2 := Tryz.underlying2
  a2 := Tryz.isAgg2
  z2 := Tryz.sizeOf2
  v2 := Tryz.zeroValue2
  t3 := Tryz.underlying3
  a3 := Tryz.isAgg3
  z3 := Tryz.sizeOf3
  v3 := Tryz.zeroValue3
  t4 := Tryz.underlying4
  a4 := Tryz.isAgg4
  z4 := Tryz.sizeOf4
  v4 := Tryz.zeroValue4
  t5 := Tryz.underlying5
  a5 := Tryz.isAgg5
  z5 := Tryz.sizeOf5
  v5 := Tryz.zeroValue5
  t9 := Tryz.underlying9
  a9 := Tryz.isAgg9
  z9 := Tryz.sizeOf9
  v9 := Tryz.zeroValue9
  t20 := Tryz.underlying20
  a20 := Tryz.isAgg20
  z20 := Tryz.sizeOf20
  v20 := Tryz.zeroValue20
  t21 := Tryz.underlying21
  a21 := Tryz.isAgg21
  z21 := Tryz.sizeOf21
  v21 := Tryz.zeroValue21
  t37 := Tryz.underlying105
  a37 := Tryz.isAgg105
  z37 := Tryz.sizeOf105
  v37 := Tryz.zeroValue105
  t46 := Tryz.underlying186
  a46 := Tryz.isAgg186
  z46 := Tryz.sizeOf186
  v46 := Tryz.zeroValue186
  t51 := Tryz.underlying194
  a51 := Tryz.isAgg194
  z51 := Tryz.sizeOf194
  v51 := Tryz.zeroValue194
  t53 := Tryz.underlying177
  a53 := Tryz.isAgg177
  z53 := Tryz.sizeOf177
  v53 := Tryz.zeroValue177
  t75 := Tryz.underlying109
  a75 := Tryz.isAgg109
  z75 := Tryz.sizeOf109
  v75 := Tryz.zeroValue109
  t85 := Tryz.underlying165
  a85 := Tryz.isAgg165
  z85 := Tryz.sizeOf165
  v85 := Tryz.zeroValue165
  t127 := Tryz.underlying154
  a127 := Tryz.isAgg154
  z127 := Tryz.sizeOf154
  v127 := Tryz.zeroValue154
  t143 := Tryz.underlying204
  a143 := Tryz.isAgg204
  z143 := Tryz.sizeOf204
  v143 := Tryz.zeroValue204
  t145 := Tryz.underlying206
  a145 := Tryz.isAgg206
  z145 := Tryz.sizeOf206
  v145 := Tryz.zeroValue206
  t167 := Tryz.underlying183
  a167 := Tryz.isAgg183
  z167 := Tryz.sizeOf183
  v167 := Tryz.zeroValue183
  t168 := Tryz.underlying187
  a168 := Tryz.isAgg187
  z168 := Tryz.sizeOf187
  v168 := Tryz.zeroValue187
  t171 := Tryz.underlying176
  a171 := Tryz.isAgg176
  z171 := Tryz.sizeOf176
  v171 := Tryz.zeroValue176
  t173 := Tryz.underlying180
  a173 := Tryz.isAgg180
  z173 := Tryz.sizeOf180
  v173 := Tryz.zeroValue180
  t175 := Tryz.underlying184
  a175 := Tryz.isAgg184
  z175 := Tryz.sizeOf184
  v175 := Tryz.zeroValue184
  t210 := Tryz.underlying201
  a210 := Tryz.isAgg201
  z210 := Tryz.sizeOf201
  v210 := Tryz.zeroValue201
  t212 := Tryz.underlying193
  a212 := Tryz.isAgg193
  z212 := Tryz.sizeOf193
  v212 := Tryz.zeroValue193
  t213 := Tryz.underlying195
  a213 := Tryz.isAgg195
  z213 := Tryz.sizeOf195
  t232 := Tryz.underlying207
  a232 := Tryz.isAgg207
  z232 := Tryz.sizeOf207
  v232 := Tryz.zeroValue207
  t233 := Tryz.underlying208
  a233 := Tryz.isAgg208
  z233 := Tryz.sizeOf208
  v233 := Tryz.zeroValue208
  g15 := by kernel_rfl
  g16 := by kernel_rfl
  g17 := by kernel_rfl
  g18 := by kernel_rfl
  g19 := by kernel_rfl
  t80 := Tryz.underlying115
  a80 := Tryz.isAgg115
  z80 := Tryz.sizeOf115
  v80 := Tryz.zeroValue115
  i0 := by kernel_rfl
  i2 := by kernel_rfl
  i3 := by kernel_rfl
  i4 := by kernel_rfl
  i5 := by kernel_rfl
  i9 := by kernel_rfl
  i20 := by kernel_rfl
  i21 := by kernel_rfl
  i37 := by kernel_rfl
  i46 := by kernel_rfl
  i51 := by kernel_rfl
  i53 := by kernel_rfl
  i75 := by kernel_rfl
  i80 := by kernel_rfl
  i85 := by kernel_rfl
  i127 := by kernel_rfl
  i143 := by kernel_rfl
  i145 := by kernel_rfl
  i167 := by kernel_rfl
  i168 := by kernel_rfl
  i171 := by kernel_rfl
  i173 := by kernel_rfl
  i175 := by kernel_rfl
  i210 := by kernel_rfl
  i212 := by kernel_rfl
  i232 := by kernel_rfl
  i233 := by kernel_rfl
  m15 := by kernel_rfl
  m16 := by kernel_rfl
  m17 := by kernel_rfl
  m18 := by kernel_rfl
  m19 := by kernel_rfl
  c0 := by kernel_rfl
  c2 := by kernel_rfl
  c3 := by kernel_rfl
  c4 := by kernel_rfl
  c5 := by kernel_rfl
  c9 := by kernel_rfl
  c20 := by kernel_rfl
  c21 := by kernel_rfl
  c37 := by kernel_rfl
  c46 := by kernel_rfl
  c51 := by kernel_rfl
  c53 := by kernel_rfl
  c75 := by kernel_rfl
  c80 := by kernel_rfl
  c85 := by kernel_rfl
  c127 := by kernel_rfl
  c143 := by kernel_rfl
  c145 := by kernel_rfl
  c167 := by kernel_rfl
  c168 := by kernel_rfl
  c171 := by kernel_rfl
  c173 := by kernel_rfl
  c175 := by kernel_rfl
  c210 := by kernel_rfl
  c212 := by kernel_rfl
  c213 := by kernel_rfl
  c232 := by kernel_rfl
  c233 := by kernel_rfl }
open Go.RowKit in
/-- strconv.ParseInt(s, 10, 64), AT EVERY STRING THAT SPELLS AN int64 ('Lib.parseIntB 64 s.data.toList = .ok v'): v, AND NO ERROR. (LAID: no walk: one application.) -/
theorem Tryz.strconv_ParseInt_10_at64_ok (s : ByteArray) (hmax : s.size ≤ 9223372036854775806) (v : Int) (h : Lib.parseIntB 64 s.data.toList = .ok v) (w : World) :
    Calls Tryz.prog 130 #[.string s, .int .i64 10, .int .i64 64] w fun e w' => e = .returned (.tuple #[.int .i64 v, .nilIface]) ∧ (w' = w ∨ ∃ t, w' = Lib.bytesWorld w 5 t) := Any.strconv_ParseInt_10_at64_ok Tryz.laysC174 s hmax v h w
open Go.RowKit in
/-- strconv.ParseInt(s, 10, 64), AT EVERY STRING THAT IS NO DECIMAL NUMERAL: 0, AND AN ERROR THAT IS NOT nil: a *NumError in a new block N: {Func: "ParseInt", Num: s's bytes, Err: what the variable ErrSyntax holds}. Of what was there nothing has turned. (LAID: no walk: one application.) -/
theorem Tryz.strconv_ParseInt_10_at64_syntax (s : ByteArray) (hlim : s.size ≤ 281474976710656) (h : Lib.parseIntB 64 s.data.toList = Lib.parseIntB 64 []) (ev : Value) (w : World) (hv : w.cell? ⟨2, 0, none⟩ = some ev) (hev : ev = .nilIface ∨ ∃ te pe, ev = .iface te pe) :
    Calls Tryz.prog 130 #[.string s, .int .i64 10, .int .i64 64] w fun e w' => ∃ N, e = .returned (.tuple #[.int .i64 (0), .iface 187 (.pointer (some ⟨N, 0, none⟩))]) ∧ w.heap.size ≤ N ∧ w'.heap[N]? = some (.cells #[.string ⟨#[80, 97, 114, 115, 101, 73, 110, 116]⟩, .string s, ev] 201 (0, 0)) ∧ Below w.heap.size w w' := Any.strconv_ParseInt_10_at64_syntax Tryz.laysC174 s hlim h ev w hv hev
open Go.RowKit in
/-- strconv.ParseInt(s, 10, 64), AT EVERY NUMERAL THAT NO int64 HOLDS: THE GREATEST OR THE LEAST int64, BY THE SIGN ('Lib.intSat 64'), AND AN ERROR THAT IS NOT nil: a *NumError in a new block N: {Func: "ParseInt", Num: s's bytes, Err: what the variable ErrRange holds}. Of what was there nothing has turned. (LAID: no walk: one application.) -/
theorem Tryz.strconv_ParseInt_10_at64_range (s : ByteArray) (hlim : s.size ≤ 281474976710656) (h : Lib.parseIntB 64 s.data.toList = .range) (ev : Value) (w : World) (hv : w.cell? ⟨3, 0, none⟩ = some ev) (hev : ev = .nilIface ∨ ∃ te pe, ev = .iface te pe) :
    Calls Tryz.prog 130 #[.string s, .int .i64 10, .int .i64 64] w fun e w' => ∃ N, e = .returned (.tuple #[.int .i64 (Lib.intSat 64 s.data.toList), .iface 187 (.pointer (some ⟨N, 0, none⟩))]) ∧ w.heap.size ≤ N ∧ w'.heap[N]? = some (.cells #[.string ⟨#[80, 97, 114, 115, 101, 73, 110, 116]⟩, .string s, ev] 201 (0, 0)) ∧ Below w.heap.size w w' := Any.strconv_ParseInt_10_at64_range Tryz.laysC174 s hlim h ev w hv hev
end Go.Proofs
namespace Go.Proofs.YtjecflbbcnocdaaGreatDoor
open Go.Lir
set_option maxHeartbeats 1000000
attribute [local irreducible] LC.wp Q3 Qt QA retQ Q1m LO.wp Qm Calls
set_option linter.unusedSimpArgs false
set_option linter.unusedVariables false
attribute [local irreducible] Lib.itoa Lib.join
theorem itoa_c {n : Int} {cx : Cx} {w : World} {L : List Res} (h0 : -9223372036854775808 ≤ n) (h1 : n ≤ 9223372036854775807) (hT : PowT cx) (hS : St cx w L) :
    Rets Tryz.prog 63 [.int .i64 n] w fun u w' => u = .string ⟨(Lib.itoa n).toArray⟩ ∧ St cx w' L := by
  refine Calls.mono (Tryz.strconv_Itoa n h0 h1 w (hT.now hS)) ?_
  rintro e w' ⟨rfl, k, os, rfl⟩
  exact ⟨_, rfl, rfl, hS.fr0 (Qpw w k os)⟩
theorem Qny {xs : List (List UInt8)} {sep : List UInt8} {cx : Cx} {w : World} {L : List Res} {T : TypeId} {i : Nat} {v : Value} {css : List (List Value)} (hS : St cx w L) (hi : nth L i = some (sl T 1 v css))
    (hl : strR.ls cx css (xs.map fun x => ⟨x.toArray⟩)) (hn : xs.length ≤ 140737488355328) (hlen : (Lib.join xs sep).length ≤ 140737488355328) :
    Rets Tryz.prog 108 [v, .string ⟨sep.toArray⟩] w fun u w' => u = .string ⟨(Lib.join xs sep).toArray⟩ ∧ St cx w' L := by
  obtain ⟨a, cap, rfl, hcap, hc⟩ := hS.strs hi hl
  have hm : (xs.map fun x => (⟨x.toArray⟩ : ByteArray)).map (·.data.toList) = xs := by
    rw [List.map_map]; exact (List.map_congr_left fun x _ => rfl).trans (List.map_id xs)
  rcases hc with hc | ⟨b, off, rfl, hb, hcells⟩
  · have hx : xs = [] := by simpa using hc
    subst hx
    refine Calls.mono (Tryz.strings_Join_none a cap ⟨sep.toArray⟩ w) ?_
    rintro e w' ⟨rfl, rfl⟩
    exact ⟨_, rfl, by rw [Lib.join_nil], hS⟩
  · have := Tryz.strings_Join b off cap (xs.map fun x => ⟨x.toArray⟩) ⟨sep.toArray⟩ w hcells hb (by simpa using hn) hcap (by rw [hm]; exact hlen)
    rw [hm] at this
    refine Calls.mono this ?_
    rintro e w' ⟨rfl, hbw⟩
    exact ⟨_, rfl, rfl, hS.fr0 (Ql3 hbw)⟩
theorem ttext_c : ∀ (t : Ty), t.InR → t.nodes ≤ 100000 → ∀ {cx : Cx} {w : World} {L : List Res} {cs : List Value}, tyR.at cx cs t → PowT cx → St cx w L →
    Rets Tryz.prog Q2A [.agg ⟨cs⟩] w fun u w' => u = .string ⟨t.txt.toArray⟩ ∧ St cx w' L := by
  intro t
  induction t using Ty.ind with
  | h k r l ih =>
    intro hr hn cx w L cs ht hT hS
    obtain ⟨v, rfl, hl⟩ := QV ht
    simp only [Ty.kind, Ty.r, Ty.l] at hl ht ⊢
    obtain ⟨hk, ⟨hr0, hr1⟩, hsub⟩ := hr.parts
    have hi := Lib.itoa_length_le r hr0 hr1
    rw [Ty.nodes] at hn
    have hlen := Tys.nodes_len l
    have hnm : ∀ x ∈ l, x.nodes ≤ 100000 := fun x hx => by have := Tys.nodes_mem hx; omega
    have hjl := Tys.join_len l hsub
    rw [Ty.txt]
    all_goals refine Qjl ?_
    all_goals (unfold types_Text_lc; refine Q0 ?_; refine Q1 ?_; refine zb hS ?_; intro p1 w1 hS; refine zm ?_; refine zn ?_; refine Q0 ?_; refine Q1 ?_; refine Q2 rfl ?_; refine zl hS ?_; refine zR1 (c := itoa_c hr0 hr1 hT hS) (h := ?_); rintro v1 w1 ⟨rfl, hS⟩; refine zm ?_; refine zn ?_; refine Q0 ?_; refine Q0 ?_; refine Q1 ?_; refine Q2 rfl ?_; refine zl hS ?_; refine zn ?_; refine Qa ?_; refine Q0 ?_; refine Q1 ?_)
    all_goals (first | (refine QB ?_) | (refine QF ?_) | (refine Qf rfl rfl (fun hc => ?_) (fun hc => ?_)))
    all_goals (refine zm ?_; refine zn ?_)
    all_goals
      first
      | (refine Q6 rfl ?_ -- Q2A c0
         all_goals (refine Q0 ?_; refine Q1 ?_; refine zm ?_; refine QL rfl rfl (by first | omega | (simp only [List.length_append, List.length_cons, List.length_nil]; omega)) ?_; refine zm ?_; refine zn ?_; refine zr ?_; refine zf ?_)
         all_goals (refine ⟨_, rfl, ?_, hS.sp⟩; rw [if_pos (by omega)]; done))
      | (refine Q5 rfl ?_ -- Q2A c0
         all_goals (refine Q0 ?_; refine Q1 ?_)
         all_goals (first | (refine QB ?_) | (refine QF ?_) | (refine Qf rfl rfl (fun hc => ?_) (fun hc => ?_)))
         all_goals (refine zm ?_; refine zn ?_)
         all_goals
           first
           | (refine Q6 rfl ?_ -- Q2A c1
              all_goals (refine Q0 ?_; refine Q1 ?_; refine zm ?_; refine QL rfl rfl (by first | omega | (simp only [List.length_append, List.length_cons, List.length_nil]; omega)) ?_; refine zm ?_; refine zn ?_; refine zr ?_; refine zf ?_)
              all_goals (first | (refine ⟨_, rfl, ?_, hS.sp⟩; rw [if_pos (by omega)]; done) | (refine ⟨_, rfl, ?_, hS.sp⟩; rw [if_neg (by omega), if_pos (by omega)]; done)))
           | (refine Q5 rfl ?_ -- Q2A c1
              all_goals (refine Q0 ?_; refine Q1 ?_)
              all_goals (first | (refine QB ?_) | (refine QF ?_) | (refine Qf rfl rfl (fun hc => ?_) (fun hc => ?_)))
              all_goals (refine zm ?_; refine zn ?_)
              all_goals
                first
                | (refine Q6 rfl ?_ -- Q2A c2
                   all_goals (refine Q0 ?_; refine Q1 ?_; refine zm ?_; refine zn ?_; refine Q0 ?_; refine Q0 ?_; refine Q1 ?_; refine Q2 rfl ?_; refine zl hS ?_; refine zL ?_; refine zm ?_; refine zn ?_; refine Qa ?_)
                   refine zoL hS [3, 23, 24] (fun A LL ρ' w' => ∃ (j : Nat) (u : Value) (css : List (List Value)), Has ρ' A ∧ Has ρ' [(4, u), (25, .int .i64 j)] ∧ (j ≤ l.length) ∧ (strR.ls cx css ((l.take j).map fun x => ⟨x.txt.toArray⟩)) ∧ (oneC u = true) ∧ St cx w' (sl 9 1 u css :: LL)) (fun ρ' _ => (l.length - iv (ρ' 25)).toNat) ?_ ?_
                   · exact ⟨0, .slice none 0 0, [], zh, zh, (by omega), Rep.LR.nil _ _ _, rfl, by have hS := hS.nil (T := 9) (es := 1); exact hS.sp⟩
                   rintro ρ w1 ⟨j, u, css, hA, hρ, hj, hls, hu, hS⟩; obtain ⟨ρ, rfl⟩ := env2 hA hρ
                   unfold Q9m
                   all_goals (refine Q0 ?_; refine Q1 ?_; refine QG rfl rfl ?_; refine zn ?_; refine Q0 ?_)
                   refine Qu rfl (fun hc => ?_) (fun hc => ?_)
                   · skip
                     all_goals (refine zsk ?_; refine Q0 ?_; refine Qa ?_; refine Q0 ?_; refine Q1 ?_; refine zi ?_; intro b1 o1 cs1 x1 hat1 hx1 he1; obtain ⟨vl1, rfl, hl1⟩ := QV he1; (first | (refine zv hS ?_) | (refine zvk hS ?_)); refine Qe hS ?_; intro p6 w1 hS; refine zsn hS ?_; intro w1 hS; have hS := hS.ns; refine zn ?_; refine Q1 ?_; refine zm ?_; refine zv hS ?_; refine zR1 (c := ih _ (List.mem_of_getElem? hx1) (hsub _ (List.mem_of_getElem? hx1)) (hnm _ (List.mem_of_getElem? hx1)) he1 hT hS) (h := ?_); rintro v1 w1 ⟨rfl, hS⟩; refine zB1 hS [_] ?_; intro b1 w1 hS; refine za Q1r Q2I hS ?_; intro vp1 w1 css1 hls1 hv1 hS; have hS := hS.ns; refine zm ?_; refine zn ?_; refine Q1 ?_; refine zad ?_; refine zm ?_; refine zn ?_; exact ⟨⟨j + 1, _, _, zh, zh, (by omega), by rw [Q3P hx1, List.map_append]; assumption, by assumption, hS.sp⟩, Qz (by omega)⟩)
                   · skip
                     all_goals (refine zex ?_; refine Q0 ?_; refine Q1 ?_; refine zm ?_; refine QL rfl rfl (by first | omega | (simp only [List.length_append, List.length_cons, List.length_nil]; omega)) ?_; refine QL rfl rfl (by first | omega | (simp only [List.length_append, List.length_cons, List.length_nil]; omega)) ?_; refine zm ?_; refine zR2 (c := Qny (xs := Tys.txts l) (sep := [44, 32]) hS fd (by rw [List.take_of_length_le (by omega)] at hls; rw [Tys.txts_map, List.map_map]; exact hls) (by rw [Tys.txts_map, List.length_map]; omega) (by omega)) (h := ?_); rintro v1 w1 ⟨rfl, hS⟩; refine QL rfl rfl (by first | omega | (simp only [List.length_append, List.length_cons, List.length_nil]; omega)) ?_; refine QL rfl rfl (by first | omega | (simp only [List.length_append, List.length_cons, List.length_nil]; omega)) ?_; refine zm ?_; refine zn ?_; refine zr ?_; refine zf ?_)
                     all_goals (first | (refine ⟨_, rfl, ?_, hS.sp⟩; rw [if_pos (by omega)]; done) | (refine ⟨_, rfl, ?_, hS.sp⟩; rw [if_neg (by omega), if_pos (by omega)]; done) | (refine ⟨_, rfl, ?_, hS.sp⟩; rw [if_neg (by omega), if_neg (by omega), if_pos (by omega)]; done)))
                | (refine Q5 rfl ?_ -- Q2A c2
                   all_goals (refine zsk ?_; refine Q0 ?_; refine Q1 ?_; refine zm ?_; refine zn ?_; refine zr ?_; refine zf ?_)
                   all_goals (first | (refine ⟨_, rfl, ?_, hS.sp⟩; rw [if_pos (by omega)]; done) | (refine ⟨_, rfl, ?_, hS.sp⟩; rw [if_neg (by omega), if_pos (by omega)]; done) | (refine ⟨_, rfl, ?_, hS.sp⟩; rw [if_neg (by omega), if_neg (by omega), if_pos (by omega)]; done) | (refine ⟨_, rfl, ?_, hS.sp⟩; rw [if_neg (by omega), if_neg (by omega), if_neg (by omega)]; done)))))
end Go.Proofs.YtjecflbbcnocdaaGreatDoor
namespace Go.Lir
set_option linter.unusedVariables false
def Q2m (c : UInt8) : Bool := decide (97 ≤ c.toNat ∧ c.toNat ≤ 122)
def QO (c : UInt8) : Bool := decide (48 ≤ c.toNat ∧ c.toNat ≤ 57)
def Q6p (c : UInt8) : Bool := decide (c ∈ [(40 : UInt8), 41, 123, 125, 60, 62, 44, 59])
/-- A number's text, read. -/
def QfN (t : List UInt8) : Option Int := match Lib.parseIntB 64 t with
  | .ok n => if Lib.itoa n = t then some n else none
  | _ => none
abbrev TokR := Except Int (List UInt8 × Option Int)
/-- 8: a number that is none. -/
def numT (t : List UInt8) : TokR := match QfN t with
  | some n => .ok (t, some n)
  | none => .error 8
/-- The token that stands at the beginning: its text, its number; 6: none. -/
def tok1 : List UInt8 → TokR
  | [] => .error 6
  | c :: r =>
    if Q2m c = true then .ok ((c :: r).takeWhile Q2m, none)
    else if QO c = true then numT ((c :: r).takeWhile QO)
    else if c = 45 then match r with
      | [] => .error 6
      | d :: r' => if d = 62 then .ok ([45, 62], none) else if QO d = true then numT (45 :: (d :: r').takeWhile QO) else .error 6
    else if Q6p c = true then .ok ([c], none) else .error 6
theorem Q4b {c : UInt8} {r : List UInt8} (h : Q2m c = true) : tok1 (c :: r) = .ok ((c :: r).takeWhile Q2m, none) := by
  rw [tok1.eq_def]; dsimp only; rw [if_pos h]
theorem Q2n {c : UInt8} {r : List UInt8} (h0 : ¬ Q2m c = true) (h : QO c = true) : tok1 (c :: r) = numT ((c :: r).takeWhile QO) := by
  rw [tok1.eq_def]; dsimp only; rw [if_neg h0, if_pos h]
theorem QaC {r : List UInt8} : tok1 (45 :: 62 :: r) = .ok ([45, 62], none) := by
  rw [tok1.eq_def]; dsimp only; rw [if_neg (by decide), if_neg (by decide), if_pos rfl, if_pos rfl]
theorem Q4a {d : UInt8} {r : List UInt8} (h0 : ¬ d = 62) (h : QO d = true) : tok1 (45 :: d :: r) = numT (45 :: (d :: r).takeWhile QO) := by
  rw [tok1.eq_def]; dsimp only; rw [if_neg (by decide), if_neg (by decide), if_pos rfl, if_neg h0, if_pos h]
theorem tok1_min {d : UInt8} {r : List UInt8} (h0 : ¬ d = 62) (h : ¬ QO d = true) : tok1 (45 :: d :: r) = .error 6 := by
  rw [tok1.eq_def]; dsimp only; rw [if_neg (by decide), if_neg (by decide), if_pos rfl, if_neg h0, if_neg h]
theorem tok1_one : tok1 [45] = .error 6 := by
  rw [tok1.eq_def]; dsimp only; rw [if_neg (by decide), if_neg (by decide), if_pos rfl]
theorem Qep {c : UInt8} {r : List UInt8} (h0 : ¬ Q2m c = true) (h1 : ¬ QO c = true) (h2 : ¬ c = 45) (h : Q6p c = true) : tok1 (c :: r) = .ok ([c], none) := by
  rw [tok1.eq_def]; dsimp only; rw [if_neg h0, if_neg h1, if_neg h2, if_pos h]
theorem Qnd {c : UInt8} {r : List UInt8} (h0 : ¬ Q2m c = true) (h1 : ¬ QO c = true) (h2 : ¬ c = 45) (h : ¬ Q6p c = true) : tok1 (c :: r) = .error 6 := by
  rw [tok1.eq_def]; dsimp only; rw [if_neg h0, if_neg h1, if_neg h2, if_neg h]
/-- What stands between tokens, left away; true: within a remark. -/
def skip : Bool → List UInt8 → List UInt8
  | _, [] => []
  | true, c :: r => if c = 10 then skip false r else skip true r
  | false, c :: r => if c = 10 ∨ c = 32 ∨ c = 9 ∨ c = 13 then skip false r else if c = 35 then skip true r else c :: r
structure Tok where
  at_ : Nat
  text : List UInt8
  num : Option Int
def Q3o (n : Nat) : Nat → List UInt8 → List Tok → Except Flt (List Tok)
  | 0, _, acc => .ok acc
  | k + 1, l, acc => match l with
    | [] => .ok acc
    | c :: r => match tok1 (c :: r) with
      | .error e => .error (e, (n : Int) - (c :: r).length)
      | .ok (t, m) => Q3o n k (skip false ((c :: r).drop t.length)) (acc ++ [⟨n - (c :: r).length, t, m⟩])
/-- Scan -/
def scan (s : List UInt8) : Except Flt (List Tok) := if 40000 < s.length then .error (2, 40000) else Q3o s.length (s.length + 1) (skip false s) []
theorem Q7E : ∀ (b : Bool) (l : List UInt8), (skip b l).length ≤ l.length
  | _, [] => by cases ‹Bool› <;> simp [skip]
  | true, c :: r => by
    have h1 := Q7E true r
    have h2 := Q7E false r
    rw [skip]; split <;> simp only [List.length_cons] <;> omega
  | false, c :: r => by
    have h1 := Q7E true r
    have h2 := Q7E false r
    rw [skip]; split
    · simp only [List.length_cons]; omega
    · split <;> simp only [List.length_cons] <;> omega
theorem Qeq {l : List UInt8} {t : List UInt8} {m : Option Int} (h : tok1 l = .ok (t, m)) : 0 < t.length ∧ t.length ≤ l.length := by
  have hn : ∀ {x : List UInt8} {t : List UInt8} {m : Option Int}, numT x = .ok (t, m) → t = x := by
    intro x t m h
    unfold numT at h
    split at h
    · cases h; rfl
    · cases h
  have hw : ∀ (p : UInt8 → Bool) (x : List UInt8), (x.takeWhile p).length ≤ x.length := fun p x => (List.takeWhile_prefix p).length_le
  match l, h with
  | c :: r, h =>
    rw [tok1.eq_def] at h
    dsimp only at h
    split at h
    · rename_i hc
      cases h
      exact ⟨by rw [List.takeWhile_cons, if_pos hc]; simp, hw _ _⟩
    · split at h
      · rename_i hc
        have := hn h; subst this
        exact ⟨by rw [List.takeWhile_cons, if_pos hc]; simp, hw _ _⟩
      · split at h
        · split at h
          · cases h
          · rename_i d r'
            split at h
            · cases h; simp
            · split at h
              · have := hn h; subst this
                have := hw QO (d :: r')
                simp only [List.length_cons] at this ⊢
                omega
              · cases h
        · split at h
          · cases h; simp
          · cases h
theorem Q1M {p : UInt8 → Bool} : ∀ {l : List UInt8} {c : UInt8} {r : List UInt8}, (∀ x ∈ l, p x = true) → p c = false → (l ++ c :: r).takeWhile p = l
  | [], c, r, _, hc => by rw [List.nil_append, List.takeWhile_cons, hc]; rfl
  | x :: l, c, r, h, hc => by
    rw [List.cons_append, List.takeWhile_cons, if_pos (h x (List.mem_cons_self ..)), Q1M (fun y hy => h y (List.mem_cons_of_mem _ hy)) hc]
theorem Q3H {p : UInt8 → Bool} : ∀ {l : List UInt8}, ∀ x ∈ l.takeWhile p, p x = true
  | [], x, h => by simp at h
  | y :: l, x, h => by
    rw [List.takeWhile_cons] at h
    split at h
    · rename_i hy
      rcases List.mem_cons.1 h with rfl | h
      · exact hy
      · exact Q3H x h
    · simp at h
/-- A token's text is that token, if a blank stands behind it. -/
theorem QnO {l : List UInt8} {t : List UInt8} {m : Option Int} (h : tok1 l = .ok (t, m)) (r2 : List UInt8) : tok1 (t ++ 32 :: r2) = .ok (t, m) := by
  have hd32 : QO 32 = false := by decide
  have hl32 : Q2m 32 = false := by decide
  have hn : ∀ {x : List UInt8} {t : List UInt8} {m : Option Int}, numT x = .ok (t, m) → t = x := by
    intro x t m h
    unfold numT at h
    split at h
    · cases h; rfl
    · cases h
  match l, h with
  | c :: r, h =>
    rw [tok1.eq_def] at h
    dsimp only at h
    split at h
    · rename_i hc
      cases h
      rw [List.takeWhile_cons, if_pos hc, List.cons_append, Q4b hc, ← List.cons_append, Q1M _ hl32]
      intro x hx
      rcases List.mem_cons.1 hx with rfl | hx
      · exact hc
      · exact Q3H x hx
    · rename_i hc0
      split at h
      · rename_i hc
        have h9 := hn h; subst h9
        have e : (c :: r).takeWhile QO = c :: r.takeWhile QO := by rw [List.takeWhile_cons, if_pos hc]
        have e2 : ((c :: r).takeWhile QO ++ 32 :: r2).takeWhile QO = (c :: r).takeWhile QO := Q1M Q3H hd32
        rw [e] at h e2 ⊢
        rw [List.cons_append] at e2 ⊢
        rw [Q2n hc0 hc, e2]
        exact h
      · rename_i hc1
        split at h
        · rename_i hc2
          subst hc2
          split at h
          · cases h
          · rename_i d r'
            split at h
            · rename_i hd
              cases h
              rfl
            · rename_i hd0
              split at h
              · rename_i hd
                have h9 := hn h; subst h9
                have e : (d :: r').takeWhile QO = d :: r'.takeWhile QO := by rw [List.takeWhile_cons, if_pos hd]
                have e2 : ((d :: r').takeWhile QO ++ 32 :: r2).takeWhile QO = (d :: r').takeWhile QO := Q1M Q3H hd32
                rw [e] at h e2 ⊢
                rw [List.cons_append] at e2
                rw [List.cons_append, List.cons_append, Q4a hd0 hd, e2]
                exact h
              · cases h
        · rename_i hc2
          split at h
          · rename_i hc3
            cases h
            rw [List.cons_append, List.nil_append, Qep hc0 hc1 hc2 hc3]
          · cases h
/-- A token begins with no blank. -/
theorem Qoo {l : List UInt8} {t : List UInt8} {m : Option Int} (h : tok1 l = .ok (t, m)) (r2 : List UInt8) : skip false (t ++ r2) = t ++ r2 := by
  have hlen := Qeq h
  have h2 := QnO h []
  match t, hlen, h2 with
  | c :: t', _, h2 =>
    rw [List.cons_append] at h2 ⊢
    have hc : ¬ (c = 10 ∨ c = 32 ∨ c = 9 ∨ c = 13 ∨ c = 35) := by
      have hno : ∀ c : UInt8, c = 10 ∨ c = 32 ∨ c = 9 ∨ c = 13 ∨ c = 35 → Q2m c = false ∧ QO c = false ∧ c ≠ 45 ∧ Q6p c = false := by
        rintro c (rfl | rfl | rfl | rfl | rfl) <;> decide
      intro hc
      obtain ⟨h3, h4, h5, h6⟩ := hno c hc
      rw [Qnd (by rw [h3]; decide) (by rw [h4]; decide) h5 (by rw [h6]; decide)] at h2
      cases h2
    rw [skip, if_neg (fun h => hc (by rcases h with h | h | h | h <;> simp [h])), if_neg (fun h => hc (by simp [h]))]
/-- The same but for the place. -/
def Tok.like (a b : Tok) : Prop := a.text = b.text ∧ a.num = b.num
end Go.Lir
namespace Go.Lir
section
variable {P : Program} {l : List GO} {Q : QT} {ρ : Env} {w : World} {a : List UInt8}
theorem Q6r (a : List UInt8) : (⟨a.toArray⟩ : ByteArray).size = a.length := by rw [Lib.size_eq]
theorem tx_get (a : List UInt8) (i : Nat) : (⟨a.toArray⟩ : ByteArray)[i]? = a[i]? := by
  by_cases h : i < a.length
  · rw [List.getElem?_eq_getElem h, getElem?_pos _ _ (by rw [Q6r]; exact h)]
    rfl
  · rw [List.getElem?_eq_none (by omega), getElem?_neg _ _ (by rw [Q6r]; exact h)]
theorem QnN (a : List UInt8) (i j : Nat) : (⟨a.toArray⟩ : ByteArray).extract i j = ⟨((a.take j).drop i).toArray⟩ := by
  apply ByteArray.ext
  apply Array.ext'
  simp [ByteArray.data_extract, List.drop_take]
theorem Q3S {d : Nat} {x : Operand} (hx : ρ.ev x = .string ⟨a.toArray⟩) (h : Q3 P l Q (upd ρ d (.int .i64 a.length)) w) : Q3 P (⟨none, .slen d x⟩ :: l) Q ρ w := s_slen hx (by rw [Q6r]; exact h)
theorem QjC {d m : Nat} {x i : Operand} {k : IntKind} {b : UInt8} (hx : ρ.ev x = .string ⟨a.toArray⟩) (hi : ρ.ev i = .int k (m : Int)) (hb : a[m]? = some b) (h : Q3 P l Q (upd ρ d (.int .u8 b.toNat)) w) : Q3 P (⟨none, .sidx d x i⟩ :: l) Q ρ w :=
  s_sidx hx hi (by omega) (by rw [Int.toNat_natCast, tx_get]; exact hb) h
theorem QjB {d l' h' : Nat} {x : Operand} {lo hi : Option Operand} (hx : ρ.ev x = .string ⟨a.toArray⟩) (hh : bnd ρ a.length hi h') (hl : bnd ρ 0 lo l') (h2 : h' ≤ a.length) (h3 : l' ≤ h')
    (h : Q3 P l Q (upd ρ d (.string ⟨((a.take h').drop l').toArray⟩)) w) : Q3 P (⟨none, .ssub d x lo hi⟩ :: l) Q ρ w :=
  ⟨_, l', h', hx, by rw [Q6r]; exact hh, hl, by rw [Q6r]; exact h2, h3, by rw [QnN]; exact h⟩
theorem s_sneqx {d T : Nat} {x y : Operand} {a b : List UInt8} (hx : ρ.ev x = .string ⟨a.toArray⟩) (hy : ρ.ev y = .string ⟨b.toArray⟩)
    (h : Q3 P l Q (upd ρ d (.bool (decide (a ≠ b)))) w) : Q3 P (⟨none, .bin d .neq T x y⟩ :: l) Q ρ w :=
  ⟨_, fun w0 => by
    rw [hx, hy]
    have e : ∀ c : List UInt8, (⟨c.toArray⟩ : ByteArray).toList = c := fun c => Lib.toList_data _
    have e2 : (a != b) = decide (a ≠ b) := by by_cases h : a = b <;> simp [h]
    have e3 : (a == b) = decide (a = b) := by by_cases h : a = b <;> simp [h]
    simp [eqGuard, binOp, Op.stringOp, e, e2, e3], h⟩
/-- A number that lies in memory: for measures. -/
def QpM (w : World) (b j : Nat) : Int := match w.cell? ⟨b, j, none⟩ with
  | some (.int _ n) => n
  | _ => 0
theorem Q7L {c : Cx} {L : List Res} {T b j i : Nat} {cs : List Value} {k : IntKind} {n : Int} (hS : St c w L) (hi : nth L i = some (blk b T cs)) (hj : cs[j]? = some (.int k n)) : QpM w b j = n := by
  unfold QpM; rw [(hS.blkAt hi).cell hj]
/-- A call of a function that was handed in. -/
theorem QoL {d : Nat} {x : Operand} {xs : List Operand} {f : FuncId} {args : List Value} {S : Value → World → Prop} (hx : ρ.ev x = .func (.func f) #[] #[]) (hf : Q2E P f = true) (hxs : xs.map ρ.ev = args) (hc : Rets P f args w S)
    (h : ∀ v w', S v w' → Q3 P l Q (upd ρ d v) w') : Q3 P (⟨none, .callv (some d) x xs⟩ :: l) Q ρ w := by
  unfold Q2E at hf
  rw [Option.any_eq_true] at hf
  obtain ⟨fn, h1, h2⟩ := hf
  rw [Bool.and_eq_true, Bool.not_eq_true'] at h2
  refine Qmy (cap := []) hx h1 h2.1 h2.2 (by rw [hxs, List.append_nil]) hc ?_
  rintro e w' ⟨v, rfl, hv⟩
  exact h v w' hv
end
end Go.Lir
namespace Go.Proofs.YtjecflbbcnocdaaGreatDoor
open Go.Lir
set_option maxHeartbeats 1000000
attribute [local irreducible] LC.wp Q3 Qt QA retQ Q1m LO.wp Qm Calls
set_option linter.unusedSimpArgs false
set_option linter.unusedVariables false
variable {cx : Cx} {w : World} {L : List Res}
theorem Qnw {c : UInt8} (hS : St cx w L) : Rets Tryz.prog Qdn [.int .u8 c.toNat] w fun u w' => u = .bool (Q2m c) ∧ St cx w' L := by
  all_goals refine QeV ?_
  all_goals (unfold token_letter_lc; refine Q0 ?_; refine Q1 ?_; refine zm ?_; refine zn ?_; refine Q0 ?_; refine Q1 ?_; refine zm ?_)
  all_goals (first | (refine Qdy ?_) | (refine Qdz ?_) | (refine Q3p rfl rfl (fun hc => ?_) (fun hc => ?_)))
  all_goals (refine zm ?_; (first | refine s_gn rfl rfl ?_ | (refine s_gy rfl ?_; refine zm ?_)))
  all_goals (first | refine s_gn rfl rfl ?_ | (refine s_gy rfl ?_; (first | (refine zleqt ?_) | (refine zleqf ?_) | (refine Qmv rfl rfl (fun hc => ?_) (fun hc => ?_)))))
  all_goals ((first | (refine zpt ?_) | (refine zpf ?_)); refine zm ?_; refine zn ?_; refine zr ?_; refine zf ?_; exact ⟨_, rfl, (by unfold Q2m; first | rw [decide_eq_true (by omega)] | rw [decide_eq_false (by omega)]), hS.sp⟩)
theorem QmY {c : UInt8} (hS : St cx w L) : Rets Tryz.prog QeX [.int .u8 c.toNat] w fun u w' => u = .bool (QO c) ∧ St cx w' L := by
  all_goals refine Qh5 ?_
  all_goals (unfold token_digit_lc; refine Q0 ?_; refine Q1 ?_; refine zm ?_; refine zn ?_; refine Q0 ?_; refine Q1 ?_; refine zm ?_)
  all_goals (first | (refine Qdy ?_) | (refine Qdz ?_) | (refine Q3p rfl rfl (fun hc => ?_) (fun hc => ?_)))
  all_goals (refine zm ?_; (first | refine s_gn rfl rfl ?_ | (refine s_gy rfl ?_; refine zm ?_)))
  all_goals (first | refine s_gn rfl rfl ?_ | (refine s_gy rfl ?_; (first | (refine zleqt ?_) | (refine zleqf ?_) | (refine Qmv rfl rfl (fun hc => ?_) (fun hc => ?_)))))
  all_goals ((first | (refine zpt ?_) | (refine zpf ?_)); refine zm ?_; refine zn ?_; refine zr ?_; refine zf ?_; exact ⟨_, rfl, (by unfold QO; first | rw [decide_eq_true (by omega)] | rw [decide_eq_false (by omega)]), hS.sp⟩)
end Go.Proofs.YtjecflbbcnocdaaGreatDoor
namespace Go.Proofs.YtjecflbbcnocdaaGreatDoor
open Go.Lir
set_option maxHeartbeats 1000000
attribute [local irreducible] LC.wp Q3 Qt QA retQ Q1m LO.wp Qm Calls
set_option linter.unusedSimpArgs false
set_option linter.unusedVariables false
theorem pi_nil (n : Int) : Lib.parseIntB 64 [] ≠ .ok n := fun h => by cases h
theorem pi_cases (t : List UInt8) : (∃ n, Lib.parseIntB 64 t = .ok n) ∨ Lib.parseIntB 64 t = .range ∨ Lib.parseIntB 64 t = Lib.parseIntB 64 [] := by
  cases h : Lib.parseIntB 64 t with
  | ok n => exact .inl ⟨n, rfl⟩
  | range => exact .inr (.inl rfl)
  | _ => exact .inr (.inr rfl)
attribute [local irreducible] Lib.itoa Lib.parseIntB
variable {cx : Cx} {w : World} {L : List Res}
/-- An error of the library's lies in what is only read. -/
def ErrV (c : Cx) (g : Nat) : Prop := c.K g ∧ ∀ w : World, w.heap[g]? = c.H0[g]? → ∃ ev, w.cell? ⟨g, 0, none⟩ = some ev ∧ (ev = .nilIface ∨ ∃ te pe, ev = .iface te pe)
theorem ErrV.up {c c' : Cx} {g : Nat} (h : ErrV c g) (hle : c.Le c') : ErrV c' g := ⟨(hle.K g h.1).1, fun w hw => h.2 w (hw.trans (hle.K g h.1).2)⟩
theorem ErrV.now {c : Cx} {g : Nat} (h : ErrV c g) (hS : St c w L) : ∃ ev, w.cell? ⟨g, 0, none⟩ = some ev ∧ (ev = .nilIface ∨ ∃ te pe, ev = .iface te pe) := h.2 w (hS.1.same g h.1)
/-- What the numbers' texts need. -/
structure NumK (c : Cx) : Prop where
  pow : PowT c
  syn : ErrV c 2
  rng : ErrV c 3
theorem NumK.up {c c' : Cx} (h : NumK c) (hle : c.Le c') : NumK c' := ⟨h.pow.up hle, h.syn.up hle, h.rng.up hle⟩
theorem bytes_fr (w : World) (T : TypeId) (t : ByteArray) : Fr NF w (Lib.bytesWorld w T t) :=
  ⟨rfl, rfl, rfl, by rw [Lib.bytesWorld_size]; omega, fun b hb _ => Lib.bytesWorld_at_old w T t b hb⟩
theorem ifmt_c {n : Int} (h0 : -9223372036854775808 ≤ n) (h1 : n ≤ 9223372036854775807) (hT : PowT cx) (hS : St cx w L) :
    Rets Tryz.prog 141 [.int .i64 n, .int .i64 10] w fun u w' => u = .string ⟨(Lib.itoa n).toArray⟩ ∧ St cx w' L := by
  refine Calls.mono (Tryz.internal_strconv_FormatInt_10 n h0 h1 w (hT.now hS)) ?_
  rintro e w' ⟨rfl, k, os, rfl⟩
  exact ⟨_, rfl, rfl, hS.fr0 (Qpw w k os)⟩
/-- A number's text, read: the number, or an error. -/
theorem parse_c {t : List UInt8} (ht : t.length ≤ 100000) (hT : NumK cx) (hS : St cx w L) :
    Rets Tryz.prog 130 [.string ⟨t.toArray⟩, .int .i64 10, .int .i64 64] w fun u w' => (∃ n, Lib.parseIntB 64 t = .ok n ∧ u = .tuple #[.int .i64 n, .nilIface] ∧ St cx w' L) ∨ ((∀ n, Lib.parseIntB 64 t ≠ .ok n) ∧ ∃ n T p, u = .tuple #[.int .i64 n, .iface T p] ∧ oneC p = true ∧ St cx w' L) := by
  have hsz : (⟨t.toArray⟩ : ByteArray).size = t.length := Q6r t
  rcases pi_cases t with ⟨n, h⟩ | h | h
  · refine Calls.mono (Tryz.strconv_ParseInt_10_at64_ok ⟨t.toArray⟩ (by omega) n h w) ?_
    rintro e w' ⟨rfl, h2⟩
    refine ⟨_, rfl, .inl ⟨n, h, rfl, ?_⟩⟩
    rcases h2 with rfl | ⟨s, rfl⟩
    · exact hS
    · exact hS.fr0 (bytes_fr w _ s)
  · obtain ⟨ev, h1, h2⟩ := hT.rng.now hS
    refine Calls.mono (Tryz.strconv_ParseInt_10_at64_range ⟨t.toArray⟩ (by omega) h ev w h1 h2) ?_
    rintro e w' ⟨N, rfl, _, _, hb⟩
    exact ⟨_, rfl, .inr ⟨fun n hn => (by rw [h] at hn; cases hn), _, _, _, rfl, rfl, hS.fr0 (Ql3 hb)⟩⟩
  · obtain ⟨ev, h1, h2⟩ := hT.syn.now hS
    refine Calls.mono (Tryz.strconv_ParseInt_10_at64_syntax ⟨t.toArray⟩ (by omega) h ev w h1 h2) ?_
    rintro e w' ⟨N, rfl, _, _, hb⟩
    exact ⟨_, rfl, .inr ⟨fun n hn => pi_nil n (h.symm.trans hn), _, _, _, rfl, rfl, hS.fr0 (Ql3 hb)⟩⟩
theorem fmtp_c {n : Int} (h0 : -9223372036854775808 ≤ n) (h1 : n ≤ 9223372036854775807) (hT : PowT cx) (hS : St cx w L) :
    Rets Tryz.prog 109 [.int .i64 n, .int .i64 10] w fun u w' => u = .string ⟨(Lib.itoa n).toArray⟩ ∧ St cx w' L := by
  all_goals refine Q7T ?_
  all_goals (unfold strconv_FormatInt_lc; refine Q0 ?_; refine Q1 ?_; refine zm ?_; refine zn ?_; refine Q0 ?_; refine Q1 ?_; refine zm ?_; refine zm ?_; refine zR2 (c := ifmt_c h0 h1 hT hS) (h := ?_); rintro v1 w1 ⟨rfl, hS⟩; refine zm ?_; refine zn ?_; refine zr ?_; refine zf ?_; exact ⟨_, rfl, rfl, hS.sp⟩)
theorem fmt_c {n : Int} (h0 : -9223372036854775808 ≤ n) (h1 : n ≤ 9223372036854775807) (hT : NumK cx) (hS : St cx w L) :
    Rets Tryz.prog 109 [.int .i64 n, .int .i64 10] w fun u w' => u = .string ⟨(Lib.itoa n).toArray⟩ ∧ St cx w' L := fmtp_c h0 h1 hT.pow hS
theorem iby_c {s : List UInt8} {c : UInt8} (hS : St cx w L) : Rets Tryz.prog 121 [.string ⟨s.toArray⟩, .int .u8 c.toNat] w fun u w' => u = .int .i64 (Lib.indexByte s c) ∧ St cx w' L := by
  refine Calls.mono (Tryz.strings_IndexByte ⟨s.toArray⟩ c.toNat w) ?_
  rintro e w' ⟨rfl, rfl⟩
  refine ⟨_, rfl, ?_, hS⟩
  rw [Int.toNat_natCast]
  simp
theorem ihp_c {s p : List UInt8} (hl : s.length ≤ 100000) (hS : St cx w L) : Rets Tryz.prog 142 [.string ⟨s.toArray⟩, .string ⟨p.toArray⟩] w fun u w' => u = .bool (decide (s.take p.length = p)) ∧ St cx w' L := by
  all_goals refine Q2W ?_
  all_goals (unfold internal_stringslite_HasPrefix_lc; refine Q0 ?_; refine Q1 ?_; refine zm ?_; refine zn ?_; refine Q0 ?_; refine Q1 ?_; refine zm ?_; refine Q3S rfl ?_; refine zm ?_; refine Q3S rfl ?_)
  all_goals (first | (refine Qdy ?_) | (refine Qdz ?_) | (refine Q3p rfl rfl (fun hc => ?_) (fun hc => ?_)))
  all_goals (refine zm ?_; (first | refine s_gn rfl rfl ?_ | (refine s_gy rfl ?_; refine zm ?_)); (first | refine s_gn rfl rfl ?_ | (refine s_gy rfl ?_; refine zm ?_)); (first | refine s_gn rfl rfl ?_ | (refine s_gy rfl ?_; refine Q3S rfl ?_)); (first | refine s_gn rfl rfl ?_ | (refine s_gy rfl ?_; refine QjB rfl (h' := p.length) ⟨_, rfl⟩ rfl (by omega) (by omega) ?_; rw [List.drop_zero])); (first | refine s_gn rfl rfl ?_ | (refine s_gy rfl ?_; refine zm ?_)); (first | refine s_gn rfl rfl ?_ | (refine s_gy rfl ?_; refine Qng rfl rfl ?_)); (first | (refine zpt ?_) | (refine zpf ?_)); refine zm ?_; refine zn ?_; refine zr ?_; refine zf ?_; (first | exact ⟨_, rfl, rfl, hS.sp⟩ | exact ⟨_, rfl, (by rw [decide_eq_false]; intro h; have h9 := congrArg List.length h; rw [List.length_take] at h9; omega), hS.sp⟩))
theorem hp_c {s p : List UInt8} (hl : s.length ≤ 100000) (hS : St cx w L) : Rets Tryz.prog 120 [.string ⟨s.toArray⟩, .string ⟨p.toArray⟩] w fun u w' => u = .bool (decide (s.take p.length = p)) ∧ St cx w' L := by
  all_goals refine Q7Q ?_
  all_goals (unfold strings_HasPrefix_lc; refine Q0 ?_; refine Q1 ?_; refine zm ?_; refine zn ?_; refine Q0 ?_; refine Q1 ?_; refine zm ?_; refine zm ?_; refine zR2 (c := ihp_c hl hS) (h := ?_); rintro v1 w1 ⟨rfl, hS⟩; refine zm ?_; refine zn ?_; refine zr ?_; refine zf ?_; exact ⟨_, rfl, rfl, hS.sp⟩)
end Go.Proofs.YtjecflbbcnocdaaGreatDoor
namespace Go.Lir
section
variable {c : UInt8} {r l : List UInt8} {rem : Bool} {src : List UInt8} {i at0 : Nat}
theorem skip_nil : skip rem [] = [] := by cases rem <;> rfl
theorem skip_nl (h : c.toNat = 10) : skip rem (c :: r) = skip false r := by
  obtain rfl : c = 10 := UInt8.toNat_inj.1 h
  cases rem
  · rw [skip, if_pos (.inl rfl)]
  · rw [skip, if_pos rfl]
theorem skip_rem (h : c.toNat ≠ 10) : skip true (c :: r) = skip true r := by
  rw [skip, if_neg (by rintro rfl; exact h rfl)]
theorem skip_bl (h : c.toNat = 32 ∨ c.toNat = 9 ∨ c.toNat = 13) : skip false (c :: r) = skip false r := by
  rw [skip, if_pos (by rcases h with h | h | h; exact .inr (.inl (UInt8.toNat_inj.1 h)); exact .inr (.inr (.inl (UInt8.toNat_inj.1 h))); exact .inr (.inr (.inr (UInt8.toNat_inj.1 h))))]
theorem Qot (h : c.toNat = 35) : skip false (c :: r) = skip true r := by
  obtain rfl : c = 35 := UInt8.toNat_inj.1 h
  rw [skip, if_neg (by decide), if_pos rfl]
theorem Qos (h0 : c.toNat ≠ 10) (h1 : c.toNat ≠ 32) (h2 : c.toNat ≠ 9) (h3 : c.toNat ≠ 13) (h4 : c.toNat ≠ 35) : skip false (c :: r) = c :: r := by
  rw [skip, if_neg, if_neg (fun h : c = 35 => h4 (by rw [h]; rfl))]
  rintro (h | h | h | h) <;> subst h
  · exact h0 rfl
  · exact h1 rfl
  · exact h2 rfl
  · exact h3 rfl
theorem QaD {p : UInt8 → Bool} : ∀ {l : List UInt8}, (∀ x ∈ l, p x = true) → l.takeWhile p = l
  | [], _ => rfl
  | x :: l, h => by rw [List.takeWhile_cons, if_pos (h x (List.mem_cons_self ..)), QaD fun y hy => h y (List.mem_cons_of_mem _ hy)]
/-- So many that pass. -/
theorem Qoh {p : UInt8 → Bool} {k : Nat} (h : ∀ x ∈ (src.drop at0).take k, p x = true) (hk : at0 + k ≤ src.length) (hs : ∀ x, src[at0 + k]? = some x → p x = false) : (src.take (at0 + k)).drop at0 = (src.drop at0).takeWhile p ∧ k = ((src.drop at0).takeWhile p).length := by
  have e : (src.take (at0 + k)).drop at0 = (src.drop at0).take k := by rw [List.drop_take]; congr 1; omega
  have hlen : ((src.drop at0).take k).length = k := by rw [List.length_take, List.length_drop]; omega
  have e2 : (src.drop at0).takeWhile p = (src.drop at0).take k := by
    obtain ⟨A, hA⟩ : ∃ A, (src.drop at0).take k = A := ⟨_, rfl⟩
    have e3 : src.drop at0 = A ++ src.drop (at0 + k) := by rw [← hA, ← List.drop_drop, List.take_append_drop]
    rw [hA] at h ⊢
    rw [e3]
    rcases Nat.lt_or_ge (at0 + k) src.length with h2 | h2
    · obtain ⟨x, hx⟩ : ∃ x, src[at0 + k]? = some x := ⟨_, List.getElem?_eq_getElem h2⟩
      rw [Q7 hx, Q1M h (hs x hx)]
    · rw [List.drop_of_length_le h2, List.append_nil]
      exact QaD h
  rw [e, e2, hlen]
  exact ⟨rfl, rfl⟩
theorem QnM {p : UInt8 → Bool} {k : Nat} {x : UInt8} (h : ∀ x ∈ (src.drop at0).take k, p x = true) (hx : src[at0 + k]? = some x) (hp : p x = true) : ∀ x ∈ (src.drop at0).take (k + 1), p x = true :=
  QbM h (by rw [List.getElem?_drop]; exact hx) hp
end
end Go.Lir
namespace Go.Lir
def tokR : Rep Tok where
  es := 4
  pos := by decide
  R := fun _ _ cs t => cs = [.int .i64 t.at_, .string ⟨t.text.toArray⟩, .bool t.num.isSome, .int .i64 (t.num.getD 0)]
  len := by rintro _ _ _ _ rfl; rfl
  one := by
    rintro _ _ _ t rfl u hu
    simp at hu
    rcases hu with rfl | rfl | rfl | rfl <;> rfl
  turn := fun h _ => h
theorem Q1z {c : Cx} {cs : List Value} {t : Tok} (h : tokR.at c cs t) : cs = [.int .i64 t.at_, .string ⟨t.text.toArray⟩, .bool t.num.isSome, .int .i64 (t.num.getD 0)] := h
section
variable {src t : List UInt8} {m : Option Int} {e : Int} {k i n : Nat} {out : List Tok}
theorem Qf0 (h : 40000 < src.length) : scan src = .error (2, 40000) := by unfold scan; rw [if_pos h]
theorem scan_few (h : ¬ 40000 < src.length) (hi : src.drop i = skip false src) : scan src = Q3o src.length (src.length + 1) (src.drop i) [] := by unfold scan; rw [if_neg h, hi]
theorem scanL_ok (hi : i < src.length) (h : tok1 (src.drop i) = .ok (t, m)) : Q3o src.length (k + 1) (src.drop i) out = Q3o src.length k (skip false (src.drop (i + t.length))) (out ++ [⟨i, t, m⟩]) := by
  obtain ⟨c, hc⟩ : ∃ x, src[i]? = some x := ⟨_, List.getElem?_eq_getElem hi⟩
  have hd := Q7 hc
  rw [← List.drop_drop]
  have hl : src.length - (src.drop i).length = i := by rw [List.length_drop]; omega
  revert h hl
  rw [hd]
  intro h hl
  rw [Q3o, h]
  dsimp only
  rw [hl]
theorem QlA (hi : i < src.length) (h : tok1 (src.drop i) = .error e) : Q3o src.length (k + 1) (src.drop i) out = .error (e, (i : Int)) := by
  obtain ⟨c, hc⟩ : ∃ x, src[i]? = some x := ⟨_, List.getElem?_eq_getElem hi⟩
  have hd := Q7 hc
  have hl : (src.length : Int) - (src.drop i).length = i := by rw [List.length_drop]; omega
  revert h hl
  rw [hd]
  intro h hl
  rw [Q3o, h]
  dsimp only
  rw [hl]
theorem QoB (hi : src.length ≤ i) : Q3o src.length k (src.drop i) out = .ok out := by
  rw [List.drop_of_length_le hi]; cases k <;> rfl
theorem QoA {i2 : Nat} (hd : scan src = Q3o src.length (k + 1) (src.drop i) out) (hi : i < src.length) (h : tok1 (src.drop i) = .ok (t, m)) (h2 : src.drop i2 = skip false (src.drop (i + t.length))) : scan src = Q3o src.length k (src.drop i2) (out ++ [⟨i, t, m⟩]) := by
  rw [hd, scanL_ok hi h, h2]
theorem tok1_fit (hi : i < src.length) (h : tok1 (src.drop i) = .ok (t, m)) : 0 < t.length ∧ i + t.length ≤ src.length := by
  have := Qeq h
  rw [List.length_drop] at this
  omega
end
end Go.Lir
namespace Go.Lir
theorem tok1_err {l : List UInt8} {e : Int} (h : tok1 l = .error e) : e = 6 ∨ e = 8 := by
  have hn : ∀ {x : List UInt8} {e : Int}, numT x = .error e → e = 8 := by
    intro x e h
    unfold numT at h
    split at h
    · cases h
    · cases h; rfl
  match l, h with
  | [], h => rw [tok1.eq_def] at h; cases h; exact .inl rfl
  | c :: r, h =>
    rw [tok1.eq_def] at h
    dsimp only at h
    split at h
    · cases h
    · split at h
      · exact .inr (hn h)
      · split at h
        · split at h
          · cases h; exact .inl rfl
          · split at h
            · cases h
            · split at h
              · exact .inr (hn h)
              · cases h; exact .inl rfl
        · split at h
          · cases h
          · cases h; exact .inl rfl
theorem Qly {n : Nat} : ∀ {k : Nat} {l : List UInt8} {acc : List Tok} {f : Flt}, Q3o n k l acc = .error f → f.1 ≠ 0
  | 0, l, acc, f, h => by rw [Q3o] at h; cases h
  | k + 1, [], acc, f, h => by rw [Q3o] at h; cases h
  | k + 1, c :: r, acc, f, h => by
    rw [Q3o] at h
    split at h
    · rename_i e he
      cases h
      rcases tok1_err he with rfl | rfl
      · exact (by decide : (6 : Int) ≠ 0)
      · exact (by decide : (8 : Int) ≠ 0)
    · exact Qly h
theorem scan_err {src : List UInt8} {f : Flt} (h : scan src = .error f) : f.1 ≠ 0 := by
  unfold scan at h
  split at h
  · cases h; decide
  · exact Qly h
end Go.Lir
namespace Go.Lir
set_option linter.unusedVariables false
abbrev PGot (α : Type) := Except Flt (α × List Tok)
def Qd {α β : Type} (x : PGot α) (f : α → List Tok → PGot β) : PGot β := match x with
  | .ok (a, r) => f a r
  | .error e => .error e
/-- A fault where the tokens stand; e: where the text ends. -/
def Q43 (e : Nat) (c : Int) : List Tok → Flt
  | [] => (if c = 4 then 5 else c, e)
  | t :: _ => (c, t.at_)
def isT (s : List UInt8) : List Tok → Bool
  | [] => false
  | t :: _ => t.num.isNone && decide (t.text = s)
def want (e : Nat) (s : List UInt8) (l : List Tok) : PGot Unit := if isT s l = true then .ok ((), l.tail) else .error (Q43 e 4 l)
def Qbc (e : Nat) : List Tok → PGot Int
  | [] => .error (Q43 e 4 [])
  | t :: r => match t.num with
    | some n => .ok (n, r)
    | none => .error (Q43 e 4 (t :: r))
/-- A number too small or too great stands here. -/
def wideT : List Tok → Bool
  | [] => false
  | t :: _ => match t.num with
    | some n => decide (n < 0 ∨ 1000000 < n)
    | none => false
def pNum (e : Nat) (l : List Tok) : PGot Int := if wideT l = true then .error (Q43 e 8 l) else Qbc e l
/-- The rest of a list: so many more may come, so many were read. -/
def pMany {α : Type} (e : Nat) (cl : List UInt8) (f : List Tok → PGot α) : Nat → Nat → List Tok → PGot (List α)
  | 0, _, l => .error (Q43 e 2 l)
  | k + 1, n, l => if isT cl l = true then .ok ([], l.tail) else
    Qd (if n = 0 then .ok ((), l) else want e [44] l) fun _ l => Qd (f l) fun x l => Qd (pMany e cl f k (n + 1) l) fun xs l => .ok (x :: xs, l)
def Q1X {α : Type} (e : Nat) (b cl : List UInt8) (f : List Tok → PGot α) (l : List Tok) : PGot (List α) := Qd (want e b l) fun _ l => pMany e cl f 101 0 l
abbrev tInt : List UInt8 := [105, 110, 116]
abbrev Q3k : List UInt8 := [104, 97, 110, 100, 108, 101]
abbrev Q9p : List UInt8 := [97, 114, 114, 97, 121]
abbrev Q3s : List UInt8 := [116, 117, 112, 108, 101]
abbrev Q9E : List UInt8 := [106, 117, 109, 112]
abbrev tIf : List UInt8 := [105, 102]
abbrev tTo : List UInt8 := [116, 111]
abbrev QbW : List UInt8 := [101, 108, 115, 101]
abbrev tRet : List UInt8 := [114, 101, 116]
abbrev Q1R : List UInt8 := [98, 108, 111, 99, 107]
abbrev Q7N : List UInt8 := [102, 117, 110, 99]
abbrev Q3Q : List UInt8 := [45, 62]
/-- A type; so deep may it still be. -/
def pTyp (e : Nat) : Nat → List Tok → PGot Ty
  | 0, l => .error (Q43 e 19 l)
  | k + 1, l =>
    if isT tInt l = true then .ok (.mk 1 0 [], l.tail)
    else if isT Q3k l = true then Qd (pNum e l.tail) fun n l => .ok (.mk 2 n [], l)
    else if isT Q9p l = true then Qd (pNum e l.tail) fun n l => .ok (.mk 4 n [], l)
    else Qd (want e Q3s l) fun _ l => Qd (pNum e l) fun n l => Qd (Q1X e [40] [41] (pTyp e k) l) fun ts l => .ok (.mk 3 n ts, l)
def Q4g (e : Nat) : List Tok → PGot (List Ty) := Q1X e [40] [41] (pTyp e 5)
def QnY (e : Nat) : List Tok → PGot (List Int) := Q1X e [60] [62] (pNum e)
def QhR (e : Nat) : List Tok → PGot (List Int) := Q1X e [40] [41] (pNum e)
def opWords : List (List UInt8) := [[110, 117, 109], [98, 105, 110], [110, 101, 119], [102, 114, 101, 101], [116, 117, 112, 108, 101], [103, 101, 116], [115, 101, 116], [97, 114, 114, 97, 121], [108, 111, 97, 100], [115, 116, 111, 114, 101], [108, 101, 110], [105, 110], [111, 117, 116], [99, 97, 108, 108]]
def kindWords : List (List UInt8) := [[97, 100, 100], [115, 117, 98], [109, 117, 108], [100, 105, 118], [109, 111, 100], [108, 101, 115, 115], [101, 113], [97, 110, 100], [120, 111, 114]]
/-- The number of a word, from 1 on; 0: there is none. -/
def QhS (ws : List (List UInt8)) (s : List UInt8) : Nat := if ws.idxOf s < ws.length then ws.idxOf s + 1 else 0
def wordN (ws : List (List UInt8)) (k : Int) : List UInt8 := if k < 1 then [] else ws.getD (k.toNat - 1) []
/-- The number of the word that stands here. -/
def Q9f (ws : List (List UInt8)) : List Tok → Nat
  | [] => 0
  | t :: _ => if t.num.isNone = true then QhS ws t.text else 0
def QfM (e : Nat) (l : List Tok) : PGot Int := if Q9f kindWords l = 0 then .error (Q43 e 4 l) else .ok ((Q9f kindWords l : Int), l.tail)
def Q4Z (e : Nat) (op : Int) (l : List Tok) : PGot Ins :=
  if op = 1 then Qd (Qbc e l) fun n l => .ok (⟨op, 0, 0, 0, 0, n, [], []⟩, l)
  else if op = 2 then Qd (QfM e l) fun k l => Qd (pNum e l) fun a l => Qd (pNum e l) fun b l => .ok (⟨op, a, b, 0, k, 0, [], []⟩, l)
  else if op = 4 ∨ op = 11 ∨ op = 13 then Qd (pNum e l) fun a l => .ok (⟨op, a, 0, 0, 0, 0, [], []⟩, l)
  else if op = 5 then Qd (pNum e l) fun a l => Qd (QhR e l) fun args l => .ok (⟨op, a, 0, 0, 0, 0, [], args⟩, l)
  else if op = 6 then Qd (pNum e l) fun a l => Qd (pNum e l) fun k l => .ok (⟨op, a, 0, 0, k, 0, [], []⟩, l)
  else if op = 7 then Qd (pNum e l) fun a l => Qd (pNum e l) fun k l => Qd (pNum e l) fun b l => .ok (⟨op, a, b, 0, k, 0, [], []⟩, l)
  else if op = 8 ∨ op = 9 then Qd (pNum e l) fun a l => Qd (pNum e l) fun b l => .ok (⟨op, a, b, 0, 0, 0, [], []⟩, l)
  else if op = 10 then Qd (pNum e l) fun a l => Qd (pNum e l) fun b l => Qd (pNum e l) fun c l => .ok (⟨op, a, b, c, 0, 0, [], []⟩, l)
  else if op = 14 then Qd (pNum e l) fun k l => Qd (QnY e l) fun regs l => Qd (QhR e l) fun args l => .ok (⟨op, 0, 0, 0, k, 0, regs, args⟩, l)
  else .ok (⟨op, 0, 0, 0, 0, 0, [], []⟩, l)
def pIns (e : Nat) (l : List Tok) : PGot (Option Ins) :=
  if Q9f opWords l = 0 then .ok (none, l) else Qd (Q4Z e (Q9f opWords l) l.tail) fun x l => Qd (want e [59] l) fun _ l => .ok (some x, l)
def pTo (e : Nat) (l : List Tok) : PGot To := Qd (pNum e l) fun b l => Qd (QnY e l) fun regs l => Qd (QhR e l) fun args l => .ok (⟨b, regs, args⟩, l)
def Q5u (e : Nat) (l : List Tok) : PGot Tail :=
  if isT Q9E l = true then Qd (pTo e l.tail) fun y l => .ok (⟨1, 0, y, ⟨0, [], []⟩, []⟩, l)
  else if isT tIf l = true then Qd (pNum e l.tail) fun a l => Qd (want e tTo l) fun _ l => Qd (pTo e l) fun y l => Qd (want e QbW l) fun _ l => Qd (pTo e l) fun n l => .ok (⟨2, a, y, n, []⟩, l)
  else Qd (want e tRet l) fun _ l => Qd (QhR e l) fun args l => .ok (⟨3, 0, ⟨0, [], []⟩, ⟨0, [], []⟩, args⟩, l)
def Qag (e : Nat) (l : List Tok) : PGot Tail := Qd (Q5u e l) fun t l => Qd (want e [59] l) fun _ l => .ok (t, l)
/-- As long as there is one more. -/
def pOpts {α : Type} (f : List Tok → PGot (Option α)) : Nat → List Tok → PGot (List α)
  | 0, l => .ok ([], l)
  | k + 1, l => Qd (f l) fun o l => match o with
    | none => .ok ([], l)
    | some x => Qd (pOpts f k l) fun xs l => .ok (x :: xs, l)
def pIf {α : Type} (p : List Tok → Bool) (f : List Tok → PGot α) (l : List Tok) : PGot (Option α) := if p l = true then Qd (f l) fun x l => .ok (some x, l) else .ok (none, l)
def pAll {α : Type} (f : List Tok → PGot (Option α)) (l : List Tok) : PGot (List α) := pOpts f (l.length + 1) l
def Q3v (e : Nat) (l : List Tok) : PGot Block :=
  Qd (want e Q1R l) fun _ l => Qd (pNum e l) fun regs l => Qd (Q4g e l) fun ps l => Qd (want e [123] l) fun _ l => Qd (pAll (pIns e) l) fun code l => Qd (Qag e l) fun fin l => Qd (want e [125] l) fun _ l => .ok (⟨regs, ps, code, fin⟩, l)
def pFun (e : Nat) (l : List Tok) : PGot Fun :=
  Qd (want e Q7N l) fun _ l => Qd (pNum e l) fun regs l => Qd (Q4g e l) fun ps l => Qd (want e Q3Q l) fun _ l => Qd (Q4g e l) fun rs l => Qd (want e [123] l) fun _ l => Qd (pAll (pIf (isT Q1R) (Q3v e)) l) fun bl l => Qd (want e [125] l) fun _ l => .ok (⟨regs, ps, rs, bl⟩, l)
def QmM (e : Nat) (l : List Tok) : PGot (List Fun) := pAll (pIf (fun l => !l.isEmpty) (pFun e)) l
def Qaf (s : List UInt8) : Except Flt Module := match scan s with
  | .error f => .error f
  | .ok l => match QmM s.length l with
    | .error f => .error f
    | .ok (fs, _) => if (Module.fault ⟨fs⟩).1 ≠ 0 then .error (Module.fault ⟨fs⟩) else .ok ⟨fs⟩
end Go.Lir
