/- Lemmas of the proof, part 3: what the functions of the program do (contracts), and what follows. -/
import Derived.Test.YtjecflbbcnocdaaGreatDoorProg
import Derived.Test.YtjecflbbcnocdaaGreatDoorZ2
import Derived.Test.YtjecflbbcnocdaaGreatDoorZ1
import Derived.Lib.Join
import Derived.Lib.ItoaLen
import Derived.Lib.LaidTab
import Derived.Lib.Strings
import Derived.Laws.Concat
import Derived.Below
import Derived.Sort.Grow
import Derived.Deep.Draws
import Derived.Lib.ItoaNum
import Derived.Shelf.Strings.OnBuilder
import Derived.Shelf.Small.Strs
import Derived.Shelf.LaysM
import Derived.Shelf.Strconv.Itoa3
import Derived.Shelf.Strconv.ParseIntEmpty
import Derived.Shelf.Strconv.Clone
import Derived.Shelf.Strconv.SyntaxError
import Derived.Shelf.LaysC
import Derived.Shelf.Strconv.ToError
import Derived.Shelf.Strconv.Lower
import Derived.Shelf.Strconv.ParseUint10
import Derived.Shelf.Strconv.ParseUint10Empty
import Derived.Shelf.Strconv.ParseUint10Any
import Derived.Shelf.Strconv.ParseInt10
import Derived.Shelf.Strconv.RangeError
import Derived.Shelf.Strconv.ToErrorRange
import Derived.Shelf.Strconv.ParseUintEmpty
import Derived.Shelf.Strconv.ParseUint10b64
import Derived.Shelf.Strconv.ParseUint10b32
import Derived.Shelf.Strconv.ParseUint10b16
import Derived.Shelf.Strconv.ParseUint10b8
import Derived.Shelf.Strconv.ParseUint10At
import Derived.Shelf.Strconv.ParseInt10At64
import Derived.Shelf.Strconv.ParseInt10At32
import Derived.Shelf.Strconv.ParseInt10At16
import Derived.Shelf.Strconv.ParseInt10At8
import Derived.Shelf.Strconv.ParseInt10All
import Derived.Shelf.Strconv.ParseIntPublic10
import Derived.Shelf.Strings.Search1
namespace Go.Proofs.YtjecflbbcnocdaaGreatDoor
open Go.Lir
set_option maxRecDepth 100000

/- 3 -/
def Q5P : List GO := [qb 1 24 0, qk 2 (.bool false)]
def Q5O : List GO := [⟨none, .call (some 8) 7 []⟩, ⟨none, .un 9 .not (.tmp 8)⟩]
def Q5N : List GO := [qk 2 (.bool false)]
def Q5M : List GO := [qV 10 1 1, ⟨none, .call (some 11) 8 [(.tmp 10)]⟩]
def Q5L : List GO := [qk 2 (.bool true)]
def Q5K : List GO := [qV 12 1 1, ⟨none, .call (some 13) 9 [(.tmp 12)]⟩, ⟨none, .alloc 3 24 [vn]⟩, qw 1 3 13]
def Q5J : List GO := [qV 15 1 3, ⟨none, .call (some 16) 10 [(.tmp 15)]⟩, qm 14 16, qx 17 14 0, qx 18 14 1, ⟨none, .alloc 5 29 [(vi 0), (vi 0)]⟩, qm 4 17, qw 2 5 18]
def Q5I : List GO := [qV 20 1 1, ⟨none, .call (some 21) 11 [(.tmp 20)]⟩, qm 19 21, qx 22 19 0, qx 23 19 1, ⟨none, .alloc 7 29 [(vi 0), (vi 0)]⟩, qm 6 22, qw 2 7 23]
def Q5H : List GO := [qV 24 2 5, qV 25 2 7, qt 26 .eql 29 24 25, qm 27 26, qg 27 true (qm 28 4), qg 27 true (qm 29 6), qg 27 true (qt 30 .eql 9 28 29), ⟨none, .pick 31 (.tmp 27) (.tmp 30) (.const (.bool false))⟩, qm 32 31, qg 32 true (qV 33 1 3), qg 32 true (qV 34 1 1), ⟨some (32, true), .call (some 35) 12 [(.tmp 33), (.tmp 34)]⟩, ⟨none, .pick 36 (.tmp 32) (.tmp 35) (.const (.bool false))⟩, qm 2 36]
def Law_RenderPrints_lc : LC := (.seq (.ops Q5P) (.seq (.seq (.ops Q5O) (.cond (.tmp 9) (.seq (.ops Q5N) .ret) .skip)) (.seq (.seq (.ops Q5M) (.cond (.tmp 11) (.seq (.ops Q5L) .ret) .skip)) (.seq (.ops Q5K) (.seq (.ops Q5J) (.seq (.ops Q5I) (.seq (.ops Q5H) .ret)))))))
@[reducible] def Q1h : FuncId := 3
theorem Q4X : lowF Tryz.prog Tryz.f3 = some Law_RenderPrints_lc := by kernel_rfl
theorem Q5Q {a0 : Value} {w : World} {R : Ending → World → Prop} (h : Law_RenderPrints_lc.wp Tryz.prog (retQ Tryz.prog [.tmp 2] R) (Qg [a0]) w) : Calls Tryz.prog Q1h ⟨[a0]⟩ w R :=
  Q6 Tryz.func3 Q4X (by kernel_rfl) (by kernel_rfl) h

/- 4 -/
/- 5 -/
/- 6 -/
/- 7 -/
def Q72 : List GO := [qk 0 (.bool false)]
def Q71 : List GO := [⟨none, .call (some 4) 21 []⟩, ⟨none, .call (some 5) 10 [(.tmp 4)]⟩, qm 3 5, qx 6 3 0, qx 7 3 1, ⟨none, .alloc 2 29 [(vi 0), (vi 0)]⟩, qm 1 6, qw 2 2 7]
def Q70 : List GO := [qf 8 2 0, ql 9 8, qj 10 .eql 3 9 0, qm 11 10, qg 11 true (qm 12 1), ⟨some (11, true), .bin 13 .eql 9 (.tmp 12) (.const (.string ⟨#[102, 117, 110, 99, 32, 48, 32, 40, 41, 32, 45, 62, 32, 40, 41, 32, 123, 10, 98, 108, 111, 99, 107, 32, 48, 32, 40, 41, 32, 123, 10, 9, 114, 101, 116, 32, 40, 41, 59, 10, 125, 10, 125, 10]⟩))⟩, ⟨none, .pick 14 (.tmp 11) (.tmp 13) (.const (.bool false))⟩, qm 0 14]
def Law_renderBegun_lc : LC := (.seq (.ops Q72) (.seq (.ops Q71) (.seq (.ops Q70) .ret)))
@[reducible] def Q4C : FuncId := 7
theorem Q5G : lowF Tryz.prog Tryz.f7 = some Law_renderBegun_lc := by kernel_rfl
theorem Q73 {w : World} {R : Ending → World → Prop} (h : Law_renderBegun_lc.wp Tryz.prog (retQ Tryz.prog [.tmp 0] R) (Qg []) w) : Calls Tryz.prog Q4C ⟨[]⟩ w R :=
  Q6 Tryz.func7 Q5G (by kernel_rfl) (by kernel_rfl) h

/- 8 -/
def Q9b : List GO := [qb 1 24 0, qk 2 (.bool false)]
def Q9a : List GO := [qf 8 1 0, ql 9 8, qL 10 9, qj 11 .gtr 3 10 20]
def Q99 : List GO := [qk 2 (.bool true)]
def Q98 : List GO := [qk 3 (vi 0)]
def Q97 : List GO := [qm 12 3, qf 13 1 0, ql 14 13, qL 15 14, qt 16 .lss 3 12 15]
def Q96 : List GO := [qf 19 1 0, ql 20 19, qm 21 3, qi 22 4 20 21, qV 23 4 22, ⟨none, .alloc 4 43 [(vi 0), vn, vn, vn]⟩, qw 4 4 23]
def Q95 : List GO := [qf 24 4 3, ql 25 24, qL 26 25, qj 27 .gtr 3 26 30, qm 28 27, qg 28 false (qf 29 4 1), qg 28 false (ql 30 29), ⟨some (28, false), .call (some 31) 22 [(.tmp 30)]⟩, ⟨none, .pick 32 (.tmp 28) (.const (.bool true)) (.tmp 31)⟩, qm 33 32, qg 33 false (qf 34 4 2), qg 33 false (ql 35 34), ⟨some (33, false), .call (some 36) 22 [(.tmp 35)]⟩, ⟨none, .pick 37 (.tmp 33) (.const (.bool true)) (.tmp 36)⟩]
def Q94 : List GO := [qk 2 (.bool true)]
def Q93 : List GO := [qk 5 (vi 0)]
def Q92 : List GO := [qm 38 5, qf 39 4 3, ql 40 39, qL 41 40, qt 42 .lss 3 38 41]
def Q7T : List GO := [qf 45 4 3, ql 46 45, qm 47 5, qi 48 12 46 47, qV 49 12 48, ⟨none, .alloc 6 52 [(vi 0), vn, vn, (vi 0), (vi 0), (vi 0), vn, vn, (vi 0), vn, vn, vn]⟩, qw 12 6 49]
def Q7S : List GO := [qf 50 6 2, ql 51 50, qL 52 51, qj 53 .gtr 3 52 200, qm 54 53, qg 54 false (qf 55 6 1), qg 54 false (ql 56 55), ⟨some (54, false), .call (some 57) 22 [(.tmp 56)]⟩, ⟨none, .pick 58 (.tmp 54) (.const (.bool true)) (.tmp 57)⟩, qm 59 58, qg 59 false (qf 60 6 3), qg 59 false (qf 61 60 8), qg 59 false (ql 62 61), qg 59 false (qL 63 62), qg 59 false (qj 64 .gtr 3 63 300), ⟨none, .pick 65 (.tmp 59) (.const (.bool true)) (.tmp 64)⟩, qm 66 65, qg 66 false (qf 67 6 3), qg 66 false (qf 68 67 2), qg 66 false (qf 69 68 1), qg 66 false (ql 70 69), qg 66 false (qL 71 70), qg 66 false (qj 72 .gtr 3 71 300), ⟨none, .pick 73 (.tmp 66) (.const (.bool true)) (.tmp 72)⟩, qm 74 73, qg 74 false (qf 75 6 3), qg 74 false (qf 76 75 2), qg 74 false (qf 77 76 2), qg 74 false (ql 78 77), qg 74 false (qL 79 78), qg 74 false (qj 80 .gtr 3 79 300), ⟨none, .pick 81 (.tmp 74) (.const (.bool true)) (.tmp 80)⟩, qm 82 81, qg 82 false (qf 83 6 3), qg 82 false (qf 84 83 5), qg 82 false (qf 85 84 1), qg 82 false (ql 86 85), qg 82 false (qL 87 86), qg 82 false (qj 88 .gtr 3 87 300), ⟨none, .pick 89 (.tmp 82) (.const (.bool true)) (.tmp 88)⟩, qm 90 89, qg 90 false (qf 91 6 3), qg 90 false (qf 92 91 5), qg 90 false (qf 93 92 2), qg 90 false (ql 94 93), qg 90 false (qL 95 94), qg 90 false (qj 96 .gtr 3 95 300), ⟨none, .pick 97 (.tmp 90) (.const (.bool true)) (.tmp 96)⟩]
def Q7R : List GO := [qk 2 (.bool true)]
def Q7Q : List GO := [qk 7 (vi 0)]
def Q7P : List GO := [qm 98 7, qf 99 6 2, ql 100 99, qL 101 100, qt 102 .lss 3 98 101]
def Q7O : List GO := [qf 105 6 2, ql 106 105, qm 107 7, qi 108 8 106 107, qf 109 108 6, ql 110 109, qL 111 110, qj 112 .gtr 3 111 300, qm 113 112, qg 113 false (qf 114 6 2), qg 113 false (ql 115 114), qg 113 false (qm 116 7), qg 113 false (qi 117 8 115 116), qg 113 false (qf 118 117 7), qg 113 false (ql 119 118), qg 113 false (qL 120 119), qg 113 false (qj 121 .gtr 3 120 300), ⟨none, .pick 122 (.tmp 113) (.const (.bool true)) (.tmp 121)⟩]
def Q7N : List GO := [qk 2 (.bool true)]
def Q7M : List GO := [qm 103 7, qj 104 .add 3 103 1, qm 7 104]
def Q3I : LC := (.seq (.seq (.ops Q7P) (.cond (.tmp 102) .skip (.exit 4))) (.seq (.block 5 (.seq (.ops Q7O) (.cond (.tmp 122) (.seq (.ops Q7N) .ret) .skip))) (.ops Q7M)))
def Q7L : List GO := [qm 43 5, qj 44 .add 3 43 1, qm 5 44]
def Q3Z : LC := (.seq (.seq (.ops Q92) (.cond (.tmp 42) .skip (.exit 2))) (.seq (.block 3 (.seq (.ops Q7T) (.seq (.seq (.ops Q7S) (.cond (.tmp 97) (.seq (.ops Q7R) .ret) .skip)) (.seq (.ops Q7Q) (.block 4 (.loop Q3I)))))) (.ops Q7L)))
def Q7K : List GO := [qm 17 3, qj 18 .add 3 17 1, qm 3 18]
def Q40 : LC := (.seq (.seq (.ops Q97) (.cond (.tmp 16) .skip (.exit 0))) (.seq (.block 1 (.seq (.ops Q96) (.seq (.seq (.ops Q95) (.cond (.tmp 37) (.seq (.ops Q94) .ret) .skip)) (.seq (.ops Q93) (.block 2 (.loop Q3Z)))))) (.ops Q7K)))
def Q7J : List GO := [qk 2 (.bool false)]
def R_GreatModule_lc : LC := (.seq (.ops Q9b) (.seq (.seq (.ops Q9a) (.cond (.tmp 11) (.seq (.ops Q99) .ret) .skip)) (.seq (.seq (.ops Q98) (.block 0 (.loop Q40))) (.seq (.ops Q7J) .ret))))
@[reducible] def QY : FuncId := 8
theorem Q7U : lowF Tryz.prog Tryz.f8 = some R_GreatModule_lc := by kernel_rfl
theorem Q9c {a0 : Value} {w : World} {R : Ending → World → Prop} (h : R_GreatModule_lc.wp Tryz.prog (retQ Tryz.prog [.tmp 2] R) (Qg [a0]) w) : Calls Tryz.prog QY ⟨[a0]⟩ w R :=
  Q6 Tryz.func8 Q7U (by kernel_rfl) (by kernel_rfl) h

/- 9 -/
def QeD : List GO := [qb 1 24 0, ⟨none, .alloc 2 24 [vn]⟩]
def QeC : List GO := [⟨none, .alloc 3 24 [vn]⟩]
def QeB : List GO := [qk 4 (vi 0)]
def QeA : List GO := [qm 12 4, qf 13 1 0, ql 14 13, qL 15 14, qt 16 .lss 3 12 15]
def Qez : List GO := [qf 19 1 0, ql 20 19, qm 21 4, qi 22 4 20 21, qV 23 4 22, ⟨none, .alloc 5 43 [(vi 0), vn, vn, vn]⟩, qw 4 5 23]
def Qey : List GO := [qf 24 5 0, ql 25 24, qf 26 5 1, ql 27 26, ⟨none, .call (some 28) 23 [(.tmp 27)]⟩, qf 29 5 2, ql 30 29, ⟨none, .call (some 31) 23 [(.tmp 30)]⟩, ⟨none, .build 32 [(vi 0), vn, vn, vn] [(0, (1, (.tmp 25))), (1, (1, (.tmp 28))), (2, (1, (.tmp 31)))]⟩, ⟨none, .alloc 6 43 [(vi 0), vn, vn, vn]⟩, qw 4 6 32]
def QeG : List (List Nat) := [[],[0],[],[2],[3],[],[5],[6,4],[1,4,7],[],[9,8,7,0,1,2,3,4,5,6,7,8,9]]
def Qex : List GO := [qk 7 (vi 0)]
def Qew : List GO := [qm 33 7, qf 34 5 3, ql 35 34, qL 36 35, qt 37 .lss 3 33 36]
def Qev : List GO := [qf 40 5 3, ql 41 40, qm 42 7, qi 43 12 41 42, qV 44 12 43, ⟨none, .alloc 8 52 [(vi 0), vn, vn, (vi 0), (vi 0), (vi 0), vn, vn, (vi 0), vn, vn, vn]⟩, qw 12 8 44]
def Qeu : List GO := [qf 45 8 0, ql 46 45, qf 47 8 1, ql 48 47, ⟨none, .call (some 49) 23 [(.tmp 48)]⟩, ⟨none, .build 50 [(vi 0), vn, vn, (vi 0), (vi 0), (vi 0), vn, vn, (vi 0), vn, vn, vn] [(0, (1, (.tmp 46))), (1, (1, (.tmp 49)))]⟩, ⟨none, .alloc 9 52 [(vi 0), vn, vn, (vi 0), (vi 0), (vi 0), vn, vn, (vi 0), vn, vn, vn]⟩, qw 12 9 50]
def QeF : List (List Nat) := [[],[0],[],[2],[3],[1,4],[],[6,5,4,0,1,2,3,4,5,6]]
def QbF : List GO := [qk 10 (vi 0)]
def QbE : List GO := [qm 51 10, qf 52 8 2, ql 53 52, qL 54 53, qt 55 .lss 3 51 54]
def QbD : List GO := [qf 58 8 2, ql 59 58, qm 60 10, qi 61 8 59 60, qV 62 8 61, ⟨none, .alloc 11 54 [(vi 0), (vi 0), (vi 0), (vi 0), (vi 0), (vi 0), vn, vn]⟩, qw 8 11 62]
def QbC : List GO := [qf 63 11 6, ql 64 63, ⟨none, .call (some 65) 24 [(.tmp 64)]⟩, qf 66 11 7, ql 67 66, ⟨none, .call (some 68) 24 [(.tmp 67)]⟩, qf 69 11 6, qs 69 65, qf 70 11 7, qs 70 68]
def QbI : List (List Nat) := [[],[0],[1],[],[3],[4,2],[0,1,2,3,4],[6,2,5,0,1,2,3,4],[0,1,2,3,4,5,6,7],[8,5,7,0,1,2,3,4,5,6,7]]
def QbB : List GO := [qf 71 9 2, ql 72 71, qV 73 8 11, ⟨none, .buildS 74 54 1 [(vi 0), (vi 0), (vi 0), (vi 0), (vi 0), (vi 0), vn, vn] [(0, (8, (.tmp 73)))]⟩, ⟨none, .raw ⟨(some 75), (.call ⟨(.builtin .append), #[(.tmp 72), (.tmp 74)], #[45, 45]⟩), 45, "", #[], none⟩⟩, qf 76 9 2, qs 76 75]
def QbA : List GO := [qm 56 10, qj 57 .add 3 56 1, qm 10 57]
def Q4x : LC := (.seq (.seq (.ops QbE) (.cond (.tmp 55) .skip (.exit 4))) (.seq (.block 5 (.seq (.ops QbD) (.seq (.draw QbC QbI) (.ops QbB)))) (.ops QbA)))
def Qbz : List GO := [qf 77 8 3, qf 78 77 0, ql 79 78, qf 80 8 3, qf 81 80 1, ql 82 81, qf 83 8 3, qf 84 83 2, qV 85 3 84, ⟨none, .call (some 86) 25 [(.tmp 85)]⟩, qf 87 8 3, qf 88 87 5, qV 89 3 88, ⟨none, .call (some 90) 25 [(.tmp 89)]⟩, qf 91 8 3, qf 92 91 8, ql 93 92, ⟨none, .call (some 94) 24 [(.tmp 93)]⟩, ⟨none, .build 95 [(vi 0), (vi 0), (vi 0), vn, vn, (vi 0), vn, vn, vn] [(0, (1, (.tmp 79))), (1, (1, (.tmp 82))), (2, (3, (.tmp 86))), (5, (3, (.tmp 90))), (8, (1, (.tmp 94)))]⟩, qf 96 9 3, qw 9 96 95]
def QbH : List (List Nat) := [[],[0],[1],[],[3],[4],[],[6],[7],[8],[],[10],[11],[12,9],[],[14],[15],[16,13],[2,5,9,13,17],[0,1,2,3,4,5,6,7,8,9,10,11,12,13,14,15,16,17,18],[19,18,17,0,1,2,3,4,5,6,7,8,9,10,11,12,13,14,15,16,17,18]]
def Qby : List GO := [qf 97 6 3, ql 98 97, qV 99 12 9, ⟨none, .buildS 100 52 1 [(vi 0), vn, vn, (vi 0), (vi 0), (vi 0), vn, vn, (vi 0), vn, vn, vn] [(0, (12, (.tmp 99)))]⟩, ⟨none, .raw ⟨(some 101), (.call ⟨(.builtin .append), #[(.tmp 98), (.tmp 100)], #[41, 41]⟩), 41, "", #[], none⟩⟩, qf 102 6 3, qs 102 101]
def Qbx : List GO := [qm 38 7, qj 39 .add 3 38 1, qm 7 39]
def Q5a : LC := (.seq (.seq (.ops Qew) (.cond (.tmp 37) .skip (.exit 2))) (.seq (.block 3 (.seq (.ops Qev) (.seq (.draw Qeu QeF) (.seq (.seq (.ops QbF) (.block 4 (.loop Q4x))) (.seq (.draw Qbz QbH) (.ops Qby)))))) (.ops Qbx)))
def Qbw : List GO := [qf 103 3 0, ql 104 103, qV 105 4 6, ⟨none, .buildS 106 43 1 [(vi 0), vn, vn, vn] [(0, (4, (.tmp 105)))]⟩, ⟨none, .raw ⟨(some 107), (.call ⟨(.builtin .append), #[(.tmp 104), (.tmp 106)], #[22, 22]⟩), 22, "", #[], none⟩⟩, qf 108 3 0, qs 108 107]
def Qbv : List GO := [qm 17 4, qj 18 .add 3 17 1, qm 4 18]
def Q5b : LC := (.seq (.seq (.ops QeA) (.cond (.tmp 16) .skip (.exit 0))) (.seq (.block 1 (.seq (.ops Qez) (.seq (.draw Qey QeG) (.seq (.seq (.ops Qex) (.block 2 (.loop Q5a))) (.ops Qbw))))) (.ops Qbv)))
def Qbu : List GO := [qV 109 1 3, qw 1 2 109]
def R_OwnModule_lc : LC := (.seq (.ops QeD) (.seq (.ops QeC) (.seq (.seq (.ops QeB) (.block 0 (.loop Q5b))) (.seq (.ops Qbu) .ret))))
@[reducible] def QbJ : FuncId := 9
theorem QbG : lowF Tryz.prog Tryz.f9 = some R_OwnModule_lc := by kernel_rfl
theorem QeE {a0 : Value} {w : World} {R : Ending → World → Prop} (h : R_OwnModule_lc.wp Tryz.prog (retQ Tryz.prog [.cell 2 24] R) (Qg [a0]) w) : Calls Tryz.prog QbJ ⟨[a0]⟩ w R :=
  Q6 Tryz.func9 QbG (by kernel_rfl) (by kernel_rfl) h

/- 10 -/
def Qaf : List GO := [qb 1 24 0, qk 2 (.string ⟨#[]⟩), ⟨none, .alloc 3 29 [(vi 0), (vi 0)]⟩]
def Qae : List GO := [qV 6 1 1, ⟨none, .call (some 7) 26 [(.tmp 6)]⟩, ⟨none, .alloc 4 29 [(vi 0), (vi 0)]⟩, qw 2 4 7]
def Qad : List GO := [qf 8 4 0, ql 9 8, qj 10 .neq 3 9 0]
def Qac : List GO := [qV 11 2 4, qk 2 (.string ⟨#[]⟩), qw 2 3 11]
def Qah : List (List Nat) := [[],[],[0,1,0,1]]
def Qab : List GO := [qV 12 1 1, ⟨none, .call (some 13) 27 [(.tmp 12)]⟩, ⟨none, .un 14 .not (.tmp 13)⟩]
def Qaa : List GO := [⟨none, .build 15 [(vi 0), (vi 0)] [(0, (1, (.const (vi 8)))), (1, (1, (.const (vi (-1)))))]⟩, qk 2 (.string ⟨#[]⟩), qw 2 3 15]
def Qa9 : List GO := [qV 16 1 1, ⟨none, .call (some 17) 28 [(.tmp 16)]⟩, qm 5 17]
def Qa8 : List GO := [qm 18 5, ⟨none, .slen 19 (.tmp 18)⟩, qj 20 .gtr 3 19 40000]
def Qa7 : List GO := [⟨none, .build 21 [(vi 0), (vi 0)] [(0, (1, (.const (vi 2)))), (1, (1, (.const (vi (-1)))))]⟩, qk 2 (.string ⟨#[]⟩), qw 2 3 21]
def Qa6 : List GO := [qm 22 5, ⟨none, .build 23 [(vi 0), (vi 0)] []⟩, qm 2 22, qw 2 3 23]
def render_Print_lc : LC := (.seq (.ops Qaf) (.seq (.seq (.ops Qae) (.seq (.ops Qad) (.cond (.tmp 10) (.seq (.draw Qac Qah) .ret) .skip))) (.seq (.seq (.ops Qab) (.cond (.tmp 14) (.seq (.ops Qaa) .ret) .skip)) (.seq (.ops Qa9) (.seq (.seq (.ops Qa8) (.cond (.tmp 20) (.seq (.ops Qa7) .ret) .skip)) (.seq (.ops Qa6) .ret))))))
@[reducible] def Q1t : FuncId := 10
theorem Q8g : lowF Tryz.prog Tryz.f10 = some render_Print_lc := by kernel_rfl
theorem Qag {a0 : Value} {w : World} {R : Ending → World → Prop} (h : render_Print_lc.wp Tryz.prog (retQ Tryz.prog [.tmp 2, .cell 3 29] R) (Qg [a0]) w) : Calls Tryz.prog Q1t ⟨[a0]⟩ w R :=
  Q6 Tryz.func10 Q8g (by kernel_rfl) (by kernel_rfl) h

/- 11 -/
def Qkt : List GO := [qb 1 24 0, qk 2 (.string ⟨#[]⟩), ⟨none, .alloc 3 29 [(vi 0), (vi 0)]⟩]
def Qks : List GO := [qV 12 1 1, ⟨none, .call (some 13) 20 [(.tmp 12)]⟩, ⟨none, .alloc 4 29 [(vi 0), (vi 0)]⟩, qw 2 4 13]
def Qkr : List GO := [qf 14 4 0, ql 15 14, qj 16 .neq 3 15 0]
def Qkq : List GO := [qV 17 2 4, qk 2 (.string ⟨#[]⟩), qw 2 3 17]
def Qkv : List (List Nat) := [[],[],[0,1,0,1]]
def Qkp : List GO := [qk 5 (vi 0)]
def Qko : List GO := [qm 18 5, qf 19 1 0, ql 20 19, qL 21 20, qt 22 .lss 3 18 21]
def Qkn : List GO := [qk 6 (vi 0)]
def Qkm : List GO := [qm 25 6, qf 26 1 0, ql 27 26, qm 28 5, qi 29 4 27 28, qf 30 29 3, ql 31 30, qL 32 31, qt 33 .lss 3 25 32]
def Qkl : List GO := [qf 36 1 0, ql 37 36, qm 38 5, qi 39 4 37 38, qf 40 39 3, ql 41 40, qm 42 6, qi 43 12 41 42, qV 44 12 43, ⟨none, .alloc 7 52 [(vi 0), vn, vn, (vi 0), (vi 0), (vi 0), vn, vn, (vi 0), vn, vn, vn]⟩, qw 12 7 44]
def Qkk : List GO := [qf 45 7 3, qf 46 45 8, ql 47 46, ⟨none, .call (some 48) 29 [(.tmp 47)]⟩, qm 49 48, qg 49 true (qf 50 7 3), qg 49 true (qf 51 50 1), qg 49 true (ql 52 51), ⟨some (49, true), .buildS 53 3 1 [(vi 0)] [(0, (1, (.tmp 52)))]⟩, ⟨some (49, true), .call (some 54) 29 [(.tmp 53)]⟩, ⟨none, .pick 55 (.tmp 49) (.tmp 54) (.const (.bool false))⟩, qm 56 55, qg 56 true (qf 57 7 3), qg 56 true (qf 58 57 2), qg 56 true (qf 59 58 1), qg 56 true (ql 60 59), ⟨some (56, true), .call (some 61) 29 [(.tmp 60)]⟩, ⟨none, .pick 62 (.tmp 56) (.tmp 61) (.const (.bool false))⟩, qm 63 62, qg 63 true (qf 64 7 3), qg 63 true (qf 65 64 2), qg 63 true (qf 66 65 2), qg 63 true (ql 67 66), ⟨some (63, true), .call (some 68) 29 [(.tmp 67)]⟩, ⟨none, .pick 69 (.tmp 63) (.tmp 68) (.const (.bool false))⟩, qm 70 69, qg 70 true (qf 71 7 3), qg 70 true (qf 72 71 5), qg 70 true (qf 73 72 1), qg 70 true (ql 74 73), ⟨some (70, true), .call (some 75) 29 [(.tmp 74)]⟩, ⟨none, .pick 76 (.tmp 70) (.tmp 75) (.const (.bool false))⟩, qm 77 76, qg 77 true (qf 78 7 3), qg 77 true (qf 79 78 5), qg 77 true (qf 80 79 2), qg 77 true (ql 81 80), ⟨some (77, true), .call (some 82) 29 [(.tmp 81)]⟩, ⟨none, .pick 83 (.tmp 77) (.tmp 82) (.const (.bool false))⟩, qm 8 83]
def Qiy : List GO := [qk 9 (vi 0)]
def Qix : List GO := [qm 84 9, qf 85 7 2, ql 86 85, qL 87 86, qt 88 .lss 3 84 87]
def Qiw : List GO := [qf 91 7 2, ql 92 91, qm 93 9, qi 94 8 92 93, qV 95 8 94, ⟨none, .alloc 10 54 [(vi 0), (vi 0), (vi 0), (vi 0), (vi 0), (vi 0), vn, vn]⟩, qw 8 10 95]
def Qiv : List GO := [qm 96 8, qm 97 96, qg 97 true (qf 98 10 1), qg 97 true (ql 99 98), qg 97 true (qf 100 10 2), qg 97 true (ql 101 100), qg 97 true (qf 102 10 3), qg 97 true (ql 103 102), qg 97 true (qf 104 10 4), qg 97 true (ql 105 104), ⟨some (97, true), .buildS 106 3 4 [(vi 0), (vi 0), (vi 0), (vi 0)] [(0, (1, (.tmp 99))), (1, (1, (.tmp 101))), (2, (1, (.tmp 103))), (3, (1, (.tmp 105)))]⟩, ⟨some (97, true), .call (some 107) 29 [(.tmp 106)]⟩, ⟨none, .pick 108 (.tmp 97) (.tmp 107) (.const (.bool false))⟩, qm 109 108, qg 109 true (qf 110 10 6), qg 109 true (ql 111 110), ⟨some (109, true), .call (some 112) 29 [(.tmp 111)]⟩, ⟨none, .pick 113 (.tmp 109) (.tmp 112) (.const (.bool false))⟩, qm 114 113, qg 114 true (qf 115 10 7), qg 114 true (ql 116 115), ⟨some (114, true), .call (some 117) 29 [(.tmp 116)]⟩, ⟨none, .pick 118 (.tmp 114) (.tmp 117) (.const (.bool false))⟩, qm 8 118]
def Qiu : List GO := [qm 89 9, qj 90 .add 3 89 1, qm 9 90]
def Q6W : LC := (.seq (.seq (.ops Qix) (.cond (.tmp 88) .skip (.exit 4))) (.seq (.block 5 (.seq (.ops Qiw) (.ops Qiv))) (.ops Qiu)))
def Qit : List GO := [qm 119 8, ⟨none, .un 120 .not (.tmp 119)⟩]
def Qis : List GO := [⟨none, .call (some 121) 30 [(.const (vi 8)), (.const (vi (-1)))]⟩, qk 2 (.string ⟨#[]⟩), qw 2 3 121]
def Qir : List GO := [qm 34 6, qj 35 .add 3 34 1, qm 6 35]
def Q81 : LC := (.seq (.seq (.ops Qkm) (.cond (.tmp 33) .skip (.exit 2))) (.seq (.block 3 (.seq (.ops Qkl) (.seq (.ops Qkk) (.seq (.seq (.ops Qiy) (.block 4 (.loop Q6W))) (.seq (.ops Qit) (.cond (.tmp 120) (.seq (.ops Qis) .ret) .skip)))))) (.ops Qir)))
def Qiq : List GO := [qm 23 5, qj 24 .add 3 23 1, qm 5 24]
def Q82 : LC := (.seq (.seq (.ops Qko) (.cond (.tmp 22) .skip (.exit 0))) (.seq (.block 1 (.seq (.ops Qkn) (.block 2 (.loop Q81)))) (.ops Qiq)))
def Qip : List GO := [qV 122 1 1, ⟨none, .call (some 123) 31 [(.tmp 122)]⟩, qm 11 123]
def Qio : List GO := [qm 124 11, ⟨none, .slen 125 (.tmp 124)⟩, qj 126 .gtr 3 125 40000]
def Qin : List GO := [⟨none, .call (some 127) 30 [(.const (vi 2)), (.const (vi (-1)))]⟩, qk 2 (.string ⟨#[]⟩), qw 2 3 127]
def Qim : List GO := [qm 128 11, ⟨none, .build 129 [(vi 0), (vi 0)] []⟩, qm 2 128, qw 2 3 129]
def R_Printed_lc : LC := (.seq (.ops Qkt) (.seq (.seq (.ops Qks) (.seq (.ops Qkr) (.cond (.tmp 16) (.seq (.draw Qkq Qkv) .ret) .skip))) (.seq (.seq (.ops Qkp) (.block 0 (.loop Q82))) (.seq (.ops Qip) (.seq (.seq (.ops Qio) (.cond (.tmp 126) (.seq (.ops Qin) .ret) .skip)) (.seq (.ops Qim) .ret))))))
@[reducible] def Q2J : FuncId := 11
theorem Qiz : lowF Tryz.prog Tryz.f11 = some R_Printed_lc := by kernel_rfl
theorem Qku {a0 : Value} {w : World} {R : Ending → World → Prop} (h : R_Printed_lc.wp Tryz.prog (retQ Tryz.prog [.tmp 2, .cell 3 29] R) (Qg [a0]) w) : Calls Tryz.prog Q2J ⟨[a0]⟩ w R :=
  Q6 Tryz.func11 Qiz (by kernel_rfl) (by kernel_rfl) h

/- 12 -/
def Qbq : List GO := [qb 2 24 0, qb 3 24 1, qk 4 (.bool false)]
def Qbp : List GO := [qf 9 2 0, ql 10 9, qL 11 10, qf 12 3 0, ql 13 12, qL 14 13, qt 15 .neq 3 11 14]
def Qbo : List GO := [qk 4 (.bool false)]
def Qbn : List GO := [qk 5 (vi 0)]
def Qbm : List GO := [qm 16 5, qf 17 2 0, ql 18 17, qL 19 18, qt 20 .lss 3 16 19]
def Qbl : List GO := [qf 23 2 0, ql 24 23, qm 25 5, qi 26 4 24 25, qV 27 4 26, qf 28 3 0, ql 29 28, qm 30 5, qi 31 4 29 30, qV 32 4 31, ⟨none, .alloc 6 43 [(vi 0), vn, vn, vn]⟩, ⟨none, .alloc 7 43 [(vi 0), vn, vn, vn]⟩, qw 4 6 27, qw 4 7 32]
def Qbs : List (List Nat) := [[],[0],[],[1,2],[3],[],[5],[],[6,7],[8],[],[],[10,4,0,1,2,3,4,10,11],[11,9,12,0,1,2,3,4,5,6,7,8,9,10,11,12]]
def Qbk : List GO := [qf 33 6 0, ql 34 33, qf 35 7 0, ql 36 35, qt 37 .neq 3 34 36, qm 38 37, qg 38 false (qf 39 6 1), qg 38 false (ql 40 39), qg 38 false (qf 41 7 1), qg 38 false (ql 42 41), ⟨some (38, false), .call (some 43) 32 [(.tmp 40), (.tmp 42)]⟩, ⟨some (38, false), .un 44 .not (.tmp 43)⟩, ⟨none, .pick 45 (.tmp 38) (.const (.bool true)) (.tmp 44)⟩, qm 46 45, qg 46 false (qf 47 6 2), qg 46 false (ql 48 47), qg 46 false (qf 49 7 2), qg 46 false (ql 50 49), ⟨some (46, false), .call (some 51) 32 [(.tmp 48), (.tmp 50)]⟩, ⟨some (46, false), .un 52 .not (.tmp 51)⟩, ⟨none, .pick 53 (.tmp 46) (.const (.bool true)) (.tmp 52)⟩, qm 54 53, qg 54 false (qf 55 6 3), qg 54 false (ql 56 55), qg 54 false (qL 57 56), qg 54 false (qf 58 7 3), qg 54 false (ql 59 58), qg 54 false (qL 60 59), qg 54 false (qt 61 .neq 3 57 60), ⟨none, .pick 62 (.tmp 54) (.const (.bool true)) (.tmp 61)⟩]
def Qbj : List GO := [qk 4 (.bool false)]
def Qbi : List GO := [qk 8 (vi 0)]
def Qbh : List GO := [qm 63 8, qf 64 6 3, ql 65 64, qL 66 65, qt 67 .lss 3 63 66]
def Q8I : List GO := [qf 70 6 3, ql 71 70, qm 72 8, qi 73 12 71 72, qV 74 12 73, qf 75 7 3, ql 76 75, qm 77 8, qi 78 12 76 77, qV 79 12 78, ⟨none, .call (some 80) 33 [(.tmp 74), (.tmp 79)]⟩, ⟨none, .un 81 .not (.tmp 80)⟩]
def Q8K : List (List Nat) := [[],[0],[],[1,2],[3],[],[5],[],[6,7],[8],[4,9],[10]]
def Q8H : List GO := [qk 4 (.bool false)]
def Q8G : List GO := [qm 68 8, qj 69 .add 3 68 1, qm 8 69]
def Q39 : LC := (.seq (.seq (.ops Qbh) (.cond (.tmp 67) .skip (.exit 2))) (.seq (.block 3 (.seq (.draw Q8I Q8K) (.cond (.tmp 81) (.seq (.ops Q8H) .ret) .skip))) (.ops Q8G)))
def Q8F : List GO := [qm 21 5, qj 22 .add 3 21 1, qm 5 22]
def Q4w : LC := (.seq (.seq (.ops Qbm) (.cond (.tmp 20) .skip (.exit 0))) (.seq (.block 1 (.seq (.draw Qbl Qbs) (.seq (.seq (.ops Qbk) (.cond (.tmp 62) (.seq (.ops Qbj) .ret) .skip)) (.seq (.ops Qbi) (.block 2 (.loop Q39)))))) (.ops Q8F)))
def Q8E : List GO := [qk 4 (.bool true)]
def R_SameModule_lc : LC := (.seq (.ops Qbq) (.seq (.seq (.ops Qbp) (.cond (.tmp 15) (.seq (.ops Qbo) .ret) .skip)) (.seq (.seq (.ops Qbn) (.block 0 (.loop Q4w))) (.seq (.ops Q8E) .ret))))
@[reducible] def QR : FuncId := 12
theorem Q8J : lowF Tryz.prog Tryz.f12 = some R_SameModule_lc := by kernel_rfl
theorem Qbr {a0 a1 : Value} {w : World} {R : Ending → World → Prop} (h : R_SameModule_lc.wp Tryz.prog (retQ Tryz.prog [.tmp 4] R) (Qg [a0, a1]) w) : Calls Tryz.prog QR ⟨[a0, a1]⟩ w R :=
  Q6 Tryz.func12 Q8J (by kernel_rfl) (by kernel_rfl) h

/- 13 -/
/- 14 -/
/- 15 -/
/- 16 -/
def Qlp : List GO := [qk 2 (.string ⟨#[]⟩)]
def Qlo : List GO := [qm 3 0, qj 4 .lss 3 3 0, qm 5 4, qg 5 false (qm 6 0), qg 5 false (qj 7 .gtr 3 6 14), ⟨none, .pick 8 (.tmp 5) (.const (.bool true)) (.tmp 7)⟩]
def Qln : List GO := [qk 2 (.string ⟨#[]⟩)]
def Qlm : List GO := [⟨none, .build 9 [(.string ⟨#[]⟩), (.string ⟨#[]⟩), (.string ⟨#[]⟩), (.string ⟨#[]⟩), (.string ⟨#[]⟩), (.string ⟨#[]⟩), (.string ⟨#[]⟩), (.string ⟨#[]⟩), (.string ⟨#[]⟩), (.string ⟨#[]⟩), (.string ⟨#[]⟩), (.string ⟨#[]⟩), (.string ⟨#[]⟩), (.string ⟨#[]⟩), (.string ⟨#[]⟩)] [(0, (1, (.const (.string ⟨#[]⟩)))), (1, (1, (.const (.string ⟨#[110, 117, 109]⟩)))), (2, (1, (.const (.string ⟨#[98, 105, 110]⟩)))), (3, (1, (.const (.string ⟨#[110, 101, 119]⟩)))), (4, (1, (.const (.string ⟨#[102, 114, 101, 101]⟩)))), (5, (1, (.const (.string ⟨#[116, 117, 112, 108, 101]⟩)))), (6, (1, (.const (.string ⟨#[103, 101, 116]⟩)))), (7, (1, (.const (.string ⟨#[115, 101, 116]⟩)))), (8, (1, (.const (.string ⟨#[97, 114, 114, 97, 121]⟩)))), (9, (1, (.const (.string ⟨#[108, 111, 97, 100]⟩)))), (10, (1, (.const (.string ⟨#[115, 116, 111, 114, 101]⟩)))), (11, (1, (.const (.string ⟨#[108, 101, 110]⟩)))), (12, (1, (.const (.string ⟨#[105, 110]⟩)))), (13, (1, (.const (.string ⟨#[111, 117, 116]⟩)))), (14, (1, (.const (.string ⟨#[99, 97, 108, 108]⟩))))]⟩, qm 10 0, ⟨none, .raw ⟨(some 11), (.index 85 (.tmp 9) (.tmp 10)), 9, "", #[], none⟩⟩, qm 2 11]
def parse_Op_lc : LC := (.seq (.ops Qlp) (.seq (.seq (.ops Qlo) (.cond (.tmp 8) (.seq (.ops Qln) .ret) .skip)) (.seq (.ops Qlm) .ret)))
@[reducible] def QmD : FuncId := 16
theorem Qjx : lowF Tryz.prog Tryz.f16 = some parse_Op_lc := by kernel_rfl
theorem Q5o {a0 : Value} {w : World} {R : Ending → World → Prop} (h : parse_Op_lc.wp Tryz.prog (retQ Tryz.prog [.tmp 2] R) (Qg [a0]) w) : Calls Tryz.prog QmD ⟨[a0]⟩ w R :=
  Q6 Tryz.func16 Qjx (by kernel_rfl) (by kernel_rfl) h

/- 17 -/
def Qma : List GO := [qk 2 (.string ⟨#[]⟩)]
def Qm9 : List GO := [qm 3 0, qj 4 .lss 3 3 1, qm 5 4, qg 5 false (qm 6 0), qg 5 false (qj 7 .gtr 3 6 14), ⟨none, .pick 8 (.tmp 5) (.const (.bool true)) (.tmp 7)⟩]
def Qm8 : List GO := [qk 2 (.string ⟨#[]⟩)]
def Qm7 : List GO := [⟨none, .buildS 9 9 14 [(.string ⟨#[]⟩), (.string ⟨#[]⟩), (.string ⟨#[]⟩), (.string ⟨#[]⟩), (.string ⟨#[]⟩), (.string ⟨#[]⟩), (.string ⟨#[]⟩), (.string ⟨#[]⟩), (.string ⟨#[]⟩), (.string ⟨#[]⟩), (.string ⟨#[]⟩), (.string ⟨#[]⟩), (.string ⟨#[]⟩), (.string ⟨#[]⟩)] [(0, (1, (.const (.string ⟨#[110, 117, 109]⟩)))), (1, (1, (.const (.string ⟨#[98, 105, 110]⟩)))), (2, (1, (.const (.string ⟨#[110, 101, 119]⟩)))), (3, (1, (.const (.string ⟨#[102, 114, 101, 101]⟩)))), (4, (1, (.const (.string ⟨#[116, 117, 112, 108, 101]⟩)))), (5, (1, (.const (.string ⟨#[103, 101, 116]⟩)))), (6, (1, (.const (.string ⟨#[115, 101, 116]⟩)))), (7, (1, (.const (.string ⟨#[97, 114, 114, 97, 121]⟩)))), (8, (1, (.const (.string ⟨#[108, 111, 97, 100]⟩)))), (9, (1, (.const (.string ⟨#[115, 116, 111, 114, 101]⟩)))), (10, (1, (.const (.string ⟨#[108, 101, 110]⟩)))), (11, (1, (.const (.string ⟨#[105, 110]⟩)))), (12, (1, (.const (.string ⟨#[111, 117, 116]⟩)))), (13, (1, (.const (.string ⟨#[99, 97, 108, 108]⟩))))]⟩, qm 10 0, qj 11 .sub 3 10 1, qi 12 1 9 11, ql 13 12, qm 2 13]
def R_OpWord_lc : LC := (.seq (.ops Qma) (.seq (.seq (.ops Qm9) (.cond (.tmp 8) (.seq (.ops Qm8) .ret) .skip)) (.seq (.ops Qm7) .ret)))
@[reducible] def QmV : FuncId := 17
theorem QkA : lowF Tryz.prog Tryz.f17 = some R_OpWord_lc := by kernel_rfl
theorem QbK {a0 : Value} {w : World} {R : Ending → World → Prop} (h : R_OpWord_lc.wp Tryz.prog (retQ Tryz.prog [.tmp 2] R) (Qg [a0]) w) : Calls Tryz.prog QmV ⟨[a0]⟩ w R :=
  Q6 Tryz.func17 QkA (by kernel_rfl) (by kernel_rfl) h

/- 18 -/
def QgH : List GO := [qk 2 (.string ⟨#[]⟩)]
def QgG : List GO := [qm 3 0, qj 4 .lss 3 3 0, qm 5 4, qg 5 false (qm 6 0), qg 5 false (qj 7 .gtr 3 6 9), ⟨none, .pick 8 (.tmp 5) (.const (.bool true)) (.tmp 7)⟩]
def QgF : List GO := [qk 2 (.string ⟨#[]⟩)]
def QgE : List GO := [⟨none, .build 9 [(.string ⟨#[]⟩), (.string ⟨#[]⟩), (.string ⟨#[]⟩), (.string ⟨#[]⟩), (.string ⟨#[]⟩), (.string ⟨#[]⟩), (.string ⟨#[]⟩), (.string ⟨#[]⟩), (.string ⟨#[]⟩), (.string ⟨#[]⟩)] [(0, (1, (.const (.string ⟨#[]⟩)))), (1, (1, (.const (.string ⟨#[97, 100, 100]⟩)))), (2, (1, (.const (.string ⟨#[115, 117, 98]⟩)))), (3, (1, (.const (.string ⟨#[109, 117, 108]⟩)))), (4, (1, (.const (.string ⟨#[100, 105, 118]⟩)))), (5, (1, (.const (.string ⟨#[109, 111, 100]⟩)))), (6, (1, (.const (.string ⟨#[108, 101, 115, 115]⟩)))), (7, (1, (.const (.string ⟨#[101, 113]⟩)))), (8, (1, (.const (.string ⟨#[97, 110, 100]⟩)))), (9, (1, (.const (.string ⟨#[120, 111, 114]⟩))))]⟩, qm 10 0, ⟨none, .raw ⟨(some 11), (.index 87 (.tmp 9) (.tmp 10)), 9, "", #[], none⟩⟩, qm 2 11]
def parse_Kind_lc : LC := (.seq (.ops QgH) (.seq (.seq (.ops QgG) (.cond (.tmp 8) (.seq (.ops QgF) .ret) .skip)) (.seq (.ops QgE) .ret)))
@[reducible] def Qfj : FuncId := 18
theorem Qdg : lowF Tryz.prog Tryz.f18 = some parse_Kind_lc := by kernel_rfl
theorem Q3O {a0 : Value} {w : World} {R : Ending → World → Prop} (h : parse_Kind_lc.wp Tryz.prog (retQ Tryz.prog [.tmp 2] R) (Qg [a0]) w) : Calls Tryz.prog Qfj ⟨[a0]⟩ w R :=
  Q6 Tryz.func18 Qdg (by kernel_rfl) (by kernel_rfl) h

/- 19 -/
def QiM : List GO := [qk 2 (.string ⟨#[]⟩)]
def QiL : List GO := [qm 3 0, qj 4 .lss 3 3 1, qm 5 4, qg 5 false (qm 6 0), qg 5 false (qj 7 .gtr 3 6 9), ⟨none, .pick 8 (.tmp 5) (.const (.bool true)) (.tmp 7)⟩]
def QiK : List GO := [qk 2 (.string ⟨#[]⟩)]
def QiJ : List GO := [⟨none, .buildS 9 9 9 [(.string ⟨#[]⟩), (.string ⟨#[]⟩), (.string ⟨#[]⟩), (.string ⟨#[]⟩), (.string ⟨#[]⟩), (.string ⟨#[]⟩), (.string ⟨#[]⟩), (.string ⟨#[]⟩), (.string ⟨#[]⟩)] [(0, (1, (.const (.string ⟨#[97, 100, 100]⟩)))), (1, (1, (.const (.string ⟨#[115, 117, 98]⟩)))), (2, (1, (.const (.string ⟨#[109, 117, 108]⟩)))), (3, (1, (.const (.string ⟨#[100, 105, 118]⟩)))), (4, (1, (.const (.string ⟨#[109, 111, 100]⟩)))), (5, (1, (.const (.string ⟨#[108, 101, 115, 115]⟩)))), (6, (1, (.const (.string ⟨#[101, 113]⟩)))), (7, (1, (.const (.string ⟨#[97, 110, 100]⟩)))), (8, (1, (.const (.string ⟨#[120, 111, 114]⟩))))]⟩, qm 10 0, qj 11 .sub 3 10 1, qi 12 1 9 11, ql 13 12, qm 2 13]
def R_KindWord_lc : LC := (.seq (.ops QiM) (.seq (.seq (.ops QiL) (.cond (.tmp 8) (.seq (.ops QiK) .ret) .skip)) (.seq (.ops QiJ) .ret)))
@[reducible] def Qfv : FuncId := 19
theorem QeH : lowF Tryz.prog Tryz.f19 = some R_KindWord_lc := by kernel_rfl
theorem Q6Y {a0 : Value} {w : World} {R : Ending → World → Prop} (h : R_KindWord_lc.wp Tryz.prog (retQ Tryz.prog [.tmp 2] R) (Qg [a0]) w) : Calls Tryz.prog Qfv ⟨[a0]⟩ w R :=
  Q6 Tryz.func19 QeH (by kernel_rfl) (by kernel_rfl) h

/- 20 -/
def Qfb : List GO := [qb 1 24 0, ⟨none, .alloc 2 29 [(vi 0), (vi 0)]⟩]
def Qfa : List GO := [qf 11 1 0, ql 12 11, qL 13 12, qj 14 .lss 3 13 1, qm 15 14, qg 15 false (qf 16 1 0), qg 15 false (ql 17 16), qg 15 false (qL 18 17), qg 15 false (qj 19 .gtr 3 18 8), ⟨none, .pick 20 (.tmp 15) (.const (.bool true)) (.tmp 19)⟩]
def Qf9 : List GO := [⟨none, .call (some 21) 30 [(.const (vi 2)), (.const (vi (-1)))]⟩, qw 2 2 21]
def Qf8 : List GO := [qk 3 (vi 0)]
def Qf7 : List GO := [qm 22 3, qf 23 1 0, ql 24 23, qL 25 24, qt 26 .lss 3 22 25]
def Qf6 : List GO := [qf 29 1 0, ql 30 29, qm 31 3, qi 32 4 30 31, qV 33 4 32, ⟨none, .alloc 4 43 [(vi 0), vn, vn, vn]⟩, qw 4 4 33]
def Qf5 : List GO := [qf 34 4 0, ql 35 34, qj 36 .lss 3 35 0, qm 37 36, qg 37 false (qf 38 4 0), qg 37 false (ql 39 38), qg 37 false (qj 40 .gtr 3 39 6), ⟨none, .pick 41 (.tmp 37) (.const (.bool true)) (.tmp 40)⟩]
def Qf4 : List GO := [qm 42 3, ⟨none, .call (some 43) 45 [(.tmp 42)]⟩, ⟨none, .call (some 44) 30 [(.const (vi 1)), (.tmp 43)]⟩, qw 2 2 44]
def Qf3 : List GO := [qf 45 4 1, ql 46 45, qf 47 4 0, ql 48 47, ⟨none, .call (some 49) 46 [(.tmp 46), (.tmp 48)]⟩, qm 5 49]
def Qf2 : List GO := [qm 50 5, qj 51 .neq 3 50 0]
def Qcm : List GO := [qm 52 5, qm 53 3, ⟨none, .call (some 54) 45 [(.tmp 53)]⟩, ⟨none, .call (some 55) 30 [(.tmp 52), (.tmp 54)]⟩, qw 2 2 55]
def Qcl : List GO := [qf 56 4 2, ql 57 56, qf 58 4 0, ql 59 58, ⟨none, .call (some 60) 46 [(.tmp 57), (.tmp 59)]⟩, qm 6 60]
def Qck : List GO := [qm 61 6, qj 62 .neq 3 61 0]
def Qcj : List GO := [qm 63 6, qm 64 3, ⟨none, .call (some 65) 45 [(.tmp 64)]⟩, ⟨none, .call (some 66) 30 [(.tmp 63), (.tmp 65)]⟩, qw 2 2 66]
def Qci : List GO := [qf 67 4 3, ql 68 67, qL 69 68, qj 70 .lss 3 69 1, qm 71 70, qg 71 false (qf 72 4 3), qg 71 false (ql 73 72), qg 71 false (qL 74 73), qg 71 false (qj 75 .gtr 3 74 12), ⟨none, .pick 76 (.tmp 71) (.const (.bool true)) (.tmp 75)⟩]
def Qch : List GO := [qm 77 3, ⟨none, .call (some 78) 45 [(.tmp 77)]⟩, ⟨none, .call (some 79) 30 [(.const (vi 2)), (.tmp 78)]⟩, qw 2 2 79]
def Qcg : List GO := [qm 80 3, qj 81 .eql 3 80 0]
def Qcf : List GO := [qf 82 4 0, ql 83 82, qj 84 .eql 3 83 0, qm 85 84, qg 85 true (qf 86 4 1), qg 85 true (ql 87 86), qg 85 true (qL 88 87), qg 85 true (qj 89 .eql 3 88 0), ⟨none, .pick 90 (.tmp 85) (.tmp 89) (.const (.bool false))⟩, qm 7 90]
def Qce : List GO := [qk 8 (vi 0)]
def Qcd : List GO := [qm 91 8, qf 92 4 2, ql 93 92, qL 94 93, qt 95 .lss 3 91 94]
def Qcc : List GO := [qm 98 7, qm 99 98, qg 99 true (qf 100 4 2), qg 99 true (ql 101 100), qg 99 true (qm 102 8), qg 99 true (qi 103 3 101 102), qg 99 true (qf 104 103 0), qg 99 true (ql 105 104), qg 99 true (qj 106 .eql 3 105 1), ⟨none, .pick 107 (.tmp 99) (.tmp 106) (.const (.bool false))⟩, qm 7 107]
def Qcb : List GO := [qm 96 8, qj 97 .add 3 96 1, qm 8 97]
def Q4B : LC := (.seq (.seq (.ops Qcd) (.cond (.tmp 95) .skip (.exit 2))) (.seq (.block 3 (.ops Qcc)) (.ops Qcb)))
def Qca : List GO := [qm 108 7, ⟨none, .un 109 .not (.tmp 108)⟩]
def Qc9 : List GO := [qm 110 3, ⟨none, .call (some 111) 45 [(.tmp 110)]⟩, ⟨none, .call (some 112) 30 [(.const (vi 18)), (.tmp 111)]⟩, qw 2 2 112]
def Qc8 : List GO := [qk 9 (vi 0)]
def Qc7 : List GO := [qm 113 9, qf 114 4 3, ql 115 114, qL 116 115, qt 117 .lss 3 113 116]
def Qc6 : List GO := [qV 120 1 1, qm 121 3, qm 122 9, ⟨none, .call (some 123) 47 [(.tmp 120), (.tmp 121), (.tmp 122)]⟩, ⟨none, .alloc 10 29 [(vi 0), (vi 0)]⟩, qw 2 10 123]
def Qc5 : List GO := [qf 124 10 0, ql 125 124, qj 126 .neq 3 125 0]
def Qc4 : List GO := [qV 127 2 10, qw 2 2 127]
def Qc3 : List GO := [qm 118 9, qj 119 .add 3 118 1, qm 9 119]
def Q4A : LC := (.seq (.seq (.ops Qc7) (.cond (.tmp 117) .skip (.exit 4))) (.seq (.block 5 (.seq (.ops Qc6) (.seq (.ops Qc5) (.cond (.tmp 126) (.seq (.ops Qc4) .ret) .skip)))) (.ops Qc3)))
def Qc2 : List GO := [qm 27 3, qj 28 .add 3 27 1, qm 3 28]
def Q5c : LC := (.seq (.seq (.ops Qf7) (.cond (.tmp 26) .skip (.exit 0))) (.seq (.block 1 (.seq (.ops Qf6) (.seq (.seq (.ops Qf5) (.cond (.tmp 41) (.seq (.ops Qf4) .ret) .skip)) (.seq (.seq (.ops Qf3) (.seq (.ops Qf2) (.cond (.tmp 51) (.seq (.ops Qcm) .ret) .skip))) (.seq (.seq (.ops Qcl) (.seq (.ops Qck) (.cond (.tmp 62) (.seq (.ops Qcj) .ret) .skip))) (.seq (.seq (.ops Qci) (.cond (.tmp 76) (.seq (.ops Qch) .ret) .skip)) (.seq (.seq (.ops Qcg) (.cond (.tmp 81) (.seq (.ops Qcf) (.seq (.seq (.ops Qce) (.block 2 (.loop Q4B))) (.seq (.ops Qca) (.cond (.tmp 109) (.seq (.ops Qc9) .ret) .skip)))) .skip)) (.seq (.ops Qc8) (.block 4 (.loop Q4A)))))))))) (.ops Qc2)))
def Qc1 : List GO := [⟨none, .build 128 [(vi 0), (vi 0)] []⟩, qw 2 2 128]
def R_CodeFault_lc : LC := (.seq (.ops Qfb) (.seq (.seq (.ops Qfa) (.cond (.tmp 20) (.seq (.ops Qf9) .ret) .skip)) (.seq (.seq (.ops Qf8) (.block 0 (.loop Q5c))) (.seq (.ops Qc1) .ret))))
@[reducible] def QE : FuncId := 20
theorem Qcn : lowF Tryz.prog Tryz.f20 = some R_CodeFault_lc := by kernel_rfl
theorem Qfc {a0 : Value} {w : World} {R : Ending → World → Prop} (h : R_CodeFault_lc.wp Tryz.prog (retQ Tryz.prog [.cell 2 29] R) (Qg [a0]) w) : Calls Tryz.prog QE ⟨[a0]⟩ w R :=
  Q6 Tryz.func20 Qcn (by kernel_rfl) (by kernel_rfl) h

/- 21 -/
def Ql5 : List GO := [⟨none, .alloc 0 24 [vn]⟩]
def Ql4 : List GO := [⟨none, .build 1 [(vi 0), (vi 0), (vi 0), vn, vn, (vi 0), vn, vn, vn] [(0, (1, (.const (vi 3))))]⟩, ⟨none, .build 2 [(vi 0), vn, vn, (vi 0), (vi 0), (vi 0), vn, vn, (vi 0), vn, vn, vn] [(3, (9, (.tmp 1)))]⟩, ⟨none, .buildS 3 52 1 [(vi 0), vn, vn, (vi 0), (vi 0), (vi 0), vn, vn, (vi 0), vn, vn, vn] [(0, (12, (.tmp 2)))]⟩, ⟨none, .build 4 [(vi 0), vn, vn, vn] [(3, (1, (.tmp 3)))]⟩, ⟨none, .buildS 5 43 1 [(vi 0), vn, vn, vn] [(0, (4, (.tmp 4)))]⟩, ⟨none, .build 6 [vn] [(0, (1, (.tmp 5)))]⟩, qw 1 0 6]
def Law_least_lc : LC := (.seq (.ops Ql5) (.seq (.ops Ql4) .ret))
@[reducible] def Ql7 : FuncId := 21
theorem Qje : lowF Tryz.prog Tryz.f21 = some Law_least_lc := by kernel_rfl
theorem Ql6 {w : World} {R : Ending → World → Prop} (h : Law_least_lc.wp Tryz.prog (retQ Tryz.prog [.cell 0 24] R) (Qg []) w) : Calls Tryz.prog Ql7 ⟨[]⟩ w R :=
  Q6 Tryz.func21 Qje (by kernel_rfl) (by kernel_rfl) h

/- 22 -/
def Qb2 : List GO := [qk 2 (.bool false)]
def Qb1 : List GO := [qm 4 0, qL 5 4, qj 6 .gtr 3 5 200]
def Qb0 : List GO := [qk 2 (.bool true)]
def QaZ : List GO := [qk 3 (vi 0)]
def QaY : List GO := [qm 7 3, qm 8 0, qL 9 8, qt 10 .lss 3 7 9]
def QaX : List GO := [qm 13 0, qm 14 3, qi 15 3 13 14, qV 16 3 15, ⟨none, .call (some 17) 48 [(.tmp 16)]⟩]
def QaW : List GO := [qk 2 (.bool true)]
def QaV : List GO := [qm 11 3, qj 12 .add 3 11 1, qm 3 12]
def Q4v : LC := (.seq (.seq (.ops QaY) (.cond (.tmp 10) .skip (.exit 0))) (.seq (.block 1 (.seq (.ops QaX) (.cond (.tmp 17) (.seq (.ops QaW) .ret) .skip))) (.ops QaV)))
def QaU : List GO := [qk 2 (.bool false)]
def R_greatTypes_lc : LC := (.seq (.ops Qb2) (.seq (.seq (.ops Qb1) (.cond (.tmp 6) (.seq (.ops Qb0) .ret) .skip)) (.seq (.seq (.ops QaZ) (.block 0 (.loop Q4v))) (.seq (.ops QaU) .ret))))
@[reducible] def Q2n : FuncId := 22
theorem Q8p : lowF Tryz.prog Tryz.f22 = some R_greatTypes_lc := by kernel_rfl
theorem Qb3 {a0 : Value} {w : World} {R : Ending → World → Prop} (h : R_greatTypes_lc.wp Tryz.prog (retQ Tryz.prog [.tmp 2] R) (Qg [a0]) w) : Calls Tryz.prog Q2n ⟨[a0]⟩ w R :=
  Q6 Tryz.func22 Q8p (by kernel_rfl) (by kernel_rfl) h

/- 23 -/
def QiG : List GO := [qk 2 vn]
def QiF : List GO := [qk 3 vn]
def QiE : List GO := [qk 4 (vi 0)]
def QiD : List GO := [qm 5 4, qm 6 0, qL 7 6, qt 8 .lss 3 5 7]
def QiC : List GO := [qm 11 3, qm 12 0, qm 13 4, qi 14 3 12 13, qV 15 3 14, ⟨none, .call (some 16) 49 [(.tmp 15)]⟩, ⟨none, .buildS 17 91 1 [(vi 0), (vi 0), vn] [(0, (3, (.tmp 16)))]⟩, ⟨none, .raw ⟨(some 18), (.call ⟨(.builtin .append), #[(.tmp 11), (.tmp 17)], #[40, 40]⟩), 40, "", #[], none⟩⟩, qm 3 18]
def QiB : List GO := [qm 9 4, qj 10 .add 3 9 1, qm 4 10]
def Q6X : LC := (.seq (.seq (.ops QiD) (.cond (.tmp 8) .skip (.exit 0))) (.seq (.block 1 (.ops QiC)) (.ops QiB)))
def QiA : List GO := [qm 19 3, qm 2 19]
def R_OwnTypes_lc : LC := (.seq (.ops QiG) (.seq (.ops QiF) (.seq (.seq (.ops QiE) (.block 0 (.loop Q6X))) (.seq (.ops QiA) .ret))))
@[reducible] def Q7I : FuncId := 23
theorem Qet : lowF Tryz.prog Tryz.f23 = some R_OwnTypes_lc := by kernel_rfl
theorem QiH {a0 : Value} {w : World} {R : Ending → World → Prop} (h : R_OwnTypes_lc.wp Tryz.prog (retQ Tryz.prog [.tmp 2] R) (Qg [a0]) w) : Calls Tryz.prog Q7I ⟨[a0]⟩ w R :=
  Q6 Tryz.func23 Qet (by kernel_rfl) (by kernel_rfl) h

/- 24 -/
def Qk4 : List GO := [qk 2 vn]
def Qk3 : List GO := [qk 3 vn]
def Qk2 : List GO := [qm 4 3, qm 5 0, ⟨none, .raw ⟨(some 6), (.call ⟨(.builtin .append), #[(.tmp 4), (.tmp 5)], #[46, 46]⟩), 46, "", #[], none⟩⟩, qm 2 6]
def R_ownInts_lc : LC := (.seq (.ops Qk4) (.seq (.ops Qk3) (.seq (.ops Qk2) .ret)))
@[reducible] def Qk6 : FuncId := 24
theorem Qhk : lowF Tryz.prog Tryz.f24 = some R_ownInts_lc := by kernel_rfl
theorem Qk5 {a0 : Value} {w : World} {R : Ending → World → Prop} (h : R_ownInts_lc.wp Tryz.prog (retQ Tryz.prog [.tmp 2] R) (Qg [a0]) w) : Calls Tryz.prog Qk6 ⟨[a0]⟩ w R :=
  Q6 Tryz.func24 Qhk (by kernel_rfl) (by kernel_rfl) h

/- 25 -/
def Qny : List GO := [qb 1 48 0, ⟨none, .alloc 2 48 [(vi 0), vn, vn]⟩]
def Qnx : List GO := [qf 3 1 0, ql 4 3, qf 5 1 1, ql 6 5, ⟨none, .call (some 7) 24 [(.tmp 6)]⟩, qf 8 1 2, ql 9 8, ⟨none, .call (some 10) 24 [(.tmp 9)]⟩, ⟨none, .build 11 [(vi 0), vn, vn] [(0, (1, (.tmp 4))), (1, (1, (.tmp 7))), (2, (1, (.tmp 10)))]⟩, qw 3 2 11]
def QnA : List (List Nat) := [[],[0],[],[2],[3],[],[5],[6,4],[1,4,7],[8,7,0,1,2,3,4,5,6,7,8]]
def R_ownTo_lc : LC := (.seq (.ops Qny) (.seq (.draw Qnx QnA) .ret))
@[reducible] def QoL : FuncId := 25
theorem Qm6 : lowF Tryz.prog Tryz.f25 = some R_ownTo_lc := by kernel_rfl
theorem Qnz {a0 : Value} {w : World} {R : Ending → World → Prop} (h : R_ownTo_lc.wp Tryz.prog (retQ Tryz.prog [.cell 2 48] R) (Qg [a0]) w) : Calls Tryz.prog QoL ⟨[a0]⟩ w R :=
  Q6 Tryz.func25 Qm6 (by kernel_rfl) (by kernel_rfl) h

/- 26 -/
def Qh8 : List GO := [qb 1 24 0, ⟨none, .alloc 2 29 [(vi 0), (vi 0)]⟩]
def Qh7 : List GO := [qV 7 1 1, ⟨none, .build 8 [vn, (vi 0), (vi 0), (vi 0)] [(0, (1, (.tmp 7))), (3, (1, (.const (vi (-1)))))]⟩, qb 9 97 8, qm 3 9]
def Qh6 : List GO := [qm 10 3, qf 11 1 0, ql 12 11, qL 13 12, qj 14 .eql 3 13 0, qm 15 14, qg 15 false (qf 16 1 0), qg 15 false (ql 17 16), qg 15 false (qL 18 17), qg 15 false (qj 19 .gtr 3 18 8), ⟨none, .pick 20 (.tmp 15) (.const (.bool true)) (.tmp 19)⟩, ⟨none, .call (some 21) 50 [(.tmp 10), (.tmp 20), (.const (vi 2))]⟩]
def Qh5 : List GO := [qk 4 (vi 0)]
def Qh4 : List GO := [qm 22 4, qf 23 1 0, ql 24 23, qL 25 24, qt 26 .lss 3 22 25, qm 27 26, qg 27 true (qm 28 3), qg 27 true (qn 29 28), qg 27 true (qf 30 29 1), qg 27 true (qf 31 30 0), qg 27 true (ql 32 31), qg 27 true (qj 33 .eql 3 32 0), ⟨none, .pick 34 (.tmp 27) (.tmp 33) (.const (.bool false))⟩]
def Qh3 : List GO := [qf 37 1 0, ql 38 37, qm 39 4, qi 40 4 38 39, qV 41 4 40, ⟨none, .alloc 5 43 [(vi 0), vn, vn, vn]⟩, qw 4 5 41]
def Qh2 : List GO := [qm 42 3, qm 43 4, ⟨none, .call (some 44) 51 [(.tmp 43)]⟩, qn 45 42, qf 46 45 3, qs 46 44]
def Qh1 : List GO := [qm 47 3, qf 48 5 0, ql 49 48, qj 50 .lss 3 49 0, qm 51 50, qg 51 false (qf 52 5 0), qg 51 false (ql 53 52), qg 51 false (qj 54 .gtr 3 53 6), ⟨none, .pick 55 (.tmp 51) (.const (.bool true)) (.tmp 54)⟩, ⟨none, .call (some 56) 50 [(.tmp 47), (.tmp 55), (.const (vi 1))]⟩]
def Qh0 : List GO := [qm 57 3, qf 58 5 1, ql 59 58, qf 60 5 0, ql 61 60, ⟨none, .call (some 62) 52 [(.tmp 57), (.tmp 59), (.tmp 61)]⟩]
def QgZ : List GO := [qm 63 3, qf 64 5 2, ql 65 64, qf 66 5 0, ql 67 66, ⟨none, .call (some 68) 52 [(.tmp 63), (.tmp 65), (.tmp 67)]⟩]
def Qdu : List GO := [qm 69 3, qf 70 5 3, ql 71 70, qL 72 71, qj 73 .eql 3 72 0, qm 74 73, qg 74 false (qf 75 5 3), qg 74 false (ql 76 75), qg 74 false (qL 77 76), qg 74 false (qj 78 .gtr 3 77 12), ⟨none, .pick 79 (.tmp 74) (.const (.bool true)) (.tmp 78)⟩, ⟨none, .call (some 80) 50 [(.tmp 69), (.tmp 79), (.const (vi 2))]⟩]
def Qdt : List GO := [qm 81 3, qm 82 4, qj 83 .eql 3 82 0, qm 84 83, qg 84 true (qf 85 5 0), qg 84 true (ql 86 85), qg 84 true (qj 87 .gtr 3 86 0), qg 84 true (qm 88 87), qg 88 false (qf 89 5 1), qg 88 false (ql 90 89), qg 88 false (qL 91 90), qg 88 false (qj 92 .gtr 3 91 0), ⟨some (84, true), .pick 93 (.tmp 88) (.const (.bool true)) (.tmp 92)⟩, qg 84 true (qm 94 93), qg 94 false (qf 95 5 2), qg 94 false (ql 96 95), ⟨some (94, false), .call (some 97) 53 [(.tmp 96), (.func 54)]⟩, ⟨some (84, true), .pick 98 (.tmp 94) (.const (.bool true)) (.tmp 97)⟩, ⟨none, .pick 99 (.tmp 84) (.tmp 98) (.const (.bool false))⟩, ⟨none, .call (some 100) 50 [(.tmp 81), (.tmp 99), (.const (vi 18))]⟩]
def Qds : List GO := [qk 6 (vi 0)]
def Qdr : List GO := [qm 101 6, qf 102 5 3, ql 103 102, qL 104 103, qt 105 .lss 3 101 104, qm 106 105, qg 106 true (qm 107 3), qg 106 true (qn 108 107), qg 106 true (qf 109 108 1), qg 106 true (qf 110 109 0), qg 106 true (ql 111 110), qg 106 true (qj 112 .eql 3 111 0), ⟨none, .pick 113 (.tmp 106) (.tmp 112) (.const (.bool false))⟩]
def Qdq : List GO := [qm 116 3, qm 117 4, qm 118 6, ⟨none, .call (some 119) 55 [(.tmp 116), (.tmp 117), (.tmp 118)]⟩]
def Qdp : List GO := [qm 114 6, qj 115 .add 3 114 1, qm 6 115]
def Q56 : LC := (.seq (.seq (.ops Qdr) (.cond (.tmp 113) .skip (.exit 2))) (.seq (.block 3 (.ops Qdq)) (.ops Qdp)))
def Qdo : List GO := [qm 35 4, qj 36 .add 3 35 1, qm 4 36]
def Q6L : LC := (.seq (.seq (.ops Qh4) (.cond (.tmp 34) .skip (.exit 0))) (.seq (.block 1 (.seq (.ops Qh3) (.seq (.ops Qh2) (.seq (.ops Qh1) (.seq (.ops Qh0) (.seq (.ops QgZ) (.seq (.ops Qdu) (.seq (.ops Qdt) (.seq (.ops Qds) (.block 2 (.loop Q56))))))))))) (.ops Qdo)))
def Qdn : List GO := [qm 120 3, qn 121 120, qf 122 121 1, qV 123 2 122, qw 2 2 123]
def code_Check_lc : LC := (.seq (.ops Qh8) (.seq (.ops Qh7) (.seq (.ops Qh6) (.seq (.seq (.ops Qh5) (.block 0 (.loop Q6L))) (.seq (.ops Qdn) .ret)))))
@[reducible] def Q2X : FuncId := 26
theorem Qdv : lowF Tryz.prog Tryz.f26 = some code_Check_lc := by kernel_rfl
theorem Qh9 {a0 : Value} {w : World} {R : Ending → World → Prop} (h : code_Check_lc.wp Tryz.prog (retQ Tryz.prog [.cell 2 29] R) (Qg [a0]) w) : Calls Tryz.prog Q2X ⟨[a0]⟩ w R :=
  Q6 Tryz.func26 Qdv (by kernel_rfl) (by kernel_rfl) h

/- 27 -/
def Q7e : List GO := [qb 1 24 0, qk 2 (.bool false)]
def Q7d : List GO := [⟨none, .alloc 3 4 [(.bool false)]⟩, ⟨none, .store1 (.tmp 3) (.const (.bool true))⟩]
def Q7c : List GO := [⟨none, .mkfn 13 56 [(.tmp 3)]⟩, qm 4 13]
def Q7b : List GO := [qf 14 1 0, ql 15 14, qL 16 15, qk 17 (vi 0)]
def Q7a : List GO := [qt 18 .lss 3 17 16]
def Q79 : List GO := [qi 19 4 15 17, qV 20 4 19, ⟨none, .alloc 6 43 [(vi 0), vn, vn, vn]⟩, qw 4 6 20]
def Q78 : List GO := [qf 21 6 3, ql 22 21, qL 23 22, qk 24 (vi 0)]
def Q77 : List GO := [qt 25 .lss 3 24 23]
def Q76 : List GO := [qi 26 12 22 24, qV 27 12 26, ⟨none, .alloc 8 52 [(vi 0), vn, vn, (vi 0), (vi 0), (vi 0), vn, vn, (vi 0), vn, vn, vn]⟩, qw 12 8 27]
def Q75 : List GO := [qf 28 8 2, ql 29 28, qL 30 29, qk 31 (vi 0)]
def Q6d : List GO := [qt 32 .lss 3 31 30]
def Q6c : List GO := [qi 33 8 29 31, qV 34 8 33, ⟨none, .alloc 10 54 [(vi 0), (vi 0), (vi 0), (vi 0), (vi 0), (vi 0), vn, vn]⟩, qw 8 10 34]
def Q6b : List GO := [qm 35 4, qf 36 10 1, ql 37 36, qf 38 10 2, ql 39 38, qf 40 10 3, ql 41 40, qf 42 10 4, ql 43 42, ⟨none, .buildS 44 3 4 [(vi 0), (vi 0), (vi 0), (vi 0)] [(0, (1, (.tmp 37))), (1, (1, (.tmp 39))), (2, (1, (.tmp 41))), (3, (1, (.tmp 43)))]⟩, ⟨none, .callv (some 45) (.tmp 35) [(.tmp 44)]⟩]
def Q6a : List GO := [qm 46 4, qf 47 10 6, ql 48 47, ⟨none, .callv (some 49) (.tmp 46) [(.tmp 48)]⟩]
def Q69 : List GO := [qm 50 4, qf 51 10 7, ql 52 51, ⟨none, .callv (some 53) (.tmp 50) [(.tmp 52)]⟩]
def Q68 : List GO := [qj 54 .add 3 31 1, qm 31 54]
def Q3g : LC := (.seq (.ops Q6d) (.seq (.cond (.tmp 32) .skip (.exit 4)) (.seq (.block 5 (.seq (.ops Q6c) (.seq (.ops Q6b) (.seq (.ops Q6a) (.ops Q69))))) (.ops Q68))))
def Q67 : List GO := [qm 55 4, qf 56 8 3, qf 57 56 1, ql 58 57, ⟨none, .buildS 59 3 1 [(vi 0)] [(0, (1, (.tmp 58)))]⟩, ⟨none, .callv (some 60) (.tmp 55) [(.tmp 59)]⟩]
def Q66 : List GO := [qm 61 4, qf 62 8 3, qf 63 62 8, ql 64 63, ⟨none, .callv (some 65) (.tmp 61) [(.tmp 64)]⟩]
def Q65 : List GO := [qf 66 8 3, qf 67 66 2, qV 68 3 67, qf 69 8 3, qf 70 69 5, qV 71 3 70, ⟨none, .buildS 72 48 2 [(vi 0), vn, vn, (vi 0), vn, vn] [(0, (3, (.tmp 68))), (3, (3, (.tmp 71)))]⟩, qL 73 72, qk 74 (vi 0)]
def Q64 : List GO := [qt 75 .lss 3 74 73]
def Q63 : List GO := [qi 76 3 72 74, qV 77 3 76, ⟨none, .alloc 12 48 [(vi 0), vn, vn]⟩, qw 3 12 77]
def Q62 : List GO := [qm 78 4, qf 79 12 1, ql 80 79, ⟨none, .callv (some 81) (.tmp 78) [(.tmp 80)]⟩]
def Q61 : List GO := [qm 82 4, qf 83 12 2, ql 84 83, ⟨none, .callv (some 85) (.tmp 82) [(.tmp 84)]⟩]
def Q60 : List GO := [qj 86 .add 3 74 1, qm 74 86]
def Q3f : LC := (.seq (.ops Q64) (.seq (.cond (.tmp 75) .skip (.exit 6)) (.seq (.block 7 (.seq (.ops Q63) (.seq (.ops Q62) (.ops Q61)))) (.ops Q60))))
def Q5Z : List GO := [qj 87 .add 3 24 1, qm 24 87]
def Q3D : LC := (.seq (.ops Q77) (.seq (.cond (.tmp 25) .skip (.exit 2)) (.seq (.block 3 (.seq (.ops Q76) (.seq (.seq (.ops Q75) (.block 4 (.loop Q3g))) (.seq (.ops Q67) (.seq (.ops Q66) (.seq (.ops Q65) (.block 6 (.loop Q3f)))))))) (.ops Q5Z))))
def Q5Y : List GO := [qj 88 .add 3 17 1, qm 17 88]
def Q3E : LC := (.seq (.ops Q7a) (.seq (.cond (.tmp 18) .skip (.exit 0)) (.seq (.block 1 (.seq (.ops Q79) (.seq (.ops Q78) (.block 2 (.loop Q3D))))) (.ops Q5Y))))
def Q5X : List GO := [ql 89 3, qm 2 89]
def render_numbers_lc : LC := (.seq (.ops Q7e) (.seq (.ops Q7d) (.seq (.ops Q7c) (.seq (.seq (.ops Q7b) (.block 0 (.loop Q3E))) (.seq (.ops Q5X) .ret)))))
@[reducible] def Q52 : FuncId := 27
theorem Q6e : lowF Tryz.prog Tryz.f27 = some render_numbers_lc := by kernel_rfl
theorem Q7f {a0 : Value} {w : World} {R : Ending → World → Prop} (h : render_numbers_lc.wp Tryz.prog (retQ Tryz.prog [.tmp 2] R) (Qg [a0]) w) : Calls Tryz.prog Q52 ⟨[a0]⟩ w R :=
  Q6 Tryz.func27 Q6e (by kernel_rfl) (by kernel_rfl) h

/- 28 -/
def Q9T : List GO := [qb 1 24 0, qk 2 (.string ⟨#[]⟩)]
def Q9S : List GO := [⟨none, .alloc 3 107 [(.pointer none), vn]⟩]
def Q9R : List GO := [qf 10 1 0, ql 11 10, qL 12 11, qk 13 (vi 0)]
def Q9Q : List GO := [qt 14 .lss 3 13 12]
def Q9P : List GO := [qi 15 4 11 13, qV 16 4 15, ⟨none, .alloc 5 43 [(vi 0), vn, vn, vn]⟩, qw 4 5 16]
def Q9O : List GO := [qf 17 5 0, ql 18 17, ⟨none, .call (some 19) 58 [(.tmp 18)]⟩, ⟨none, .bin 20 .add 9 (.const (.string ⟨#[102, 117, 110, 99, 32]⟩)) (.tmp 19)⟩, ⟨none, .bin 21 .add 9 (.tmp 20) (.const (.string ⟨#[32]⟩))⟩, qf 22 5 1, ql 23 22, ⟨none, .call (some 24) 59 [(.tmp 23)]⟩, qt 25 .add 9 21 24, ⟨none, .bin 26 .add 9 (.tmp 25) (.const (.string ⟨#[32, 45, 62, 32]⟩))⟩, qf 27 5 2, ql 28 27, ⟨none, .call (some 29) 59 [(.tmp 28)]⟩, qt 30 .add 9 26 29, ⟨none, .bin 31 .add 9 (.tmp 30) (.const (.string ⟨#[32, 123, 10]⟩))⟩, ⟨none, .call (some 32) 57 [(.tmp 3), (.tmp 31)]⟩]
def Q9W : List (List Nat) := [[],[0],[1],[2],[3],[],[5],[6,2],[4,7],[8],[],[10],[11,7],[9,12],[13],[14,12]]
def Q9N : List GO := [qf 33 5 3, ql 34 33, qL 35 34, qk 36 (vi 0)]
def Q9M : List GO := [qt 37 .lss 3 36 35]
def Q9L : List GO := [qi 38 12 34 36, qV 39 12 38, ⟨none, .alloc 7 52 [(vi 0), vn, vn, (vi 0), (vi 0), (vi 0), vn, vn, (vi 0), vn, vn, vn]⟩, qw 12 7 39]
def Q9K : List GO := [qf 40 7 0, ql 41 40, ⟨none, .call (some 42) 58 [(.tmp 41)]⟩, ⟨none, .bin 43 .add 9 (.const (.string ⟨#[98, 108, 111, 99, 107, 32]⟩)) (.tmp 42)⟩, ⟨none, .bin 44 .add 9 (.tmp 43) (.const (.string ⟨#[32]⟩))⟩, qf 45 7 1, ql 46 45, ⟨none, .call (some 47) 59 [(.tmp 46)]⟩, qt 48 .add 9 44 47, ⟨none, .bin 49 .add 9 (.tmp 48) (.const (.string ⟨#[32, 123, 10]⟩))⟩, ⟨none, .call (some 50) 57 [(.tmp 3), (.tmp 49)]⟩]
def Q9V : List (List Nat) := [[],[0],[1],[2],[3],[],[5],[6,2],[4,7],[8],[9,7]]
def Q8d : List GO := [qf 51 7 2, ql 52 51, qL 53 52, qk 54 (vi 0)]
def Q8c : List GO := [qt 55 .lss 3 54 53]
def Q8b : List GO := [qi 56 8 52 54, qV 57 8 56, ⟨none, .alloc 9 54 [(vi 0), (vi 0), (vi 0), (vi 0), (vi 0), (vi 0), vn, vn]⟩, qw 8 9 57]
def Q8a : List GO := [qV 58 8 9, ⟨none, .call (some 59) 60 [(.tmp 58)]⟩, ⟨none, .bin 60 .add 9 (.const (.string ⟨#[9]⟩)) (.tmp 59)⟩, ⟨none, .bin 61 .add 9 (.tmp 60) (.const (.string ⟨#[10]⟩))⟩, ⟨none, .call (some 62) 57 [(.tmp 3), (.tmp 61)]⟩]
def Q89 : List GO := [qj 63 .add 3 54 1, qm 54 63]
def Q3T : LC := (.seq (.ops Q8c) (.seq (.cond (.tmp 55) .skip (.exit 4)) (.seq (.block 5 (.seq (.ops Q8b) (.ops Q8a))) (.ops Q89))))
def Q88 : List GO := [qf 64 7 3, qV 65 9 64, ⟨none, .call (some 66) 61 [(.tmp 65)]⟩, ⟨none, .bin 67 .add 9 (.const (.string ⟨#[9]⟩)) (.tmp 66)⟩, ⟨none, .bin 68 .add 9 (.tmp 67) (.const (.string ⟨#[10, 125, 10]⟩))⟩, ⟨none, .call (some 69) 57 [(.tmp 3), (.tmp 68)]⟩]
def Q87 : List GO := [qj 70 .add 3 36 1, qm 36 70]
def Q4b : LC := (.seq (.ops Q9M) (.seq (.cond (.tmp 37) .skip (.exit 2)) (.seq (.block 3 (.seq (.ops Q9L) (.seq (.draw Q9K Q9V) (.seq (.seq (.ops Q8d) (.block 4 (.loop Q3T))) (.ops Q88))))) (.ops Q87))))
def Q86 : List GO := [⟨none, .call (some 71) 57 [(.tmp 3), (.const (.string ⟨#[125, 10]⟩))]⟩]
def Q85 : List GO := [qj 72 .add 3 13 1, qm 13 72]
def Q4c : LC := (.seq (.ops Q9Q) (.seq (.cond (.tmp 14) .skip (.exit 0)) (.seq (.block 1 (.seq (.ops Q9P) (.seq (.draw Q9O Q9W) (.seq (.seq (.ops Q9N) (.block 2 (.loop Q4b))) (.ops Q86))))) (.ops Q85))))
def Q84 : List GO := [⟨none, .call (some 73) 62 [(.tmp 3)]⟩, qm 2 73]
def render_whole_lc : LC := (.seq (.ops Q9T) (.seq (.ops Q9S) (.seq (.seq (.ops Q9R) (.block 0 (.loop Q4c))) (.seq (.ops Q84) .ret))))
@[reducible] def Q7W : FuncId := 28
theorem Q8e : lowF Tryz.prog Tryz.f28 = some render_whole_lc := by kernel_rfl
theorem Q9U {a0 : Value} {w : World} {R : Ending → World → Prop} (h : render_whole_lc.wp Tryz.prog (retQ Tryz.prog [.tmp 2] R) (Qg [a0]) w) : Calls Tryz.prog Q7W ⟨[a0]⟩ w R :=
  Q6 Tryz.func28 Q8e (by kernel_rfl) (by kernel_rfl) h

/- 29 -/
def Qnv : List GO := [qk 2 (.bool false)]
def Qnu : List GO := [qk 3 (vi 0)]
def Qnt : List GO := [qm 4 3, qm 5 0, qL 6 5, qt 7 .lss 3 4 6]
def Qns : List GO := [qm 10 0, qm 11 3, qi 12 1 10 11, ql 13 12, qj 14 .lss 3 13 0, qm 15 14, qg 15 false (qm 16 0), qg 15 false (qm 17 3), qg 15 false (qi 18 1 16 17), qg 15 false (ql 19 18), qg 15 false (qj 20 .gtr 3 19 1000000), ⟨none, .pick 21 (.tmp 15) (.const (.bool true)) (.tmp 20)⟩]
def Qnr : List GO := [qk 2 (.bool false)]
def Qnq : List GO := [qm 8 3, qj 9 .add 3 8 1, qm 3 9]
def Qfu : LC := (.seq (.seq (.ops Qnt) (.cond (.tmp 7) .skip (.exit 0))) (.seq (.block 1 (.seq (.ops Qns) (.cond (.tmp 21) (.seq (.ops Qnr) .ret) .skip))) (.ops Qnq)))
def Qnp : List GO := [qk 2 (.bool true)]
def R_small_lc : LC := (.seq (.ops Qnv) (.seq (.seq (.ops Qnu) (.block 0 (.loop Qfu))) (.seq (.ops Qnp) .ret)))
@[reducible] def QaR : FuncId := 29
theorem Qm2 : lowF Tryz.prog Tryz.f29 = some R_small_lc := by kernel_rfl
theorem Qnw {a0 : Value} {w : World} {R : Ending → World → Prop} (h : R_small_lc.wp Tryz.prog (retQ Tryz.prog [.tmp 2] R) (Qg [a0]) w) : Calls Tryz.prog QaR ⟨[a0]⟩ w R :=
  Q6 Tryz.func29 Qm2 (by kernel_rfl) (by kernel_rfl) h

/- 30 -/
def R_F_r0 : List GO := [⟨none, .alloc 4 29 [(vi 0), (vi 0)]⟩]
def R_F_r1 : List GO := [qm 5 0, qm 6 1, ⟨none, .build 7 [(vi 0), (vi 0)] [(0, (1, (.tmp 5))), (1, (1, (.tmp 6)))]⟩, qw 2 4 7]
def R_F_lc : LC := (.seq (.ops R_F_r0) (.seq (.ops R_F_r1) .ret))
@[reducible] def R_F : FuncId := 30
theorem R_F_low : lowF Tryz.prog Tryz.f30 = some R_F_lc := by kernel_rfl
theorem R_F_in {a0 a1 : Value} {w : World} {R : Ending → World → Prop} (h : R_F_lc.wp Tryz.prog (retQ Tryz.prog [.cell 4 29] R) (Qg [a0, a1]) w) : Calls Tryz.prog R_F ⟨[a0, a1]⟩ w R :=
  Q6 Tryz.func30 R_F_low (by kernel_rfl) (by kernel_rfl) h

/- 31 -/
def QbU : List GO := [qb 1 24 0, qk 2 (.string ⟨#[]⟩)]
def QbT : List GO := [qk 3 (.string ⟨#[]⟩)]
def QbS : List GO := [qk 4 (vi 0)]
def QbR : List GO := [qm 9 4, qf 10 1 0, ql 11 10, qL 12 11, qt 13 .lss 3 9 12]
def QbQ : List GO := [qf 16 1 0, ql 17 16, qm 18 4, qi 19 4 17 18, qV 20 4 19, ⟨none, .alloc 5 43 [(vi 0), vn, vn, vn]⟩, qw 4 5 20]
def QbP : List GO := [qm 21 3, qf 22 5 0, ql 23 22, ⟨none, .call (some 24) 63 [(.tmp 23)]⟩, ⟨none, .bin 25 .add 9 (.const (.string ⟨#[102, 117, 110, 99, 32]⟩)) (.tmp 24)⟩, ⟨none, .bin 26 .add 9 (.tmp 25) (.const (.string ⟨#[32]⟩))⟩, qf 27 5 1, ql 28 27, ⟨none, .call (some 29) 64 [(.tmp 28)]⟩, qt 30 .add 9 26 29, ⟨none, .bin 31 .add 9 (.tmp 30) (.const (.string ⟨#[32, 45, 62, 32]⟩))⟩, qf 32 5 2, ql 33 32, ⟨none, .call (some 34) 64 [(.tmp 33)]⟩, qt 35 .add 9 31 34, ⟨none, .bin 36 .add 9 (.tmp 35) (.const (.string ⟨#[32, 123, 10]⟩))⟩, qt 37 .add 9 21 36, qm 3 37]
def QbX : List (List Nat) := [[],[],[1],[2],[3],[4],[],[6],[7,3],[5,8],[9],[],[11],[12,8],[10,13],[14],[0,15],[16,13,0,1,2,3,4,5,6,7,8,9,10,11,12,13,14,15,16]]
def QbO : List GO := [qk 6 (vi 0)]
def QbN : List GO := [qm 38 6, qf 39 5 3, ql 40 39, qL 41 40, qt 42 .lss 3 38 41]
def QbM : List GO := [qf 45 5 3, ql 46 45, qm 47 6, qi 48 12 46 47, qV 49 12 48, ⟨none, .alloc 7 52 [(vi 0), vn, vn, (vi 0), (vi 0), (vi 0), vn, vn, (vi 0), vn, vn, vn]⟩, qw 12 7 49]
def QbL : List GO := [qm 50 3, qf 51 7 0, ql 52 51, ⟨none, .call (some 53) 63 [(.tmp 52)]⟩, ⟨none, .bin 54 .add 9 (.const (.string ⟨#[98, 108, 111, 99, 107, 32]⟩)) (.tmp 53)⟩, ⟨none, .bin 55 .add 9 (.tmp 54) (.const (.string ⟨#[32]⟩))⟩, qf 56 7 1, ql 57 56, ⟨none, .call (some 58) 64 [(.tmp 57)]⟩, qt 59 .add 9 55 58, ⟨none, .bin 60 .add 9 (.tmp 59) (.const (.string ⟨#[32, 123, 10]⟩))⟩, qt 61 .add 9 50 60, qm 3 61]
def QbW : List (List Nat) := [[],[],[1],[2],[3],[4],[],[6],[7,3],[5,8],[9],[0,10],[11,8,0,1,2,3,4,5,6,7,8,9,10,11]]
def Q8Z : List GO := [qk 8 (vi 0)]
def Q8Y : List GO := [qm 62 8, qf 63 7 2, ql 64 63, qL 65 64, qt 66 .lss 3 62 65]
def Q8X : List GO := [qm 69 3, qf 70 7 2, ql 71 70, qm 72 8, qi 73 8 71 72, qV 74 8 73, ⟨none, .call (some 75) 65 [(.tmp 74)]⟩, ⟨none, .bin 76 .add 9 (.const (.string ⟨#[9]⟩)) (.tmp 75)⟩, ⟨none, .bin 77 .add 9 (.tmp 76) (.const (.string ⟨#[59, 10]⟩))⟩, qt 78 .add 9 69 77, qm 3 78]
def Q8W : List GO := [qm 67 8, qj 68 .add 3 67 1, qm 8 68]
def Q3Y : LC := (.seq (.seq (.ops Q8Y) (.cond (.tmp 66) .skip (.exit 4))) (.seq (.block 5 (.ops Q8X)) (.ops Q8W)))
def Q8V : List GO := [qf 79 7 3, qf 80 79 0, ql 81 80]
def Q8U : List GO := [qj 90 .eql 3 81 1, qm 89 90]
def Q8T : List GO := [qm 91 3, qf 92 7 3, qf 93 92 2, qV 94 3 93, ⟨none, .call (some 95) 66 [(.tmp 94)]⟩, ⟨none, .bin 96 .add 9 (.const (.string ⟨#[9, 106, 117, 109, 112, 32]⟩)) (.tmp 95)⟩, qt 97 .add 9 91 96, qm 3 97]
def Q8S : List GO := [qj 99 .eql 3 81 2, qm 98 99]
def Q8R : List GO := [qm 100 3, qf 101 7 3, qf 102 101 1, ql 103 102, ⟨none, .call (some 104) 63 [(.tmp 103)]⟩, ⟨none, .bin 105 .add 9 (.const (.string ⟨#[9, 105, 102, 32]⟩)) (.tmp 104)⟩, ⟨none, .bin 106 .add 9 (.tmp 105) (.const (.string ⟨#[32, 116, 111, 32]⟩))⟩, qf 107 7 3, qf 108 107 2, qV 109 3 108, ⟨none, .call (some 110) 66 [(.tmp 109)]⟩, qt 111 .add 9 106 110, ⟨none, .bin 112 .add 9 (.tmp 111) (.const (.string ⟨#[32, 101, 108, 115, 101, 32]⟩))⟩, qf 113 7 3, qf 114 113 5, qV 115 3 114, ⟨none, .call (some 116) 66 [(.tmp 115)]⟩, qt 117 .add 9 112 116, qt 118 .add 9 100 117, qm 3 118]
def Q91 : List (List Nat) := [[],[],[1],[2],[3],[4],[5],[],[7],[8],[9,4],[6,10],[11],[],[13],[14],[15,10],[12,16],[0,17],[18,16,0,1,2,3,4,5,6,7,8,9,10,11,12,13,14,15,16,17,18]]
def Q8Q : List GO := [qm 82 3, qf 83 7 3, qf 84 83 8, ql 85 84, ⟨none, .call (some 86) 67 [(.const (.string ⟨#[40]⟩)), (.tmp 85), (.const (.string ⟨#[41]⟩))]⟩, ⟨none, .bin 87 .add 9 (.const (.string ⟨#[9, 114, 101, 116, 32]⟩)) (.tmp 86)⟩, qt 88 .add 9 82 87, qm 3 88]
def Q8P : List GO := [qm 119 3, ⟨none, .bin 120 .add 9 (.tmp 119) (.const (.string ⟨#[59, 10, 125, 10]⟩))⟩, qm 3 120]
def Q8O : List GO := [qm 43 6, qj 44 .add 3 43 1, qm 6 44]
def Q4y : LC := (.seq (.seq (.ops QbN) (.cond (.tmp 42) .skip (.exit 2))) (.seq (.block 3 (.seq (.ops QbM) (.seq (.draw QbL QbW) (.seq (.seq (.ops Q8Z) (.block 4 (.loop Q3Y))) (.seq (.seq (.ops Q8V) (.block 6 (.seq (.ops Q8U) (.cond (.tmp 89) (.ops Q8T) (.seq (.ops Q8S) (.cond (.tmp 98) (.draw Q8R Q91) (.ops Q8Q))))))) (.ops Q8P)))))) (.ops Q8O)))
def Q8N : List GO := [qm 121 3, ⟨none, .bin 122 .add 9 (.tmp 121) (.const (.string ⟨#[125, 10]⟩))⟩, qm 3 122]
def Q8M : List GO := [qm 14 4, qj 15 .add 3 14 1, qm 4 15]
def Q4z : LC := (.seq (.seq (.ops QbR) (.cond (.tmp 13) .skip (.exit 0))) (.seq (.block 1 (.seq (.ops QbQ) (.seq (.draw QbP QbX) (.seq (.seq (.ops QbO) (.block 2 (.loop Q4y))) (.ops Q8N))))) (.ops Q8M)))
def Q8L : List GO := [qm 123 3, qm 2 123]
def R_ModuleText_lc : LC := (.seq (.ops QbU) (.seq (.ops QbT) (.seq (.seq (.ops QbS) (.block 0 (.loop Q4z))) (.seq (.ops Q8L) .ret))))
@[reducible] def Q2o : FuncId := 31
theorem Q90 : lowF Tryz.prog Tryz.f31 = some R_ModuleText_lc := by kernel_rfl
theorem QbV {a0 : Value} {w : World} {R : Ending → World → Prop} (h : R_ModuleText_lc.wp Tryz.prog (retQ Tryz.prog [.tmp 2] R) (Qg [a0]) w) : Calls Tryz.prog Q2o ⟨[a0]⟩ w R :=
  Q6 Tryz.func31 Q90 (by kernel_rfl) (by kernel_rfl) h

/- 32 -/
def Qeo : List GO := [qk 4 (.bool false)]
def Qen : List GO := [qm 6 0, qL 7 6, qm 8 1, qL 9 8, qt 10 .neq 3 7 9]
def Qem : List GO := [qk 4 (.bool false)]
def Qel : List GO := [qk 5 (vi 0)]
def Qek : List GO := [qm 11 5, qm 12 0, qL 13 12, qt 14 .lss 3 11 13]
def Qej : List GO := [qm 17 0, qm 18 5, qi 19 3 17 18, qV 20 3 19, qm 21 1, qm 22 5, qi 23 3 21 22, qV 24 3 23, ⟨none, .call (some 25) 68 [(.tmp 20), (.tmp 24)]⟩, ⟨none, .un 26 .not (.tmp 25)⟩]
def Qeq : List (List Nat) := [[],[],[0,1],[2],[],[],[4,5],[6],[3,7],[8]]
def Qei : List GO := [qk 4 (.bool false)]
def Qeh : List GO := [qm 15 5, qj 16 .add 3 15 1, qm 5 16]
def Q59 : LC := (.seq (.seq (.ops Qek) (.cond (.tmp 14) .skip (.exit 0))) (.seq (.block 1 (.seq (.draw Qej Qeq) (.cond (.tmp 26) (.seq (.ops Qei) .ret) .skip))) (.ops Qeh)))
def Qeg : List GO := [qk 4 (.bool true)]
def R_SameTypes_lc : LC := (.seq (.ops Qeo) (.seq (.seq (.ops Qen) (.cond (.tmp 10) (.seq (.ops Qem) .ret) .skip)) (.seq (.seq (.ops Qel) (.block 0 (.loop Q59))) (.seq (.ops Qeg) .ret))))
@[reducible] def Q2l : FuncId := 32
theorem Qbg : lowF Tryz.prog Tryz.f32 = some R_SameTypes_lc := by kernel_rfl
theorem Qep {a0 a1 : Value} {w : World} {R : Ending → World → Prop} (h : R_SameTypes_lc.wp Tryz.prog (retQ Tryz.prog [.tmp 4] R) (Qg [a0, a1]) w) : Calls Tryz.prog Q2l ⟨[a0, a1]⟩ w R :=
  Q6 Tryz.func32 Qbg (by kernel_rfl) (by kernel_rfl) h

/- 33 -/
def Qe2 : List GO := [qb 2 52 0, qb 3 52 1, qk 4 (.bool false)]
def Qe1 : List GO := [qf 6 2 0, ql 7 6, qf 8 3 0, ql 9 8, qt 10 .neq 3 7 9, qm 11 10, qg 11 false (qf 12 2 1), qg 11 false (ql 13 12), qg 11 false (qf 14 3 1), qg 11 false (ql 15 14), ⟨some (11, false), .call (some 16) 32 [(.tmp 13), (.tmp 15)]⟩, ⟨some (11, false), .un 17 .not (.tmp 16)⟩, ⟨none, .pick 18 (.tmp 11) (.const (.bool true)) (.tmp 17)⟩, qm 19 18, qg 19 false (qf 20 2 2), qg 19 false (ql 21 20), qg 19 false (qL 22 21), qg 19 false (qf 23 3 2), qg 19 false (ql 24 23), qg 19 false (qL 25 24), qg 19 false (qt 26 .neq 3 22 25), ⟨none, .pick 27 (.tmp 19) (.const (.bool true)) (.tmp 26)⟩]
def Qe0 : List GO := [qk 4 (.bool false)]
def QdZ : List GO := [qk 5 (vi 0)]
def QdY : List GO := [qm 28 5, qf 29 2 2, ql 30 29, qL 31 30, qt 32 .lss 3 28 31]
def QdX : List GO := [qf 35 2 2, ql 36 35, qm 37 5, qi 38 8 36 37, qV 39 8 38, qf 40 3 2, ql 41 40, qm 42 5, qi 43 8 41 42, qV 44 8 43, ⟨none, .call (some 45) 69 [(.tmp 39), (.tmp 44)]⟩, ⟨none, .un 46 .not (.tmp 45)⟩]
def Qe4 : List (List Nat) := [[],[0],[],[1,2],[3],[],[5],[],[6,7],[8],[4,9],[10]]
def QdW : List GO := [qk 4 (.bool false)]
def QdV : List GO := [qm 33 5, qj 34 .add 3 33 1, qm 5 34]
def Q58 : LC := (.seq (.seq (.ops QdY) (.cond (.tmp 32) .skip (.exit 0))) (.seq (.block 1 (.seq (.draw QdX Qe4) (.cond (.tmp 46) (.seq (.ops QdW) .ret) .skip))) (.ops QdV)))
def QdU : List GO := [qf 47 2 3, qf 48 47 0, ql 49 48, qf 50 3 3, qf 51 50 0, ql 52 51, qt 53 .eql 3 49 52, qm 54 53, qg 54 true (qf 55 2 3), qg 54 true (qf 56 55 1), qg 54 true (ql 57 56), qg 54 true (qf 58 3 3), qg 54 true (qf 59 58 1), qg 54 true (ql 60 59), qg 54 true (qt 61 .eql 3 57 60), ⟨none, .pick 62 (.tmp 54) (.tmp 61) (.const (.bool false))⟩, qm 63 62, qg 63 true (qf 64 2 3), qg 63 true (qf 65 64 2), qg 63 true (qV 66 3 65), qg 63 true (qf 67 3 3), qg 63 true (qf 68 67 2), qg 63 true (qV 69 3 68), ⟨some (63, true), .call (some 70) 70 [(.tmp 66), (.tmp 69)]⟩, ⟨none, .pick 71 (.tmp 63) (.tmp 70) (.const (.bool false))⟩, qm 72 71, qg 72 true (qf 73 2 3), qg 72 true (qf 74 73 5), qg 72 true (qV 75 3 74), qg 72 true (qf 76 3 3), qg 72 true (qf 77 76 5), qg 72 true (qV 78 3 77), ⟨some (72, true), .call (some 79) 70 [(.tmp 75), (.tmp 78)]⟩, ⟨none, .pick 80 (.tmp 72) (.tmp 79) (.const (.bool false))⟩, qm 81 80, qg 81 true (qf 82 2 3), qg 81 true (qf 83 82 8), qg 81 true (ql 84 83), qg 81 true (qf 85 3 3), qg 81 true (qf 86 85 8), qg 81 true (ql 87 86), ⟨some (81, true), .call (some 88) 71 [(.tmp 84), (.tmp 87)]⟩, ⟨none, .pick 89 (.tmp 81) (.tmp 88) (.const (.bool false))⟩, qm 4 89]
def R_sameBlock_lc : LC := (.seq (.ops Qe2) (.seq (.seq (.ops Qe1) (.cond (.tmp 27) (.seq (.ops Qe0) .ret) .skip)) (.seq (.seq (.ops QdZ) (.block 0 (.loop Q58))) (.seq (.ops QdU) .ret))))
@[reducible] def Q2C : FuncId := 33
theorem QaS : lowF Tryz.prog Tryz.f33 = some R_sameBlock_lc := by kernel_rfl
theorem Qe3 {a0 a1 : Value} {w : World} {R : Ending → World → Prop} (h : R_sameBlock_lc.wp Tryz.prog (retQ Tryz.prog [.tmp 4] R) (Qg [a0, a1]) w) : Calls Tryz.prog Q2C ⟨[a0, a1]⟩ w R :=
  Q6 Tryz.func33 QaS (by kernel_rfl) (by kernel_rfl) h

/- 34 -/
/- 35 -/
/- 36 -/
/- 37 -/
/- 38 -/
/- 39 -/
/- 40 -/
/- 41 -/
/- 42 -/
/- 43 -/
/- 44 -/
/- 45 -/
def Qmo : List GO := [qk 2 (vi 0)]
def Qmn : List GO := [qm 3 0, ⟨none, .bin 4 .mul 3 (.const (vi 10000)) (.tmp 3)⟩, qj 5 .add 3 4 9999, qm 2 5]
def R_AtFunc_lc : LC := (.seq (.ops Qmo) (.seq (.ops Qmn) .ret))
@[reducible] def QmW : FuncId := 45
theorem QkZ : lowF Tryz.prog Tryz.f45 = some R_AtFunc_lc := by kernel_rfl
theorem Qmp {a0 : Value} {w : World} {R : Ending → World → Prop} (h : R_AtFunc_lc.wp Tryz.prog (retQ Tryz.prog [.tmp 2] R) (Qg [a0]) w) : Calls Tryz.prog QmW ⟨[a0]⟩ w R :=
  Q6 Tryz.func45 QkZ (by kernel_rfl) (by kernel_rfl) h

/- 46 -/
def Qhu : List GO := [qk 4 (vi 0)]
def Qht : List GO := [qm 7 0, qL 8 7, qj 9 .gtr 3 8 8]
def Qhs : List GO := [qk 4 (vi 2)]
def Qhr : List GO := [qk 5 (vi 0)]
def Qhq : List GO := [qm 10 5, qm 11 0, qL 12 11, qt 13 .lss 3 10 12]
def Qhp : List GO := [qm 16 0, qm 17 5, qi 18 3 16 17, qV 19 3 18, qm 20 1, ⟨none, .call (some 21) 90 [(.tmp 19), (.tmp 20)]⟩, qm 6 21]
def Qho : List GO := [qm 22 6, qj 23 .neq 3 22 0]
def Qhn : List GO := [qm 24 6, qm 4 24]
def Qhm : List GO := [qm 14 5, qj 15 .add 3 14 1, qm 5 15]
def Q6T : LC := (.seq (.seq (.ops Qhq) (.cond (.tmp 13) .skip (.exit 0))) (.seq (.block 1 (.seq (.ops Qhp) (.seq (.ops Qho) (.cond (.tmp 23) (.seq (.ops Qhn) .ret) .skip)))) (.ops Qhm)))
def Qhl : List GO := [qk 4 (vi 0)]
def R_listForm_lc : LC := (.seq (.ops Qhu) (.seq (.seq (.ops Qht) (.cond (.tmp 9) (.seq (.ops Qhs) .ret) .skip)) (.seq (.seq (.ops Qhr) (.block 0 (.loop Q6T))) (.seq (.ops Qhl) .ret))))
@[reducible] def Q2Y : FuncId := 46
theorem Qe5 : lowF Tryz.prog Tryz.f46 = some R_listForm_lc := by kernel_rfl
theorem Qhv {a0 a1 : Value} {w : World} {R : Ending → World → Prop} (h : R_listForm_lc.wp Tryz.prog (retQ Tryz.prog [.tmp 4] R) (Qg [a0, a1]) w) : Calls Tryz.prog Q2Y ⟨[a0, a1]⟩ w R :=
  Q6 Tryz.func46 Qe5 (by kernel_rfl) (by kernel_rfl) h

/- 47 -/
def Qbd : List GO := [qb 3 24 0, ⟨none, .alloc 6 29 [(vi 0), (vi 0)]⟩]
def Qbc : List GO := [qf 13 3 0, ql 14 13, qm 15 1, qi 16 4 14 15, qV 17 4 16, ⟨none, .alloc 7 43 [(vi 0), vn, vn, vn]⟩, qw 4 7 17]
def Qbb : List GO := [qf 18 7 3, ql 19 18, qm 20 2, qi 21 12 19 20, qV 22 12 21, ⟨none, .alloc 8 52 [(vi 0), vn, vn, (vi 0), (vi 0), (vi 0), vn, vn, (vi 0), vn, vn, vn]⟩, qw 12 8 22]
def Qba : List GO := [qf 23 8 0, ql 24 23, qf 25 7 0, ql 26 25, qt 27 .lss 3 24 26, qm 28 27, qg 28 false (qf 29 8 0), qg 28 false (ql 30 29), qg 28 false (qj 31 .gtr 3 30 16), ⟨none, .pick 32 (.tmp 28) (.const (.bool true)) (.tmp 31)⟩]
def Qb9 : List GO := [qm 33 1, qm 34 2, ⟨none, .call (some 35) 91 [(.tmp 33), (.tmp 34)]⟩, ⟨none, .call (some 36) 30 [(.const (vi 1)), (.tmp 35)]⟩, qw 2 6 36]
def Qb8 : List GO := [qf 37 8 1, ql 38 37, qf 39 8 0, ql 40 39, ⟨none, .call (some 41) 46 [(.tmp 38), (.tmp 40)]⟩, qm 9 41]
def Qb7 : List GO := [qm 42 9, qj 43 .neq 3 42 0]
def Qb6 : List GO := [qm 44 9, qm 45 1, qm 46 2, ⟨none, .call (some 47) 91 [(.tmp 45), (.tmp 46)]⟩, ⟨none, .call (some 48) 30 [(.tmp 44), (.tmp 47)]⟩, qw 2 6 48]
def Qb5 : List GO := [qm 49 2, qj 50 .eql 3 49 0, qm 51 50, qg 51 true (qf 52 8 0), qg 51 true (ql 53 52), qg 51 true (qf 54 7 0), qg 51 true (ql 55 54), qg 51 true (qt 56 .neq 3 53 55), qg 51 true (qm 57 56), qg 57 false (qf 58 8 1), qg 57 false (ql 59 58), qg 57 false (qf 60 7 1), qg 57 false (ql 61 60), ⟨some (57, false), .call (some 62) 32 [(.tmp 59), (.tmp 61)]⟩, ⟨some (57, false), .un 63 .not (.tmp 62)⟩, ⟨some (51, true), .pick 64 (.tmp 57) (.const (.bool true)) (.tmp 63)⟩, ⟨none, .pick 65 (.tmp 51) (.tmp 64) (.const (.bool false))⟩]
def Qb4 : List GO := [qm 66 1, qm 67 2, ⟨none, .call (some 68) 91 [(.tmp 66), (.tmp 67)]⟩, ⟨none, .call (some 69) 30 [(.const (vi 9)), (.tmp 68)]⟩, qw 2 6 69]
def Q8B : List GO := [qf 70 8 2, ql 71 70, qL 72 71, qj 73 .gtr 3 72 40]
def Q8A : List GO := [qm 74 1, qm 75 2, ⟨none, .call (some 76) 91 [(.tmp 74), (.tmp 75)]⟩, ⟨none, .call (some 77) 30 [(.const (vi 2)), (.tmp 76)]⟩, qw 2 6 77]
def Q8z : List GO := [qk 10 (vi 0)]
def Q8y : List GO := [qm 78 10, qf 79 8 2, ql 80 79, qL 81 80, qt 82 .lss 3 78 81]
def Q8x : List GO := [qV 85 1 3, qf 86 8 2, ql 87 86, qm 88 10, qi 89 8 87 88, qV 90 8 89, ⟨none, .call (some 91) 92 [(.tmp 85), (.tmp 90)]⟩, qm 11 91]
def Q8D : List (List Nat) := [[],[],[1],[],[2,3],[4],[0,5],[6,6,0,1,2,3,4,5,6]]
def Q8w : List GO := [qm 92 11, qj 93 .neq 3 92 0]
def Q8v : List GO := [qm 94 11, qm 95 1, qm 96 2, qm 97 10, ⟨none, .call (some 98) 93 [(.tmp 95), (.tmp 96), (.tmp 97)]⟩, ⟨none, .call (some 99) 30 [(.tmp 94), (.tmp 98)]⟩, qw 2 6 99]
def Q8u : List GO := [qm 83 10, qj 84 .add 3 83 1, qm 10 84]
def Q3X : LC := (.seq (.seq (.ops Q8y) (.cond (.tmp 82) .skip (.exit 0))) (.seq (.block 1 (.seq (.draw Q8x Q8D) (.seq (.ops Q8w) (.cond (.tmp 93) (.seq (.ops Q8v) .ret) .skip)))) (.ops Q8u)))
def Q8t : List GO := [qV 100 4 7, qf 101 8 3, qV 102 9 101, ⟨none, .call (some 103) 94 [(.tmp 100), (.tmp 102)]⟩, qm 12 103]
def Q8s : List GO := [qm 104 12, qj 105 .neq 3 104 0]
def Q8r : List GO := [qm 106 12, qm 107 1, qm 108 2, ⟨none, .call (some 109) 95 [(.tmp 107), (.tmp 108)]⟩, ⟨none, .call (some 110) 30 [(.tmp 106), (.tmp 109)]⟩, qw 2 6 110]
def Q8q : List GO := [⟨none, .build 111 [(vi 0), (vi 0)] []⟩, qw 2 6 111]
def R_blockFault_lc : LC := (.seq (.ops Qbd) (.seq (.ops Qbc) (.seq (.ops Qbb) (.seq (.seq (.ops Qba) (.cond (.tmp 32) (.seq (.ops Qb9) .ret) .skip)) (.seq (.seq (.ops Qb8) (.seq (.ops Qb7) (.cond (.tmp 43) (.seq (.ops Qb6) .ret) .skip))) (.seq (.seq (.ops Qb5) (.cond (.tmp 65) (.seq (.ops Qb4) .ret) .skip)) (.seq (.seq (.ops Q8B) (.cond (.tmp 73) (.seq (.ops Q8A) .ret) .skip)) (.seq (.seq (.ops Q8z) (.block 0 (.loop Q3X))) (.seq (.seq (.ops Q8t) (.seq (.ops Q8s) (.cond (.tmp 105) (.seq (.ops Q8r) .ret) .skip))) (.seq (.ops Q8q) .ret))))))))))
@[reducible] def QJ : FuncId := 47
theorem Q8C : lowF Tryz.prog Tryz.f47 = some R_blockFault_lc := by kernel_rfl
theorem Qbe {a0 a1 a2 : Value} {w : World} {R : Ending → World → Prop} (h : R_blockFault_lc.wp Tryz.prog (retQ Tryz.prog [.cell 6 29] R) (Qg [a0, a1, a2]) w) : Calls Tryz.prog QJ ⟨[a0, a1, a2]⟩ w R :=
  Q6 Tryz.func47 Q8C (by kernel_rfl) (by kernel_rfl) h

/- 48 -/
def QeJ : List GO := [qb 1 91 0, qk 2 (.bool false)]
def QeI : List GO := [qV 3 3 1, ⟨none, .call (some 4) 96 [(.tmp 3), (.const (vi 2000))]⟩, qj 5 .lss 3 4 0, qm 2 5]
def R_GreatType_lc : LC := (.seq (.ops QeJ) (.seq (.ops QeI) .ret))
@[reducible] def QbZ : FuncId := 48
theorem QbY : lowF Tryz.prog Tryz.f48 = some R_GreatType_lc := by kernel_rfl
theorem QeK {a0 : Value} {w : World} {R : Ending → World → Prop} (h : R_GreatType_lc.wp Tryz.prog (retQ Tryz.prog [.tmp 2] R) (Qg [a0]) w) : Calls Tryz.prog QbZ ⟨[a0]⟩ w R :=
  Q6 Tryz.func48 QbY (by kernel_rfl) (by kernel_rfl) h

/- 49 -/
def Qkx : List GO := [qb 1 91 0, ⟨none, .alloc 2 91 [(vi 0), (vi 0), vn]⟩]
def Qkw : List GO := [qf 3 1 0, ql 4 3, qf 5 1 1, ql 6 5, qf 7 1 2, ql 8 7, ⟨none, .call (some 9) 23 [(.tmp 8)]⟩, ⟨none, .build 10 [(vi 0), (vi 0), vn] [(0, (1, (.tmp 4))), (1, (1, (.tmp 6))), (2, (1, (.tmp 9)))]⟩, qw 3 2 10]
def Qkz : List (List Nat) := [[],[0],[],[2],[],[4],[5],[1,3,6],[7,6,0,1,2,3,4,5,6,7]]
def R_OwnType_lc : LC := (.seq (.ops Qkx) (.seq (.draw Qkw Qkz) .ret))
@[reducible] def Qbt : FuncId := 49
theorem QiI : lowF Tryz.prog Tryz.f49 = some R_OwnType_lc := by kernel_rfl
theorem Qky {a0 : Value} {w : World} {R : Ending → World → Prop} (h : R_OwnType_lc.wp Tryz.prog (retQ Tryz.prog [.cell 2 91] R) (Qg [a0]) w) : Calls Tryz.prog Qbt ⟨[a0]⟩ w R :=
  Q6 Tryz.func49 QiI (by kernel_rfl) (by kernel_rfl) h

/- 50 -/
def Q6J : List GO := [qm 6 1, qm 7 6, qg 7 true (qm 8 0), qg 7 true (qn 9 8), qg 7 true (qf 10 9 1), qg 7 true (qf 11 10 0), qg 7 true (ql 12 11), qg 7 true (qj 13 .eql 3 12 0), ⟨none, .pick 14 (.tmp 7) (.tmp 13) (.const (.bool false))⟩]
def Q6I : List GO := [qm 15 0, qm 16 2, qm 17 0, qn 18 17, qf 19 18 3, ql 20 19, ⟨none, .build 21 [(vi 0), (vi 0)] [(0, (1, (.tmp 16))), (1, (1, (.tmp 20)))]⟩, qn 22 15, qf 23 22 1, qw 2 23 21]
def code_judge_fail_lc : LC := (.seq (.ops Q6J) (.cond (.tmp 14) (.ops Q6I) .skip))
@[reducible] def Q2w : FuncId := 50
theorem Q5s : lowF Tryz.prog Tryz.f50 = some code_judge_fail_lc := by kernel_rfl
theorem Q2v {a0 a1 a2 : Value} {w : World} {R : Ending → World → Prop} (h : code_judge_fail_lc.wp Tryz.prog (retQ Tryz.prog [] R) (Qg [a0, a1, a2]) w) : Calls Tryz.prog Q2w ⟨[a0, a1, a2]⟩ w R :=
  Q6 Tryz.func50 Q5s (by kernel_rfl) (by kernel_rfl) h

/- 51 -/
def Qdk : List GO := [qk 2 (vi 0)]
def Qdj : List GO := [qm 3 0, qj 4 .mul 3 3 10000, qj 5 .add 3 4 9999, qm 2 5]
def code_FuncAt_lc : LC := (.seq (.ops Qdk) (.seq (.ops Qdj) .ret))
@[reducible] def Qax : FuncId := 51
theorem Qaw : lowF Tryz.prog Tryz.f51 = some code_FuncAt_lc := by kernel_rfl
theorem Qdl {a0 : Value} {w : World} {R : Ending → World → Prop} (h : code_FuncAt_lc.wp Tryz.prog (retQ Tryz.prog [.tmp 2] R) (Qg [a0]) w) : Calls Tryz.prog Qax ⟨[a0]⟩ w R :=
  Q6 Tryz.func51 Qaw (by kernel_rfl) (by kernel_rfl) h

/- 52 -/
def Q6z : List GO := [qm 9 0, qm 10 1, qL 11 10, qj 12 .gtr 3 11 8, ⟨none, .call (some 13) 50 [(.tmp 9), (.tmp 12), (.const (vi 2))]⟩]
def Q6y : List GO := [qm 14 1, qL 15 14, qk 16 (vi 0)]
def Q6x : List GO := [qt 17 .lss 3 16 15]
def Q6w : List GO := [qi 18 3 14 16, qV 19 3 18, ⟨none, .alloc 7 91 [(vi 0), (vi 0), vn]⟩, qw 3 7 19]
def Q6v : List GO := [qV 20 3 7, qm 21 2, ⟨none, .call (some 22) 97 [(.tmp 20), (.tmp 21)]⟩, qm 8 22]
def Q6u : List GO := [qm 23 0, qm 24 8, qj 25 .neq 3 24 0, qm 26 8, ⟨none, .call (some 27) 50 [(.tmp 23), (.tmp 25), (.tmp 26)]⟩]
def Q6t : List GO := [qj 28 .add 3 16 1, qm 16 28]
def Q3j : LC := (.seq (.ops Q6x) (.seq (.cond (.tmp 17) .skip (.exit 0)) (.seq (.block 1 (.seq (.ops Q6w) (.seq (.ops Q6v) (.ops Q6u)))) (.ops Q6t))))
def code_judge_list_lc : LC := (.seq (.ops Q6z) (.seq (.ops Q6y) (.block 0 (.loop Q3j))))
@[reducible] def Q4p : FuncId := 52
theorem Q5r : lowF Tryz.prog Tryz.f52 = some code_judge_list_lc := by kernel_rfl
theorem Q6A {a0 a1 a2 : Value} {w : World} {R : Ending → World → Prop} (h : code_judge_list_lc.wp Tryz.prog (retQ Tryz.prog [] R) (Qg [a0, a1, a2]) w) : Calls Tryz.prog Q4p ⟨[a0, a1, a2]⟩ w R :=
  Q6 Tryz.func52 Q5r (by kernel_rfl) (by kernel_rfl) h

/- 53 -/
def Q1O : List GO := [qk 4 (.bool false)]
def Q1N : List GO := [qm 5 0, qm 6 1, ⟨none, .call (some 7) 98 [(.tmp 5), (.tmp 6)]⟩, qj 8 .geq 3 7 0, qm 4 8]
def slices_ContainsFunc_api_Type_api_Type_lc : LC := (.seq (.ops Q1O) (.seq (.ops Q1N) .ret))
@[reducible] def Q1k : FuncId := 53
theorem Q1F : lowF Tryz.prog Tryz.f53 = some slices_ContainsFunc_api_Type_api_Type_lc := by kernel_rfl
theorem Q1P {a0 a1 : Value} {w : World} {R : Ending → World → Prop} (h : slices_ContainsFunc_api_Type_api_Type_lc.wp Tryz.prog (retQ Tryz.prog [.tmp 4] R) (Qg [a0, a1]) w) : Calls Tryz.prog Q1k ⟨[a0, a1]⟩ w R :=
  Q6 Tryz.func53 Q1F (by kernel_rfl) (by kernel_rfl) h

/- 54 -/
def Qaz : List GO := [qb 1 91 0, qk 2 (.bool false)]
def Qay : List GO := [qf 3 1 0, ql 4 3, qj 5 .neq 3 4 1, qm 2 5]
def code_Check_1_lc : LC := (.seq (.ops Qaz) (.seq (.ops Qay) .ret))
@[reducible] def Q3k : FuncId := 54
theorem Q8m : lowF Tryz.prog Tryz.f54 = some code_Check_1_lc := by kernel_rfl
theorem QaA {a0 : Value} {w : World} {R : Ending → World → Prop} (h : code_Check_1_lc.wp Tryz.prog (retQ Tryz.prog [.tmp 2] R) (Qg [a0]) w) : Calls Tryz.prog Q3k ⟨[a0]⟩ w R :=
  Q6 Tryz.func54 Q8m (by kernel_rfl) (by kernel_rfl) h

/- 55 -/
def Q5C : List GO := [qm 9 0, qn 10 9, qf 11 10 0, qf 12 11 0, ql 13 12, qm 14 1, qi 15 4 13 14, qV 16 4 15, ⟨none, .alloc 6 43 [(vi 0), vn, vn, vn]⟩, qw 4 6 16]
def Q5B : List GO := [qf 17 6 3, ql 18 17, qm 19 2, qi 20 12 18 19, qV 21 12 20, ⟨none, .alloc 7 52 [(vi 0), vn, vn, (vi 0), (vi 0), (vi 0), vn, vn, (vi 0), vn, vn, vn]⟩, qw 12 7 21]
def Q5A : List GO := [qm 22 0, qm 23 1, qm 24 2, ⟨none, .call (some 25) 99 [(.tmp 23), (.tmp 24)]⟩, qn 26 22, qf 27 26 3, qs 27 25]
def Q5z : List GO := [qm 28 0, qf 29 7 0, ql 30 29, qf 31 6 0, ql 32 31, qt 33 .lss 3 30 32, qm 34 33, qg 34 false (qf 35 7 0), qg 34 false (ql 36 35), qg 34 false (qj 37 .gtr 3 36 16), ⟨none, .pick 38 (.tmp 34) (.const (.bool true)) (.tmp 37)⟩, ⟨none, .call (some 39) 50 [(.tmp 28), (.tmp 38), (.const (vi 1))]⟩]
def Q5y : List GO := [qm 40 0, qf 41 7 1, ql 42 41, qf 43 7 0, ql 44 43, ⟨none, .call (some 45) 52 [(.tmp 40), (.tmp 42), (.tmp 44)]⟩]
def Q5x : List GO := [qm 46 0, qm 47 2, qj 48 .eql 3 47 0, qm 49 48, qg 49 true (qf 50 7 0), qg 49 true (ql 51 50), qg 49 true (qf 52 6 0), qg 49 true (ql 53 52), qg 49 true (qt 54 .neq 3 51 53), qg 49 true (qm 55 54), qg 55 false (qf 56 7 1), qg 55 false (ql 57 56), qg 55 false (qf 58 6 1), qg 55 false (ql 59 58), ⟨some (55, false), .call (some 60) 100 [(.tmp 57), (.tmp 59), (.func 101)]⟩, ⟨some (55, false), .un 61 .not (.tmp 60)⟩, ⟨some (49, true), .pick 62 (.tmp 55) (.const (.bool true)) (.tmp 61)⟩, ⟨none, .pick 63 (.tmp 49) (.tmp 62) (.const (.bool false))⟩, ⟨none, .call (some 64) 50 [(.tmp 46), (.tmp 63), (.const (vi 9))]⟩]
def Q5w : List GO := [qm 65 0, qf 66 7 2, ql 67 66, qL 68 67, qj 69 .gtr 3 68 40, ⟨none, .call (some 70) 50 [(.tmp 65), (.tmp 69), (.const (vi 2))]⟩]
def Q5v : List GO := [qk 8 (vi 0)]
def Q5u : List GO := [qm 71 8, qf 72 7 2, ql 73 72, qL 74 73, qt 75 .lss 3 71 74, qm 76 75, qg 76 true (qm 77 0), qg 76 true (qn 78 77), qg 76 true (qf 79 78 1), qg 76 true (qf 80 79 0), qg 76 true (ql 81 80), qg 76 true (qj 82 .eql 3 81 0), ⟨none, .pick 83 (.tmp 76) (.tmp 82) (.const (.bool false))⟩]
def Q5t : List GO := [qm 86 0, qm 87 1, qm 88 2, qm 89 8, ⟨none, .call (some 90) 102 [(.tmp 87), (.tmp 88), (.tmp 89)]⟩, qn 91 86, qf 92 91 3, qs 92 90]
def Q4V : List GO := [qm 93 0, qf 94 7 2, ql 95 94, qm 96 8, qi 97 8 95 96, qV 98 8 97, ⟨none, .call (some 99) 103 [(.tmp 93), (.tmp 98)]⟩]
def Q4U : List GO := [qm 84 8, qj 85 .add 3 84 1, qm 8 85]
def Q37 : LC := (.seq (.seq (.ops Q5u) (.cond (.tmp 83) .skip (.exit 0))) (.seq (.block 1 (.seq (.ops Q5t) (.ops Q4V))) (.ops Q4U)))
def Q4T : List GO := [qm 100 0, qm 101 1, qm 102 2, ⟨none, .call (some 103) 104 [(.tmp 101), (.tmp 102)]⟩, qn 104 100, qf 105 104 3, qs 105 103]
def Q4S : List GO := [qm 106 0, qV 107 4 6, qf 108 7 3, qV 109 9 108, ⟨none, .call (some 110) 105 [(.tmp 106), (.tmp 107), (.tmp 109)]⟩]
def code_judge_block_lc : LC := (.seq (.ops Q5C) (.seq (.ops Q5B) (.seq (.ops Q5A) (.seq (.ops Q5z) (.seq (.ops Q5y) (.seq (.ops Q5x) (.seq (.ops Q5w) (.seq (.seq (.ops Q5v) (.block 0 (.loop Q37))) (.seq (.ops Q4T) (.ops Q4S))))))))))
@[reducible] def Q2g : FuncId := 55
theorem Q4W : lowF Tryz.prog Tryz.f55 = some code_judge_block_lc := by kernel_rfl
theorem Q5D {a0 a1 a2 : Value} {w : World} {R : Ending → World → Prop} (h : code_judge_block_lc.wp Tryz.prog (retQ Tryz.prog [] R) (Qg [a0, a1, a2]) w) : Calls Tryz.prog Q2g ⟨[a0, a1, a2]⟩ w R :=
  Q6 Tryz.func55 Q4W (by kernel_rfl) (by kernel_rfl) h

/- 56 -/
def Q5l : List GO := [qm 5 0, qL 6 5, qk 7 (vi 0)]
def Q5k : List GO := [qt 8 .lss 3 7 6]
def Q5j : List GO := [qi 9 1 5 7, ql 10 9, qm 4 10]
def Q5i : List GO := [ql 11 1, qm 12 11, qg 12 true (qm 13 4), qg 12 true (qj 14 .geq 3 13 0), ⟨none, .pick 15 (.tmp 12) (.tmp 14) (.const (.bool false))⟩, qm 16 15, qg 16 true (qm 17 4), qg 16 true (qj 18 .leq 3 17 1000000), ⟨none, .pick 19 (.tmp 16) (.tmp 18) (.const (.bool false))⟩, qs 1 19]
def Q5h : List GO := [qj 20 .add 3 7 1, qm 7 20]
def Q35 : LC := (.seq (.ops Q5k) (.seq (.cond (.tmp 8) .skip (.exit 0)) (.seq (.block 1 (.seq (.ops Q5j) (.ops Q5i))) (.ops Q5h))))
def render_numbers_1_lc : LC := (.seq (.ops Q5l) (.block 0 (.loop Q35)))
@[reducible] def Q2f : FuncId := 56
theorem Q4R : lowF Tryz.prog Tryz.f56 = some render_numbers_1_lc := by kernel_rfl
theorem Q5m {a0 a1 : Value} {w : World} {R : Ending → World → Prop} (h : render_numbers_1_lc.wp Tryz.prog (retQ Tryz.prog [] R) (Qg [a0, a1]) w) : Calls Tryz.prog Q2f ⟨[a0, a1]⟩ w R :=
  Q6 Tryz.func56 Q4R (by kernel_rfl) (by kernel_rfl) h

/- 57 -/
def Q2H : List GO := [qk 4 (vi 0), qk 5 .nilIface]
def Q2G : List GO := [qm 6 0, ⟨none, .call (some 7) 106 [(.tmp 6)]⟩]
def Q2F : List GO := [qm 8 0, qm 9 0, qn 10 9, qf 11 10 1, ql 12 11, qm 13 1, ⟨none, .raw ⟨(some 14), (.call ⟨(.builtin .append), #[(.tmp 12), (.tmp 13)], #[105, 9]⟩), 105, "", #[], none⟩⟩, qn 15 8, qf 16 15 1, qs 16 14]
def Q2E : List GO := [qm 17 1, ⟨none, .slen 18 (.tmp 17)⟩, qm 4 18, qk 5 .nilIface]
def strings_Builder_WriteString_lc : LC := (.seq (.ops Q2H) (.seq (.ops Q2G) (.seq (.ops Q2F) (.seq (.ops Q2E) .ret))))
@[reducible] def Q1o : FuncId := 57
theorem Q2A : lowF Tryz.prog Tryz.f57 = some strings_Builder_WriteString_lc := by kernel_rfl
theorem Q2I {a0 a1 : Value} {w : World} {R : Ending → World → Prop} (h : strings_Builder_WriteString_lc.wp Tryz.prog (retQ Tryz.prog [.tmp 4, .tmp 5] R) (Qg [a0, a1]) w) : Calls Tryz.prog Q1o ⟨[a0, a1]⟩ w R :=
  Q6 Tryz.func57 Q2A (by kernel_rfl) (by kernel_rfl) h

/- 58 -/
def Qgf : List GO := [qk 2 (.string ⟨#[]⟩)]
def Qge : List GO := [qm 3 0, ⟨none, .call (some 4) 63 [(.tmp 3)]⟩, qm 2 4]
def render_num_lc : LC := (.seq (.ops Qgf) (.seq (.ops Qge) .ret))
@[reducible] def Qfi : FuncId := 58
theorem QcR : lowF Tryz.prog Tryz.f58 = some render_num_lc := by kernel_rfl
theorem Qgg {a0 : Value} {w : World} {R : Ending → World → Prop} (h : render_num_lc.wp Tryz.prog (retQ Tryz.prog [.tmp 2] R) (Qg [a0]) w) : Calls Tryz.prog Qfi ⟨[a0]⟩ w R :=
  Q6 Tryz.func58 QcR (by kernel_rfl) (by kernel_rfl) h

/- 59 -/
def Qa4 : List GO := [qk 2 (.string ⟨#[]⟩)]
def Qa3 : List GO := [qk 3 vn]
def Qa2 : List GO := [qm 6 0, qL 7 6, qk 8 (vi 0)]
def Qa1 : List GO := [qt 9 .lss 3 8 7]
def Qa0 : List GO := [qi 10 3 6 8, qV 11 3 10, ⟨none, .alloc 5 91 [(vi 0), (vi 0), vn]⟩, qw 3 5 11]
def Q9Z : List GO := [qm 12 3, qV 13 3 5, ⟨none, .call (some 14) 107 [(.tmp 13)]⟩, ⟨none, .buildS 15 9 1 [(.string ⟨#[]⟩)] [(0, (1, (.tmp 14)))]⟩, ⟨none, .raw ⟨(some 16), (.call ⟨(.builtin .append), #[(.tmp 12), (.tmp 15)], #[86, 86]⟩), 86, "", #[], none⟩⟩, qm 3 16]
def Q9Y : List GO := [qj 17 .add 3 8 1, qm 8 17]
def Q4d : LC := (.seq (.ops Qa1) (.seq (.cond (.tmp 9) .skip (.exit 0)) (.seq (.block 1 (.seq (.ops Qa0) (.ops Q9Z))) (.ops Q9Y))))
def Q9X : List GO := [qm 18 3, ⟨none, .call (some 19) 108 [(.tmp 18), (.const (.string ⟨#[44, 32]⟩))]⟩, ⟨none, .bin 20 .add 9 (.const (.string ⟨#[40]⟩)) (.tmp 19)⟩, ⟨none, .bin 21 .add 9 (.tmp 20) (.const (.string ⟨#[41]⟩))⟩, qm 2 21]
def render_typed_lc : LC := (.seq (.ops Qa4) (.seq (.ops Qa3) (.seq (.seq (.ops Qa2) (.block 0 (.loop Q4d))) (.seq (.ops Q9X) .ret))))
@[reducible] def Q7X : FuncId := 59
theorem Q8f : lowF Tryz.prog Tryz.f59 = some render_typed_lc := by kernel_rfl
theorem Qa5 {a0 : Value} {w : World} {R : Ending → World → Prop} (h : render_typed_lc.wp Tryz.prog (retQ Tryz.prog [.tmp 2] R) (Qg [a0]) w) : Calls Tryz.prog Q7X ⟨[a0]⟩ w R :=
  Q6 Tryz.func59 Q8f (by kernel_rfl) (by kernel_rfl) h

/- 60 -/
def Qgq : List GO := [qb 1 54 0, qk 2 (.string ⟨#[]⟩)]
def Qgp : List GO := [qf 4 1 0, ql 5 4, ⟨none, .call (some 6) 16 [(.tmp 5)]⟩, ⟨none, .buildS 7 9 1 [(.string ⟨#[]⟩)] [(0, (1, (.tmp 6)))]⟩, qm 3 7]
def Qgo : List GO := [qf 8 1 0, ql 9 8]
def Qgn : List GO := [qj 11 .eql 3 9 1, qm 10 11]
def Qgm : List GO := [qm 12 3, qf 13 1 5, ql 14 13, ⟨none, .call (some 15) 109 [(.tmp 14), (.const (vi 10))]⟩, ⟨none, .buildS 16 9 1 [(.string ⟨#[]⟩)] [(0, (1, (.tmp 15)))]⟩, ⟨none, .raw ⟨(some 17), (.call ⟨(.builtin .append), #[(.tmp 12), (.tmp 16)], #[86, 86]⟩), 86, "", #[], none⟩⟩, qm 3 17]
def Qgl : List GO := [qj 19 .eql 3 9 2, qm 18 19]
def Qgk : List GO := [qm 20 3, qf 21 1 4, ql 22 21, ⟨none, .call (some 23) 18 [(.tmp 22)]⟩, qf 24 1 1, ql 25 24, ⟨none, .call (some 26) 58 [(.tmp 25)]⟩, qf 27 1 2, ql 28 27, ⟨none, .call (some 29) 58 [(.tmp 28)]⟩, ⟨none, .buildS 30 9 3 [(.string ⟨#[]⟩), (.string ⟨#[]⟩), (.string ⟨#[]⟩)] [(0, (1, (.tmp 23))), (1, (1, (.tmp 26))), (2, (1, (.tmp 29)))]⟩, ⟨none, .raw ⟨(some 31), (.call ⟨(.builtin .append), #[(.tmp 20), (.tmp 30)], #[86, 86]⟩), 86, "", #[], none⟩⟩, qm 3 31]
def Qgs : List (List Nat) := [[],[],[1],[2],[],[4],[5,3],[],[7],[8,6],[3,6,9],[0,10,9],[11,11,0,1,2,3,4,5,6,7,8,9,10,11]]
def Qgj : List GO := [qj 33 .eql 3 9 4, qm 32 33]
def Qgi : List GO := [qj 34 .eql 3 9 11, qm 32 34]
def Qgh : List GO := [qj 35 .eql 3 9 13, qm 32 35]
def Qd6 : List GO := [qm 36 3, qf 37 1 1, ql 38 37, ⟨none, .call (some 39) 58 [(.tmp 38)]⟩, ⟨none, .buildS 40 9 1 [(.string ⟨#[]⟩)] [(0, (1, (.tmp 39)))]⟩, ⟨none, .raw ⟨(some 41), (.call ⟨(.builtin .append), #[(.tmp 36), (.tmp 40)], #[86, 86]⟩), 86, "", #[], none⟩⟩, qm 3 41]
def Qd5 : List GO := [qj 43 .eql 3 9 5, qm 42 43]
def Qd4 : List GO := [qm 44 3, qf 45 1 1, ql 46 45, ⟨none, .call (some 47) 58 [(.tmp 46)]⟩, qf 48 1 7, ql 49 48, ⟨none, .call (some 50) 110 [(.const (.string ⟨#[40]⟩)), (.tmp 49), (.const (.string ⟨#[41]⟩))]⟩, ⟨none, .buildS 51 9 2 [(.string ⟨#[]⟩), (.string ⟨#[]⟩)] [(0, (1, (.tmp 47))), (1, (1, (.tmp 50)))]⟩, ⟨none, .raw ⟨(some 52), (.call ⟨(.builtin .append), #[(.tmp 44), (.tmp 51)], #[86, 86]⟩), 86, "", #[], none⟩⟩, qm 3 52]
def Qdd : List (List Nat) := [[],[],[1],[2],[],[4],[5,3],[3,6],[0,7,6],[8,8,0,1,2,3,4,5,6,7,8]]
def Qd3 : List GO := [qj 54 .eql 3 9 6, qm 53 54]
def Qd2 : List GO := [qm 55 3, qf 56 1 1, ql 57 56, ⟨none, .call (some 58) 58 [(.tmp 57)]⟩, qf 59 1 4, ql 60 59, ⟨none, .call (some 61) 58 [(.tmp 60)]⟩, ⟨none, .buildS 62 9 2 [(.string ⟨#[]⟩), (.string ⟨#[]⟩)] [(0, (1, (.tmp 58))), (1, (1, (.tmp 61)))]⟩, ⟨none, .raw ⟨(some 63), (.call ⟨(.builtin .append), #[(.tmp 55), (.tmp 62)], #[86, 86]⟩), 86, "", #[], none⟩⟩, qm 3 63]
def Qdc : List (List Nat) := [[],[],[1],[2],[],[4],[5,3],[3,6],[0,7,6],[8,8,0,1,2,3,4,5,6,7,8]]
def Qd1 : List GO := [qj 65 .eql 3 9 7, qm 64 65]
def Qd0 : List GO := [qm 66 3, qf 67 1 1, ql 68 67, ⟨none, .call (some 69) 58 [(.tmp 68)]⟩, qf 70 1 4, ql 71 70, ⟨none, .call (some 72) 58 [(.tmp 71)]⟩, qf 73 1 2, ql 74 73, ⟨none, .call (some 75) 58 [(.tmp 74)]⟩, ⟨none, .buildS 76 9 3 [(.string ⟨#[]⟩), (.string ⟨#[]⟩), (.string ⟨#[]⟩)] [(0, (1, (.tmp 69))), (1, (1, (.tmp 72))), (2, (1, (.tmp 75)))]⟩, ⟨none, .raw ⟨(some 77), (.call ⟨(.builtin .append), #[(.tmp 66), (.tmp 76)], #[86, 86]⟩), 86, "", #[], none⟩⟩, qm 3 77]
def Qdb : List (List Nat) := [[],[],[1],[2],[],[4],[5,3],[],[7],[8,6],[3,6,9],[0,10,9],[11,11,0,1,2,3,4,5,6,7,8,9,10,11]]
def QcZ : List GO := [qj 79 .eql 3 9 8, qm 78 79]
def QcY : List GO := [qj 80 .eql 3 9 9, qm 78 80]
def QcX : List GO := [qm 81 3, qf 82 1 1, ql 83 82, ⟨none, .call (some 84) 58 [(.tmp 83)]⟩, qf 85 1 2, ql 86 85, ⟨none, .call (some 87) 58 [(.tmp 86)]⟩, ⟨none, .buildS 88 9 2 [(.string ⟨#[]⟩), (.string ⟨#[]⟩)] [(0, (1, (.tmp 84))), (1, (1, (.tmp 87)))]⟩, ⟨none, .raw ⟨(some 89), (.call ⟨(.builtin .append), #[(.tmp 81), (.tmp 88)], #[86, 86]⟩), 86, "", #[], none⟩⟩, qm 3 89]
def Qda : List (List Nat) := [[],[],[1],[2],[],[4],[5,3],[3,6],[0,7,6],[8,8,0,1,2,3,4,5,6,7,8]]
def QcW : List GO := [qj 91 .eql 3 9 10, qm 90 91]
def QcV : List GO := [qm 92 3, qf 93 1 1, ql 94 93, ⟨none, .call (some 95) 58 [(.tmp 94)]⟩, qf 96 1 2, ql 97 96, ⟨none, .call (some 98) 58 [(.tmp 97)]⟩, qf 99 1 3, ql 100 99, ⟨none, .call (some 101) 58 [(.tmp 100)]⟩, ⟨none, .buildS 102 9 3 [(.string ⟨#[]⟩), (.string ⟨#[]⟩), (.string ⟨#[]⟩)] [(0, (1, (.tmp 95))), (1, (1, (.tmp 98))), (2, (1, (.tmp 101)))]⟩, ⟨none, .raw ⟨(some 103), (.call ⟨(.builtin .append), #[(.tmp 92), (.tmp 102)], #[86, 86]⟩), 86, "", #[], none⟩⟩, qm 3 103]
def Qd9 : List (List Nat) := [[],[],[1],[2],[],[4],[5,3],[],[7],[8,6],[3,6,9],[0,10,9],[11,11,0,1,2,3,4,5,6,7,8,9,10,11]]
def QcU : List GO := [qj 105 .eql 3 9 14, qm 104 105]
def QcT : List GO := [qm 106 3, qf 107 1 4, ql 108 107, ⟨none, .call (some 109) 58 [(.tmp 108)]⟩, qf 110 1 6, ql 111 110, ⟨none, .call (some 112) 110 [(.const (.string ⟨#[60]⟩)), (.tmp 111), (.const (.string ⟨#[62]⟩))]⟩, qf 113 1 7, ql 114 113, ⟨none, .call (some 115) 110 [(.const (.string ⟨#[40]⟩)), (.tmp 114), (.const (.string ⟨#[41]⟩))]⟩, ⟨none, .buildS 116 9 3 [(.string ⟨#[]⟩), (.string ⟨#[]⟩), (.string ⟨#[]⟩)] [(0, (1, (.tmp 109))), (1, (1, (.tmp 112))), (2, (1, (.tmp 115)))]⟩, ⟨none, .raw ⟨(some 117), (.call ⟨(.builtin .append), #[(.tmp 106), (.tmp 116)], #[86, 86]⟩), 86, "", #[], none⟩⟩, qm 3 117]
def Qd8 : List (List Nat) := [[],[],[1],[2],[],[4],[5,3],[],[7],[8,6],[3,6,9],[0,10,9],[11,11,0,1,2,3,4,5,6,7,8,9,10,11]]
def QcS : List GO := [qm 118 3, ⟨none, .call (some 119) 108 [(.tmp 118), (.const (.string ⟨#[32]⟩))]⟩, ⟨none, .bin 120 .add 9 (.tmp 119) (.const (.string ⟨#[59]⟩))⟩, qm 2 120]
def render_ins_lc : LC := (.seq (.ops Qgq) (.seq (.ops Qgp) (.seq (.seq (.ops Qgo) (.block 0 (.seq (.ops Qgn) (.cond (.tmp 10) (.ops Qgm) (.seq (.ops Qgl) (.cond (.tmp 18) (.draw Qgk Qgs) (.seq (.seq (.ops Qgj) (.cond (.tmp 32) .skip (.seq (.ops Qgi) (.cond (.tmp 32) .skip (.ops Qgh))))) (.cond (.tmp 32) (.ops Qd6) (.seq (.ops Qd5) (.cond (.tmp 42) (.draw Qd4 Qdd) (.seq (.ops Qd3) (.cond (.tmp 53) (.draw Qd2 Qdc) (.seq (.ops Qd1) (.cond (.tmp 64) (.draw Qd0 Qdb) (.seq (.seq (.ops QcZ) (.cond (.tmp 78) .skip (.ops QcY))) (.cond (.tmp 78) (.draw QcX Qda) (.seq (.ops QcW) (.cond (.tmp 90) (.draw QcV Qd9) (.seq (.ops QcU) (.cond (.tmp 104) (.draw QcT Qd8) .skip)))))))))))))))))))) (.seq (.ops QcS) .ret))))
@[reducible] def Qu : FuncId := 60
theorem Qd7 : lowF Tryz.prog Tryz.f60 = some render_ins_lc := by kernel_rfl
theorem Qgr {a0 : Value} {w : World} {R : Ending → World → Prop} (h : render_ins_lc.wp Tryz.prog (retQ Tryz.prog [.tmp 2] R) (Qg [a0]) w) : Calls Tryz.prog Qu ⟨[a0]⟩ w R :=
  Q6 Tryz.func60 Qd7 (by kernel_rfl) (by kernel_rfl) h

/- 61 -/
def Qgz : List GO := [qb 1 50 0, qk 2 (.string ⟨#[]⟩)]
def Qgy : List GO := [qf 3 1 0, ql 4 3]
def Qgx : List GO := [qj 6 .eql 3 4 1, qm 5 6]
def Qgw : List GO := [qf 7 1 2, qV 8 3 7, ⟨none, .call (some 9) 111 [(.tmp 8)]⟩, ⟨none, .bin 10 .add 9 (.const (.string ⟨#[106, 117, 109, 112, 32]⟩)) (.tmp 9)⟩, ⟨none, .bin 11 .add 9 (.tmp 10) (.const (.string ⟨#[59]⟩))⟩, qm 2 11]
def Qgv : List GO := [qj 13 .eql 3 4 2, qm 12 13]
def Qgu : List GO := [qf 14 1 1, ql 15 14, ⟨none, .call (some 16) 58 [(.tmp 15)]⟩, ⟨none, .bin 17 .add 9 (.const (.string ⟨#[105, 102, 32]⟩)) (.tmp 16)⟩, ⟨none, .bin 18 .add 9 (.tmp 17) (.const (.string ⟨#[32, 116, 111, 32]⟩))⟩, qf 19 1 2, qV 20 3 19, ⟨none, .call (some 21) 111 [(.tmp 20)]⟩, qt 22 .add 9 18 21, ⟨none, .bin 23 .add 9 (.tmp 22) (.const (.string ⟨#[32, 101, 108, 115, 101, 32]⟩))⟩, qf 24 1 5, qV 25 3 24, ⟨none, .call (some 26) 111 [(.tmp 25)]⟩, qt 27 .add 9 23 26, ⟨none, .bin 28 .add 9 (.tmp 27) (.const (.string ⟨#[59]⟩))⟩, qm 2 28]
def QgB : List (List Nat) := [[],[0],[1],[2],[3],[],[5],[6,2],[4,7],[8],[],[10],[11,7],[9,12],[13],[14,12,0,1,2,3,4,5,6,7,8,9,10,11,12,13,14]]
def Qgt : List GO := [qf 29 1 8, ql 30 29, ⟨none, .call (some 31) 110 [(.const (.string ⟨#[40]⟩)), (.tmp 30), (.const (.string ⟨#[41]⟩))]⟩, ⟨none, .bin 32 .add 9 (.const (.string ⟨#[114, 101, 116, 32]⟩)) (.tmp 31)⟩, ⟨none, .bin 33 .add 9 (.tmp 32) (.const (.string ⟨#[59]⟩))⟩, qm 2 33]
def render_end_lc : LC := (.seq (.ops Qgz) (.seq (.seq (.ops Qgy) (.block 0 (.seq (.ops Qgx) (.cond (.tmp 5) (.seq (.ops Qgw) .ret) (.seq (.ops Qgv) (.cond (.tmp 12) (.seq (.draw Qgu QgB) .ret) .skip)))))) (.seq (.ops Qgt) .ret)))
@[reducible] def Q2W : FuncId := 61
theorem Qde : lowF Tryz.prog Tryz.f61 = some render_end_lc := by kernel_rfl
theorem QgA {a0 : Value} {w : World} {R : Ending → World → Prop} (h : render_end_lc.wp Tryz.prog (retQ Tryz.prog [.tmp 2] R) (Qg [a0]) w) : Calls Tryz.prog Q2W ⟨[a0]⟩ w R :=
  Q6 Tryz.func61 Qde (by kernel_rfl) (by kernel_rfl) h

/- 62 -/
def Q3o : List GO := [qk 2 (.string ⟨#[]⟩)]
def Q3n : List GO := [qm 3 0, qn 4 3, qf 5 4 1, ql 6 5, ⟨none, .raw ⟨(some 7), (.call ⟨(.builtin .unsafeSliceData), #[(.tmp 6)], #[105]⟩), 154, "", #[], none⟩⟩, qm 8 0, qn 9 8, qf 10 9 1, ql 11 10, qL 12 11, ⟨none, .raw ⟨(some 13), (.call ⟨(.builtin .unsafeString), #[(.tmp 7), (.tmp 12)], #[154, 3]⟩), 9, "", #[], none⟩⟩, qm 2 13]
def Q3q : List (List Nat) := [[],[0],[1],[2],[3],[],[5],[6],[7],[8],[4,9],[10,0,1,2,3,4,5,6,7,8,9,10]]
def strings_Builder_String_lc : LC := (.seq (.ops Q3o) (.seq (.draw Q3n Q3q) .ret))
@[reducible] def Q2y : FuncId := 62
theorem Q3a : lowF Tryz.prog Tryz.f62 = some strings_Builder_String_lc := by kernel_rfl
theorem Q3p {a0 : Value} {w : World} {R : Ending → World → Prop} (h : strings_Builder_String_lc.wp Tryz.prog (retQ Tryz.prog [.tmp 2] R) (Qg [a0]) w) : Calls Tryz.prog Q2y ⟨[a0]⟩ w R :=
  Q6 Tryz.func62 Q3a (by kernel_rfl) (by kernel_rfl) h

/- 63 -/
@[reducible] def strconv_Itoa : FuncId := 63
/- 64 -/
def QdG : List GO := [qk 2 (.string ⟨#[]⟩)]
def QdF : List GO := [qk 3 (.string ⟨#[40]⟩)]
def QdE : List GO := [qk 4 (vi 0)]
def QdD : List GO := [qm 5 4, qm 6 0, qL 7 6, qt 8 .lss 3 5 7]
def QdC : List GO := [qm 11 4, qj 12 .gtr 3 11 0]
def QdB : List GO := [qm 13 3, ⟨none, .bin 14 .add 9 (.tmp 13) (.const (.string ⟨#[44, 32]⟩))⟩, qm 3 14]
def QdA : List GO := [qm 15 3, qm 16 0, qm 17 4, qi 18 3 16 17, qV 19 3 18, ⟨none, .call (some 20) 113 [(.tmp 19)]⟩, qt 21 .add 9 15 20, qm 3 21]
def Qdz : List GO := [qm 9 4, qj 10 .add 3 9 1, qm 4 10]
def Q57 : LC := (.seq (.seq (.ops QdD) (.cond (.tmp 8) .skip (.exit 0))) (.seq (.block 1 (.seq (.seq (.ops QdC) (.cond (.tmp 12) (.ops QdB) .skip)) (.ops QdA))) (.ops Qdz)))
def Qdy : List GO := [qm 22 3, ⟨none, .bin 23 .add 9 (.tmp 22) (.const (.string ⟨#[41]⟩))⟩, qm 2 23]
def R_typesText_lc : LC := (.seq (.ops QdG) (.seq (.ops QdF) (.seq (.seq (.ops QdE) (.block 0 (.loop Q57))) (.seq (.ops Qdy) .ret))))
@[reducible] def Q38 : FuncId := 64
theorem QaI : lowF Tryz.prog Tryz.f64 = some R_typesText_lc := by kernel_rfl
theorem QdH {a0 : Value} {w : World} {R : Ending → World → Prop} (h : R_typesText_lc.wp Tryz.prog (retQ Tryz.prog [.tmp 2] R) (Qg [a0]) w) : Calls Tryz.prog Q38 ⟨[a0]⟩ w R :=
  Q6 Tryz.func64 QaI (by kernel_rfl) (by kernel_rfl) h

/- 65 -/
def Qkg : List GO := [qb 1 54 0, qk 2 (.string ⟨#[]⟩)]
def Qkf : List GO := [qf 7 1 0, ql 8 7, ⟨none, .call (some 9) 17 [(.tmp 8)]⟩, ⟨none, .alloc 3 9 [(.string ⟨#[]⟩)]⟩, qs 3 9]
def Qke : List GO := [qf 11 1 0, ql 12 11, ⟨none, .call (some 13) 114 [(.tmp 12)]⟩, qm 10 13, qx 14 10 0, qx 15 10 1, ⟨none, .alloc 4 156 [(.bool false), (.bool false), (.bool false), (.bool false), (.bool false), (.bool false), (.bool false)]⟩, qw 7 4 14, qm 5 15]
def Qkd : List GO := [⟨none, .mkfn 16 115 [(.tmp 3)]⟩, qm 6 16]
def Qkc : List GO := [qf 17 1 0, ql 18 17, qj 19 .eql 3 18 2]
def Qkb : List GO := [ql 20 3, qf 21 1 4, ql 22 21, ⟨none, .call (some 23) 19 [(.tmp 22)]⟩, ⟨none, .bin 24 .add 9 (.const (.string ⟨#[32]⟩)) (.tmp 23)⟩, qt 25 .add 9 20 24, qs 3 25]
def Qkj : List (List Nat) := [[],[],[1],[2],[3],[0,4],[5,3,0,1,2,3,4,5]]
def Qka : List GO := [qf 26 1 0, ql 27 26, qj 28 .eql 3 27 1]
def Qk9 : List GO := [ql 29 3, qf 30 1 5, ql 31 30, ⟨none, .call (some 32) 109 [(.tmp 31), (.const (vi 10))]⟩, ⟨none, .bin 33 .add 9 (.const (.string ⟨#[32]⟩)) (.tmp 32)⟩, qt 34 .add 9 29 33, qs 3 34]
def Qki : List (List Nat) := [[],[],[1],[2],[3],[0,4],[5,3,0,1,2,3,4,5]]
def Qk8 : List GO := [qf 35 1 0, ql 36 35, qj 37 .eql 3 36 14]
def Qk7 : List GO := [qm 38 6, qf 39 1 4, ql 40 39, ⟨none, .callv (some 41) (.tmp 38) [(.tmp 40)]⟩]
def QhS : List GO := [qf 42 4 0, ql 43 42]
def QhR : List GO := [qm 44 6, qf 45 1 1, ql 46 45, ⟨none, .callv (some 47) (.tmp 44) [(.tmp 46)]⟩]
def QhQ : List GO := [qf 48 1 0, ql 49 48, qj 50 .eql 3 49 6, qm 51 50, qg 51 false (qf 52 1 0), qg 51 false (ql 53 52), qg 51 false (qj 54 .eql 3 53 7), ⟨none, .pick 55 (.tmp 51) (.const (.bool true)) (.tmp 54)⟩]
def QhP : List GO := [qm 56 6, qf 57 1 4, ql 58 57, ⟨none, .callv (some 59) (.tmp 56) [(.tmp 58)]⟩]
def QhO : List GO := [qf 60 4 1, ql 61 60]
def QhN : List GO := [qm 62 6, qf 63 1 2, ql 64 63, ⟨none, .callv (some 65) (.tmp 62) [(.tmp 64)]⟩]
def QhM : List GO := [qf 66 4 2, ql 67 66]
def QhL : List GO := [qm 68 6, qf 69 1 3, ql 70 69, ⟨none, .callv (some 71) (.tmp 68) [(.tmp 70)]⟩]
def QhK : List GO := [qf 72 4 5, ql 73 72]
def QhJ : List GO := [ql 74 3, qf 75 1 6, ql 76 75, ⟨none, .call (some 77) 67 [(.const (.string ⟨#[60]⟩)), (.tmp 76), (.const (.string ⟨#[62]⟩))]⟩, ⟨none, .bin 78 .add 9 (.const (.string ⟨#[32]⟩)) (.tmp 77)⟩, qt 79 .add 9 74 78, qs 3 79]
def QhV : List (List Nat) := [[],[],[1],[2],[3],[0,4],[5,3,0,1,2,3,4,5]]
def QhI : List GO := [qf 80 4 6, ql 81 80]
def QhH : List GO := [ql 82 3, qf 83 1 7, ql 84 83, ⟨none, .call (some 85) 67 [(.const (.string ⟨#[40]⟩)), (.tmp 84), (.const (.string ⟨#[41]⟩))]⟩, ⟨none, .bin 86 .add 9 (.const (.string ⟨#[32]⟩)) (.tmp 85)⟩, qt 87 .add 9 82 86, qs 3 87]
def QhU : List (List Nat) := [[],[],[1],[2],[3],[0,4],[5,3,0,1,2,3,4,5]]
def QhG : List GO := [ql 88 3, qm 2 88]
def R_insText_lc : LC := (.seq (.ops Qkg) (.seq (.ops Qkf) (.seq (.ops Qke) (.seq (.ops Qkd) (.seq (.seq (.ops Qkc) (.cond (.tmp 19) (.draw Qkb Qkj) .skip)) (.seq (.seq (.ops Qka) (.cond (.tmp 28) (.draw Qk9 Qki) .skip)) (.seq (.seq (.ops Qk8) (.cond (.tmp 37) (.ops Qk7) .skip)) (.seq (.seq (.ops QhS) (.cond (.tmp 43) (.ops QhR) .skip)) (.seq (.seq (.ops QhQ) (.cond (.tmp 55) (.ops QhP) .skip)) (.seq (.seq (.ops QhO) (.cond (.tmp 61) (.ops QhN) .skip)) (.seq (.seq (.ops QhM) (.cond (.tmp 67) (.ops QhL) .skip)) (.seq (.seq (.ops QhK) (.cond (.tmp 73) (.draw QhJ QhV) .skip)) (.seq (.seq (.ops QhI) (.cond (.tmp 81) (.draw QhH QhU) .skip)) (.seq (.ops QhG) .ret))))))))))))))
@[reducible] def QO : FuncId := 65
theorem QhT : lowF Tryz.prog Tryz.f65 = some R_insText_lc := by kernel_rfl
theorem Qkh {a0 : Value} {w : World} {R : Ending → World → Prop} (h : R_insText_lc.wp Tryz.prog (retQ Tryz.prog [.tmp 2] R) (Qg [a0]) w) : Calls Tryz.prog QO ⟨[a0]⟩ w R :=
  Q6 Tryz.func65 QhT (by kernel_rfl) (by kernel_rfl) h

/- 66 -/
def QlP : List GO := [qb 1 48 0, qk 2 (.string ⟨#[]⟩)]
def QlO : List GO := [qf 3 1 0, ql 4 3, ⟨none, .call (some 5) 63 [(.tmp 4)]⟩, ⟨none, .bin 6 .add 9 (.tmp 5) (.const (.string ⟨#[32]⟩))⟩, qf 7 1 1, ql 8 7, ⟨none, .call (some 9) 67 [(.const (.string ⟨#[60]⟩)), (.tmp 8), (.const (.string ⟨#[62]⟩))]⟩, qt 10 .add 9 6 9, ⟨none, .bin 11 .add 9 (.tmp 10) (.const (.string ⟨#[32]⟩))⟩, qf 12 1 2, ql 13 12, ⟨none, .call (some 14) 67 [(.const (.string ⟨#[40]⟩)), (.tmp 13), (.const (.string ⟨#[41]⟩))]⟩, qt 15 .add 9 11 14, qm 2 15]
def QlR : List (List Nat) := [[],[0],[1],[2],[],[4],[5,2],[3,6],[7],[],[9],[10,6],[8,11],[12,11,0,1,2,3,4,5,6,7,8,9,10,11,12]]
def R_toText_lc : LC := (.seq (.ops QlP) (.seq (.draw QlO QlR) .ret))
@[reducible] def QmT : FuncId := 66
theorem QjV : lowF Tryz.prog Tryz.f66 = some R_toText_lc := by kernel_rfl
theorem QlQ {a0 : Value} {w : World} {R : Ending → World → Prop} (h : R_toText_lc.wp Tryz.prog (retQ Tryz.prog [.tmp 2] R) (Qg [a0]) w) : Calls Tryz.prog QmT ⟨[a0]⟩ w R :=
  Q6 Tryz.func66 QjV (by kernel_rfl) (by kernel_rfl) h

/- 67 -/
def QhE : List GO := [qk 6 (.string ⟨#[]⟩)]
def QhD : List GO := [qm 9 0, qm 7 9]
def QhC : List GO := [qk 8 (vi 0)]
def QhB : List GO := [qm 10 8, qm 11 1, qL 12 11, qt 13 .lss 3 10 12]
def QhA : List GO := [qm 16 8, qj 17 .gtr 3 16 0]
def Qhz : List GO := [qm 18 7, ⟨none, .bin 19 .add 9 (.tmp 18) (.const (.string ⟨#[44, 32]⟩))⟩, qm 7 19]
def Qhy : List GO := [qm 20 7, qm 21 1, qm 22 8, qi 23 1 21 22, ql 24 23, ⟨none, .call (some 25) 63 [(.tmp 24)]⟩, qt 26 .add 9 20 25, qm 7 26]
def Qhx : List GO := [qm 14 8, qj 15 .add 3 14 1, qm 8 15]
def Q6U : LC := (.seq (.seq (.ops QhB) (.cond (.tmp 13) .skip (.exit 0))) (.seq (.block 1 (.seq (.seq (.ops QhA) (.cond (.tmp 17) (.ops Qhz) .skip)) (.ops Qhy))) (.ops Qhx)))
def Qhw : List GO := [qm 27 7, qm 28 2, qt 29 .add 9 27 28, qm 6 29]
def R_intsText_lc : LC := (.seq (.ops QhE) (.seq (.ops QhD) (.seq (.seq (.ops QhC) (.block 0 (.loop Q6U))) (.seq (.ops Qhw) .ret))))
@[reducible] def Q4M : FuncId := 67
theorem Qe6 : lowF Tryz.prog Tryz.f67 = some R_intsText_lc := by kernel_rfl
theorem QhF {a0 a1 a2 : Value} {w : World} {R : Ending → World → Prop} (h : R_intsText_lc.wp Tryz.prog (retQ Tryz.prog [.tmp 6] R) (Qg [a0, a1, a2]) w) : Calls Tryz.prog Q4M ⟨[a0, a1, a2]⟩ w R :=
  Q6 Tryz.func67 Qe6 (by kernel_rfl) (by kernel_rfl) h

/- 68 -/
def Qi9 : List GO := [qb 2 91 0, qb 3 91 1, qk 4 (.bool false)]
def Qi8 : List GO := [qf 5 2 0, ql 6 5, qf 7 3 0, ql 8 7, qt 9 .eql 3 6 8, qm 10 9, qg 10 true (qf 11 2 1), qg 10 true (ql 12 11), qg 10 true (qf 13 3 1), qg 10 true (ql 14 13), qg 10 true (qt 15 .eql 3 12 14), ⟨none, .pick 16 (.tmp 10) (.tmp 15) (.const (.bool false))⟩, qm 17 16, qg 17 true (qf 18 2 2), qg 17 true (ql 19 18), qg 17 true (qf 20 3 2), qg 17 true (ql 21 20), ⟨some (17, true), .call (some 22) 32 [(.tmp 19), (.tmp 21)]⟩, ⟨none, .pick 23 (.tmp 17) (.tmp 22) (.const (.bool false))⟩, qm 4 23]
def R_SameType_lc : LC := (.seq (.ops Qi9) (.seq (.ops Qi8) .ret))
@[reducible] def Q7H : FuncId := 68
theorem Qer : lowF Tryz.prog Tryz.f68 = some R_SameType_lc := by kernel_rfl
theorem Qia {a0 a1 : Value} {w : World} {R : Ending → World → Prop} (h : R_SameType_lc.wp Tryz.prog (retQ Tryz.prog [.tmp 4] R) (Qg [a0, a1]) w) : Calls Tryz.prog Q7H ⟨[a0, a1]⟩ w R :=
  Q6 Tryz.func68 Qer (by kernel_rfl) (by kernel_rfl) h

/- 69 -/
def QjZ : List GO := [qb 2 54 0, qb 3 54 1, qk 4 (.bool false)]
def QjY : List GO := [qf 5 2 0, ql 6 5, qf 7 3 0, ql 8 7, qt 9 .eql 3 6 8, qm 10 9, qg 10 true (qf 11 2 1), qg 10 true (ql 12 11), qg 10 true (qf 13 3 1), qg 10 true (ql 14 13), qg 10 true (qt 15 .eql 3 12 14), ⟨none, .pick 16 (.tmp 10) (.tmp 15) (.const (.bool false))⟩, qm 17 16, qg 17 true (qf 18 2 2), qg 17 true (ql 19 18), qg 17 true (qf 20 3 2), qg 17 true (ql 21 20), qg 17 true (qt 22 .eql 3 19 21), ⟨none, .pick 23 (.tmp 17) (.tmp 22) (.const (.bool false))⟩, qm 24 23, qg 24 true (qf 25 2 3), qg 24 true (ql 26 25), qg 24 true (qf 27 3 3), qg 24 true (ql 28 27), qg 24 true (qt 29 .eql 3 26 28), ⟨none, .pick 30 (.tmp 24) (.tmp 29) (.const (.bool false))⟩, qm 31 30, qg 31 true (qf 32 2 4), qg 31 true (ql 33 32), qg 31 true (qf 34 3 4), qg 31 true (ql 35 34), qg 31 true (qt 36 .eql 3 33 35), ⟨none, .pick 37 (.tmp 31) (.tmp 36) (.const (.bool false))⟩, qm 38 37, qg 38 true (qf 39 2 5), qg 38 true (ql 40 39), qg 38 true (qf 41 3 5), qg 38 true (ql 42 41), qg 38 true (qt 43 .eql 2 40 42), ⟨none, .pick 44 (.tmp 38) (.tmp 43) (.const (.bool false))⟩, qm 45 44, qg 45 true (qf 46 2 6), qg 45 true (ql 47 46), qg 45 true (qf 48 3 6), qg 45 true (ql 49 48), ⟨some (45, true), .call (some 50) 71 [(.tmp 47), (.tmp 49)]⟩, ⟨none, .pick 51 (.tmp 45) (.tmp 50) (.const (.bool false))⟩, qm 52 51, qg 52 true (qf 53 2 7), qg 52 true (ql 54 53), qg 52 true (qf 55 3 7), qg 52 true (ql 56 55), ⟨some (52, true), .call (some 57) 71 [(.tmp 54), (.tmp 56)]⟩, ⟨none, .pick 58 (.tmp 52) (.tmp 57) (.const (.bool false))⟩, qm 4 58]
def R_sameIns_lc : LC := (.seq (.ops QjZ) (.seq (.ops QjY) .ret))
@[reducible] def Qk1 : FuncId := 69
theorem Qhj : lowF Tryz.prog Tryz.f69 = some R_sameIns_lc := by kernel_rfl
theorem Qk0 {a0 a1 : Value} {w : World} {R : Ending → World → Prop} (h : R_sameIns_lc.wp Tryz.prog (retQ Tryz.prog [.tmp 4] R) (Qg [a0, a1]) w) : Calls Tryz.prog Qk1 ⟨[a0, a1]⟩ w R :=
  Q6 Tryz.func69 Qhj (by kernel_rfl) (by kernel_rfl) h

/- 70 -/
def Qm4 : List GO := [qb 2 48 0, qb 3 48 1, qk 4 (.bool false)]
def Qm3 : List GO := [qf 5 2 0, ql 6 5, qf 7 3 0, ql 8 7, qt 9 .eql 3 6 8, qm 10 9, qg 10 true (qf 11 2 1), qg 10 true (ql 12 11), qg 10 true (qf 13 3 1), qg 10 true (ql 14 13), ⟨some (10, true), .call (some 15) 71 [(.tmp 12), (.tmp 14)]⟩, ⟨none, .pick 16 (.tmp 10) (.tmp 15) (.const (.bool false))⟩, qm 17 16, qg 17 true (qf 18 2 2), qg 17 true (ql 19 18), qg 17 true (qf 20 3 2), qg 17 true (ql 21 20), ⟨some (17, true), .call (some 22) 71 [(.tmp 19), (.tmp 21)]⟩, ⟨none, .pick 23 (.tmp 17) (.tmp 22) (.const (.bool false))⟩, qm 4 23]
def R_sameTo_lc : LC := (.seq (.ops Qm4) (.seq (.ops Qm3) .ret))
@[reducible] def QmU : FuncId := 70
theorem QjX : lowF Tryz.prog Tryz.f70 = some R_sameTo_lc := by kernel_rfl
theorem Qm5 {a0 a1 : Value} {w : World} {R : Ending → World → Prop} (h : R_sameTo_lc.wp Tryz.prog (retQ Tryz.prog [.tmp 4] R) (Qg [a0, a1]) w) : Calls Tryz.prog QmU ⟨[a0, a1]⟩ w R :=
  Q6 Tryz.func70 QjX (by kernel_rfl) (by kernel_rfl) h

/- 71 -/
def Qij : List GO := [qk 4 (.bool false)]
def Qii : List GO := [qm 6 0, qL 7 6, qm 8 1, qL 9 8, qt 10 .neq 3 7 9]
def Qih : List GO := [qk 4 (.bool false)]
def Qig : List GO := [qk 5 (vi 0)]
def Qif : List GO := [qm 11 5, qm 12 0, qL 13 12, qt 14 .lss 3 11 13]
def Qie : List GO := [qm 17 0, qm 18 5, qi 19 1 17 18, ql 20 19, qm 21 1, qm 22 5, qi 23 1 21 22, ql 24 23, qt 25 .neq 3 20 24]
def Qil : List (List Nat) := [[],[],[0,1],[2],[],[],[4,5],[6],[3,7]]
def Qid : List GO := [qk 4 (.bool false)]
def Qic : List GO := [qm 15 5, qj 16 .add 3 15 1, qm 5 16]
def Q6V : LC := (.seq (.seq (.ops Qif) (.cond (.tmp 14) .skip (.exit 0))) (.seq (.block 1 (.seq (.draw Qie Qil) (.cond (.tmp 25) (.seq (.ops Qid) .ret) .skip))) (.ops Qic)))
def Qib : List GO := [qk 4 (.bool true)]
def R_SameInts_lc : LC := (.seq (.ops Qij) (.seq (.seq (.ops Qii) (.cond (.tmp 10) (.seq (.ops Qih) .ret) .skip)) (.seq (.seq (.ops Qig) (.block 0 (.loop Q6V))) (.seq (.ops Qib) .ret))))
@[reducible] def Q2Z : FuncId := 71
theorem Qes : lowF Tryz.prog Tryz.f71 = some R_SameInts_lc := by kernel_rfl
theorem Qik {a0 a1 : Value} {w : World} {R : Ending → World → Prop} (h : R_SameInts_lc.wp Tryz.prog (retQ Tryz.prog [.tmp 4] R) (Qg [a0, a1]) w) : Calls Tryz.prog Q2Z ⟨[a0, a1]⟩ w R :=
  Q6 Tryz.func71 Qes (by kernel_rfl) (by kernel_rfl) h

/- 72 -/
/- 73 -/
/- 74 -/
/- 75 -/
/- 76 -/
/- 77 -/
/- 78 -/
/- 79 -/
/- 80 -/
/- 81 -/
/- 82 -/
/- 83 -/
/- 84 -/
/- 85 -/
/- 86 -/
/- 87 -/
/- 88 -/
/- 89 -/
/- 90 -/
def Qee : List GO := [qb 2 91 0, qk 4 (vi 0)]
def Qed : List GO := [qV 5 3 2, ⟨none, .call (some 6) 131 [(.tmp 5), (.const (vi 4))]⟩, qj 7 .gtr 3 6 4]
def Qec : List GO := [qk 4 (vi 19)]
def Qeb : List GO := [qV 8 3 2, qm 9 1, ⟨none, .call (some 10) 132 [(.tmp 8), (.tmp 9)]⟩, qm 4 10]
def R_TypeFault_lc : LC := (.seq (.ops Qee) (.seq (.seq (.ops Qed) (.cond (.tmp 7) (.seq (.ops Qec) .ret) .skip)) (.seq (.ops Qeb) .ret)))
@[reducible] def Q3S : FuncId := 90
theorem Qbf : lowF Tryz.prog Tryz.f90 = some R_TypeFault_lc := by kernel_rfl
theorem Qef {a0 a1 : Value} {w : World} {R : Ending → World → Prop} (h : R_TypeFault_lc.wp Tryz.prog (retQ Tryz.prog [.tmp 4] R) (Qg [a0, a1]) w) : Calls Tryz.prog Q3S ⟨[a0, a1]⟩ w R :=
  Q6 Tryz.func90 Qbf (by kernel_rfl) (by kernel_rfl) h

/- 91 -/
def Ql1 : List GO := [qk 4 (vi 0)]
def Ql0 : List GO := [qm 5 0, ⟨none, .bin 6 .mul 3 (.const (vi 10000)) (.tmp 5)⟩, qm 7 1, ⟨none, .bin 8 .mul 3 (.const (vi 100)) (.tmp 7)⟩, qt 9 .add 3 6 8, qj 10 .add 3 9 90, qm 4 10]
def R_AtBlock_lc : LC := (.seq (.ops Ql1) (.seq (.ops Ql0) .ret))
@[reducible] def Ql3 : FuncId := 91
theorem Qjd : lowF Tryz.prog Tryz.f91 = some R_AtBlock_lc := by kernel_rfl
theorem Ql2 {a0 a1 : Value} {w : World} {R : Ending → World → Prop} (h : R_AtBlock_lc.wp Tryz.prog (retQ Tryz.prog [.tmp 4] R) (Qg [a0, a1]) w) : Calls Tryz.prog Ql3 ⟨[a0, a1]⟩ w R :=
  Q6 Tryz.func91 Qjd (by kernel_rfl) (by kernel_rfl) h

/- 92 -/
def QkK : List GO := [qb 2 24 0, qb 3 54 1, qk 4 (vi 0)]
def QkJ : List GO := [qf 8 3 0, ql 9 8, ⟨none, .call (some 10) 114 [(.tmp 9)]⟩, qm 7 10, qx 11 7 0, qx 12 7 1, ⟨none, .alloc 5 156 [(.bool false), (.bool false), (.bool false), (.bool false), (.bool false), (.bool false), (.bool false)]⟩, qw 7 5 11, qm 6 12]
def QkI : List GO := [qm 13 6, ⟨none, .un 14 .not (.tmp 13)⟩]
def QkH : List GO := [qk 4 (vi 3)]
def QkG : List GO := [qf 15 5 0, ql 16 15, ⟨none, .un 17 .not (.tmp 16)⟩, qm 18 17, qg 18 true (qf 19 3 1), qg 18 true (ql 20 19), qg 18 true (qj 21 .neq 3 20 0), ⟨none, .pick 22 (.tmp 18) (.tmp 21) (.const (.bool false))⟩, qm 23 22, qg 23 false (qf 24 5 1), qg 23 false (ql 25 24), ⟨some (23, false), .un 26 .not (.tmp 25)⟩, qg 23 false (qm 27 26), qg 27 true (qf 28 3 2), qg 27 true (ql 29 28), qg 27 true (qj 30 .neq 3 29 0), ⟨some (23, false), .pick 31 (.tmp 27) (.tmp 30) (.const (.bool false))⟩, ⟨none, .pick 32 (.tmp 23) (.const (.bool true)) (.tmp 31)⟩, qm 33 32, qg 33 false (qf 34 5 2), qg 33 false (ql 35 34), ⟨some (33, false), .un 36 .not (.tmp 35)⟩, qg 33 false (qm 37 36), qg 37 true (qf 38 3 3), qg 37 true (ql 39 38), qg 37 true (qj 40 .neq 3 39 0), ⟨some (33, false), .pick 41 (.tmp 37) (.tmp 40) (.const (.bool false))⟩, ⟨none, .pick 42 (.tmp 33) (.const (.bool true)) (.tmp 41)⟩, qm 43 42, qg 43 false (qf 44 5 3), qg 43 false (ql 45 44), ⟨some (43, false), .un 46 .not (.tmp 45)⟩, qg 43 false (qm 47 46), qg 47 true (qf 48 3 4), qg 47 true (ql 49 48), qg 47 true (qj 50 .neq 3 49 0), ⟨some (43, false), .pick 51 (.tmp 47) (.tmp 50) (.const (.bool false))⟩, ⟨none, .pick 52 (.tmp 43) (.const (.bool true)) (.tmp 51)⟩, qm 53 52, qg 53 false (qf 54 5 4), qg 53 false (ql 55 54), ⟨some (53, false), .un 56 .not (.tmp 55)⟩, qg 53 false (qm 57 56), qg 57 true (qf 58 3 5), qg 57 true (ql 59 58), qg 57 true (qj 60 .neq 2 59 0), ⟨some (53, false), .pick 61 (.tmp 57) (.tmp 60) (.const (.bool false))⟩, ⟨none, .pick 62 (.tmp 53) (.const (.bool true)) (.tmp 61)⟩, qm 63 62, qg 63 false (qf 64 5 5), qg 63 false (ql 65 64), ⟨some (63, false), .un 66 .not (.tmp 65)⟩, qg 63 false (qm 67 66), qg 67 true (qf 68 3 6), qg 67 true (ql 69 68), qg 67 true (qL 70 69), qg 67 true (qj 71 .gtr 3 70 0), ⟨some (63, false), .pick 72 (.tmp 67) (.tmp 71) (.const (.bool false))⟩, ⟨none, .pick 73 (.tmp 63) (.const (.bool true)) (.tmp 72)⟩, qm 74 73, qg 74 false (qf 75 5 6), qg 74 false (ql 76 75), ⟨some (74, false), .un 77 .not (.tmp 76)⟩, qg 74 false (qm 78 77), qg 78 true (qf 79 3 7), qg 78 true (ql 80 79), qg 78 true (qL 81 80), qg 78 true (qj 82 .gtr 3 81 0), ⟨some (74, false), .pick 83 (.tmp 78) (.tmp 82) (.const (.bool false))⟩, ⟨none, .pick 84 (.tmp 74) (.const (.bool true)) (.tmp 83)⟩]
def QkF : List GO := [qk 4 (vi 4)]
def QkE : List GO := [qf 85 3 0, ql 86 85]
def QkD : List GO := [qj 88 .eql 3 86 2, qm 87 88]
def QkC : List GO := [qf 89 3 4, ql 90 89, qj 91 .lss 3 90 1, qm 92 91, qg 92 false (qf 93 3 4), qg 92 false (ql 94 93), qg 92 false (qj 95 .gtr 3 94 9), ⟨none, .pick 96 (.tmp 92) (.const (.bool true)) (.tmp 95)⟩]
def QkB : List GO := [qk 4 (vi 1)]
def QiZ : List GO := [qj 98 .eql 3 86 5, qm 97 98]
def QiY : List GO := [qf 99 3 7, ql 100 99, qL 101 100, qj 102 .gtr 3 101 8]
def QiX : List GO := [qk 4 (vi 2)]
def QiW : List GO := [qj 104 .eql 3 86 6, qm 103 104]
def QiV : List GO := [qj 105 .eql 3 86 7, qm 103 105]
def QiU : List GO := [qf 106 3 4, ql 107 106, qj 108 .lss 3 107 0, qm 109 108, qg 109 false (qf 110 3 4), qg 109 false (ql 111 110), qg 109 false (qj 112 .gtr 3 111 7), ⟨none, .pick 113 (.tmp 109) (.const (.bool true)) (.tmp 112)⟩]
def QiT : List GO := [qk 4 (vi 1)]
def QiS : List GO := [qj 115 .eql 3 86 14, qm 114 115]
def QiR : List GO := [qf 116 3 4, ql 117 116, qj 118 .lss 3 117 0, qm 119 118, qg 119 false (qf 120 3 4), qg 119 false (ql 121 120), qg 119 false (qf 122 2 0), qg 119 false (ql 123 122), qg 119 false (qL 124 123), qg 119 false (qt 125 .geq 3 121 124), ⟨none, .pick 126 (.tmp 119) (.const (.bool true)) (.tmp 125)⟩]
def QiQ : List GO := [qk 4 (vi 1)]
def QiP : List GO := [qf 127 3 6, ql 128 127, qL 129 128, qj 130 .gtr 3 129 6, qm 131 130, qg 131 false (qf 132 3 7), qg 131 false (ql 133 132), qg 131 false (qL 134 133), qg 131 false (qj 135 .gtr 3 134 8), ⟨none, .pick 136 (.tmp 131) (.const (.bool true)) (.tmp 135)⟩]
def QiO : List GO := [qk 4 (vi 2)]
def QiN : List GO := [qk 4 (vi 0)]
def R_InsForm_lc : LC := (.seq (.ops QkK) (.seq (.ops QkJ) (.seq (.seq (.ops QkI) (.cond (.tmp 14) (.seq (.ops QkH) .ret) .skip)) (.seq (.seq (.ops QkG) (.cond (.tmp 84) (.seq (.ops QkF) .ret) .skip)) (.seq (.seq (.ops QkE) (.block 0 (.seq (.ops QkD) (.cond (.tmp 87) (.seq (.ops QkC) (.cond (.tmp 96) (.seq (.ops QkB) .ret) .skip)) (.seq (.ops QiZ) (.cond (.tmp 97) (.seq (.ops QiY) (.cond (.tmp 102) (.seq (.ops QiX) .ret) .skip)) (.seq (.seq (.ops QiW) (.cond (.tmp 103) .skip (.ops QiV))) (.cond (.tmp 103) (.seq (.ops QiU) (.cond (.tmp 113) (.seq (.ops QiT) .ret) .skip)) (.seq (.ops QiS) (.cond (.tmp 114) (.seq (.seq (.ops QiR) (.cond (.tmp 126) (.seq (.ops QiQ) .ret) .skip)) (.seq (.ops QiP) (.cond (.tmp 136) (.seq (.ops QiO) .ret) .skip))) .skip)))))))))) (.seq (.ops QiN) .ret))))))
@[reducible] def Qy : FuncId := 92
theorem Qj0 : lowF Tryz.prog Tryz.f92 = some R_InsForm_lc := by kernel_rfl
theorem QkL {a0 a1 : Value} {w : World} {R : Ending → World → Prop} (h : R_InsForm_lc.wp Tryz.prog (retQ Tryz.prog [.tmp 4] R) (Qg [a0, a1]) w) : Calls Tryz.prog Qy ⟨[a0, a1]⟩ w R :=
  Q6 Tryz.func92 Qj0 (by kernel_rfl) (by kernel_rfl) h

/- 93 -/
def QnC : List GO := [qk 6 (vi 0)]
def QnB : List GO := [qm 7 0, ⟨none, .bin 8 .mul 3 (.const (vi 10000)) (.tmp 7)⟩, qm 9 1, ⟨none, .bin 10 .mul 3 (.const (vi 100)) (.tmp 9)⟩, qt 11 .add 3 8 10, qm 12 2, qt 13 .add 3 11 12, qm 6 13]
def R_AtIns_lc : LC := (.seq (.ops QnC) (.seq (.ops QnB) .ret))
@[reducible] def QoM : FuncId := 93
theorem Qmm : lowF Tryz.prog Tryz.f93 = some R_AtIns_lc := by kernel_rfl
theorem QnD {a0 a1 a2 : Value} {w : World} {R : Ending → World → Prop} (h : R_AtIns_lc.wp Tryz.prog (retQ Tryz.prog [.tmp 6] R) (Qg [a0, a1, a2]) w) : Calls Tryz.prog QoM ⟨[a0, a1, a2]⟩ w R :=
  Q6 Tryz.func93 Qmm (by kernel_rfl) (by kernel_rfl) h

/- 94 -/
def QkV : List GO := [qb 2 43 0, qb 3 50 1, qk 4 (vi 0)]
def QkU : List GO := [qf 6 3 0, ql 7 6, qj 8 .lss 3 7 1, qm 9 8, qg 9 false (qf 10 3 0), qg 9 false (ql 11 10), qg 9 false (qj 12 .gtr 3 11 3), ⟨none, .pick 13 (.tmp 9) (.const (.bool true)) (.tmp 12)⟩]
def QkT : List GO := [qk 4 (vi 3)]
def QkS : List GO := [qf 14 3 1, ql 15 14, qj 16 .neq 3 15 0, qm 17 16, qg 17 true (qf 18 3 0), qg 17 true (ql 19 18), qg 17 true (qj 20 .neq 3 19 2), ⟨none, .pick 21 (.tmp 17) (.tmp 20) (.const (.bool false))⟩, qm 22 21, qg 22 false (qf 23 3 8), qg 22 false (ql 24 23), qg 22 false (qL 25 24), qg 22 false (qj 26 .gtr 3 25 0), qg 22 false (qm 27 26), qg 27 true (qf 28 3 0), qg 27 true (ql 29 28), qg 27 true (qj 30 .neq 3 29 3), ⟨some (22, false), .pick 31 (.tmp 27) (.tmp 30) (.const (.bool false))⟩, ⟨none, .pick 32 (.tmp 22) (.const (.bool true)) (.tmp 31)⟩]
def QkR : List GO := [qk 4 (vi 4)]
def QkQ : List GO := [qf 33 3 8, ql 34 33, qL 35 34, qj 36 .gtr 3 35 8]
def QkP : List GO := [qk 4 (vi 2)]
def QkO : List GO := [qV 37 4 2, qf 38 3 2, qV 39 3 38, qf 40 3 0, ql 41 40, qj 42 .neq 3 41 3, ⟨none, .call (some 43) 133 [(.tmp 37), (.tmp 39), (.tmp 42)]⟩, qm 5 43]
def QkN : List GO := [qm 44 5, qj 45 .neq 3 44 0]
def QkM : List GO := [qm 46 5, qm 4 46]
def Qjb : List GO := [qV 47 4 2, qf 48 3 5, qV 49 3 48, qf 50 3 0, ql 51 50, qj 52 .eql 3 51 2, ⟨none, .call (some 53) 133 [(.tmp 47), (.tmp 49), (.tmp 52)]⟩, qm 4 53]
def R_EndForm_lc : LC := (.seq (.ops QkV) (.seq (.seq (.ops QkU) (.cond (.tmp 13) (.seq (.ops QkT) .ret) .skip)) (.seq (.seq (.ops QkS) (.cond (.tmp 32) (.seq (.ops QkR) .ret) .skip)) (.seq (.seq (.ops QkQ) (.cond (.tmp 36) (.seq (.ops QkP) .ret) .skip)) (.seq (.seq (.ops QkO) (.seq (.ops QkN) (.cond (.tmp 45) (.seq (.ops QkM) .ret) .skip))) (.seq (.ops Qjb) .ret))))))
@[reducible] def Q2e : FuncId := 94
theorem Qjc : lowF Tryz.prog Tryz.f94 = some R_EndForm_lc := by kernel_rfl
theorem QkW {a0 a1 : Value} {w : World} {R : Ending → World → Prop} (h : R_EndForm_lc.wp Tryz.prog (retQ Tryz.prog [.tmp 4] R) (Qg [a0, a1]) w) : Calls Tryz.prog Q2e ⟨[a0, a1]⟩ w R :=
  Q6 Tryz.func94 Qjc (by kernel_rfl) (by kernel_rfl) h

/- 95 -/
def QnF : List GO := [qk 4 (vi 0)]
def QnE : List GO := [qm 5 0, ⟨none, .bin 6 .mul 3 (.const (vi 10000)) (.tmp 5)⟩, qm 7 1, ⟨none, .bin 8 .mul 3 (.const (vi 100)) (.tmp 7)⟩, qt 9 .add 3 6 8, qj 10 .add 3 9 91, qm 4 10]
def R_AtEnd_lc : LC := (.seq (.ops QnF) (.seq (.ops QnE) .ret))
@[reducible] def QoN : FuncId := 95
theorem Qmq : lowF Tryz.prog Tryz.f95 = some R_AtEnd_lc := by kernel_rfl
theorem QnG {a0 a1 : Value} {w : World} {R : Ending → World → Prop} (h : R_AtEnd_lc.wp Tryz.prog (retQ Tryz.prog [.tmp 4] R) (Qg [a0, a1]) w) : Calls Tryz.prog QoN ⟨[a0, a1]⟩ w R :=
  Q6 Tryz.func95 Qmq (by kernel_rfl) (by kernel_rfl) h

/- 96 -/
def Qhh : List GO := [qb 2 91 0, qk 4 (vi 0)]
def Qhg : List GO := [qm 6 1, qj 7 .sub 3 6 1, qm 1 7]
def Qhf : List GO := [qk 5 (vi 0)]
def Qhe : List GO := [qm 8 5, qf 9 2 2, ql 10 9, qL 11 10, qt 12 .lss 3 8 11, qm 13 12, qg 13 true (qm 14 1), qg 13 true (qj 15 .geq 3 14 0), ⟨none, .pick 16 (.tmp 13) (.tmp 15) (.const (.bool false))⟩]
def Qhd : List GO := [qf 19 2 2, ql 20 19, qm 21 5, qi 22 3 20 21, qV 23 3 22, qm 24 1, ⟨none, .call (some 25) 96 [(.tmp 23), (.tmp 24)]⟩, qm 1 25]
def Qhc : List GO := [qm 17 5, qj 18 .add 3 17 1, qm 5 18]
def Q6S : LC := (.seq (.seq (.ops Qhe) (.cond (.tmp 16) .skip (.exit 0))) (.seq (.block 1 (.ops Qhd)) (.ops Qhc)))
def Qhb : List GO := [qm 26 1, qm 4 26]
def R_typeSize_lc : LC := (.seq (.ops Qhh) (.seq (.ops Qhg) (.seq (.seq (.ops Qhf) (.block 0 (.loop Q6S))) (.seq (.ops Qhb) .ret))))
@[reducible] def Q4L : FuncId := 96
theorem QdI : lowF Tryz.prog Tryz.f96 = some R_typeSize_lc := by kernel_rfl
theorem Qhi {a0 a1 : Value} {w : World} {R : Ending → World → Prop} (h : R_typeSize_lc.wp Tryz.prog (retQ Tryz.prog [.tmp 4] R) (Qg [a0, a1]) w) : Calls Tryz.prog Q4L ⟨[a0, a1]⟩ w R :=
  Q6 Tryz.func96 QdI (by kernel_rfl) (by kernel_rfl) h

/- 97 -/
def QcM : List GO := [qb 2 91 0, qk 4 (vi 0)]
def QcL : List GO := [qV 5 3 2, ⟨none, .call (some 6) 134 [(.tmp 5), (.const (vi 4))]⟩, ⟨none, .un 7 .not (.tmp 6)⟩]
def QcK : List GO := [qk 4 (vi 19)]
def QcJ : List GO := [qV 8 3 2, qm 9 1, ⟨none, .call (some 10) 135 [(.tmp 8), (.tmp 9)]⟩, qm 4 10]
def types_Check_lc : LC := (.seq (.ops QcM) (.seq (.seq (.ops QcL) (.cond (.tmp 7) (.seq (.ops QcK) .ret) .skip)) (.seq (.ops QcJ) .ret)))
@[reducible] def Q3J : FuncId := 97
theorem Q9E : lowF Tryz.prog Tryz.f97 = some types_Check_lc := by kernel_rfl
theorem QcN {a0 a1 : Value} {w : World} {R : Ending → World → Prop} (h : types_Check_lc.wp Tryz.prog (retQ Tryz.prog [.tmp 4] R) (Qg [a0, a1]) w) : Calls Tryz.prog Q3J ⟨[a0, a1]⟩ w R :=
  Q6 Tryz.func97 Q9E (by kernel_rfl) (by kernel_rfl) h

/- 98 -/
def Q26 : List GO := [qk 4 (vi 0)]
def Q25 : List GO := [qm 6 0, qL 7 6, qk 8 (vi 0)]
def Q24 : List GO := [qt 9 .lss 3 8 7]
def Q23 : List GO := [qm 10 8, qm 5 10]
def Q22 : List GO := [qm 11 1, qm 12 0, qm 13 5, qi 14 3 12 13, qV 15 3 14, ⟨none, .callv (some 16) (.tmp 11) [(.tmp 15)]⟩]
def Q21 : List GO := [qm 17 5, qm 4 17]
def Q20 : List GO := [qj 18 .add 3 8 1, qm 8 18]
def Q1j : LC := (.seq (.ops Q24) (.seq (.cond (.tmp 9) .skip (.exit 0)) (.seq (.block 1 (.seq (.ops Q23) (.seq (.ops Q22) (.cond (.tmp 16) (.seq (.ops Q21) .ret) .skip)))) (.ops Q20))))
def Q1Z : List GO := [qk 4 (vi (-1))]
def slices_IndexFunc_api_Type_api_Type_lc : LC := (.seq (.ops Q26) (.seq (.seq (.ops Q25) (.block 0 (.loop Q1j))) (.seq (.ops Q1Z) .ret)))
@[reducible] def QB : FuncId := 98
theorem Q1V : lowF Tryz.prog Tryz.f98 = some slices_IndexFunc_api_Type_api_Type_lc := by kernel_rfl
theorem Q27 {a0 a1 : Value} {w : World} {R : Ending → World → Prop} (h : slices_IndexFunc_api_Type_api_Type_lc.wp Tryz.prog (retQ Tryz.prog [.tmp 4] R) (Qg [a0, a1]) w) : Calls Tryz.prog QB ⟨[a0, a1]⟩ w R :=
  Q6 Tryz.func98 Q1V (by kernel_rfl) (by kernel_rfl) h

/- 99 -/
def QaC : List GO := [qk 4 (vi 0)]
def QaB : List GO := [qm 5 0, qj 6 .mul 3 5 10000, qm 7 1, qj 8 .mul 3 7 100, qt 9 .add 3 6 8, qj 10 .add 3 9 90, qm 4 10]
def code_BlockAt_lc : LC := (.seq (.ops QaC) (.seq (.ops QaB) .ret))
@[reducible] def Q7Z : FuncId := 99
theorem Q8n : lowF Tryz.prog Tryz.f99 = some code_BlockAt_lc := by kernel_rfl
theorem QaD {a0 a1 : Value} {w : World} {R : Ending → World → Prop} (h : code_BlockAt_lc.wp Tryz.prog (retQ Tryz.prog [.tmp 4] R) (Qg [a0, a1]) w) : Calls Tryz.prog Q7Z ⟨[a0, a1]⟩ w R :=
  Q6 Tryz.func99 Q8n (by kernel_rfl) (by kernel_rfl) h

/- 100 -/
def Q1d : List GO := [qk 6 (.bool false)]
def Q1c : List GO := [qm 10 0, qL 11 10, qm 12 1, qL 13 12, qt 14 .neq 3 11 13]
def Q1b : List GO := [qk 6 (.bool false)]
def Q1a : List GO := [qm 15 0, qL 16 15, qk 17 (vi 0)]
def Q19 : List GO := [qt 18 .lss 3 17 16]
def Q18 : List GO := [qm 19 17, qi 20 3 15 17, qV 21 3 20, ⟨none, .alloc 8 91 [(vi 0), (vi 0), vn]⟩, qm 7 19, qw 3 8 21]
def Q17 : List GO := [qm 22 1, qm 23 7, qi 24 3 22 23, qV 25 3 24, ⟨none, .alloc 9 91 [(vi 0), (vi 0), vn]⟩, qw 3 9 25]
def Q16 : List GO := [qm 26 2, qV 27 3 8, qV 28 3 9, ⟨none, .callv (some 29) (.tmp 26) [(.tmp 27), (.tmp 28)]⟩, ⟨none, .un 30 .not (.tmp 29)⟩]
def Q15 : List GO := [qk 6 (.bool false)]
def Q14 : List GO := [qj 31 .add 3 17 1, qm 17 31]
def QA : LC := (.seq (.ops Q19) (.seq (.cond (.tmp 18) .skip (.exit 0)) (.seq (.block 1 (.seq (.ops Q18) (.seq (.ops Q17) (.seq (.ops Q16) (.cond (.tmp 30) (.seq (.ops Q15) .ret) .skip))))) (.ops Q14))))
def Q10 : List GO := [qk 6 (.bool true)]
def slices_EqualFunc_api_Type_api_Type_api_Type_api_Type_lc : LC := (.seq (.ops Q1d) (.seq (.seq (.ops Q1c) (.cond (.tmp 14) (.seq (.ops Q1b) .ret) .skip)) (.seq (.seq (.ops Q1a) (.block 0 (.loop QA))) (.seq (.ops Q10) .ret))))
@[reducible] def Qb : FuncId := 100
theorem Q11 : lowF Tryz.prog Tryz.f100 = some slices_EqualFunc_api_Type_api_Type_api_Type_api_Type_lc := by kernel_rfl
theorem Q1e {a0 a1 a2 : Value} {w : World} {R : Ending → World → Prop} (h : slices_EqualFunc_api_Type_api_Type_api_Type_api_Type_lc.wp Tryz.prog (retQ Tryz.prog [.tmp 6] R) (Qg [a0, a1, a2]) w) : Calls Tryz.prog Qb ⟨[a0, a1, a2]⟩ w R :=
  Q6 Tryz.func100 Q11 (by kernel_rfl) (by kernel_rfl) h

/- 101 -/
def QfX : List GO := [qb 2 91 0, qb 3 91 1, qk 4 (.bool false)]
def QfW : List GO := [qf 5 2 0, ql 6 5, qf 7 3 0, ql 8 7, qt 9 .eql 3 6 8, qm 10 9, qg 10 true (qf 11 2 1), qg 10 true (ql 12 11), qg 10 true (qf 13 3 1), qg 10 true (ql 14 13), qg 10 true (qt 15 .eql 3 12 14), ⟨none, .pick 16 (.tmp 10) (.tmp 15) (.const (.bool false))⟩, qm 17 16, qg 17 true (qf 18 2 2), qg 17 true (ql 19 18), qg 17 true (qf 20 3 2), qg 17 true (ql 21 20), ⟨some (17, true), .call (some 22) 100 [(.tmp 19), (.tmp 21), (.func 101)]⟩, ⟨none, .pick 23 (.tmp 17) (.tmp 22) (.const (.bool false))⟩, qm 4 23]
def types_Same_lc : LC := (.seq (.ops QfX) (.seq (.ops QfW) .ret))
@[reducible] def Qfe : FuncId := 101
theorem QcI : lowF Tryz.prog Tryz.f101 = some types_Same_lc := by kernel_rfl
theorem QfY {a0 a1 : Value} {w : World} {R : Ending → World → Prop} (h : types_Same_lc.wp Tryz.prog (retQ Tryz.prog [.tmp 4] R) (Qg [a0, a1]) w) : Calls Tryz.prog Qfe ⟨[a0, a1]⟩ w R :=
  Q6 Tryz.func101 QcI (by kernel_rfl) (by kernel_rfl) h

/- 102 -/
def QgU : List GO := [qk 6 (vi 0)]
def QgT : List GO := [qm 7 0, qj 8 .mul 3 7 10000, qm 9 1, qj 10 .mul 3 9 100, qt 11 .add 3 8 10, qm 12 2, qt 13 .add 3 11 12, qm 6 13]
def code_InsAt_lc : LC := (.seq (.ops QgU) (.seq (.ops QgT) .ret))
@[reducible] def Qfr : FuncId := 102
theorem Qdi : lowF Tryz.prog Tryz.f102 = some code_InsAt_lc := by kernel_rfl
theorem QgV {a0 a1 a2 : Value} {w : World} {R : Ending → World → Prop} (h : code_InsAt_lc.wp Tryz.prog (retQ Tryz.prog [.tmp 6] R) (Qg [a0, a1, a2]) w) : Calls Tryz.prog Qfr ⟨[a0, a1, a2]⟩ w R :=
  Q6 Tryz.func102 Qdi (by kernel_rfl) (by kernel_rfl) h

/- 103 -/
def Q7x : List GO := [qb 3 54 1]
def Q7w : List GO := [qm 5 0, qf 6 3 0, ql 7 6, qj 8 .lss 3 7 1, qm 9 8, qg 9 false (qf 10 3 0), qg 9 false (ql 11 10), qg 9 false (qj 12 .gtr 3 11 14), ⟨none, .pick 13 (.tmp 9) (.const (.bool true)) (.tmp 12)⟩, ⟨none, .call (some 14) 50 [(.tmp 5), (.tmp 13), (.const (vi 3))]⟩]
def Q7v : List GO := [qf 15 3 0, ql 16 15, ⟨none, .call (some 17) 136 [(.tmp 16)]⟩, qm 4 17]
def Q7u : List GO := [qm 18 0, qm 19 4, ⟨none, .call (some 20) 137 [(.tmp 19), (.const (.int .u8 97))]⟩, ⟨none, .un 21 .not (.tmp 20)⟩, qm 22 21, qg 22 true (qf 23 3 1), qg 22 true (ql 24 23), qg 22 true (qj 25 .neq 3 24 0), ⟨none, .pick 26 (.tmp 22) (.tmp 25) (.const (.bool false))⟩, qm 27 26, qg 27 false (qm 28 4), ⟨some (27, false), .call (some 29) 137 [(.tmp 28), (.const (.int .u8 98))]⟩, ⟨some (27, false), .un 30 .not (.tmp 29)⟩, qg 27 false (qm 31 30), qg 31 true (qf 32 3 2), qg 31 true (ql 33 32), qg 31 true (qj 34 .neq 3 33 0), ⟨some (27, false), .pick 35 (.tmp 31) (.tmp 34) (.const (.bool false))⟩, ⟨none, .pick 36 (.tmp 27) (.const (.bool true)) (.tmp 35)⟩, qm 37 36, qg 37 false (qm 38 4), ⟨some (37, false), .call (some 39) 137 [(.tmp 38), (.const (.int .u8 99))]⟩, ⟨some (37, false), .un 40 .not (.tmp 39)⟩, qg 37 false (qm 41 40), qg 41 true (qf 42 3 3), qg 41 true (ql 43 42), qg 41 true (qj 44 .neq 3 43 0), ⟨some (37, false), .pick 45 (.tmp 41) (.tmp 44) (.const (.bool false))⟩, ⟨none, .pick 46 (.tmp 37) (.const (.bool true)) (.tmp 45)⟩, qm 47 46, qg 47 false (qm 48 4), ⟨some (47, false), .call (some 49) 137 [(.tmp 48), (.const (.int .u8 107))]⟩, ⟨some (47, false), .un 50 .not (.tmp 49)⟩, qg 47 false (qm 51 50), qg 51 true (qf 52 3 4), qg 51 true (ql 53 52), qg 51 true (qj 54 .neq 3 53 0), ⟨some (47, false), .pick 55 (.tmp 51) (.tmp 54) (.const (.bool false))⟩, ⟨none, .pick 56 (.tmp 47) (.const (.bool true)) (.tmp 55)⟩, qm 57 56, qg 57 false (qm 58 4), ⟨some (57, false), .call (some 59) 137 [(.tmp 58), (.const (.int .u8 110))]⟩, ⟨some (57, false), .un 60 .not (.tmp 59)⟩, qg 57 false (qm 61 60), qg 61 true (qf 62 3 5), qg 61 true (ql 63 62), qg 61 true (qj 64 .neq 2 63 0), ⟨some (57, false), .pick 65 (.tmp 61) (.tmp 64) (.const (.bool false))⟩, ⟨none, .pick 66 (.tmp 57) (.const (.bool true)) (.tmp 65)⟩, qm 67 66, qg 67 false (qm 68 4), ⟨some (67, false), .call (some 69) 137 [(.tmp 68), (.const (.int .u8 103))]⟩, ⟨some (67, false), .un 70 .not (.tmp 69)⟩, qg 67 false (qm 71 70), qg 71 true (qf 72 3 6), qg 71 true (ql 73 72), qg 71 true (qL 74 73), qg 71 true (qj 75 .gtr 3 74 0), ⟨some (67, false), .pick 76 (.tmp 71) (.tmp 75) (.const (.bool false))⟩, ⟨none, .pick 77 (.tmp 67) (.const (.bool true)) (.tmp 76)⟩, qm 78 77, qg 78 false (qm 79 4), ⟨some (78, false), .call (some 80) 137 [(.tmp 79), (.const (.int .u8 114))]⟩, ⟨some (78, false), .un 81 .not (.tmp 80)⟩, qg 78 false (qm 82 81), qg 82 true (qf 83 3 7), qg 82 true (ql 84 83), qg 82 true (qL 85 84), qg 82 true (qj 86 .gtr 3 85 0), ⟨some (78, false), .pick 87 (.tmp 82) (.tmp 86) (.const (.bool false))⟩, ⟨none, .pick 88 (.tmp 78) (.const (.bool true)) (.tmp 87)⟩, ⟨none, .call (some 89) 50 [(.tmp 18), (.tmp 88), (.const (vi 4))]⟩]
def Q7t : List GO := [qf 90 3 0, ql 91 90]
def Q7s : List GO := [qj 93 .eql 3 91 2, qm 92 93]
def Q7r : List GO := [qm 94 0, qf 95 3 4, ql 96 95, qj 97 .lss 3 96 1, qm 98 97, qg 98 false (qf 99 3 4), qg 98 false (ql 100 99), qg 98 false (qj 101 .gtr 3 100 9), ⟨none, .pick 102 (.tmp 98) (.const (.bool true)) (.tmp 101)⟩, ⟨none, .call (some 103) 50 [(.tmp 94), (.tmp 102), (.const (vi 1))]⟩]
def Q7q : List GO := [qj 105 .eql 3 91 5, qm 104 105]
def Q7p : List GO := [qm 106 0, qf 107 3 7, ql 108 107, qL 109 108, qj 110 .gtr 3 109 8, ⟨none, .call (some 111) 50 [(.tmp 106), (.tmp 110), (.const (vi 2))]⟩]
def Q7o : List GO := [qj 113 .eql 3 91 6, qm 112 113]
def Q6F : List GO := [qj 114 .eql 3 91 7, qm 112 114]
def Q6E : List GO := [qm 115 0, qf 116 3 4, ql 117 116, qj 118 .lss 3 117 0, qm 119 118, qg 119 false (qf 120 3 4), qg 119 false (ql 121 120), qg 119 false (qj 122 .geq 3 121 8), ⟨none, .pick 123 (.tmp 119) (.const (.bool true)) (.tmp 122)⟩, ⟨none, .call (some 124) 50 [(.tmp 115), (.tmp 123), (.const (vi 1))]⟩]
def Q6D : List GO := [qj 126 .eql 3 91 14, qm 125 126]
def Q6C : List GO := [qm 127 0, qf 128 3 4, ql 129 128, qj 130 .lss 3 129 0, qm 131 130, qg 131 false (qf 132 3 4), qg 131 false (ql 133 132), qg 131 false (qm 134 0), qg 131 false (qn 135 134), qg 131 false (qf 136 135 0), qg 131 false (qf 137 136 0), qg 131 false (ql 138 137), qg 131 false (qL 139 138), qg 131 false (qt 140 .geq 3 133 139), ⟨none, .pick 141 (.tmp 131) (.const (.bool true)) (.tmp 140)⟩, ⟨none, .call (some 142) 50 [(.tmp 127), (.tmp 141), (.const (vi 1))]⟩]
def Q6H : List (List Nat) := [[],[],[1],[2],[3],[4],[5,4],[4],[7,4],[8,4],[9,4],[10,4],[11,4],[6,12,4],[4,13],[0,14,4]]
def Q6B : List GO := [qm 143 0, qf 144 3 6, ql 145 144, qL 146 145, qj 147 .gtr 3 146 6, qm 148 147, qg 148 false (qf 149 3 7), qg 148 false (ql 150 149), qg 148 false (qL 151 150), qg 148 false (qj 152 .gtr 3 151 8), ⟨none, .pick 153 (.tmp 148) (.const (.bool true)) (.tmp 152)⟩, ⟨none, .call (some 154) 50 [(.tmp 143), (.tmp 153), (.const (vi 2))]⟩]
def code_judge_ins_lc : LC := (.seq (.ops Q7x) (.seq (.ops Q7w) (.seq (.ops Q7v) (.seq (.ops Q7u) (.seq (.ops Q7t) (.block 0 (.seq (.ops Q7s) (.cond (.tmp 92) (.ops Q7r) (.seq (.ops Q7q) (.cond (.tmp 104) (.ops Q7p) (.seq (.seq (.ops Q7o) (.cond (.tmp 112) .skip (.ops Q6F))) (.cond (.tmp 112) (.ops Q6E) (.seq (.ops Q6D) (.cond (.tmp 125) (.seq (.draw Q6C Q6H) (.ops Q6B)) .skip))))))))))))))
@[reducible] def QH : FuncId := 103
theorem Q6G : lowF Tryz.prog Tryz.f103 = some code_judge_ins_lc := by kernel_rfl
theorem Q7y {a0 a1 : Value} {w : World} {R : Ending → World → Prop} (h : code_judge_ins_lc.wp Tryz.prog (retQ Tryz.prog [] R) (Qg [a0, a1]) w) : Calls Tryz.prog QH ⟨[a0, a1]⟩ w R :=
  Q6 Tryz.func103 Q6G (by kernel_rfl) (by kernel_rfl) h

/- 104 -/
def QgX : List GO := [qk 4 (vi 0)]
def QgW : List GO := [qm 5 0, qj 6 .mul 3 5 10000, qm 7 1, qj 8 .mul 3 7 100, qt 9 .add 3 6 8, qj 10 .add 3 9 91, qm 4 10]
def code_EndAt_lc : LC := (.seq (.ops QgX) (.seq (.ops QgW) .ret))
@[reducible] def Qfs : FuncId := 104
theorem Qdm : lowF Tryz.prog Tryz.f104 = some code_EndAt_lc := by kernel_rfl
theorem QgY {a0 a1 : Value} {w : World} {R : Ending → World → Prop} (h : code_EndAt_lc.wp Tryz.prog (retQ Tryz.prog [.tmp 4] R) (Qg [a0, a1]) w) : Calls Tryz.prog Qfs ⟨[a0, a1]⟩ w R :=
  Q6 Tryz.func104 Qdm (by kernel_rfl) (by kernel_rfl) h

/- 105 -/
def Q7E : List GO := [qb 4 43 1, qb 5 50 2]
def Q7D : List GO := [qm 6 0, qf 7 5 0, ql 8 7, qj 9 .lss 3 8 1, qm 10 9, qg 10 false (qf 11 5 0), qg 10 false (ql 12 11), qg 10 false (qj 13 .gtr 3 12 3), ⟨none, .pick 14 (.tmp 10) (.const (.bool true)) (.tmp 13)⟩, ⟨none, .call (some 15) 50 [(.tmp 6), (.tmp 14), (.const (vi 3))]⟩]
def Q7C : List GO := [qm 16 0, qf 17 5 0, ql 18 17, qj 19 .neq 3 18 2, qm 20 19, qg 20 true (qf 21 5 1), qg 20 true (ql 22 21), qg 20 true (qj 23 .neq 3 22 0), ⟨none, .pick 24 (.tmp 20) (.tmp 23) (.const (.bool false))⟩, qm 25 24, qg 25 false (qf 26 5 0), qg 25 false (ql 27 26), qg 25 false (qj 28 .neq 3 27 3), qg 25 false (qm 29 28), qg 29 true (qf 30 5 8), qg 29 true (ql 31 30), qg 29 true (qL 32 31), qg 29 true (qj 33 .gtr 3 32 0), ⟨some (25, false), .pick 34 (.tmp 29) (.tmp 33) (.const (.bool false))⟩, ⟨none, .pick 35 (.tmp 25) (.const (.bool true)) (.tmp 34)⟩, ⟨none, .call (some 36) 50 [(.tmp 16), (.tmp 35), (.const (vi 4))]⟩]
def Q7B : List GO := [qm 37 0, qf 38 5 8, ql 39 38, qL 40 39, qj 41 .gtr 3 40 8, ⟨none, .call (some 42) 50 [(.tmp 37), (.tmp 41), (.const (vi 2))]⟩]
def Q7A : List GO := [qm 43 0, qV 44 4 4, qf 45 5 2, qV 46 3 45, qf 47 5 0, ql 48 47, qj 49 .neq 3 48 3, ⟨none, .call (some 50) 138 [(.tmp 43), (.tmp 44), (.tmp 46), (.tmp 49)]⟩]
def Q7z : List GO := [qm 51 0, qV 52 4 4, qf 53 5 5, qV 54 3 53, qf 55 5 0, ql 56 55, qj 57 .eql 3 56 2, ⟨none, .call (some 58) 138 [(.tmp 51), (.tmp 52), (.tmp 54), (.tmp 57)]⟩]
def code_judge_end_lc : LC := (.seq (.ops Q7E) (.seq (.ops Q7D) (.seq (.ops Q7C) (.seq (.ops Q7B) (.seq (.ops Q7A) (.ops Q7z))))))
@[reducible] def Q55 : FuncId := 105
theorem Q6K : lowF Tryz.prog Tryz.f105 = some code_judge_end_lc := by kernel_rfl
theorem Q7F {a0 a1 a2 : Value} {w : World} {R : Ending → World → Prop} (h : code_judge_end_lc.wp Tryz.prog (retQ Tryz.prog [] R) (Qg [a0, a1, a2]) w) : Calls Tryz.prog Q55 ⟨[a0, a1, a2]⟩ w R :=
  Q6 Tryz.func105 Q6K (by kernel_rfl) (by kernel_rfl) h

/- 106 -/
def Q2R : List GO := [qm 2 0, qn 3 2, qf 4 3 0, ql 5 4, ⟨none, .bin 6 .eql 104 (.tmp 5) (.const (.pointer none))⟩]
def Q2Q : List GO := [qm 7 0, qm 8 0, ⟨none, .raw ⟨(some 9), (.convert 104 171 (.tmp 8)), 171, "", #[], none⟩⟩, ⟨none, .raw ⟨(some 10), (.call ⟨(.value (.func 139)), #[(.tmp 9)], #[171]⟩), 171, "", #[], none⟩⟩, ⟨none, .raw ⟨(some 11), (.convert 171 104 (.tmp 10)), 104, "", #[], none⟩⟩, qn 12 7, qf 13 12 0, qs 13 11]
def Q2P : List GO := [qm 14 0, qn 15 14, qf 16 15 0, ql 17 16, qm 18 0, qt 19 .neq 104 17 18]
def strings_Builder_copyCheck_lc : LC := (.seq (.ops Q2R) (.cond (.tmp 6) (.ops Q2Q) (.seq (.ops Q2P) (.cond (.tmp 19) .bad .skip))))
@[reducible] def Q28 : FuncId := 106
theorem Q2K : lowF Tryz.prog Tryz.f106 = some strings_Builder_copyCheck_lc := by kernel_rfl
theorem Q1J {a0 : Value} {w : World} {R : Ending → World → Prop} (h : strings_Builder_copyCheck_lc.wp Tryz.prog (retQ Tryz.prog [] R) (Qg [a0]) w) : Calls Tryz.prog Q28 ⟨[a0]⟩ w R :=
  Q6 Tryz.func106 Q2K (by kernel_rfl) (by kernel_rfl) h

/- 107 -/
def QfU : List GO := [qb 1 91 0, qk 2 (.string ⟨#[]⟩)]
def QfT : List GO := [qf 7 1 1, ql 8 7, ⟨none, .call (some 9) 63 [(.tmp 8)]⟩, qm 3 9]
def QfS : List GO := [qf 10 1 0, ql 11 10]
def QfR : List GO := [qj 13 .eql 3 11 2, qm 12 13]
def QfQ : List GO := [qm 14 3, ⟨none, .bin 15 .add 9 (.const (.string ⟨#[104, 97, 110, 100, 108, 101, 32]⟩)) (.tmp 14)⟩, qm 2 15]
def QfP : List GO := [qj 17 .eql 3 11 4, qm 16 17]
def QfO : List GO := [qm 18 3, ⟨none, .bin 19 .add 9 (.const (.string ⟨#[97, 114, 114, 97, 121, 32]⟩)) (.tmp 18)⟩, qm 2 19]
def QfN : List GO := [qj 21 .eql 3 11 3, qm 20 21]
def QfM : List GO := [qk 4 vn]
def QfL : List GO := [qf 22 1 2, ql 23 22, qL 24 23, qk 25 (vi 0)]
def QcG : List GO := [qt 26 .lss 3 25 24]
def QcF : List GO := [qi 27 3 23 25, qV 28 3 27, ⟨none, .alloc 6 91 [(vi 0), (vi 0), vn]⟩, qw 3 6 28]
def QcE : List GO := [qm 29 4, qV 30 3 6, ⟨none, .call (some 31) 107 [(.tmp 30)]⟩, ⟨none, .buildS 32 9 1 [(.string ⟨#[]⟩)] [(0, (1, (.tmp 31)))]⟩, ⟨none, .raw ⟨(some 33), (.call ⟨(.builtin .append), #[(.tmp 29), (.tmp 32)], #[86, 86]⟩), 86, "", #[], none⟩⟩, qm 4 33]
def QcD : List GO := [qj 34 .add 3 25 1, qm 25 34]
def Q4Z : LC := (.seq (.ops QcG) (.seq (.cond (.tmp 26) .skip (.exit 1)) (.seq (.block 2 (.seq (.ops QcF) (.ops QcE))) (.ops QcD))))
def QcC : List GO := [qm 35 3, ⟨none, .bin 36 .add 9 (.const (.string ⟨#[116, 117, 112, 108, 101, 32]⟩)) (.tmp 35)⟩, ⟨none, .bin 37 .add 9 (.tmp 36) (.const (.string ⟨#[32, 40]⟩))⟩, qm 38 4, ⟨none, .call (some 39) 108 [(.tmp 38), (.const (.string ⟨#[44, 32]⟩))]⟩, qt 40 .add 9 37 39, ⟨none, .bin 41 .add 9 (.tmp 40) (.const (.string ⟨#[41]⟩))⟩, qm 2 41]
def QcB : List GO := [qk 2 (.string ⟨#[105, 110, 116]⟩)]
def types_Text_lc : LC := (.seq (.ops QfU) (.seq (.ops QfT) (.seq (.seq (.ops QfS) (.block 0 (.seq (.ops QfR) (.cond (.tmp 12) (.seq (.ops QfQ) .ret) (.seq (.ops QfP) (.cond (.tmp 16) (.seq (.ops QfO) .ret) (.seq (.ops QfN) (.cond (.tmp 20) (.seq (.ops QfM) (.seq (.seq (.ops QfL) (.block 1 (.loop Q4Z))) (.seq (.ops QcC) .ret))) .skip)))))))) (.seq (.ops QcB) .ret))))
@[reducible] def Q2m : FuncId := 107
theorem QcH : lowF Tryz.prog Tryz.f107 = some types_Text_lc := by kernel_rfl
theorem QfV {a0 : Value} {w : World} {R : Ending → World → Prop} (h : types_Text_lc.wp Tryz.prog (retQ Tryz.prog [.tmp 2] R) (Qg [a0]) w) : Calls Tryz.prog Q2m ⟨[a0]⟩ w R :=
  Q6 Tryz.func107 QcH (by kernel_rfl) (by kernel_rfl) h

/- 108 -/
@[reducible] def strings_Join : FuncId := 108
/- 109 -/
def Q4P : List GO := [qk 4 (.string ⟨#[]⟩)]
def Q4O : List GO := [qm 5 0, qm 6 1, ⟨none, .call (some 7) 141 [(.tmp 5), (.tmp 6)]⟩, qm 4 7]
def strconv_FormatInt_lc : LC := (.seq (.ops Q4P) (.seq (.ops Q4O) .ret))
@[reducible] def Q74 : FuncId := 109
theorem Q45 : lowF Tryz.prog Tryz.f109 = some strconv_FormatInt_lc := by kernel_rfl
theorem Q4Q {a0 a1 : Value} {w : World} {R : Ending → World → Prop} (h : strconv_FormatInt_lc.wp Tryz.prog (retQ Tryz.prog [.tmp 4] R) (Qg [a0, a1]) w) : Calls Tryz.prog Q74 ⟨[a0, a1]⟩ w R :=
  Q6 Tryz.func109 Q45 (by kernel_rfl) (by kernel_rfl) h

/- 110 -/
def Qgc : List GO := [qk 6 (.string ⟨#[]⟩)]
def Qgb : List GO := [qk 7 vn]
def Qga : List GO := [qm 10 1, qL 11 10, qk 12 (vi 0)]
def Qg9 : List GO := [qt 13 .lss 3 12 11]
def Qg8 : List GO := [qi 14 1 10 12, ql 15 14, qm 9 15]
def Qg7 : List GO := [qm 16 7, qm 17 9, ⟨none, .call (some 18) 58 [(.tmp 17)]⟩, ⟨none, .buildS 19 9 1 [(.string ⟨#[]⟩)] [(0, (1, (.tmp 18)))]⟩, ⟨none, .raw ⟨(some 20), (.call ⟨(.builtin .append), #[(.tmp 16), (.tmp 19)], #[86, 86]⟩), 86, "", #[], none⟩⟩, qm 7 20]
def Qg6 : List GO := [qj 21 .add 3 12 1, qm 12 21]
def Q5W : LC := (.seq (.ops Qg9) (.seq (.cond (.tmp 13) .skip (.exit 0)) (.seq (.block 1 (.seq (.ops Qg8) (.ops Qg7))) (.ops Qg6))))
def Qg5 : List GO := [qm 22 0, qm 23 7, ⟨none, .call (some 24) 108 [(.tmp 23), (.const (.string ⟨#[44, 32]⟩))]⟩, qt 25 .add 9 22 24, qm 26 2, qt 27 .add 9 25 26, qm 6 27]
def render_row_lc : LC := (.seq (.ops Qgc) (.seq (.ops Qgb) (.seq (.seq (.ops Qga) (.block 0 (.loop Q5W))) (.seq (.ops Qg5) .ret))))
@[reducible] def Qfh : FuncId := 110
theorem QcQ : lowF Tryz.prog Tryz.f110 = some render_row_lc := by kernel_rfl
theorem Qgd {a0 a1 a2 : Value} {w : World} {R : Ending → World → Prop} (h : render_row_lc.wp Tryz.prog (retQ Tryz.prog [.tmp 6] R) (Qg [a0, a1, a2]) w) : Calls Tryz.prog Qfh ⟨[a0, a1, a2]⟩ w R :=
  Q6 Tryz.func110 QcQ (by kernel_rfl) (by kernel_rfl) h

/- 111 -/
def Qjt : List GO := [qb 1 48 0, qk 2 (.string ⟨#[]⟩)]
def Qjs : List GO := [qf 3 1 0, ql 4 3, ⟨none, .call (some 5) 58 [(.tmp 4)]⟩, ⟨none, .bin 6 .add 9 (.tmp 5) (.const (.string ⟨#[32]⟩))⟩, qf 7 1 1, ql 8 7, ⟨none, .call (some 9) 110 [(.const (.string ⟨#[60]⟩)), (.tmp 8), (.const (.string ⟨#[62]⟩))]⟩, qt 10 .add 9 6 9, ⟨none, .bin 11 .add 9 (.tmp 10) (.const (.string ⟨#[32]⟩))⟩, qf 12 1 2, ql 13 12, ⟨none, .call (some 14) 110 [(.const (.string ⟨#[40]⟩)), (.tmp 13), (.const (.string ⟨#[41]⟩))]⟩, qt 15 .add 9 11 14, qm 2 15]
def Qjv : List (List Nat) := [[],[0],[1],[2],[],[4],[5,2],[3,6],[7],[],[9],[10,6],[8,11],[12,11,0,1,2,3,4,5,6,7,8,9,10,11,12]]
def render_to_lc : LC := (.seq (.ops Qjt) (.seq (.draw Qjs Qjv) .ret))
@[reducible] def Qjw : FuncId := 111
theorem Qg4 : lowF Tryz.prog Tryz.f111 = some render_to_lc := by kernel_rfl
theorem Qju {a0 : Value} {w : World} {R : Ending → World → Prop} (h : render_to_lc.wp Tryz.prog (retQ Tryz.prog [.tmp 2] R) (Qg [a0]) w) : Calls Tryz.prog Qjw ⟨[a0]⟩ w R :=
  Q6 Tryz.func111 Qg4 (by kernel_rfl) (by kernel_rfl) h

/- 112 -/
/- 113 -/
def Qi5 : List GO := [qb 1 91 0, qk 2 (.string ⟨#[]⟩)]
def Qi4 : List GO := [qk 3 (.string ⟨#[105, 110, 116]⟩)]
def Qi3 : List GO := [qf 4 1 0, ql 5 4]
def Qi2 : List GO := [qj 7 .eql 3 5 2, qm 6 7]
def Qi1 : List GO := [qf 8 1 1, ql 9 8, ⟨none, .call (some 10) 63 [(.tmp 9)]⟩, ⟨none, .bin 11 .add 9 (.const (.string ⟨#[104, 97, 110, 100, 108, 101, 32]⟩)) (.tmp 10)⟩, qm 3 11]
def Qi0 : List GO := [qj 13 .eql 3 5 4, qm 12 13]
def QhZ : List GO := [qf 14 1 1, ql 15 14, ⟨none, .call (some 16) 63 [(.tmp 15)]⟩, ⟨none, .bin 17 .add 9 (.const (.string ⟨#[97, 114, 114, 97, 121, 32]⟩)) (.tmp 16)⟩, qm 3 17]
def QhY : List GO := [qj 19 .eql 3 5 3, qm 18 19]
def QhX : List GO := [qf 20 1 1, ql 21 20, ⟨none, .call (some 22) 63 [(.tmp 21)]⟩, ⟨none, .bin 23 .add 9 (.const (.string ⟨#[116, 117, 112, 108, 101, 32]⟩)) (.tmp 22)⟩, ⟨none, .bin 24 .add 9 (.tmp 23) (.const (.string ⟨#[32]⟩))⟩, qf 25 1 2, ql 26 25, ⟨none, .call (some 27) 64 [(.tmp 26)]⟩, qt 28 .add 9 24 27, qm 3 28]
def Qi7 : List (List Nat) := [[],[0],[1],[2],[3],[],[5],[6,2],[4,7],[8,7,0,1,2,3,4,5,6,7,8]]
def QhW : List GO := [qm 29 3, qm 2 29]
def R_TypeText_lc : LC := (.seq (.ops Qi5) (.seq (.ops Qi4) (.seq (.seq (.ops Qi3) (.block 0 (.seq (.ops Qi2) (.cond (.tmp 6) (.ops Qi1) (.seq (.ops Qi0) (.cond (.tmp 12) (.ops QhZ) (.seq (.ops QhY) (.cond (.tmp 18) (.draw QhX Qi7) .skip)))))))) (.seq (.ops QhW) .ret))))
@[reducible] def Q1W : FuncId := 113
theorem Qea : lowF Tryz.prog Tryz.f113 = some R_TypeText_lc := by kernel_rfl
theorem Qi6 {a0 : Value} {w : World} {R : Ending → World → Prop} (h : R_TypeText_lc.wp Tryz.prog (retQ Tryz.prog [.tmp 2] R) (Qg [a0]) w) : Calls Tryz.prog Q1W ⟨[a0]⟩ w R :=
  Q6 Tryz.func113 Qea (by kernel_rfl) (by kernel_rfl) h

/- 114 -/
def Qja : List GO := [⟨none, .alloc 2 156 [(.bool false), (.bool false), (.bool false), (.bool false), (.bool false), (.bool false), (.bool false)]⟩, qk 3 (.bool false)]
def Qj9 : List GO := [qm 4 0]
def Qj8 : List GO := [qj 6 .eql 3 4 1, qm 5 6]
def Qj7 : List GO := [⟨none, .build 7 [(.bool false), (.bool false), (.bool false), (.bool false), (.bool false), (.bool false), (.bool false)] [(4, (1, (.const (.bool true))))]⟩, qw 7 2 7, qk 3 (.bool true)]
def Qj6 : List GO := [qj 9 .eql 3 4 2, qm 8 9]
def Qj5 : List GO := [qj 10 .eql 3 4 7, qm 8 10]
def Qj4 : List GO := [⟨none, .build 11 [(.bool false), (.bool false), (.bool false), (.bool false), (.bool false), (.bool false), (.bool false)] [(0, (1, (.const (.bool true)))), (1, (1, (.const (.bool true)))), (3, (1, (.const (.bool true))))]⟩, qw 7 2 11, qk 3 (.bool true)]
def Qj3 : List GO := [qj 13 .eql 3 4 3, qm 12 13]
def Qj2 : List GO := [qj 14 .eql 3 4 12, qm 12 14]
def Qj1 : List GO := [⟨none, .build 15 [(.bool false), (.bool false), (.bool false), (.bool false), (.bool false), (.bool false), (.bool false)] []⟩, qw 7 2 15, qk 3 (.bool true)]
def Qf0 : List GO := [qj 17 .eql 3 4 4, qm 16 17]
def QeZ : List GO := [qj 18 .eql 3 4 11, qm 16 18]
def QeY : List GO := [qj 19 .eql 3 4 13, qm 16 19]
def QeX : List GO := [⟨none, .build 20 [(.bool false), (.bool false), (.bool false), (.bool false), (.bool false), (.bool false), (.bool false)] [(0, (1, (.const (.bool true))))]⟩, qw 7 2 20, qk 3 (.bool true)]
def QeW : List GO := [qj 22 .eql 3 4 5, qm 21 22]
def QeV : List GO := [⟨none, .build 23 [(.bool false), (.bool false), (.bool false), (.bool false), (.bool false), (.bool false), (.bool false)] [(0, (1, (.const (.bool true)))), (6, (1, (.const (.bool true))))]⟩, qw 7 2 23, qk 3 (.bool true)]
def QeU : List GO := [qj 25 .eql 3 4 6, qm 24 25]
def QeT : List GO := [⟨none, .build 26 [(.bool false), (.bool false), (.bool false), (.bool false), (.bool false), (.bool false), (.bool false)] [(0, (1, (.const (.bool true)))), (3, (1, (.const (.bool true))))]⟩, qw 7 2 26, qk 3 (.bool true)]
def QeS : List GO := [qj 28 .eql 3 4 8, qm 27 28]
def QeR : List GO := [qj 29 .eql 3 4 9, qm 27 29]
def QeQ : List GO := [⟨none, .build 30 [(.bool false), (.bool false), (.bool false), (.bool false), (.bool false), (.bool false), (.bool false)] [(0, (1, (.const (.bool true)))), (1, (1, (.const (.bool true))))]⟩, qw 7 2 30, qk 3 (.bool true)]
def QeP : List GO := [qj 32 .eql 3 4 10, qm 31 32]
def QeO : List GO := [⟨none, .build 33 [(.bool false), (.bool false), (.bool false), (.bool false), (.bool false), (.bool false), (.bool false)] [(0, (1, (.const (.bool true)))), (1, (1, (.const (.bool true)))), (2, (1, (.const (.bool true))))]⟩, qw 7 2 33, qk 3 (.bool true)]
def QeN : List GO := [qj 35 .eql 3 4 14, qm 34 35]
def QeM : List GO := [⟨none, .build 36 [(.bool false), (.bool false), (.bool false), (.bool false), (.bool false), (.bool false), (.bool false)] [(3, (1, (.const (.bool true)))), (5, (1, (.const (.bool true)))), (6, (1, (.const (.bool true))))]⟩, qw 7 2 36, qk 3 (.bool true)]
def QeL : List GO := [⟨none, .build 37 [(.bool false), (.bool false), (.bool false), (.bool false), (.bool false), (.bool false), (.bool false)] []⟩, qw 7 2 37, qk 3 (.bool false)]
def R_FieldsOf_lc : LC := (.seq (.ops Qja) (.seq (.seq (.ops Qj9) (.block 0 (.seq (.ops Qj8) (.cond (.tmp 5) (.seq (.ops Qj7) .ret) (.seq (.seq (.ops Qj6) (.cond (.tmp 8) .skip (.ops Qj5))) (.cond (.tmp 8) (.seq (.ops Qj4) .ret) (.seq (.seq (.ops Qj3) (.cond (.tmp 12) .skip (.ops Qj2))) (.cond (.tmp 12) (.seq (.ops Qj1) .ret) (.seq (.seq (.ops Qf0) (.cond (.tmp 16) .skip (.seq (.ops QeZ) (.cond (.tmp 16) .skip (.ops QeY))))) (.cond (.tmp 16) (.seq (.ops QeX) .ret) (.seq (.ops QeW) (.cond (.tmp 21) (.seq (.ops QeV) .ret) (.seq (.ops QeU) (.cond (.tmp 24) (.seq (.ops QeT) .ret) (.seq (.seq (.ops QeS) (.cond (.tmp 27) .skip (.ops QeR))) (.cond (.tmp 27) (.seq (.ops QeQ) .ret) (.seq (.ops QeP) (.cond (.tmp 31) (.seq (.ops QeO) .ret) (.seq (.ops QeN) (.cond (.tmp 34) (.seq (.ops QeM) .ret) .skip)))))))))))))))))))) (.seq (.ops QeL) .ret)))
@[reducible] def Q9 : FuncId := 114
theorem Qf1 : lowF Tryz.prog Tryz.f114 = some R_FieldsOf_lc := by kernel_rfl
theorem Q6Z {a0 : Value} {w : World} {R : Ending → World → Prop} (h : R_FieldsOf_lc.wp Tryz.prog (retQ Tryz.prog [.cell 2 156, .tmp 3] R) (Qg [a0]) w) : Calls Tryz.prog Q9 ⟨[a0]⟩ w R :=
  Q6 Tryz.func114 Qf1 (by kernel_rfl) (by kernel_rfl) h

/- 115 -/
def Qe7 : List GO := [ql 3 1, qm 4 0, ⟨none, .call (some 5) 63 [(.tmp 4)]⟩, ⟨none, .bin 6 .add 9 (.const (.string ⟨#[32]⟩)) (.tmp 5)⟩, qt 7 .add 9 3 6, qs 1 7]
def Qe9 : List (List Nat) := [[],[],[1],[2],[0,3],[4,2,0,1,2,3,4]]
def R_insText_1_lc : LC := (.draw Qe7 Qe9)
@[reducible] def Q5F : FuncId := 115
theorem QaT : lowF Tryz.prog Tryz.f115 = some R_insText_1_lc := by kernel_rfl
theorem Qe8 {a0 a1 : Value} {w : World} {R : Ending → World → Prop} (h : R_insText_1_lc.wp Tryz.prog (retQ Tryz.prog [] R) (Qg [a0, a1]) w) : Calls Tryz.prog Q5F ⟨[a0, a1]⟩ w R :=
  Q6 Tryz.func115 QaT (by kernel_rfl) (by kernel_rfl) h

/- 116 -/
/- 117 -/
/- 118 -/
/- 119 -/
/- 120 -/
/- 121 -/
@[reducible] def strings_IndexByte : FuncId := 121
/- 122 -/
/- 123 -/
/- 124 -/
/- 125 -/
/- 126 -/
/- 127 -/
/- 128 -/
/- 129 -/
/- 130 -/
/- 131 -/
def Qmk : List GO := [qb 2 91 0, qk 4 (vi 0)]
def Qmj : List GO := [qk 5 (vi 0)]
def Qmi : List GO := [qk 6 (vi 0)]
def Qmh : List GO := [qm 8 6, qf 9 2 2, ql 10 9, qL 11 10, qt 12 .lss 3 8 11, qm 13 12, qg 13 true (qm 14 5), qg 13 true (qm 15 1), qg 13 true (qt 16 .leq 3 14 15), ⟨none, .pick 17 (.tmp 13) (.tmp 16) (.const (.bool false))⟩]
def Qmg : List GO := [qm 20 1, qj 21 .eql 3 20 0]
def Qmf : List GO := [qk 4 (vi 1)]
def Qme : List GO := [qf 22 2 2, ql 23 22, qm 24 6, qi 25 3 23 24, qV 26 3 25, qm 27 1, qj 28 .sub 3 27 1, ⟨none, .call (some 29) 131 [(.tmp 26), (.tmp 28)]⟩, ⟨none, .bin 30 .add 3 (.const (vi 1)) (.tmp 29)⟩, qm 7 30]
def Qmd : List GO := [qm 31 7, qm 32 5, qt 33 .gtr 3 31 32]
def Qmc : List GO := [qm 34 7, qm 5 34]
def Qmb : List GO := [qm 18 6, qj 19 .add 3 18 1, qm 6 19]
def Qc0 : LC := (.seq (.seq (.ops Qmh) (.cond (.tmp 17) .skip (.exit 0))) (.seq (.block 1 (.seq (.seq (.ops Qmg) (.cond (.tmp 21) (.seq (.ops Qmf) .ret) .skip)) (.seq (.ops Qme) (.seq (.ops Qmd) (.cond (.tmp 33) (.ops Qmc) .skip))))) (.ops Qmb)))
def QkX : List GO := [qm 35 5, qm 4 35]
def R_DeepOf_lc : LC := (.seq (.ops Qmk) (.seq (.ops Qmj) (.seq (.seq (.ops Qmi) (.block 0 (.loop Qc0))) (.seq (.ops QkX) .ret))))
@[reducible] def Q3m : FuncId := 131
theorem QkY : lowF Tryz.prog Tryz.f131 = some R_DeepOf_lc := by kernel_rfl
theorem Qml {a0 a1 : Value} {w : World} {R : Ending → World → Prop} (h : R_DeepOf_lc.wp Tryz.prog (retQ Tryz.prog [.tmp 4] R) (Qg [a0, a1]) w) : Calls Tryz.prog Q3m ⟨[a0, a1]⟩ w R :=
  Q6 Tryz.func131 QkY (by kernel_rfl) (by kernel_rfl) h

/- 132 -/
def QdS : List GO := [qb 2 91 0, qk 4 (vi 0)]
def QdR : List GO := [qf 7 2 0, ql 8 7, qj 9 .lss 3 8 1, qm 10 9, qg 10 false (qf 11 2 0), qg 10 false (ql 12 11), qg 10 false (qj 13 .gtr 3 12 4), ⟨none, .pick 14 (.tmp 10) (.const (.bool true)) (.tmp 13)⟩]
def QdQ : List GO := [qk 4 (vi 3)]
def QdP : List GO := [qf 15 2 0, ql 16 15, qj 17 .eql 3 16 1, qm 18 17, qg 18 true (qf 19 2 1), qg 18 true (ql 20 19), qg 18 true (qj 21 .neq 3 20 0), ⟨none, .pick 22 (.tmp 18) (.tmp 21) (.const (.bool false))⟩, qm 23 22, qg 23 false (qf 24 2 0), qg 23 false (ql 25 24), qg 23 false (qj 26 .neq 3 25 3), qg 23 false (qm 27 26), qg 27 true (qf 28 2 2), qg 27 true (ql 29 28), qg 27 true (qL 30 29), qg 27 true (qj 31 .gtr 3 30 0), ⟨some (23, false), .pick 32 (.tmp 27) (.tmp 31) (.const (.bool false))⟩, ⟨none, .pick 33 (.tmp 23) (.const (.bool true)) (.tmp 32)⟩]
def QdO : List GO := [qk 4 (vi 4)]
def QdN : List GO := [qf 34 2 2, ql 35 34, qL 36 35, qj 37 .gtr 3 36 8]
def QdM : List GO := [qk 4 (vi 2)]
def QdL : List GO := [qf 38 2 0, ql 39 38, qj 40 .neq 3 39 1, qm 41 40, qg 41 true (qf 42 2 1), qg 41 true (ql 43 42), qg 41 true (qj 44 .lss 3 43 0), qg 41 true (qm 45 44), qg 45 false (qf 46 2 1), qg 45 false (ql 47 46), qg 45 false (qm 48 1), qg 45 false (qt 49 .geq 3 47 48), ⟨some (41, true), .pick 50 (.tmp 45) (.const (.bool true)) (.tmp 49)⟩, ⟨none, .pick 51 (.tmp 41) (.tmp 50) (.const (.bool false))⟩]
def QdK : List GO := [qk 4 (vi 1)]
def QdJ : List GO := [qk 5 (vi 0)]
def QaO : List GO := [qm 52 5, qf 53 2 2, ql 54 53, qL 55 54, qt 56 .lss 3 52 55]
def QaN : List GO := [qf 59 2 2, ql 60 59, qm 61 5, qi 62 3 60 61, qV 63 3 62, qm 64 1, ⟨none, .call (some 65) 132 [(.tmp 63), (.tmp 64)]⟩, qm 6 65]
def QaM : List GO := [qm 66 6, qj 67 .neq 3 66 0]
def QaL : List GO := [qm 68 6, qm 4 68]
def QaK : List GO := [qm 57 5, qj 58 .add 3 57 1, qm 5 58]
def Q4u : LC := (.seq (.seq (.ops QaO) (.cond (.tmp 56) .skip (.exit 0))) (.seq (.block 1 (.seq (.ops QaN) (.seq (.ops QaM) (.cond (.tmp 67) (.seq (.ops QaL) .ret) .skip)))) (.ops QaK)))
def QaJ : List GO := [qk 4 (vi 0)]
def R_typeFault_lc : LC := (.seq (.ops QdS) (.seq (.seq (.ops QdR) (.cond (.tmp 14) (.seq (.ops QdQ) .ret) .skip)) (.seq (.seq (.ops QdP) (.cond (.tmp 33) (.seq (.ops QdO) .ret) .skip)) (.seq (.seq (.ops QdN) (.cond (.tmp 37) (.seq (.ops QdM) .ret) .skip)) (.seq (.seq (.ops QdL) (.cond (.tmp 51) (.seq (.ops QdK) .ret) .skip)) (.seq (.seq (.ops QdJ) (.block 0 (.loop Q4u))) (.seq (.ops QaJ) .ret)))))))
@[reducible] def Q1g : FuncId := 132
theorem QaP : lowF Tryz.prog Tryz.f132 = some R_typeFault_lc := by kernel_rfl
theorem QdT {a0 a1 : Value} {w : World} {R : Ending → World → Prop} (h : R_typeFault_lc.wp Tryz.prog (retQ Tryz.prog [.tmp 4] R) (Qg [a0, a1]) w) : Calls Tryz.prog Q1g ⟨[a0, a1]⟩ w R :=
  Q6 Tryz.func132 QaP (by kernel_rfl) (by kernel_rfl) h

/- 133 -/
def Qm1 : List GO := [qb 3 43 0, qb 4 48 1, qk 6 (vi 0)]
def Qm0 : List GO := [qm 7 2, ⟨none, .un 8 .not (.tmp 7)⟩]
def QlZ : List GO := [qf 9 4 0, ql 10 9, qj 11 .neq 3 10 0, qm 12 11, qg 12 false (qf 13 4 1), qg 12 false (ql 14 13), qg 12 false (qL 15 14), qg 12 false (qf 16 4 2), qg 12 false (ql 17 16), qg 12 false (qL 18 17), qg 12 false (qt 19 .add 3 15 18), qg 12 false (qj 20 .gtr 3 19 0), ⟨none, .pick 21 (.tmp 12) (.const (.bool true)) (.tmp 20)⟩]
def QlY : List GO := [qk 6 (vi 4)]
def QlX : List GO := [qk 6 (vi 0)]
def QlW : List GO := [qf 22 4 0, ql 23 22, qj 24 .lss 3 23 0, qm 25 24, qg 25 false (qf 26 4 0), qg 25 false (ql 27 26), qg 25 false (qf 28 3 3), qg 25 false (ql 29 28), qg 25 false (qL 30 29), qg 25 false (qt 31 .geq 3 27 30), ⟨none, .pick 32 (.tmp 25) (.const (.bool true)) (.tmp 31)⟩]
def QlV : List GO := [qk 6 (vi 1)]
def QlU : List GO := [qf 33 4 1, ql 34 33, qL 35 34, qj 36 .gtr 3 35 16, qm 37 36, qg 37 false (qf 38 4 2), qg 37 false (ql 39 38), qg 37 false (qL 40 39), qg 37 false (qj 41 .gtr 3 40 8), ⟨none, .pick 42 (.tmp 37) (.const (.bool true)) (.tmp 41)⟩]
def QlT : List GO := [qk 6 (vi 2)]
def QlS : List GO := [qk 6 (vi 0)]
def R_toForm_lc : LC := (.seq (.ops Qm1) (.seq (.seq (.ops Qm0) (.cond (.tmp 8) (.seq (.seq (.ops QlZ) (.cond (.tmp 21) (.seq (.ops QlY) .ret) .skip)) (.seq (.ops QlX) .ret)) .skip)) (.seq (.seq (.ops QlW) (.cond (.tmp 32) (.seq (.ops QlV) .ret) .skip)) (.seq (.seq (.ops QlU) (.cond (.tmp 42) (.seq (.ops QlT) .ret) .skip)) (.seq (.ops QlS) .ret)))))
@[reducible] def Q3l : FuncId := 133
theorem QjW : lowF Tryz.prog Tryz.f133 = some R_toForm_lc := by kernel_rfl
theorem QaQ {a0 a1 a2 : Value} {w : World} {R : Ending → World → Prop} (h : R_toForm_lc.wp Tryz.prog (retQ Tryz.prog [.tmp 6] R) (Qg [a0, a1, a2]) w) : Calls Tryz.prog Q3l ⟨[a0, a1, a2]⟩ w R :=
  Q6 Tryz.func133 QjW (by kernel_rfl) (by kernel_rfl) h

/- 134 -/
def QfJ : List GO := [qb 2 91 0, qk 4 (.bool false)]
def QfI : List GO := [qm 7 1, qj 8 .lss 3 7 0]
def QfH : List GO := [qk 4 (.bool false)]
def QfG : List GO := [qf 9 2 2, ql 10 9, qL 11 10, qk 12 (vi 0)]
def QfF : List GO := [qt 13 .lss 3 12 11]
def QfE : List GO := [qi 14 3 10 12, qV 15 3 14, ⟨none, .alloc 6 91 [(vi 0), (vi 0), vn]⟩, qw 3 6 15]
def QfD : List GO := [qV 16 3 6, qm 17 1, qj 18 .sub 3 17 1, ⟨none, .call (some 19) 134 [(.tmp 16), (.tmp 18)]⟩, ⟨none, .un 20 .not (.tmp 19)⟩]
def QfC : List GO := [qk 4 (.bool false)]
def QfB : List GO := [qj 21 .add 3 12 1, qm 12 21]
def Q5U : LC := (.seq (.ops QfF) (.seq (.cond (.tmp 13) .skip (.exit 0)) (.seq (.block 1 (.seq (.ops QfE) (.seq (.ops QfD) (.cond (.tmp 20) (.seq (.ops QfC) .ret) .skip)))) (.ops QfB))))
def QfA : List GO := [qk 4 (.bool true)]
def types_deep_lc : LC := (.seq (.ops QfJ) (.seq (.seq (.ops QfI) (.cond (.tmp 8) (.seq (.ops QfH) .ret) .skip)) (.seq (.seq (.ops QfG) (.block 0 (.loop Q5U))) (.seq (.ops QfA) .ret))))
@[reducible] def Q2V : FuncId := 134
theorem QcA : lowF Tryz.prog Tryz.f134 = some types_deep_lc := by kernel_rfl
theorem QfK {a0 a1 : Value} {w : World} {R : Ending → World → Prop} (h : types_deep_lc.wp Tryz.prog (retQ Tryz.prog [.tmp 4] R) (Qg [a0, a1]) w) : Calls Tryz.prog Q2V ⟨[a0, a1]⟩ w R :=
  Q6 Tryz.func134 QcA (by kernel_rfl) (by kernel_rfl) h

/- 135 -/
def Qcy : List GO := [qb 2 91 0, qk 4 (vi 0)]
def Qcx : List GO := [qf 8 2 0, ql 9 8]
def Qcw : List GO := [qj 11 .eql 3 9 1, qm 10 11]
def Qcv : List GO := [qf 12 2 1, ql 13 12, qj 14 .neq 3 13 0, qm 15 14, qg 15 false (qf 16 2 2), qg 15 false (ql 17 16), qg 15 false (qL 18 17), qg 15 false (qj 19 .gtr 3 18 0), ⟨none, .pick 20 (.tmp 15) (.const (.bool true)) (.tmp 19)⟩]
def Qcu : List GO := [qk 4 (vi 4)]
def Qct : List GO := [qk 4 (vi 0)]
def Qcs : List GO := [qj 22 .eql 3 9 2, qm 21 22]
def Qcr : List GO := [qj 23 .eql 3 9 4, qm 21 23]
def Qcq : List GO := [qf 24 2 2, ql 25 24, qL 26 25, qj 27 .gtr 3 26 0]
def Qcp : List GO := [qk 4 (vi 4)]
def Q9C : List GO := [qj 29 .eql 3 9 3, qm 28 29]
def Q9B : List GO := [qf 30 2 2, ql 31 30, qL 32 31, qj 33 .gtr 3 32 8]
def Q9A : List GO := [qk 4 (vi 2)]
def Q9z : List GO := [qk 4 (vi 3)]
def Q9y : List GO := [qf 34 2 1, ql 35 34, qj 36 .lss 3 35 0, qm 37 36, qg 37 false (qf 38 2 1), qg 37 false (ql 39 38), qg 37 false (qm 40 1), qg 37 false (qt 41 .geq 3 39 40), ⟨none, .pick 42 (.tmp 37) (.const (.bool true)) (.tmp 41)⟩]
def Q9x : List GO := [qk 4 (vi 1)]
def Q9w : List GO := [qf 43 2 2, ql 44 43, qL 45 44, qk 46 (vi 0)]
def Q9v : List GO := [qt 47 .lss 3 46 45]
def Q9u : List GO := [qi 48 3 44 46, qV 49 3 48, ⟨none, .alloc 6 91 [(vi 0), (vi 0), vn]⟩, qw 3 6 49]
def Q9t : List GO := [qV 50 3 6, qm 51 1, ⟨none, .call (some 52) 135 [(.tmp 50), (.tmp 51)]⟩, qm 7 52]
def Q9s : List GO := [qm 53 7, qj 54 .neq 3 53 0]
def Q9r : List GO := [qm 55 7, qm 4 55]
def Q9q : List GO := [qj 56 .add 3 46 1, qm 46 56]
def Q43 : LC := (.seq (.ops Q9v) (.seq (.cond (.tmp 47) .skip (.exit 1)) (.seq (.block 2 (.seq (.ops Q9u) (.seq (.ops Q9t) (.seq (.ops Q9s) (.cond (.tmp 54) (.seq (.ops Q9r) .ret) .skip))))) (.ops Q9q))))
def Q9p : List GO := [qk 4 (vi 0)]
def types_wrong_lc : LC := (.seq (.ops Qcy) (.seq (.seq (.ops Qcx) (.block 0 (.seq (.ops Qcw) (.cond (.tmp 10) (.seq (.seq (.ops Qcv) (.cond (.tmp 20) (.seq (.ops Qcu) .ret) .skip)) (.seq (.ops Qct) .ret)) (.seq (.seq (.ops Qcs) (.cond (.tmp 21) .skip (.ops Qcr))) (.cond (.tmp 21) (.seq (.ops Qcq) (.cond (.tmp 27) (.seq (.ops Qcp) .ret) .skip)) (.seq (.ops Q9C) (.cond (.tmp 28) (.seq (.ops Q9B) (.cond (.tmp 33) (.seq (.ops Q9A) .ret) .skip)) (.seq (.ops Q9z) .ret))))))))) (.seq (.seq (.ops Q9y) (.cond (.tmp 42) (.seq (.ops Q9x) .ret) .skip)) (.seq (.seq (.ops Q9w) (.block 1 (.loop Q43))) (.seq (.ops Q9p) .ret)))))
@[reducible] def Qw : FuncId := 135
theorem Q9D : lowF Tryz.prog Tryz.f135 = some types_wrong_lc := by kernel_rfl
theorem Qcz {a0 a1 : Value} {w : World} {R : Ending → World → Prop} (h : types_wrong_lc.wp Tryz.prog (retQ Tryz.prog [.tmp 4] R) (Qg [a0, a1]) w) : Calls Tryz.prog Qw ⟨[a0, a1]⟩ w R :=
  Q6 Tryz.func135 Q9D (by kernel_rfl) (by kernel_rfl) h

/- 136 -/
def QlI : List GO := [qk 2 (.string ⟨#[]⟩)]
def QlH : List GO := [qm 3 0, qj 4 .lss 3 3 1, qm 5 4, qg 5 false (qm 6 0), qg 5 false (qj 7 .gtr 3 6 14), ⟨none, .pick 8 (.tmp 5) (.const (.bool true)) (.tmp 7)⟩]
def QlG : List GO := [qk 2 (.string ⟨#[]⟩)]
def QlF : List GO := [⟨none, .build 9 [(.string ⟨#[]⟩), (.string ⟨#[]⟩), (.string ⟨#[]⟩), (.string ⟨#[]⟩), (.string ⟨#[]⟩), (.string ⟨#[]⟩), (.string ⟨#[]⟩), (.string ⟨#[]⟩), (.string ⟨#[]⟩), (.string ⟨#[]⟩), (.string ⟨#[]⟩), (.string ⟨#[]⟩), (.string ⟨#[]⟩), (.string ⟨#[]⟩), (.string ⟨#[]⟩)] [(0, (1, (.const (.string ⟨#[]⟩)))), (1, (1, (.const (.string ⟨#[110]⟩)))), (2, (1, (.const (.string ⟨#[97, 98, 107]⟩)))), (3, (1, (.const (.string ⟨#[]⟩)))), (4, (1, (.const (.string ⟨#[97]⟩)))), (5, (1, (.const (.string ⟨#[97, 114]⟩)))), (6, (1, (.const (.string ⟨#[97, 107]⟩)))), (7, (1, (.const (.string ⟨#[97, 98, 107]⟩)))), (8, (1, (.const (.string ⟨#[97, 98]⟩)))), (9, (1, (.const (.string ⟨#[97, 98]⟩)))), (10, (1, (.const (.string ⟨#[97, 98, 99]⟩)))), (11, (1, (.const (.string ⟨#[97]⟩)))), (12, (1, (.const (.string ⟨#[]⟩)))), (13, (1, (.const (.string ⟨#[97]⟩)))), (14, (1, (.const (.string ⟨#[107, 103, 114]⟩))))]⟩, qm 10 0, ⟨none, .raw ⟨(some 11), (.index 85 (.tmp 9) (.tmp 10)), 9, "", #[], none⟩⟩, qm 2 11]
def code_has_lc : LC := (.seq (.ops QlI) (.seq (.seq (.ops QlH) (.cond (.tmp 8) (.seq (.ops QlG) .ret) .skip)) (.seq (.ops QlF) .ret)))
@[reducible] def QmP : FuncId := 136
theorem QjQ : lowF Tryz.prog Tryz.f136 = some code_has_lc := by kernel_rfl
theorem Qav {a0 : Value} {w : World} {R : Ending → World → Prop} (h : code_has_lc.wp Tryz.prog (retQ Tryz.prog [.tmp 2] R) (Qg [a0]) w) : Calls Tryz.prog QmP ⟨[a0]⟩ w R :=
  Q6 Tryz.func136 QjQ (by kernel_rfl) (by kernel_rfl) h

/- 137 -/
def QjN : List GO := [qk 4 (.bool false)]
def QjM : List GO := [qm 5 0, ⟨none, .raw ⟨(some 6), (.convert 9 105 (.tmp 5)), 105, "", #[], none⟩⟩, qm 7 1, ⟨none, .call (some 8) 150 [(.tmp 6), (.tmp 7)]⟩, qm 4 8]
def code_with_lc : LC := (.seq (.ops QjN) (.seq (.ops QjM) .ret))
@[reducible] def QjP : FuncId := 137
theorem QgS : lowF Tryz.prog Tryz.f137 = some code_with_lc := by kernel_rfl
theorem QjO {a0 a1 : Value} {w : World} {R : Ending → World → Prop} (h : code_with_lc.wp Tryz.prog (retQ Tryz.prog [.tmp 4] R) (Qg [a0, a1]) w) : Calls Tryz.prog QjP ⟨[a0, a1]⟩ w R :=
  Q6 Tryz.func137 QgS (by kernel_rfl) (by kernel_rfl) h

/- 138 -/
def Q8l : List GO := [qb 5 43 1, qb 6 48 2]
def Q8k : List GO := [qm 8 3, ⟨none, .un 9 .not (.tmp 8)⟩]
def Q8j : List GO := [qm 10 0, qf 11 6 0, ql 12 11, qj 13 .neq 3 12 0, qm 14 13, qg 14 false (qf 15 6 1), qg 14 false (ql 16 15), qg 14 false (qL 17 16), qg 14 false (qj 18 .gtr 3 17 0), ⟨none, .pick 19 (.tmp 14) (.const (.bool true)) (.tmp 18)⟩, qm 20 19, qg 20 false (qf 21 6 2), qg 20 false (ql 22 21), qg 20 false (qL 23 22), qg 20 false (qj 24 .gtr 3 23 0), ⟨none, .pick 25 (.tmp 20) (.const (.bool true)) (.tmp 24)⟩, ⟨none, .call (some 26) 50 [(.tmp 10), (.tmp 25), (.const (vi 4))]⟩]
def Q8i : List GO := [qm 27 0, qf 28 6 0, ql 29 28, qj 30 .lss 3 29 0, qm 31 30, qg 31 false (qf 32 6 0), qg 31 false (ql 33 32), qg 31 false (qf 34 5 3), qg 31 false (ql 35 34), qg 31 false (qL 36 35), qg 31 false (qt 37 .geq 3 33 36), ⟨none, .pick 38 (.tmp 31) (.const (.bool true)) (.tmp 37)⟩, ⟨none, .call (some 39) 50 [(.tmp 27), (.tmp 38), (.const (vi 1))]⟩]
def Q8h : List GO := [qm 40 0, qf 41 6 1, ql 42 41, qL 43 42, qj 44 .gtr 3 43 16, qm 45 44, qg 45 false (qf 46 6 2), qg 45 false (ql 47 46), qg 45 false (qL 48 47), qg 45 false (qj 49 .gtr 3 48 8), ⟨none, .pick 50 (.tmp 45) (.const (.bool true)) (.tmp 49)⟩, ⟨none, .call (some 51) 50 [(.tmp 40), (.tmp 50), (.const (vi 2))]⟩]
def code_judge_to_lc : LC := (.seq (.ops Q8l) (.seq (.seq (.ops Q8k) (.cond (.tmp 9) (.seq (.ops Q8j) .ret) .skip)) (.seq (.ops Q8i) (.ops Q8h))))
@[reducible] def Q6s : FuncId := 138
theorem Q7n : lowF Tryz.prog Tryz.f138 = some code_judge_to_lc := by kernel_rfl
theorem Q3V {a0 a1 a2 a3 : Value} {w : World} {R : Ending → World → Prop} (h : code_judge_to_lc.wp Tryz.prog (retQ Tryz.prog [] R) (Qg [a0, a1, a2, a3]) w) : Calls Tryz.prog Q6s ⟨[a0, a1, a2, a3]⟩ w R :=
  Q6 Tryz.func138 Q7n (by kernel_rfl) (by kernel_rfl) h

/- 142 -/
/- 144 -/
/- 145 -/
/- 146 -/
/- 147 -/
/- 150 -/
def Q2T : List GO := [qk 4 (.bool false)]
def Q2S : List GO := [qm 5 0, qm 6 1, ⟨none, .call (some 7) 163 [(.tmp 5), (.tmp 6)]⟩, qj 8 .geq 3 7 0, qm 4 8]
def slices_Contains_byte_byte_lc : LC := (.seq (.ops Q2T) (.seq (.ops Q2S) .ret))
@[reducible] def Q2a : FuncId := 150
theorem Q2L : lowF Tryz.prog Tryz.f150 = some slices_Contains_byte_byte_lc := by kernel_rfl
theorem Q2U {a0 a1 : Value} {w : World} {R : Ending → World → Prop} (h : slices_Contains_byte_byte_lc.wp Tryz.prog (retQ Tryz.prog [.tmp 4] R) (Qg [a0, a1]) w) : Calls Tryz.prog Q2a ⟨[a0, a1]⟩ w R :=
  Q6 Tryz.func150 Q2L (by kernel_rfl) (by kernel_rfl) h

/- 157 -/
/- 163 -/
def Q3y : List GO := [qk 4 (vi 0)]
def Q3x : List GO := [qm 6 0, qL 7 6, qk 8 (vi 0)]
def Q3w : List GO := [qt 9 .lss 3 8 7]
def Q3v : List GO := [qm 10 8, qm 5 10]
def Q3u : List GO := [qm 11 1, qm 12 0, qm 13 5, qi 14 1 12 13, ql 15 14, qt 16 .eql 5 11 15]
def Q3t : List GO := [qm 17 5, qm 4 17]
def Q3s : List GO := [qj 18 .add 3 8 1, qm 8 18]
def Q29 : LC := (.seq (.ops Q3w) (.seq (.cond (.tmp 9) .skip (.exit 0)) (.seq (.block 1 (.seq (.ops Q3v) (.seq (.ops Q3u) (.cond (.tmp 16) (.seq (.ops Q3t) .ret) .skip)))) (.ops Q3s))))
def Q3r : List GO := [qk 4 (vi (-1))]
def slices_Index_byte_byte_lc : LC := (.seq (.ops Q3y) (.seq (.seq (.ops Q3x) (.block 0 (.loop Q29))) (.seq (.ops Q3r) .ret)))
@[reducible] def Q1q : FuncId := 163
theorem Q3b : lowF Tryz.prog Tryz.f163 = some slices_Index_byte_byte_lc := by kernel_rfl
theorem Q3z {a0 a1 : Value} {w : World} {R : Ending → World → Prop} (h : slices_Index_byte_byte_lc.wp Tryz.prog (retQ Tryz.prog [.tmp 4] R) (Qg [a0, a1]) w) : Calls Tryz.prog Q1q ⟨[a0, a1]⟩ w R :=
  Q6 Tryz.func163 Q3b (by kernel_rfl) (by kernel_rfl) h

end Go.Proofs.YtjecflbbcnocdaaGreatDoor
namespace Go.Proofs.YtjecflbbcnocdaaGreatDoor
open Go.Lir
set_option maxHeartbeats 1000000
attribute [local irreducible] LC.wp Q3 QW Q13 retQ Q2i LO.wp Qv Calls
set_option linter.unusedSimpArgs false
set_option linter.unusedVariables false
theorem size_c : ∀ (t : Ty) {cx : Cx} {w : World} {L : List Res} {cs : List Value} {left : Int}, tyR.at cx cs t → -1 ≤ left → left ≤ 1000000 → St cx w L →
    Rets Tryz.prog Q4L [.agg ⟨cs⟩, .int .i64 left] w fun v w' => v = .int .i64 (t.size left) ∧ St cx w' L := by
  intro t
  induction t using Ty.ind with
  | h k r l ih =>
    intro cx w L cs left ht h1 h2 hS
    obtain ⟨v, rfl, hl⟩ := QG ht
    simp only [Ty.kind, Ty.r, Ty.l] at hl ht ⊢
    have hlen := hl.len
    rw [Ty.size]
    all_goals refine Qhi ?_
    all_goals (unfold R_typeSize_lc; refine Q0 ?_; refine Q2 ?_; refine zb hS ?_; intro p2 w1 hS; refine zm ?_; refine zn ?_; refine Q0 ?_; refine Q2 ?_; refine zm ?_; refine zsu ?_; refine zm ?_; refine zn ?_; refine Q0 ?_; refine Q0 ?_; refine Q2 ?_; refine zm ?_; refine zn ?_; refine Q8 ?_)
    refine zoL hS [2] (fun A LL ρ' w' => ∃ (j : Nat) (n : Int), Has ρ' A ∧ Has ρ' [(1, .int .i64 n), (5, .int .i64 j)] ∧ (j ≤ l.length) ∧ (n ≤ 1000000) ∧ (-2 ≤ n) ∧ (Tys.size l (left - 1) = Tys.size (l.drop j) n) ∧ St cx w' (LL)) (fun ρ' _ => (l.length - iv (ρ' 5)).toNat) ?_ ?_
    · exact ⟨0, left - 1, zh, zh, (by omega), (by omega), (by omega), by simp, hS.sp⟩
    rintro ρ w1 ⟨j, n, hA, hρ, hj, hn, hn1, hd, hS⟩; obtain ⟨ρ, rfl⟩ := env2 hA hρ
    unfold Q6S
    all_goals (refine Q0 ?_; refine Q0 ?_; refine Q2 ?_; refine zm ?_; refine Q1 rfl ?_; refine zl hS ?_; refine zL ?_)
    all_goals (first | (refine Q1z ?_) | (refine Q1A ?_) | (refine QK rfl rfl (fun hc => ?_) (fun hc => ?_)))
    all_goals (refine zm ?_; (first | refine s_gn rfl rfl ?_ | (refine s_gy rfl ?_; refine zm ?_)))
    all_goals (first | refine s_gn rfl rfl ?_ | (refine s_gy rfl ?_; (first | (refine Q9k ?_) | (refine Q9l ?_) | (refine Q34 rfl rfl (fun hc => ?_) (fun hc => ?_)))))
    all_goals ((first | (refine zpt ?_) | (refine zpf ?_)); refine zn ?_)
    all_goals
      first
      | (refine Q4 rfl ?_ -- Q4L c0
         all_goals (refine zex ?_; refine Q0 ?_; refine Q2 ?_; refine zm ?_; refine zm ?_; refine zn ?_; refine zr ?_; refine zf ?_)
         all_goals (refine ⟨_, rfl, ?_, hS.sp⟩; (rw [hd]; congr 1; first | (rw [Tys.size_neg _ (by omega)]; done) | (rw [List.drop_of_length_le (by omega), Tys.size]; done)); done))
      | (refine Q5 rfl ?_ -- Q4L c0
         all_goals (refine zsk ?_; refine Q0 ?_; refine Q8 ?_; refine Q2 ?_; refine Q1 rfl ?_; refine zl hS ?_; refine zm ?_; refine zi ?_; intro b1 o1 cs1 x1 hat1 hx1 he1; obtain ⟨vl1, rfl, hl1⟩ := QG he1; (first | (refine zv hS ?_) | (refine zvk hS ?_)); refine zm ?_; refine zR2 (c := ih _ (List.mem_of_getElem? (by assumption)) (by assumption) (by omega) (by omega) hS) (h := ?_); rintro v1 w1 ⟨rfl, hS⟩; refine zm ?_; refine zn ?_; refine Q2 ?_; refine zm ?_; refine zad ?_; refine zm ?_; refine zn ?_)
         all_goals (exact ⟨⟨j + 1, _, zh, zh, (by omega), by have := Ty.size_rng x1 (left := n) (by omega); omega, by have := Ty.size_rng x1 (left := n) (by omega); omega, by rw [hd, Q7 hx1, Tys.size, if_pos (by omega)], hS.sp⟩, Qk (by omega)⟩))
theorem great_c {t : Ty} {cx : Cx} {w : World} {L : List Res} {cs : List Value} (ht : tyR.at cx cs t) (hS : St cx w L) :
    Rets Tryz.prog QbZ [.agg ⟨cs⟩] w fun v w' => v = .bool t.great ∧ St cx w' L := by
  obtain ⟨v, rfl, hl⟩ := QG ht
  all_goals refine QeK ?_
  all_goals (unfold R_GreatType_lc; refine Q0 ?_; refine Q2 ?_; refine zb hS ?_; intro p1 w1 hS; refine zm ?_; refine zn ?_; refine Q0 ?_; refine Q2 ?_; refine zv hS ?_; refine zR2 (c := size_c t ht (by omega) (by omega) hS) (h := ?_); rintro v1 w1 ⟨rfl, hS⟩; refine Qp rfl rfl ?_; refine zm ?_; refine zn ?_; refine zr ?_; refine zf ?_; refine ⟨_, rfl, ?_, hS.sp⟩; (rfl); done)
theorem QgL {l : List Ty} {cx : Cx} {w : World} {L : List Res} {v : Value} (hl : tyR.sl cx v l) (hS : St cx w L) :
    Rets Tryz.prog Q2n [v] w fun u w' => u = .bool (Tys.great l) ∧ St cx w' L := by
  have hlen := hl.len
  unfold Tys.great
  all_goals refine Qb3 ?_
  all_goals (unfold R_greatTypes_lc; refine Q0 ?_; refine Q2 ?_; refine zm ?_; refine zn ?_; refine Q0 ?_; refine Q0 ?_; refine Q2 ?_; refine zm ?_; refine zL ?_)
  all_goals (first | (refine Qz ?_) | (refine QF ?_) | (refine Qh rfl rfl (fun hc => ?_) (fun hc => ?_)))
  all_goals (refine zn ?_)
  all_goals
    first
    | (refine Q5 rfl ?_ -- Q2n c0
       all_goals (refine Q0 ?_; refine Q2 ?_; refine zm ?_; refine zn ?_; refine zr ?_; refine zf ?_)
       all_goals (refine ⟨_, rfl, ?_, hS.sp⟩; rw [decide_eq_true (by omega), Bool.true_or]; done))
    | (refine Q4 rfl ?_ -- Q2n c0
       all_goals refine zsk ?_)
  all_goals (refine Q0 ?_; refine Q0 ?_; refine Q2 ?_; refine zm ?_; refine zn ?_; refine Q8 ?_)
  refine zoL hS [0] (fun A LL ρ' w' => ∃ (j : Nat), Has ρ' A ∧ Has ρ' [(3, .int .i64 j)] ∧ (j ≤ l.length) ∧ (l.any Ty.great = (l.drop j).any Ty.great) ∧ St cx w' (LL)) (fun ρ' _ => (l.length - iv (ρ' 3)).toNat) ?_ ?_
  · exact ⟨0, zh, zh, (by omega), by simp, hS.sp⟩
  rintro ρ w1 ⟨j, hA, hρ, hj, hd, hS⟩; obtain ⟨ρ, rfl⟩ := env2 hA hρ
  unfold Q4v
  all_goals (refine Q0 ?_; refine Q0 ?_; refine Q2 ?_; refine zm ?_; refine zm ?_; refine zL ?_; refine Qp rfl rfl ?_; refine zn ?_)
  refine Ql rfl (fun hc => ?_) (fun hc => ?_)
  · skip
    all_goals (refine zsk ?_; refine Q0 ?_; refine Q8 ?_; refine Q0 ?_; refine Q2 ?_; refine zm ?_; refine zm ?_; refine zi ?_; intro b1 o1 cs1 x1 hat1 hx1 he1; obtain ⟨vl1, rfl, hl1⟩ := QG he1; (first | (refine zv hS ?_) | (refine zvk hS ?_)))
    all_goals (refine zR1 (c := great_c (by assumption) hS) (h := ?_); rintro v1 w1 ⟨rfl, hS⟩; cases hg : x1.great)
    all_goals (refine zn ?_)
    all_goals
      first
      | (refine Q5 rfl ?_ -- Q2n c2
         all_goals (refine Q0 ?_; refine Q2 ?_; refine zm ?_; refine zn ?_; refine zr ?_; refine zf ?_)
         all_goals (first | (refine ⟨_, rfl, ?_, hS.sp⟩; rw [decide_eq_true (by omega), Bool.true_or]; done) | (refine ⟨_, rfl, ?_, hS.sp⟩; rw [decide_eq_false (by omega), hd, Bool.false_or, Q7 hx1, List.any_cons, hg, Bool.true_or]; done)))
      | (refine Q4 rfl ?_ -- Q2n c2
         all_goals refine zsk ?_)
    all_goals (refine Q2 ?_; refine zm ?_; refine zad ?_; refine zm ?_; refine zn ?_; exact ⟨⟨j + 1, zh, zh, (by omega), by rw [hd, Q7 hx1, List.any_cons, hg, Bool.false_or], hS.sp⟩, Qk (by omega)⟩)
  · skip
    all_goals (refine zex ?_; refine Q0 ?_; refine Q2 ?_; refine zm ?_; refine zn ?_; refine zr ?_; refine zf ?_; (first | (refine ⟨_, rfl, ?_, hS.sp⟩; rw [decide_eq_true (by omega), Bool.true_or]; done) | (refine ⟨_, rfl, ?_, hS.sp⟩; rw [decide_eq_false (by omega), hd, Bool.false_or, Q7 hx1, List.any_cons, hg, Bool.true_or]; done) | (refine ⟨_, rfl, ?_, hS.sp⟩; rw [decide_eq_false (by omega), hd, Bool.false_or, List.drop_of_length_le (by omega)]; rfl; done)))
theorem deep_c : ∀ (t : Ty) {cx : Cx} {w : World} {L : List Res} {cs : List Value} {left : Int}, tyR.at cx cs t → left ≤ 1000000 → St cx w L →
    Rets Tryz.prog Q2V [.agg ⟨cs⟩, .int .i64 left] w fun v w' => v = .bool (t.deepB left) ∧ St cx w' L := by
  intro t
  induction t using Ty.ind with
  | h k r l ih =>
    intro cx w L cs left ht h1 hS
    obtain ⟨v, rfl, hl⟩ := QG ht
    simp only [Ty.kind, Ty.r, Ty.l] at hl ht ⊢
    have hlen := hl.len
    rw [Ty.deepB]
    all_goals refine QfK ?_
    all_goals (unfold types_deep_lc; refine Q0 ?_; refine Q2 ?_; refine zb hS ?_; intro p2 w1 hS; refine zm ?_; refine zn ?_; refine Q0 ?_; refine Q0 ?_; refine Q2 ?_; refine zm ?_)
    all_goals (first | (refine Q1z ?_) | (refine Q1A ?_) | (refine QK rfl rfl (fun hc => ?_) (fun hc => ?_)))
    all_goals (refine zn ?_)
    all_goals
      first
      | (refine Q5 rfl ?_ -- Q2V c0
         all_goals (refine Q0 ?_; refine Q2 ?_; refine zm ?_; refine zn ?_; refine zr ?_; refine zf ?_)
         all_goals (refine ⟨_, rfl, ?_, hS.sp⟩; rw [if_pos (by omega)]; done))
      | (refine Q4 rfl ?_ -- Q2V c0
         all_goals refine zsk ?_)
    all_goals (refine Q0 ?_; refine Q0 ?_; refine Q2 ?_; refine Q1 rfl ?_; refine zl hS ?_; refine zL ?_; refine zm ?_; refine zn ?_; refine Q8 ?_)
    refine zoL hS [1, 10, 11] (fun A LL ρ' w' => ∃ (j : Nat), Has ρ' A ∧ Has ρ' [(12, .int .i64 j)] ∧ (j ≤ l.length) ∧ (Tys.deepB l (left - 1) = Tys.deepB (l.drop j) (left - 1)) ∧ St cx w' (LL)) (fun ρ' _ => (l.length - iv (ρ' 12)).toNat) ?_ ?_
    · exact ⟨0, zh, zh, (by omega), by simp, hS.sp⟩
    rintro ρ w1 ⟨j, hA, hρ, hj, hd, hS⟩; obtain ⟨ρ, rfl⟩ := env2 hA hρ
    unfold Q5U
    all_goals (refine Q0 ?_; refine Q2 ?_; refine Qp rfl rfl ?_; refine zn ?_; refine Q0 ?_)
    refine Ql rfl (fun hc => ?_) (fun hc => ?_)
    · skip
      all_goals (refine zsk ?_; refine Q0 ?_; refine Q8 ?_; refine Q0 ?_; refine Q2 ?_; refine zi ?_; intro b1 o1 cs1 x1 hat1 hx1 he1; obtain ⟨vl1, rfl, hl1⟩ := QG he1; (first | (refine zv hS ?_) | (refine zvk hS ?_)); refine Qc hS ?_; intro p6 w1 hS; refine zsn hS ?_; intro w1 hS; have hS := hS.ns; refine zn ?_; refine Q0 ?_; refine Q2 ?_; refine zv hS ?_; refine zm ?_; refine zsu ?_)
      all_goals (refine zR2 (c := ih _ (List.mem_of_getElem? (by assumption)) (by assumption) (by omega) hS) (h := ?_); rintro v1 w1 ⟨rfl, hS⟩; cases hg : x1.deepB (left - 1))
      all_goals (refine Q1G rfl ?_; refine zn ?_)
      all_goals
        first
        | (refine Q4 rfl ?_ -- Q2V c2
           all_goals refine zsk ?_)
        | (refine Q5 rfl ?_ -- Q2V c2
           all_goals (refine Q0 ?_; refine Q2 ?_; refine zm ?_; refine zn ?_; refine zr ?_; refine zf ?_)
           all_goals (first | (refine ⟨_, rfl, ?_, hS.sp⟩; rw [if_pos (by omega)]; done) | (refine ⟨_, rfl, ?_, hS.sp⟩; rw [if_neg (by omega), hd, Q7 hx1, Tys.deepB, hg, Bool.false_and]; done)))
      all_goals (refine Q2 ?_; refine zad ?_; refine zm ?_; refine zn ?_; exact ⟨⟨j + 1, zh, zh, (by omega), by rw [hd, Q7 hx1, Tys.deepB, hg, Bool.true_and], hS.sp⟩, Qk (by omega)⟩)
    · skip
      all_goals (refine zex ?_; refine Q0 ?_; refine Q2 ?_; refine zm ?_; refine zn ?_; refine zr ?_; refine zf ?_; (first | (refine ⟨_, rfl, ?_, hS.sp⟩; rw [if_pos (by omega)]; done) | (refine ⟨_, rfl, ?_, hS.sp⟩; rw [if_neg (by omega), hd, Q7 hx1, Tys.deepB, hg, Bool.false_and]; done) | (refine ⟨_, rfl, ?_, hS.sp⟩; rw [if_neg (by omega), hd, List.drop_of_length_le (by omega), Tys.deepB]; done)))
theorem wrong_c : ∀ (t : Ty) {cx : Cx} {w : World} {L : List Res} {cs : List Value} {regs : Int}, tyR.at cx cs t → St cx w L →
    Rets Tryz.prog Qw [.agg ⟨cs⟩, .int .i64 regs] w fun v w' => v = .int .i64 (t.wrong 8 regs) ∧ St cx w' L := by
  intro t
  induction t using Ty.ind with
  | h k r l ih =>
    intro cx w L cs regs ht hS
    obtain ⟨v, rfl, hl⟩ := QG ht
    simp only [Ty.kind, Ty.r, Ty.l] at hl ht ⊢
    have hlen := hl.len
    rw [Ty.wrong]
    all_goals refine Qcz ?_
    all_goals (unfold types_wrong_lc; refine Q0 ?_; refine Q2 ?_; refine zb hS ?_; intro p2 w1 hS; refine zm ?_; refine zn ?_)
    refine zML hS [1, 2] (fun A LL ρ' w' => Has ρ' A ∧ Has ρ' [] ∧ (1 ≤ k ∧ k ≤ 4 ∧ k ≠ 1 ∧ (k ≠ 3 → l.length = 0) ∧ l.length ≤ 8) ∧ St cx w' (LL)) ?_ ?_
    · skip
      all_goals (refine Q0 ?_; refine Q2 ?_; refine Q1 rfl ?_; refine zl hS ?_; refine zn ?_; refine Q8 ?_; refine Q0 ?_; refine Q2 ?_)
      all_goals (first | (refine Qq ?_) | (refine Qr ?_) | (refine Qf rfl rfl (fun hc => ?_) (fun hc => ?_)))
      all_goals (refine zm ?_; refine zn ?_)
      all_goals
        first
        | (refine Q5 rfl ?_ -- Qw c0
           all_goals (refine Q0 ?_; refine Q0 ?_; refine Q2 ?_; refine Q1 rfl ?_; refine zl hS ?_)
           all_goals (first | (refine Q1m ?_) | (refine Q1n ?_) | (refine Qs rfl rfl (fun hc => ?_) (fun hc => ?_)))
           all_goals (refine zm ?_; (first | refine s_gn rfl rfl ?_ | (refine s_gy rfl ?_; refine Q1 rfl ?_)); (first | refine s_gn rfl rfl ?_ | (refine s_gy rfl ?_; refine zl hS ?_)); (first | refine s_gn rfl rfl ?_ | (refine s_gy rfl ?_; refine zL ?_)))
           all_goals (first | refine s_gn rfl rfl ?_ | (refine s_gy rfl ?_; (first | (refine Qz ?_) | (refine QF ?_) | (refine Qh rfl rfl (fun hc => ?_) (fun hc => ?_)))))
           all_goals ((first | (refine zpt ?_) | (refine zpf ?_)); refine zn ?_)
           all_goals
             first
             | (refine Q5 rfl ?_ -- Qw c1
                all_goals (refine Q0 ?_; refine Q2 ?_; refine zm ?_; refine zn ?_; refine zr ?_; refine zf ?_)
                all_goals (refine ⟨_, rfl, ?_, hS.sp⟩; (repeat (first | rw [if_pos (by omega)] | rw [if_neg (by omega)])); done))
             | (refine Q4 rfl ?_ -- Qw c1
                all_goals refine zsk ?_)
           all_goals (refine Q0 ?_; refine Q2 ?_; refine zm ?_; refine zn ?_; refine zr ?_; refine zf ?_)
           all_goals (first | (refine ⟨_, rfl, ?_, hS.sp⟩; (repeat (first | rw [if_pos (by omega)] | rw [if_neg (by omega)])); done) | (refine ⟨_, rfl, ?_, hS.sp⟩; ((repeat (first | rw [if_pos (by omega)] | rw [if_neg (by omega)])); rw [hd, Q7 hx1, Tys.wrong, if_pos (by assumption)]); done) | (refine ⟨_, rfl, ?_, hS.sp⟩; ((repeat (first | rw [if_pos (by omega)] | rw [if_neg (by omega)])); rw [List.eq_nil_of_length_eq_zero (l := l) (by omega), Tys.wrong]); done)))
        | (refine Q4 rfl ?_ -- Qw c0
           all_goals (refine Q0 ?_; refine Q0 ?_; refine Q2 ?_)
           all_goals (first | (refine Qq ?_) | (refine Qr ?_) | (refine Qf rfl rfl (fun hc => ?_) (fun hc => ?_)))
           all_goals (refine zm ?_; refine zn ?_)
           all_goals
             first
             | (refine Q5 rfl ?_ -- Qw c2
                all_goals refine zsk ?_)
             | (refine Q4 rfl ?_ -- Qw c2
                all_goals (refine Q2 ?_)
                all_goals (first | (refine Qq ?_) | (refine Qr ?_) | (refine Qf rfl rfl (fun hc => ?_) (fun hc => ?_)))
                all_goals (refine zm ?_)
                all_goals refine zn ?_)
           all_goals
             first
             | (refine Q5 rfl ?_ -- Qw c3
                all_goals (refine Q0 ?_; refine Q2 ?_; refine Q1 rfl ?_; refine zl hS ?_; refine zL ?_)
                all_goals (first | (refine Qz ?_) | (refine QF ?_) | (refine Qh rfl rfl (fun hc => ?_) (fun hc => ?_)))
                all_goals (refine zn ?_)
                all_goals
                  first
                  | (refine Q5 rfl ?_ -- Qw c4
                     all_goals (refine Q0 ?_; refine Q2 ?_; refine zm ?_; refine zn ?_; refine zr ?_; refine zf ?_)
                     all_goals (refine ⟨_, rfl, ?_, hS.sp⟩; (repeat (first | rw [if_pos (by omega)] | rw [if_neg (by omega)])); done))
                  | (refine Q4 rfl ?_ -- Qw c4
                     all_goals refine zsk ?_))
             | (refine Q4 rfl ?_ -- Qw c3
                all_goals (refine Q0 ?_; refine Q2 ?_)
                all_goals (first | (refine Qq ?_) | (refine Qr ?_) | (refine Qf rfl rfl (fun hc => ?_) (fun hc => ?_)))
                all_goals (refine zm ?_; refine zn ?_)
                all_goals
                  first
                  | (refine Q5 rfl ?_ -- Qw c5
                     all_goals (refine Q0 ?_; refine Q2 ?_; refine Q1 rfl ?_; refine zl hS ?_; refine zL ?_)
                     all_goals (first | (refine Qz ?_) | (refine QF ?_) | (refine Qh rfl rfl (fun hc => ?_) (fun hc => ?_)))
                     all_goals (refine zn ?_)
                     all_goals
                       first
                       | (refine Q5 rfl ?_ -- Qw c6
                          all_goals (refine Q0 ?_; refine Q2 ?_; refine zm ?_; refine zn ?_; refine zr ?_; refine zf ?_)
                          all_goals (refine ⟨_, rfl, ?_, hS.sp⟩; (repeat (first | rw [if_pos (by omega)] | rw [if_neg (by omega)])); done))
                       | (refine Q4 rfl ?_ -- Qw c6
                          all_goals refine zsk ?_))
                  | (refine Q4 rfl ?_ -- Qw c5
                     all_goals (refine Q0 ?_; refine Q2 ?_; refine zm ?_; refine zn ?_; refine zr ?_; refine zf ?_)
                     all_goals (refine ⟨_, rfl, ?_, hS.sp⟩; (repeat (first | rw [if_pos (by omega)] | rw [if_neg (by omega)])); done))))
      all_goals (exact ⟨zh, zh, by omega, hS.sp⟩)
    rintro ρ w1 ⟨hA, hρ, hk, hS⟩; obtain ⟨ρ, rfl⟩ := env2 hA hρ
    all_goals (refine Q0 ?_; refine Q0 ?_; refine Q2 ?_; refine Q1 rfl ?_; refine zl hS ?_)
    all_goals (first | (refine Q1z ?_) | (refine Q1A ?_) | (refine QK rfl rfl (fun hc => ?_) (fun hc => ?_)))
    all_goals (refine zm ?_; (first | refine s_gn rfl rfl ?_ | (refine s_gy rfl ?_; refine Q1 rfl ?_)); (first | refine s_gn rfl rfl ?_ | (refine s_gy rfl ?_; refine zl hS ?_)); (first | refine s_gn rfl rfl ?_ | (refine s_gy rfl ?_; refine zm ?_)))
    all_goals (first | refine s_gn rfl rfl ?_ | (refine s_gy rfl ?_; (first | (refine Q9k ?_) | (refine Q9l ?_) | (refine Q34 rfl rfl (fun hc => ?_) (fun hc => ?_)))))
    all_goals ((first | (refine zpt ?_) | (refine zpf ?_)); refine zn ?_)
    all_goals
      first
      | (refine Q5 rfl ?_ -- Qw c7
         all_goals (refine Q0 ?_; refine Q2 ?_; refine zm ?_; refine zn ?_; refine zr ?_; refine zf ?_)
         all_goals (refine ⟨_, rfl, ?_, hS.sp⟩; (repeat (first | rw [if_pos (by omega)] | rw [if_neg (by omega)])); done))
      | (refine Q4 rfl ?_ -- Qw c7
         all_goals refine zsk ?_)
    all_goals (refine Q0 ?_; refine Q0 ?_; refine Q2 ?_; refine Q1 rfl ?_; refine zl hS ?_; refine zL ?_; refine zm ?_; refine zn ?_; refine Q8 ?_)
    refine zoL hS [1, 44, 45] (fun A LL ρ' w' => ∃ (j : Nat), Has ρ' A ∧ Has ρ' [(46, .int .i64 j)] ∧ (j ≤ l.length) ∧ (Tys.wrong 8 l regs = Tys.wrong 8 (l.drop j) regs) ∧ St cx w' (LL)) (fun ρ' _ => (l.length - iv (ρ' 46)).toNat) ?_ ?_
    · exact ⟨0, zh, zh, (by omega), by simp, hS.sp⟩
    rintro ρ w1 ⟨j, hA, hρ, hj, hd, hS⟩; obtain ⟨ρ, rfl⟩ := env2 hA hρ
    unfold Q43
    all_goals (refine Q0 ?_; refine Q2 ?_; refine Qp rfl rfl ?_; refine zn ?_; refine Q0 ?_)
    refine Ql rfl (fun hc => ?_) (fun hc => ?_)
    · skip
      all_goals (refine zsk ?_; refine Q0 ?_; refine Q8 ?_; refine Q0 ?_; refine Q2 ?_; refine zi ?_; intro b1 o1 cs1 x1 hat1 hx1 he1; obtain ⟨vl1, rfl, hl1⟩ := QG he1; (first | (refine zv hS ?_) | (refine zvk hS ?_)); refine Qc hS ?_; intro p6 w1 hS; refine zsn hS ?_; intro w1 hS; have hS := hS.ns; refine zn ?_; refine Q0 ?_; refine Q2 ?_; refine zv hS ?_; refine zm ?_; refine zR2 (c := ih _ (List.mem_of_getElem? (by assumption)) (by assumption) hS) (h := ?_); rintro v1 w1 ⟨rfl, hS⟩; refine zm ?_; refine zn ?_; refine Q0 ?_; refine Q2 ?_; refine zm ?_)
      all_goals (first | (refine Q1m ?_) | (refine Q1n ?_) | (refine Qs rfl rfl (fun hc => ?_) (fun hc => ?_)))
      all_goals (refine zn ?_)
      all_goals
        first
        | (refine Q5 rfl ?_ -- Qw c9
           all_goals (refine Q0 ?_; refine Q2 ?_; refine zm ?_; refine zm ?_; refine zn ?_; refine zr ?_; refine zf ?_)
           all_goals (first | (refine ⟨_, rfl, ?_, hS.sp⟩; (repeat (first | rw [if_pos (by omega)] | rw [if_neg (by omega)])); done) | (refine ⟨_, rfl, ?_, hS.sp⟩; ((repeat (first | rw [if_pos (by omega)] | rw [if_neg (by omega)])); rw [hd, Q7 hx1, Tys.wrong, if_pos (by assumption)]); done)))
        | (refine Q4 rfl ?_ -- Qw c9
           all_goals refine zsk ?_)
      all_goals (refine Q2 ?_; refine zad ?_; refine zm ?_; refine zn ?_; exact ⟨⟨j + 1, zh, zh, (by omega), by rw [hd, Q7 hx1, Tys.wrong, if_neg (by omega)], hS.sp⟩, Qk (by omega)⟩)
    · skip
      all_goals (refine zex ?_; refine Q0 ?_; refine Q2 ?_; refine zm ?_; refine zn ?_; refine zr ?_; refine zf ?_; (first | (refine ⟨_, rfl, ?_, hS.sp⟩; (repeat (first | rw [if_pos (by omega)] | rw [if_neg (by omega)])); done) | (refine ⟨_, rfl, ?_, hS.sp⟩; ((repeat (first | rw [if_pos (by omega)] | rw [if_neg (by omega)])); rw [hd, Q7 hx1, Tys.wrong, if_pos (by assumption)]); done) | (refine ⟨_, rfl, ?_, hS.sp⟩; ((repeat (first | rw [if_pos (by omega)] | rw [if_neg (by omega)])); rw [List.eq_nil_of_length_eq_zero (l := l) (by omega), Tys.wrong]); done) | (refine ⟨_, rfl, ?_, hS.sp⟩; ((repeat (first | rw [if_pos (by omega)] | rw [if_neg (by omega)])); rw [hd, List.drop_of_length_le (by omega), Tys.wrong]); done)))
theorem tcheck_c {t : Ty} {cx : Cx} {w : World} {L : List Res} {cs : List Value} {regs : Int} (ht : tyR.at cx cs t) (hS : St cx w L) :
    Rets Tryz.prog Q3J [.agg ⟨cs⟩, .int .i64 regs] w fun v w' => v = .int .i64 (t.fault regs) ∧ St cx w' L := by
  obtain ⟨v, rfl, hl⟩ := QG ht
  unfold Ty.fault
  all_goals refine QcN ?_
  all_goals (unfold types_Check_lc; refine Q0 ?_; refine Q2 ?_; refine zb hS ?_; intro p2 w1 hS; refine zm ?_; refine zn ?_; refine Q0 ?_; refine Q0 ?_; refine Q2 ?_; refine zv hS ?_)
  all_goals (refine zR2 (c := deep_c t ht (by omega) hS) (h := ?_); rintro v1 w1 ⟨rfl, hS⟩; cases hg : t.deepB 4)
  all_goals (refine Q1G rfl ?_; refine zn ?_)
  all_goals
    first
    | (refine Q5 rfl ?_ -- Q3J c0
       all_goals (refine Q0 ?_; refine Q2 ?_; refine zm ?_; refine zn ?_; refine zr ?_; refine zf ?_)
       all_goals (refine ⟨_, rfl, ?_, hS.sp⟩; (rfl); done))
    | (refine Q4 rfl ?_ -- Q3J c0
       all_goals refine zsk ?_)
  all_goals (refine Q0 ?_; refine Q2 ?_; refine zv hS ?_; refine zm ?_; refine zR2 (c := wrong_c t ht hS) (h := ?_); rintro v1 w1 ⟨rfl, hS⟩; refine zm ?_; refine zn ?_; refine zr ?_; refine zf ?_; refine ⟨_, rfl, ?_, hS.sp⟩; (rfl); done)
theorem depth_c : ∀ (t : Ty) {cx : Cx} {w : World} {L : List Res} {cs : List Value} {most : Int}, tyR.at cx cs t → 0 ≤ most → most ≤ 1000 → St cx w L →
    Rets Tryz.prog Q3m [.agg ⟨cs⟩, .int .i64 most] w fun v w' => v = .int .i64 (t.depth most) ∧ St cx w' L := by
  intro t
  induction t using Ty.ind with
  | h k r l ih =>
    intro cx w L cs most ht h0 h1 hS
    obtain ⟨v, rfl, hl⟩ := QG ht
    simp only [Ty.kind, Ty.r, Ty.l] at hl ht ⊢
    have hlen := hl.len
    rw [Ty.depth]
    all_goals refine Qml ?_
    all_goals (unfold R_DeepOf_lc; refine Q0 ?_; refine Q2 ?_; refine zb hS ?_; intro p2 w1 hS; refine zm ?_; refine zn ?_; refine Q0 ?_; refine Q2 ?_; refine zm ?_; refine zn ?_; refine Q0 ?_; refine Q0 ?_; refine Q2 ?_; refine zm ?_; refine zn ?_; refine Q8 ?_)
    refine zoL hS [1, 2] (fun A LL ρ' w' => ∃ (j : Nat) (n : Int), Has ρ' A ∧ Has ρ' [(5, .int .i64 n), (6, .int .i64 j)] ∧ (j ≤ l.length) ∧ (0 ≤ n) ∧ (n ≤ 1002) ∧ (Tys.depth l most 0 = Tys.depth (l.drop j) most n) ∧ St cx w' (LL)) (fun ρ' _ => (l.length - iv (ρ' 6)).toNat) ?_ ?_
    · exact ⟨0, 0, zh, zh, (by omega), (by omega), (by omega), by simp, hS.sp⟩
    rintro ρ w1 ⟨j, n, hA, hρ, hj, hn0, hn, hd, hS⟩; obtain ⟨ρ, rfl⟩ := env2 hA hρ
    unfold Qc0
    all_goals (refine Q0 ?_; refine Q0 ?_; refine Q2 ?_; refine zm ?_; refine Q1 rfl ?_; refine zl hS ?_; refine zL ?_)
    all_goals (first | (refine Q1z ?_) | (refine Q1A ?_) | (refine QK rfl rfl (fun hc => ?_) (fun hc => ?_)))
    all_goals (refine zm ?_; (first | refine s_gn rfl rfl ?_ | (refine s_gy rfl ?_; refine zm ?_)); (first | refine s_gn rfl rfl ?_ | (refine s_gy rfl ?_; refine zm ?_)))
    all_goals (first | refine s_gn rfl rfl ?_ | (refine s_gy rfl ?_; (first | (refine zleqt ?_) | (refine zleqf ?_) | (refine QnV rfl rfl (fun hc => ?_) (fun hc => ?_)))))
    all_goals ((first | (refine zpt ?_) | (refine zpf ?_)); refine zn ?_)
    all_goals
      first
      | (refine Q4 rfl ?_ -- Q3m c0
         all_goals (refine zex ?_; refine Q0 ?_; refine Q2 ?_; refine zm ?_; refine zm ?_; refine zn ?_; refine zr ?_; refine zf ?_)
         all_goals (first | (refine ⟨_, rfl, ?_, hS.sp⟩; rw [hd]; cases hx : l.drop j with | nil => exact absurd (List.drop_eq_nil_iff.1 hx) (by omega) | cons y m => rw [Tys.depth, if_pos (by omega), if_pos (by omega)]; done) | (refine ⟨_, rfl, ?_, hS.sp⟩; rw [hd, List.drop_of_length_le (by omega), Tys.depth]; done) | (refine ⟨_, rfl, ?_, hS.sp⟩; rw [hd]; cases hx : l.drop j with | nil => rw [Tys.depth] | cons y m => rw [Tys.depth, if_neg (by omega)]; done)))
      | (refine Q5 rfl ?_ -- Q3m c0
         all_goals (refine zsk ?_; refine Q0 ?_; refine Q8 ?_; refine Q0 ?_; refine Q0 ?_; refine Q2 ?_; refine zm ?_)
         all_goals (first | (refine Qq ?_) | (refine Qr ?_) | (refine Qf rfl rfl (fun hc => ?_) (fun hc => ?_)))
         all_goals (refine zn ?_)
         all_goals
           first
           | (refine Q5 rfl ?_ -- Q3m c1
              all_goals (refine Q0 ?_; refine Q2 ?_; refine zm ?_; refine zn ?_; refine zr ?_; refine zf ?_)
              all_goals (refine ⟨_, rfl, ?_, hS.sp⟩; rw [hd]; cases hx : l.drop j with | nil => exact absurd (List.drop_eq_nil_iff.1 hx) (by omega) | cons y m => rw [Tys.depth, if_pos (by omega), if_pos (by omega)]; done))
           | (refine Q4 rfl ?_ -- Q3m c1
              all_goals refine zsk ?_)
         all_goals (refine Q0 ?_; refine Q2 ?_; refine Q1 rfl ?_; refine zl hS ?_; refine zm ?_; refine zi ?_; intro b1 o1 cs1 x1 hat1 hx1 he1; obtain ⟨vl1, rfl, hl1⟩ := QG he1; (first | (refine zv hS ?_) | (refine zvk hS ?_)); refine zm ?_; refine zsu ?_; have hb := Ty.depth_rng x1 (most := most - 1) (by omega); refine zR2 (c := ih _ (List.mem_of_getElem? (by assumption)) (by assumption) (by omega) (by omega) hS) (h := ?_); rintro v1 w1 ⟨rfl, hS⟩; refine zad ?_; refine zm ?_; refine zn ?_; refine Q0 ?_; refine Q2 ?_; refine zm ?_; refine zm ?_)
         all_goals (first | (refine Qz ?_) | (refine QF ?_) | (refine Qh rfl rfl (fun hc => ?_) (fun hc => ?_)))
         all_goals (refine zn ?_)
         all_goals
           first
           | (refine Q5 rfl ?_ -- Q3m c2
              all_goals (refine Q2 ?_; refine zm ?_; refine zm ?_)
              all_goals refine zn ?_)
           | (refine Q4 rfl ?_ -- Q3m c2
              all_goals refine zsk ?_)
         all_goals (refine Q2 ?_; refine zm ?_; refine zad ?_; refine zm ?_; refine zn ?_)
         all_goals (first | (exact ⟨⟨j + 1, _, zh, zh, (by omega), (by omega), (by omega), by rw [hd, Q7 hx1, Tys.depth, if_pos (by omega), if_neg (by omega), if_pos (by omega)], hS.sp⟩, Qk (by omega)⟩) | (exact ⟨⟨j + 1, _, zh, zh, (by omega), (by omega), (by omega), by rw [hd, Q7 hx1, Tys.depth, if_pos (by omega), if_neg (by omega), if_neg (by omega)], hS.sp⟩, Qk (by omega)⟩)))
theorem rwrong_c : ∀ (t : Ty) {cx : Cx} {w : World} {L : List Res} {cs : List Value} {regs : Int}, tyR.at cx cs t → St cx w L →
    Rets Tryz.prog Q1g [.agg ⟨cs⟩, .int .i64 regs] w fun v w' => v = .int .i64 (t.wrong 8 regs) ∧ St cx w' L := by
  intro t
  induction t using Ty.ind with
  | h k r l ih =>
    intro cx w L cs regs ht hS
    obtain ⟨v, rfl, hl⟩ := QG ht
    simp only [Ty.kind, Ty.r, Ty.l] at hl ht ⊢
    have hlen := hl.len
    rw [Ty.wrong]
    all_goals refine QdT ?_
    all_goals (unfold R_typeFault_lc; refine Q0 ?_; refine Q2 ?_; refine zb hS ?_; intro p2 w1 hS; refine zm ?_; refine zn ?_; refine Q0 ?_; refine Q0 ?_; refine Q2 ?_; refine Q1 rfl ?_; refine zl hS ?_)
    all_goals (first | (refine Q1z ?_) | (refine Q1A ?_) | (refine QK rfl rfl (fun hc => ?_) (fun hc => ?_)))
    all_goals (refine zm ?_; (first | refine s_gn rfl rfl ?_ | (refine s_gy rfl ?_; refine Q1 rfl ?_)); (first | refine s_gn rfl rfl ?_ | (refine s_gy rfl ?_; refine zl hS ?_)))
    all_goals (first | refine s_gn rfl rfl ?_ | (refine s_gy rfl ?_; (first | (refine Qz ?_) | (refine QF ?_) | (refine Qh rfl rfl (fun hc => ?_) (fun hc => ?_)))))
    all_goals ((first | (refine zpt ?_) | (refine zpf ?_)); refine zn ?_)
    all_goals
      first
      | (refine Q5 rfl ?_ -- Q1g c0
         all_goals (refine Q0 ?_; refine Q2 ?_; refine zm ?_; refine zn ?_; refine zr ?_; refine zf ?_)
         all_goals (refine ⟨_, rfl, ?_, hS.sp⟩; (repeat (first | rw [if_pos (by omega)] | rw [if_neg (by omega)])); done))
      | (refine Q4 rfl ?_ -- Q1g c0
         all_goals refine zsk ?_)
    refine zML hS [1, 2] (fun A LL ρ' w' => Has ρ' A ∧ Has ρ' [] ∧ (1 ≤ k ∧ k ≤ 4 ∧ (k = 1 → r = 0) ∧ (k ≠ 3 → l.length = 0)) ∧ St cx w' (LL)) ?_ ?_
    · skip
      all_goals (refine Q0 ?_; refine Q2 ?_; refine Q1 rfl ?_; refine zl hS ?_)
      all_goals (first | (refine Qq ?_) | (refine Qr ?_) | (refine Qf rfl rfl (fun hc => ?_) (fun hc => ?_)))
      all_goals (refine zm ?_; (first | refine s_gn rfl rfl ?_ | (refine s_gy rfl ?_; refine Q1 rfl ?_)); (first | refine s_gn rfl rfl ?_ | (refine s_gy rfl ?_; refine zl hS ?_)))
      all_goals (first | refine s_gn rfl rfl ?_ | (refine s_gy rfl ?_; (first | (refine Q1m ?_) | (refine Q1n ?_) | (refine Qs rfl rfl (fun hc => ?_) (fun hc => ?_)))))
      all_goals ((first | (refine zpt ?_) | (refine zpf ?_)); refine zm ?_; (first | refine s_gn rfl rfl ?_ | (refine s_gy rfl ?_; refine Q1 rfl ?_)); (first | refine s_gn rfl rfl ?_ | (refine s_gy rfl ?_; refine zl hS ?_)))
      all_goals (first | refine s_gn rfl rfl ?_ | (refine s_gy rfl ?_; (first | (refine Q1m ?_) | (refine Q1n ?_) | (refine Qs rfl rfl (fun hc => ?_) (fun hc => ?_)))))
      all_goals ((first | refine s_gn rfl rfl ?_ | (refine s_gy rfl ?_; refine zm ?_)); (first | refine s_gn rfl rfl ?_ | (refine s_gy rfl ?_; refine Q1 rfl ?_)); (first | refine s_gn rfl rfl ?_ | (refine s_gy rfl ?_; refine zl hS ?_)); (first | refine s_gn rfl rfl ?_ | (refine s_gy rfl ?_; refine zL ?_)))
      all_goals (first | refine s_gn rfl rfl ?_ | (refine s_gy rfl ?_; (first | (refine Qz ?_) | (refine QF ?_) | (refine Qh rfl rfl (fun hc => ?_) (fun hc => ?_)))))
      all_goals ((first | refine s_gn rfl rfl ?_ | (refine s_gy rfl ?_; (first | (refine zpt ?_) | (refine zpf ?_)))); (first | (refine zpt ?_) | (refine zpf ?_)); refine zn ?_)
      all_goals
        first
        | (refine Q5 rfl ?_ -- Q1g c1
           all_goals (refine Q0 ?_; refine Q2 ?_; refine zm ?_; refine zn ?_; refine zr ?_; refine zf ?_)
           all_goals (refine ⟨_, rfl, ?_, hS.sp⟩; (repeat (first | rw [if_pos (by omega)] | rw [if_neg (by omega)])); done))
        | (refine Q4 rfl ?_ -- Q1g c1
           all_goals refine zsk ?_)
      all_goals (exact ⟨zh, zh, by omega, hS.sp⟩)
    rintro ρ w1 ⟨hA, hρ, hk, hS⟩; obtain ⟨ρ, rfl⟩ := env2 hA hρ
    all_goals (refine Q0 ?_; refine Q0 ?_; refine Q2 ?_; refine Q1 rfl ?_; refine zl hS ?_; refine zL ?_)
    all_goals (first | (refine Qz ?_) | (refine QF ?_) | (refine Qh rfl rfl (fun hc => ?_) (fun hc => ?_)))
    all_goals (refine zn ?_)
    all_goals
      first
      | (refine Q5 rfl ?_ -- Q1g c2
         all_goals (refine Q0 ?_; refine Q2 ?_; refine zm ?_; refine zn ?_; refine zr ?_; refine zf ?_)
         all_goals (refine ⟨_, rfl, ?_, hS.sp⟩; (repeat (first | rw [if_pos (by omega)] | rw [if_neg (by omega)])); done))
      | (refine Q4 rfl ?_ -- Q1g c2
         all_goals refine zsk ?_)
    refine zML hS [1, 2] (fun A LL ρ' w' => Has ρ' A ∧ Has ρ' [] ∧ (l.length ≤ 8) ∧ (k ≠ 1 → 0 ≤ r ∧ r < regs) ∧ St cx w' (LL)) ?_ ?_
    · skip
      all_goals (refine Q0 ?_; refine Q2 ?_; refine Q1 rfl ?_; refine zl hS ?_)
      all_goals (first | (refine Q1m ?_) | (refine Q1n ?_) | (refine Qs rfl rfl (fun hc => ?_) (fun hc => ?_)))
      all_goals (refine zm ?_; (first | refine s_gn rfl rfl ?_ | (refine s_gy rfl ?_; refine Q1 rfl ?_)); (first | refine s_gn rfl rfl ?_ | (refine s_gy rfl ?_; refine zl hS ?_)))
      all_goals (first | refine s_gn rfl rfl ?_ | (refine s_gy rfl ?_; (first | (refine Q1z ?_) | (refine Q1A ?_) | (refine QK rfl rfl (fun hc => ?_) (fun hc => ?_)))))
      all_goals ((first | refine s_gn rfl rfl ?_ | (refine s_gy rfl ?_; refine zm ?_)); (first | refine s_gn rfl rfl ?_ | (refine s_gy rfl ?_; refine Q1 rfl ?_)); (first | refine s_gn rfl rfl ?_ | (refine s_gy rfl ?_; refine zl hS ?_)); (first | refine s_gn rfl rfl ?_ | (refine s_gy rfl ?_; refine zm ?_)))
      all_goals (first | refine s_gn rfl rfl ?_ | (refine s_gy rfl ?_; (first | (refine Q9k ?_) | (refine Q9l ?_) | (refine Q34 rfl rfl (fun hc => ?_) (fun hc => ?_)))))
      all_goals ((first | refine s_gn rfl rfl ?_ | (refine s_gy rfl ?_; (first | (refine zpt ?_) | (refine zpf ?_)))); (first | (refine zpt ?_) | (refine zpf ?_)); refine zn ?_)
      all_goals
        first
        | (refine Q5 rfl ?_ -- Q1g c3
           all_goals (refine Q0 ?_; refine Q2 ?_; refine zm ?_; refine zn ?_; refine zr ?_; refine zf ?_)
           all_goals (refine ⟨_, rfl, ?_, hS.sp⟩; (repeat (first | rw [if_pos (by omega)] | rw [if_neg (by omega)])); done))
        | (refine Q4 rfl ?_ -- Q1g c3
           all_goals refine zsk ?_)
      all_goals (exact ⟨zh, zh, by omega, by omega, hS.sp⟩)
    rintro ρ w1 ⟨hA, hρ, hk2, hk3, hS⟩; obtain ⟨ρ, rfl⟩ := env2 hA hρ
    all_goals (refine Q0 ?_; refine Q0 ?_; refine Q2 ?_; refine zm ?_; refine zn ?_; refine Q8 ?_)
    refine zoL hS [1, 2] (fun A LL ρ' w' => ∃ (j : Nat), Has ρ' A ∧ Has ρ' [(5, .int .i64 j)] ∧ (j ≤ l.length) ∧ (Tys.wrong 8 l regs = Tys.wrong 8 (l.drop j) regs) ∧ St cx w' (LL)) (fun ρ' _ => (l.length - iv (ρ' 5)).toNat) ?_ ?_
    · exact ⟨0, zh, zh, (by omega), by simp, hS.sp⟩
    rintro ρ w1 ⟨j, hA, hρ, hj, hd, hS⟩; obtain ⟨ρ, rfl⟩ := env2 hA hρ
    unfold Q4u
    all_goals (refine Q0 ?_; refine Q0 ?_; refine Q2 ?_; refine zm ?_; refine Q1 rfl ?_; refine zl hS ?_; refine zL ?_; refine Qp rfl rfl ?_; refine zn ?_)
    refine Ql rfl (fun hc => ?_) (fun hc => ?_)
    · skip
      all_goals (refine zsk ?_; refine Q0 ?_; refine Q8 ?_; refine Q0 ?_; refine Q2 ?_; refine Q1 rfl ?_; refine zl hS ?_; refine zm ?_; refine zi ?_; intro b1 o1 cs1 x1 hat1 hx1 he1; obtain ⟨vl1, rfl, hl1⟩ := QG he1; (first | (refine zv hS ?_) | (refine zvk hS ?_)); refine zm ?_; refine zR2 (c := ih _ (List.mem_of_getElem? (by assumption)) (by assumption) hS) (h := ?_); rintro v1 w1 ⟨rfl, hS⟩; refine zm ?_; refine zn ?_; refine Q0 ?_; refine Q2 ?_; refine zm ?_)
      all_goals (first | (refine Q1m ?_) | (refine Q1n ?_) | (refine Qs rfl rfl (fun hc => ?_) (fun hc => ?_)))
      all_goals (refine zn ?_)
      all_goals
        first
        | (refine Q5 rfl ?_ -- Q1g c5
           all_goals (refine Q0 ?_; refine Q2 ?_; refine zm ?_; refine zm ?_; refine zn ?_; refine zr ?_; refine zf ?_)
           all_goals (first | (refine ⟨_, rfl, ?_, hS.sp⟩; (repeat (first | rw [if_pos (by omega)] | rw [if_neg (by omega)])); done) | (refine ⟨_, rfl, ?_, hS.sp⟩; ((repeat (first | rw [if_pos (by omega)] | rw [if_neg (by omega)])); rw [hd, Q7 hx1, Tys.wrong, if_pos (by assumption)]); done)))
        | (refine Q4 rfl ?_ -- Q1g c5
           all_goals refine zsk ?_)
      all_goals (refine Q2 ?_; refine zm ?_; refine zad ?_; refine zm ?_; refine zn ?_; exact ⟨⟨j + 1, zh, zh, (by omega), by rw [hd, Q7 hx1, Tys.wrong, if_neg (by omega)], hS.sp⟩, Qk (by omega)⟩)
    · skip
      all_goals (refine zex ?_; refine Q0 ?_; refine Q2 ?_; refine zm ?_; refine zn ?_; refine zr ?_; refine zf ?_; (first | (refine ⟨_, rfl, ?_, hS.sp⟩; (repeat (first | rw [if_pos (by omega)] | rw [if_neg (by omega)])); done) | (refine ⟨_, rfl, ?_, hS.sp⟩; ((repeat (first | rw [if_pos (by omega)] | rw [if_neg (by omega)])); rw [hd, Q7 hx1, Tys.wrong, if_pos (by assumption)]); done) | (refine ⟨_, rfl, ?_, hS.sp⟩; ((repeat (first | rw [if_pos (by omega)] | rw [if_neg (by omega)])); rw [hd, List.drop_of_length_le (by omega), Tys.wrong]); done)))
theorem Qo4 {t : Ty} {cx : Cx} {w : World} {L : List Res} {cs : List Value} {regs : Int} (ht : tyR.at cx cs t) (hS : St cx w L) :
    Rets Tryz.prog Q3S [.agg ⟨cs⟩, .int .i64 regs] w fun v w' => v = .int .i64 (t.fault regs) ∧ St cx w' L := by
  obtain ⟨v, rfl, hl⟩ := QG ht
  have hdp := Ty.depth_iff t (most := 4) (by omega)
  unfold Ty.fault
  all_goals refine Qef ?_
  all_goals (unfold R_TypeFault_lc; refine Q0 ?_; refine Q2 ?_; refine zb hS ?_; intro p2 w1 hS; refine zm ?_; refine zn ?_; refine Q0 ?_; refine Q0 ?_; refine Q2 ?_; refine zv hS ?_; refine zR2 (c := depth_c t ht (by omega) (by omega) hS) (h := ?_); rintro v1 w1 ⟨rfl, hS⟩)
  all_goals (first | (refine Qz ?_) | (refine QF ?_) | (refine Qh rfl rfl (fun hc => ?_) (fun hc => ?_)))
  all_goals (refine zn ?_)
  all_goals
    first
    | (refine Q5 rfl ?_ -- Q3S c0
       all_goals (refine Q0 ?_; refine Q2 ?_; refine zm ?_; refine zn ?_; refine zr ?_; refine zf ?_)
       all_goals (refine ⟨_, rfl, ?_, hS.sp⟩; (rw [if_pos]; cases hg : t.deepB 4 <;> simp_all <;> omega); done))
    | (refine Q4 rfl ?_ -- Q3S c0
       all_goals refine zsk ?_)
  all_goals (refine Q0 ?_; refine Q2 ?_; refine zv hS ?_; refine zm ?_; refine zR2 (c := rwrong_c t ht hS) (h := ?_); rintro v1 w1 ⟨rfl, hS⟩; refine zm ?_; refine zn ?_; refine zr ?_; refine zf ?_)
  all_goals (first | (refine ⟨_, rfl, ?_, hS.sp⟩; (rw [if_pos]; cases hg : t.deepB 4 <;> simp_all <;> omega); done) | (refine ⟨_, rfl, ?_, hS.sp⟩; (rw [if_neg]; cases hg : t.deepB 4 <;> simp_all <;> omega); done))
end Go.Proofs.YtjecflbbcnocdaaGreatDoor
namespace Go.Proofs.YtjecflbbcnocdaaGreatDoor
open Go.Lir
set_option maxRecDepth 100000
theorem el_T22 : Q2u Tryz.prog 22 = some (43, 4, 80, [(.int .i64 0), (.slice none 0 0), (.slice none 0 0), (.slice none 0 0)]) := by kernel_rfl
theorem u_T22 : ∃ e2, Tryz.prog.underlying 22 = some (.slice e2) := ⟨43, by kernel_rfl⟩
theorem el_T40 : Q2u Tryz.prog 40 = some (91, 3, 40, [(.int .i64 0), (.int .i64 0), (.slice none 0 0)]) := by kernel_rfl
theorem u_T40 : ∃ e2, Tryz.prog.underlying 40 = some (.slice e2) := ⟨91, by kernel_rfl⟩
theorem el_T41 : Q2u Tryz.prog 41 = some (52, 12, 208, [(.int .i64 0), (.slice none 0 0), (.slice none 0 0), (.int .i64 0), (.int .i64 0), (.int .i64 0), (.slice none 0 0), (.slice none 0 0), (.int .i64 0), (.slice none 0 0), (.slice none 0 0), (.slice none 0 0)]) := by kernel_rfl
theorem u_T41 : ∃ e2, Tryz.prog.underlying 41 = some (.slice e2) := ⟨52, by kernel_rfl⟩
theorem el_T45 : Q2u Tryz.prog 45 = some (54, 8, 96, [(.int .i64 0), (.int .i64 0), (.int .i64 0), (.int .i64 0), (.int .i64 0), (.int .i64 0), (.slice none 0 0), (.slice none 0 0)]) := by kernel_rfl
theorem u_T45 : ∃ e2, Tryz.prog.underlying 45 = some (.slice e2) := ⟨54, by kernel_rfl⟩
theorem el_T46 : Q2u Tryz.prog 46 = some (3, 1, 8, [(.int .i64 0)]) := by kernel_rfl
theorem u_T46 : ∃ e2, Tryz.prog.underlying 46 = some (.slice e2) := ⟨3, by kernel_rfl⟩
theorem Q1r : Q2u Tryz.prog 86 = some (9, 1, 16, [(.string ⟨#[]⟩)]) := by kernel_rfl
theorem Q2q : ∃ e2, Tryz.prog.underlying 86 = some (.slice e2) := ⟨9, by kernel_rfl⟩
theorem el_T105 : Q2u Tryz.prog 105 = some (5, 1, 1, [(.int .u8 0)]) := by kernel_rfl
end Go.Proofs.YtjecflbbcnocdaaGreatDoor
namespace Go.Proofs.YtjecflbbcnocdaaGreatDoor
open Go.Lir
set_option maxHeartbeats 1000000
attribute [local irreducible] LC.wp Q3 QW Q13 retQ Q2i LO.wp Qv Calls
set_option linter.unusedSimpArgs false
set_option linter.unusedVariables false
theorem Qmz {l : List Ty} (hlen : l.length ≤ 100000) (ih : ∀ x ∈ l, ∀ {cx : Cx} {w : World} {L : List Res} {cs : List Value}, tyR.at cx cs x → St cx w L → Rets Tryz.prog Qbt [.agg ⟨cs⟩] w fun u w' => ∃ c' ds, u = .agg ⟨ds⟩ ∧ cx.Le c' ∧ tyR.at c' ds x ∧ St c' w' L)
    {cx : Cx} {w : World} {L : List Res} {v : Value} (hl : tyR.sl cx v l) (hS : St cx w L) : Rets Tryz.prog Q7I [v] w fun u w' => ∃ c', cx.Le c' ∧ tyR.sl c' u l ∧ St c' w' L := by
  all_goals refine QiH ?_
  all_goals (unfold R_OwnTypes_lc; refine Q0 ?_; refine Q2 ?_; refine zm ?_; refine zn ?_; refine Q0 ?_; refine Q2 ?_; refine zm ?_; refine zn ?_; refine Q0 ?_; refine Q0 ?_; refine Q2 ?_; refine zm ?_; refine zn ?_; refine Q8 ?_)
  refine zoL hS [0] (fun A LL ρ' w' => ∃ (c1 : Cx) (j : Nat) (u : Value) (css : List (List Value)), Has ρ' A ∧ Has ρ' [(3, u), (4, .int .i64 j)] ∧ (cx.Le c1) ∧ (j ≤ l.length) ∧ (tyR.ls c1 css (l.take j)) ∧ (oneC u = true) ∧ St c1 w' (sl 91 3 u css :: LL)) (fun ρ' _ => (l.length - iv (ρ' 4)).toNat) ?_ ?_
  · exact ⟨cx, 0, .slice none 0 0, [], zh, zh, St.refl hS, (by omega), Rep.LR.nil _ _ _, rfl, by have hS := hS.nil (T := 91) (es := 3); exact hS⟩
  rintro ρ w1 ⟨c1, j, u, css, hA, hρ, hle, hj, hls, hu, hS⟩; obtain ⟨ρ, rfl⟩ := env2 hA hρ; have hl := Rep.SR.up hl hle
  unfold Q6X
  all_goals (refine Q0 ?_; refine Q0 ?_; refine Q2 ?_; refine zm ?_; refine zm ?_; refine zL ?_; refine Qp rfl rfl ?_; refine zn ?_)
  refine Ql rfl (fun hc => ?_) (fun hc => ?_)
  · skip
    all_goals (refine zsk ?_; refine Q0 ?_; refine Q8 ?_; refine Q2 ?_; refine zm ?_; refine zm ?_; refine zm ?_; refine zi ?_; intro b1 o1 cs1 x1 hat1 hx1 he1; obtain ⟨vl1, rfl, hl1⟩ := QG he1; (first | (refine zv hS ?_) | (refine zvk hS ?_)); refine zR1 (c := ih _ (List.mem_of_getElem? hx1) he1 hS) (h := ?_); rintro v1 w1 ⟨c2, ds, rfl, hle2, hd, hS⟩; obtain ⟨v2, rfl, hv2⟩ := QG hd; have hls := Rep.LR.up hls hle2; refine zB1 hS [_, _, _] ?_; intro b1 w1 hS; refine za el_T40 u_T40 hS ?_; intro vp1 w1 css1 hls1 hv1 hS; have hS := hS.ns; refine zm ?_; refine zn ?_; refine Q2 ?_; refine zm ?_; refine zad ?_; refine zm ?_; refine zn ?_; exact ⟨⟨c2, j + 1, _, _, zh, zh, hle.trans hle2, (by omega), by rw [Q1T hx1]; assumption, by assumption, hS.sp⟩, Qk (by omega)⟩)
  · skip
    all_goals (refine zex ?_; refine Q0 ?_; refine Q2 ?_; refine zm ?_; refine zm ?_; refine zn ?_; refine zr ?_; refine zf ?_; obtain ⟨c3, hle3, hS, hl3⟩ := St.freezeL (r := tyR) (l := l) (T := 91) (es := 3) (v := u) (css := css) (L := L) hS.sp (by rw [List.take_of_length_le (by omega)] at hls; exact hls) rfl (by omega); exact ⟨_, rfl, c3, hle.trans hle3, hl3, hS⟩)
theorem rown_c : ∀ (t : Ty), t.Short → ∀ {cx : Cx} {w : World} {L : List Res} {cs : List Value}, tyR.at cx cs t → St cx w L →
    Rets Tryz.prog Qbt [.agg ⟨cs⟩] w fun u w' => ∃ c' ds, u = .agg ⟨ds⟩ ∧ cx.Le c' ∧ tyR.at c' ds t ∧ St c' w' L := by
  intro t
  induction t using Ty.ind with
  | h k r l ih =>
    intro hs cx w L cs ht hS
    obtain ⟨v, rfl, hl⟩ := QG ht
    simp only [Ty.kind, Ty.r, Ty.l] at hl ht ⊢
    obtain ⟨hlen, hsub⟩ := hs.parts
    all_goals refine Qky ?_
    all_goals (unfold R_OwnType_lc; refine Q0 ?_; refine Q2 ?_; refine zb hS ?_; intro p1 w1 hS; refine Qc hS ?_; intro p2 w1 hS; refine zn ?_; refine Q0 ?_; refine zC [(0, none), (1, none), (2, none), (3, none), (4, none), (5, none), (6, some (some [1, 3])), (7, none), (8, some none)] ?_; have hS := hS.drew; refine s_cq ?_; refine Q1 rfl ?_; refine zt ?_; refine s_cq ?_; refine zl hS ?_; refine zt ?_; refine s_cq ?_; refine Q1 rfl ?_; refine zt ?_; refine s_cq ?_; refine zl hS ?_; refine zt ?_; refine s_cq ?_; refine Q1 rfl ?_; refine zt ?_; refine s_cq ?_; refine zl hS ?_; refine zt ?_; refine Qx ?_; refine zR1 (c := Qmz hlen (fun x hx => ih x hx (hsub x hx)) hl hS) (h := ?_); rintro v1 w1 ⟨c1, hle, hl1, hS⟩; obtain ⟨a1, n1, rfl⟩ := Rep.SR.shape hl1; refine zt ?_; refine zy ?_; refine s_cq ?_; refine zb3 [_, _, _] ?_; refine zt ?_; refine s_cf ?_; refine zsn hS ?_; intro w1 hS; have hS := hS.ns; refine zt ?_; refine zcn ?_; refine zr ?_; refine Q2c vw (Qe (n := 3) (by kernel_rfl) (by kernel_rfl) (hS.blkAt fd) (by rfl) (by rfl)) ?_; exact ⟨_, rfl, c1, _, rfl, hle, tyR_mk hl1, hS.sp⟩)
theorem Q49 {l : List Ty} (hlen : l.length ≤ 100000) (hs : ∀ x ∈ l, x.Short) {cx : Cx} {w : World} {L : List Res} {v : Value} (hl : tyR.sl cx v l) (hS : St cx w L) : Rets Tryz.prog Q7I [v] w fun u w' => ∃ c', cx.Le c' ∧ tyR.sl c' u l ∧ St c' w' L :=
  Qmz hlen (fun x hx => rown_c x (hs x hx)) hl hS
end Go.Proofs.YtjecflbbcnocdaaGreatDoor
namespace Go.Proofs.YtjecflbbcnocdaaGreatDoor
open Go.Lir
set_option maxHeartbeats 1000000
attribute [local irreducible] LC.wp Q3 QW Q13 retQ Q2i LO.wp Qv Calls
set_option linter.unusedSimpArgs false
set_option linter.unusedVariables false
theorem Qjr {l : List Ty} (ih : ∀ x ∈ l, ∀ (y : Ty) {cx : Cx} {w : World} {L : List Res} {cs ds : List Value}, tyR.at cx cs x → tyR.at cx ds y → St cx w L → Rets Tryz.prog Q7H [.agg ⟨cs⟩, .agg ⟨ds⟩] w fun u w' => u = .bool (decide (x = y)) ∧ St cx w' L)
    {m : List Ty} {cx : Cx} {w : World} {L : List Res} {v v2 : Value} (hl : tyR.sl cx v l) (hm : tyR.sl cx v2 m) (hS : St cx w L) : Rets Tryz.prog Q2l [v, v2] w fun u w' => u = .bool (decide (l = m)) ∧ St cx w' L := by
  have hlen := hl.len
  all_goals refine Qep ?_
  all_goals (unfold R_SameTypes_lc; refine Q0 ?_; refine Q2 ?_; refine zm ?_; refine zn ?_; refine Q0 ?_; refine Q0 ?_; refine Q2 ?_; refine zm ?_; refine zL ?_; refine zm ?_; refine zL ?_)
  all_goals (first | (refine Q1m ?_) | (refine Q1n ?_) | (refine Qs rfl rfl (fun hc => ?_) (fun hc => ?_)))
  all_goals (refine zn ?_)
  all_goals
    first
    | (refine Q5 rfl ?_ -- Q2l c0
       all_goals (refine Q0 ?_; refine Q2 ?_; refine zm ?_; refine zn ?_; refine zr ?_; refine zf ?_)
       all_goals (refine ⟨_, rfl, ?_, hS.sp⟩; rw [decide_eq_false]; exact fun e => absurd (congrArg List.length e) (by omega); done))
    | (refine Q4 rfl ?_ -- Q2l c0
       all_goals refine zsk ?_)
  all_goals (refine Q0 ?_; refine Q0 ?_; refine Q2 ?_; refine zm ?_; refine zn ?_; refine Q8 ?_)
  refine zoL hS [0, 1] (fun A LL ρ' w' => ∃ (j : Nat), Has ρ' A ∧ Has ρ' [(5, .int .i64 j)] ∧ (j ≤ l.length) ∧ (l.length = m.length) ∧ (l = m ↔ l.drop j = m.drop j) ∧ St cx w' (LL)) (fun ρ' _ => (l.length - iv (ρ' 5)).toNat) ?_ ?_
  · exact ⟨0, zh, zh, (by omega), (by omega), by simp, hS.sp⟩
  rintro ρ w1 ⟨j, hA, hρ, hj, hlm, hd, hS⟩; obtain ⟨ρ, rfl⟩ := env2 hA hρ
  unfold Q59
  all_goals (refine Q0 ?_; refine Q0 ?_; refine Q2 ?_; refine zm ?_; refine zm ?_; refine zL ?_; refine Qp rfl rfl ?_; refine zn ?_)
  refine Ql rfl (fun hc => ?_) (fun hc => ?_)
  · skip
    all_goals (refine zsk ?_; refine Q0 ?_; refine Q8 ?_; refine Q0 ?_; refine zD [(0, none), (1, none), (2, none), (3, none), (4, none), (5, none), (6, none), (7, none), (8, some none), (9, some none)] ?_; have hS := hS.drew; refine zm ?_; refine zm ?_; refine zi ?_; intro b1 o1 cs1 x1 hat1 hx1 he1; obtain ⟨vl1, rfl, hl1⟩ := QG he1; (first | (refine zv hS ?_) | (refine zvk hS ?_)); refine zm ?_; refine zm ?_; refine zi ?_; intro b2 o2 cs2 x2 hat2 hx2 he2; obtain ⟨vl2, rfl, hl2⟩ := QG he2; (first | (refine zv hS ?_) | (refine zvk hS ?_)))
    all_goals (refine zR2 (c := ih _ (List.mem_of_getElem? hx1) _ he1 he2 hS) (h := ?_); rintro v1 w1 ⟨rfl, hS⟩; (cases hdec : decide (x1 = x2)); have hg := of_decide_eq_false hdec; rotate_left; have hg := of_decide_eq_true hdec; all_goals skip)
    all_goals (refine Q1G rfl ?_; refine zn ?_)
    all_goals
      first
      | (refine Q5 rfl ?_ -- Q2l c2
         all_goals (refine Q0 ?_; refine Q2 ?_; refine zm ?_; refine zn ?_; refine zr ?_; refine zf ?_)
         all_goals (first | (refine ⟨_, rfl, ?_, hS.sp⟩; rw [decide_eq_false]; exact fun e => absurd (congrArg List.length e) (by omega); done) | (refine ⟨_, rfl, ?_, hS.sp⟩; rw [decide_eq_false]; rw [hd, Q7 hx1, Q7 hx2]; simp [hg]; done)))
      | (refine Q4 rfl ?_ -- Q2l c2
         all_goals refine zsk ?_)
    all_goals (refine Q2 ?_; refine zm ?_; refine zad ?_; refine zm ?_; refine zn ?_; exact ⟨⟨j + 1, zh, zh, (by omega), (by omega), by rw [hd, Q7 hx1, Q7 hx2, hg]; simp, hS.sp⟩, Qk (by omega)⟩)
  · skip
    all_goals (refine zex ?_; refine Q0 ?_; refine Q2 ?_; refine zm ?_; refine zn ?_; refine zr ?_; refine zf ?_; (first | (refine ⟨_, rfl, ?_, hS.sp⟩; rw [decide_eq_false]; exact fun e => absurd (congrArg List.length e) (by omega); done) | (refine ⟨_, rfl, ?_, hS.sp⟩; rw [decide_eq_false]; rw [hd, Q7 hx1, Q7 hx2]; simp [hg]; done) | (refine ⟨_, rfl, ?_, hS.sp⟩; rw [decide_eq_true]; rw [hd, List.drop_of_length_le (by omega), List.drop_of_length_le (by omega)]; done)))
theorem rsame_c : ∀ (t u : Ty) {cx : Cx} {w : World} {L : List Res} {cs ds : List Value}, tyR.at cx cs t → tyR.at cx ds u → St cx w L →
    Rets Tryz.prog Q7H [.agg ⟨cs⟩, .agg ⟨ds⟩] w fun v w' => v = .bool (decide (t = u)) ∧ St cx w' L := by
  intro t
  induction t using Ty.ind with
  | h k r l ih =>
    rintro ⟨k2, r2, m⟩ cx w L cs ds ht hu hS
    obtain ⟨v, rfl, hl⟩ := QG ht
    obtain ⟨v2, rfl, hm⟩ := QG hu
    simp only [Ty.kind, Ty.r, Ty.l, Ty.mk.injEq] at hl hm ht hu ⊢
    all_goals refine Qia ?_
    all_goals (unfold R_SameType_lc; refine Q0 ?_; refine Q2 ?_; refine zb hS ?_; intro p2 w1 hS; refine zb hS ?_; intro p3 w1 hS; refine zm ?_; refine zn ?_; refine Q0 ?_; refine Q2 ?_; refine Q1 rfl ?_; refine zl hS ?_; refine Q1 rfl ?_; refine zl hS ?_)
    all_goals (first | (refine Qq ?_) | (refine Qr ?_) | (refine Qf rfl rfl (fun hc => ?_) (fun hc => ?_)))
    all_goals (refine zm ?_; (first | refine s_gn rfl rfl ?_ | (refine s_gy rfl ?_; refine Q1 rfl ?_)); (first | refine s_gn rfl rfl ?_ | (refine s_gy rfl ?_; refine zl hS ?_)); (first | refine s_gn rfl rfl ?_ | (refine s_gy rfl ?_; refine Q1 rfl ?_)); (first | refine s_gn rfl rfl ?_ | (refine s_gy rfl ?_; refine zl hS ?_)))
    all_goals (first | refine s_gn rfl rfl ?_ | (refine s_gy rfl ?_; (first | (refine Qq ?_) | (refine Qr ?_) | (refine Qf rfl rfl (fun hc => ?_) (fun hc => ?_)))))
    all_goals ((first | (refine zpt ?_) | (refine zpf ?_)); refine zm ?_; (first | refine s_gn rfl rfl ?_ | (refine s_gy rfl ?_; refine Q1 rfl ?_)); (first | refine s_gn rfl rfl ?_ | (refine s_gy rfl ?_; refine zl hS ?_)); (first | refine s_gn rfl rfl ?_ | (refine s_gy rfl ?_; refine Q1 rfl ?_)); (first | refine s_gn rfl rfl ?_ | (refine s_gy rfl ?_; refine zl hS ?_)); (first | refine s_gn rfl rfl ?_ | (refine s_gy rfl ?_; refine zR2 (c := Qjr ih hl hm hS) (h := ?_); rintro v1 w1 ⟨rfl, hS⟩)); (first | (refine zpt ?_) | (refine zpf ?_)); refine zm ?_; refine zn ?_; refine zr ?_; refine zf ?_; refine ⟨_, rfl, ?_, hS.sp⟩; (simp [*]); done)
theorem Q4G {l m : List Ty} {cx : Cx} {w : World} {L : List Res} {v v2 : Value} (hl : tyR.sl cx v l) (hm : tyR.sl cx v2 m) (hS : St cx w L) : Rets Tryz.prog Q2l [v, v2] w fun u w' => u = .bool (decide (l = m)) ∧ St cx w' L :=
  Qjr (fun x _ => rsame_c x) hl hm hS
/-- slices.EqualFunc, by a function that tells whether two are the same. -/
theorem eqfT_c {l : List Ty} {f : FuncId} (hf : Q6p Tryz.prog f = true) {m : List Ty} {cx : Cx} {w : World} {L : List Res} {v v2 : Value}
    (hcall : ∀ x ∈ l, ∀ y ∈ m, ∀ {w : World} {L : List Res} {cs ds : List Value}, tyR.at cx cs x → tyR.at cx ds y → St cx w L → Rets Tryz.prog f [.agg ⟨cs⟩, .agg ⟨ds⟩] w fun u w' => u = .bool (decide (x = y)) ∧ St cx w' L)
    (hl : tyR.sl cx v l) (hm : tyR.sl cx v2 m) (hS : St cx w L) : Rets Tryz.prog Qb [v, v2, .func (.func f) #[] #[]] w fun u w' => u = .bool (decide (l = m)) ∧ St cx w' L := by
  have hlen := hl.len
  all_goals refine Q1e ?_
  all_goals (unfold slices_EqualFunc_api_Type_api_Type_api_Type_api_Type_lc; refine Q0 ?_; refine Q2 ?_; refine zm ?_; refine zn ?_; refine Q0 ?_; refine Q0 ?_; refine Q2 ?_; refine zm ?_; refine zL ?_; refine zm ?_; refine zL ?_)
  all_goals (first | (refine Q1m ?_) | (refine Q1n ?_) | (refine Qs rfl rfl (fun hc => ?_) (fun hc => ?_)))
  all_goals (refine zn ?_)
  all_goals
    first
    | (refine Q5 rfl ?_ -- Qb c0
       all_goals (refine Q0 ?_; refine Q2 ?_; refine zm ?_; refine zn ?_; refine zr ?_; refine zf ?_)
       all_goals (refine ⟨_, rfl, ?_, hS.sp⟩; rw [decide_eq_false]; exact fun e => absurd (congrArg List.length e) (by omega); done))
    | (refine Q4 rfl ?_ -- Qb c0
       all_goals refine zsk ?_)
  all_goals (refine Q0 ?_; refine Q0 ?_; refine Q2 ?_; refine zm ?_; refine zL ?_; refine zm ?_; refine zn ?_; refine Q8 ?_)
  refine zoL hS [1, 2, 15, 16] (fun A LL ρ' w' => ∃ (j : Nat), Has ρ' A ∧ Has ρ' [(17, .int .i64 j)] ∧ (j ≤ l.length) ∧ (l.length = m.length) ∧ (l = m ↔ l.drop j = m.drop j) ∧ St cx w' (LL)) (fun ρ' _ => (l.length - iv (ρ' 17)).toNat) ?_ ?_
  · exact ⟨0, zh, zh, (by omega), (by omega), by simp, hS.sp⟩
  rintro ρ w1 ⟨j, hA, hρ, hj, hlm, hd, hS⟩; obtain ⟨ρ, rfl⟩ := env2 hA hρ
  unfold QA
  all_goals (refine Q0 ?_; refine Q2 ?_; refine Qp rfl rfl ?_; refine zn ?_; refine Q0 ?_)
  refine Ql rfl (fun hc => ?_) (fun hc => ?_)
  · skip
    all_goals (refine zsk ?_; refine Q0 ?_; refine Q8 ?_; refine Q0 ?_; refine Q2 ?_; refine zm ?_; refine zi ?_; intro b1 o1 cs1 x1 hat1 hx1 he1; obtain ⟨vl1, rfl, hl1⟩ := QG he1; (first | (refine zv hS ?_) | (refine zvk hS ?_)); refine Qc hS ?_; intro p8 w1 hS; refine zm ?_; refine zsn hS ?_; intro w1 hS; have hS := hS.ns; refine zn ?_; refine Q0 ?_; refine Q2 ?_; refine zm ?_; refine zm ?_; refine zi ?_; intro b2 o2 cs2 x2 hat2 hx2 he2; obtain ⟨vl2, rfl, hl2⟩ := QG he2; (first | (refine zv hS ?_) | (refine zvk hS ?_)); refine Qc hS ?_; intro p9 w1 hS; refine zsn hS ?_; intro w1 hS; have hS := hS.ns; refine zn ?_; refine Q0 ?_; refine Q2 ?_; refine zm ?_; refine zv hS ?_; refine zv hS ?_)
    all_goals (refine QnQ rfl hf (by rfl) (hcall _ (List.mem_of_getElem? hx1) _ (List.mem_of_getElem? hx2) he1 he2 hS) ?_; rintro v1 w1 ⟨rfl, hS⟩; (cases hdec : decide (x1 = x2)); have hg := of_decide_eq_false hdec; rotate_left; have hg := of_decide_eq_true hdec; all_goals skip)
    all_goals (refine Q1G rfl ?_; refine zn ?_)
    all_goals
      first
      | (refine Q5 rfl ?_ -- Qb c2
         all_goals (refine Q0 ?_; refine Q2 ?_; refine zm ?_; refine zn ?_; refine zr ?_; refine zf ?_)
         all_goals (first | (refine ⟨_, rfl, ?_, hS.sp⟩; rw [decide_eq_false]; exact fun e => absurd (congrArg List.length e) (by omega); done) | (refine ⟨_, rfl, ?_, hS.sp⟩; rw [decide_eq_false]; rw [hd, Q7 hx1, Q7 hx2]; simp [hg]; done)))
      | (refine Q4 rfl ?_ -- Qb c2
         all_goals refine zsk ?_)
    all_goals (refine Q2 ?_; refine zad ?_; refine zm ?_; refine zn ?_; exact ⟨⟨j + 1, zh, zh, (by omega), (by omega), by rw [hd, Q7 hx1, Q7 hx2, hg]; simp, hS.sp⟩, Qk (by omega)⟩)
  · skip
    all_goals (refine zex ?_; refine Q0 ?_; refine Q2 ?_; refine zm ?_; refine zn ?_; refine zr ?_; refine zf ?_; (first | (refine ⟨_, rfl, ?_, hS.sp⟩; rw [decide_eq_false]; exact fun e => absurd (congrArg List.length e) (by omega); done) | (refine ⟨_, rfl, ?_, hS.sp⟩; rw [decide_eq_false]; rw [hd, Q7 hx1, Q7 hx2]; simp [hg]; done) | (refine ⟨_, rfl, ?_, hS.sp⟩; rw [decide_eq_true]; rw [hd, List.drop_of_length_le (by omega), List.drop_of_length_le (by omega)]; done)))
theorem psame_c : ∀ (t u : Ty) {cx : Cx} {w : World} {L : List Res} {cs ds : List Value}, tyR.at cx cs t → tyR.at cx ds u → St cx w L →
    Rets Tryz.prog Qfe [.agg ⟨cs⟩, .agg ⟨ds⟩] w fun v w' => v = .bool (decide (t = u)) ∧ St cx w' L := by
  intro t
  induction t using Ty.ind with
  | h k r l ih =>
    rintro ⟨k2, r2, m⟩ cx w L cs ds ht hu hS
    obtain ⟨v, rfl, hl⟩ := QG ht
    obtain ⟨v2, rfl, hm⟩ := QG hu
    simp only [Ty.kind, Ty.r, Ty.l, Ty.mk.injEq] at hl hm ht hu ⊢
    all_goals refine QfY ?_
    all_goals (unfold types_Same_lc; refine Q0 ?_; refine Q2 ?_; refine zb hS ?_; intro p2 w1 hS; refine zb hS ?_; intro p3 w1 hS; refine zm ?_; refine zn ?_; refine Q0 ?_; refine Q2 ?_; refine Q1 rfl ?_; refine zl hS ?_; refine Q1 rfl ?_; refine zl hS ?_)
    all_goals (first | (refine Qq ?_) | (refine Qr ?_) | (refine Qf rfl rfl (fun hc => ?_) (fun hc => ?_)))
    all_goals (refine zm ?_; (first | refine s_gn rfl rfl ?_ | (refine s_gy rfl ?_; refine Q1 rfl ?_)); (first | refine s_gn rfl rfl ?_ | (refine s_gy rfl ?_; refine zl hS ?_)); (first | refine s_gn rfl rfl ?_ | (refine s_gy rfl ?_; refine Q1 rfl ?_)); (first | refine s_gn rfl rfl ?_ | (refine s_gy rfl ?_; refine zl hS ?_)))
    all_goals (first | refine s_gn rfl rfl ?_ | (refine s_gy rfl ?_; (first | (refine Qq ?_) | (refine Qr ?_) | (refine Qf rfl rfl (fun hc => ?_) (fun hc => ?_)))))
    all_goals ((first | (refine zpt ?_) | (refine zpf ?_)); refine zm ?_; (first | refine s_gn rfl rfl ?_ | (refine s_gy rfl ?_; refine Q1 rfl ?_)); (first | refine s_gn rfl rfl ?_ | (refine s_gy rfl ?_; refine zl hS ?_)); (first | refine s_gn rfl rfl ?_ | (refine s_gy rfl ?_; refine Q1 rfl ?_)); (first | refine s_gn rfl rfl ?_ | (refine s_gy rfl ?_; refine zl hS ?_)); (first | refine s_gn rfl rfl ?_ | (refine s_gy rfl ?_; refine zR3 (c := eqfT_c (by kernel_rfl) (fun x hx y _ {_ _ _ _} h1 h2 h3 => ih x hx y h1 h2 h3) hl hm hS) (h := ?_); rintro v1 w1 ⟨rfl, hS⟩)); (first | (refine zpt ?_) | (refine zpf ?_)); refine zm ?_; refine zn ?_; refine zr ?_; refine zf ?_; refine ⟨_, rfl, ?_, hS.sp⟩; (simp [*]); done)
end Go.Proofs.YtjecflbbcnocdaaGreatDoor
namespace Go.Lir
set_option linter.unusedVariables false
mutual
/-- Text -/
def Ty.txt : Ty → List UInt8
  | .mk k r l => if k = 2 then [104, 97, 110, 100, 108, 101, 32] ++ Lib.itoa r else if k = 4 then [97, 114, 114, 97, 121, 32] ++ Lib.itoa r else if k = 3 then [116, 117, 112, 108, 101, 32] ++ Lib.itoa r ++ [32, 40] ++ Lib.join (Tys.txts l) [44, 32] ++ [41] else [105, 110, 116]
def Tys.txts : List Ty → List (List UInt8)
  | [] => []
  | x :: l => x.txt :: Tys.txts l
end
theorem Tys.txts_map : ∀ (l : List Ty), Tys.txts l = l.map Ty.txt
  | [] => by rw [Tys.txts]; rfl
  | x :: l => by rw [Tys.txts, Tys.txts_map l]; rfl
mutual
theorem Ty.txt_len : ∀ (t : Ty), t.InR → t.txt.length + 2 ≤ 60 * t.nodes
  | .mk k r l, h => by
    obtain ⟨_, ⟨h1, h2⟩, hl⟩ := h.parts
    have hi := Lib.itoa_length_le r h1 h2
    have hj := Tys.join_len l hl
    rw [Ty.txt, Ty.nodes]
    split
    · simp only [List.length_append, List.length_cons, List.length_nil]; omega
    · split
      · simp only [List.length_append, List.length_cons, List.length_nil]; omega
      · split
        · simp only [List.length_append, List.length_cons, List.length_nil]; omega
        · simp only [List.length_cons, List.length_nil]; omega
theorem Tys.join_len : ∀ (l : List Ty), (∀ x ∈ l, x.InR) → (Lib.join (Tys.txts l) [44, 32]).length ≤ 60 * Tys.nodes l
  | [], _ => by rw [Tys.txts, Lib.join_nil]; simp
  | x :: l, h => by
    have h1 := Ty.txt_len x (h x (List.mem_cons_self ..))
    have h2 := Tys.tail_len l fun y hy => h y (List.mem_cons_of_mem _ hy)
    rw [Tys.txts, Lib.join_cons, List.length_append, Tys.nodes]
    omega
theorem Tys.tail_len : ∀ (l : List Ty), (∀ x ∈ l, x.InR) → (Lib.joinTail [44, 32] (Tys.txts l)).length ≤ 60 * Tys.nodes l
  | [], _ => by rw [Tys.txts]; simp [Lib.joinTail]
  | x :: l, h => by
    have h1 := Ty.txt_len x (h x (List.mem_cons_self ..))
    have h2 := Tys.tail_len l fun y hy => h y (List.mem_cons_of_mem _ hy)
    rw [Tys.txts, Tys.nodes]
    simp only [Lib.joinTail, List.map_cons, List.flatten_cons, List.length_append, List.length_cons, List.length_nil] at h2 ⊢
    omega
end
theorem QjF {xs : List (List UInt8)} {x sep : List UInt8} (h : xs ≠ []) : Lib.join (xs ++ [x]) sep = Lib.join xs sep ++ sep ++ x := by
  cases xs with
  | nil => exact absurd rfl h
  | cons y xs =>
    rw [List.cons_append, Lib.join_cons, Lib.join_cons]
    simp [Lib.joinTail, List.append_assoc]
/-- The parts' texts so far, with the parts' own length. -/
def Tys.upto (l : List Ty) (j : Nat) : List UInt8 := Lib.join ((l.take j).map Ty.txt) [44, 32]
theorem Tys.upto_zero (l : List Ty) : Tys.upto l 0 = [] := by unfold Tys.upto; rw [List.take_zero]; rfl
theorem Tys.upto_one {l : List Ty} {x : Ty} (h : l[0]? = some x) : Tys.upto l 1 = x.txt := by
  unfold Tys.upto
  rw [show (1 : Nat) = 0 + 1 from rfl, List.take_add_one, h, List.take_zero]
  exact Lib.join_one _ _
theorem Tys.upto_succ {l : List Ty} {x : Ty} {j : Nat} (hj : 0 < j) (h : l[j]? = some x) : Tys.upto l (j + 1) = Tys.upto l j ++ [44, 32] ++ x.txt := by
  have hlt := (List.getElem?_eq_some_iff.1 h).1
  unfold Tys.upto
  rw [List.take_add_one, h, List.map_append]
  exact QjF (by intro hc; have h0 : ((l.take j).map Ty.txt).length = 0 := (by rw [hc]; rfl); rw [List.length_map, List.length_take] at h0; omega)
theorem Tys.upto_all {l : List Ty} {j : Nat} (h : l.length ≤ j) : Tys.upto l j = Lib.join (Tys.txts l) [44, 32] := by
  unfold Tys.upto; rw [List.take_of_length_le h, Tys.txts_map]
theorem Tys.upto_len {l : List Ty} (h : ∀ x ∈ l, x.InR) (j : Nat) : (Tys.upto l j).length ≤ 60 * Tys.nodes l := by
  have h1 := Tys.join_len (l.take j) fun x hx => h x (List.mem_of_mem_take hx)
  have h2 := Tys.take_nodes l j
  unfold Tys.upto
  rw [← Tys.txts_map]
  omega
theorem up_one {l : List Ty} {x : Ty} {j : Nat} (h : j = 0) (hx : l[j]? = some x) : [40] ++ Tys.upto l j ++ x.txt = [40] ++ Tys.upto l (j + 1) := by
  subst h
  rw [Tys.upto_zero, show 0 + 1 = 1 from rfl, Tys.upto_one hx, List.append_nil]
end Go.Lir
namespace Go.Lir
section
variable {P : Program} {l : List GO} {Q : QT} {ρ : Env} {w : World} {c : Cx} {L : List Res} {v : Value}
theorem Qi {d T : Nat} {x y : Operand} {a b : List UInt8} (hx : ρ.ev x = .string ⟨a.toArray⟩) (hy : ρ.ev y = .string ⟨b.toArray⟩) (hl : a.length + b.length ≤ 9223372036854775807)
    (h : Q3 P l Q (upd ρ d (.string ⟨(a ++ b).toArray⟩)) w) : Q3 P (⟨none, .bin d .add T x y⟩ :: l) Q ρ w :=
  ⟨_, fun w0 => by
    rw [hx, hy]
    have := run_string_add_sum (P := P) w0 (⟨a.toArray⟩ : ByteArray) ⟨b.toArray⟩ (by simpa [ByteArray.size] using hl)
    rw [ByteArray.mk_append_mk] at this
    simpa [eqGuard, binOp] using this, h⟩
theorem s_seql {d T : Nat} {x y : Operand} {a b : List UInt8} (hx : ρ.ev x = .string ⟨a.toArray⟩) (hy : ρ.ev y = .string ⟨b.toArray⟩)
    (h : Q3 P l Q (upd ρ d (.bool (decide (a = b)))) w) : Q3 P (⟨none, .bin d .eql T x y⟩ :: l) Q ρ w :=
  ⟨_, fun w0 => by
    rw [hx, hy]
    have e : ∀ c : List UInt8, (⟨c.toArray⟩ : ByteArray).toList = c := fun c => Lib.toList_data _
    have e2 : (a == b) = decide (a = b) := by by_cases h : a = b <;> simp [h]
    simp [eqGuard, binOp, Op.stringOp, e, e2], h⟩
theorem s_seqt {d T : Nat} {x y : Operand} {a b : List UInt8} (hx : ρ.ev x = .string ⟨a.toArray⟩) (hy : ρ.ev y = .string ⟨b.toArray⟩) (hab : a = b)
    (h : Q3 P l Q (upd ρ d (.bool true)) w) : Q3 P (⟨none, .bin d .eql T x y⟩ :: l) Q ρ w :=
  s_seql hx hy (by rw [decide_eq_true hab]; exact h)
theorem below_fr {w w' : World} (h : Go.RowKit.Below w.heap.size w w') : Fr NF w w' := ⟨h.os, h.tape, h.output, h.size, fun b hb _ => h.block b hb⟩
theorem Qox (w : World) (k : Nat) (os : Array Obj) : Fr NF w (Go.Sort.grow (w.drewN k) os) :=
  ⟨rfl, rfl, rfl, by simp [Go.Sort.grow], fun b hb _ => by simp only [Go.Sort.grow, World.heap_drewN]; rw [Array.getElem?_append_left hb]⟩
/-- The table lies in what is only read. -/
def TabK (P : Program) (c : Cx) (name : String) (k : IntKind) (zs : List Int) : Prop := ∃ g, c.K g ∧ ∀ w : World, w.heap[g]? = c.H0[g]? → Lib.TabIs P w name k zs
theorem TabK.up {name : String} {k : IntKind} {zs : List Int} {c' : Cx} (h : TabK P c name k zs) (hle : c.Le c') : TabK P c' name k zs := by
  obtain ⟨g, h1, h2⟩ := h
  exact ⟨g, (hle.K g h1).1, fun w hw => h2 w (hw.trans (hle.K g h1).2)⟩
theorem TabK.now {name : String} {k : IntKind} {zs : List Int} (h : TabK P c name k zs) (hS : St c w L) : Lib.TabIs P w name k zs := by
  obtain ⟨g, h1, h2⟩ := h
  exact h2 w (hS.1.same g h1)
theorem TabK.top {name : String} {k : IntKind} {zs : List Int} (h : Lib.TabIs P w name k zs) : TabK P (Cx.top w) name k zs := by
  unfold Lib.TabIs World.var? at h
  cases hg : P.globalNamed name with
  | none => simp [hg] at h
  | some g =>
    simp only [hg, Option.bind_some] at h
    have hlt : g < w.heap.size := by
      rcases Nat.lt_or_ge g w.heap.size with h' | h'
      · exact h'
      · rw [Array.getElem?_eq_none h'] at h; simp at h
    refine ⟨g, hlt, fun w' hw' => ?_⟩
    have hw2 : w'.heap[g]? = w.heap[g]? := hw'
    unfold Lib.TabIs World.var?
    simp only [hg, Option.bind_some]
    rw [hw2]; exact h
/-- An own slice of strings: its cells. -/
theorem St.strs {T : TypeId} {i : Nat} {css : List (List Value)} {xs : List ByteArray} (hS : St c w L) (hi : nth L i = some (sl T 1 v css)) (hl : strR.ls c css xs) :
    ∃ a cap, v = .slice a xs.length cap ∧ xs.length ≤ cap ∧ (xs = [] ∨ ∃ b off, a = some ⟨b, off, none⟩ ∧ b < w.heap.size ∧ ∀ (j : Nat) x, xs[j]? = some x → w.cell? ⟨b, off + j, none⟩ = some (.string x)) := by
  obtain ⟨F, hA⟩ := hS.res hi
  have hA : Sl w.heap T 1 v F css := hA
  obtain ⟨h0, a, cap, hv, hlc, hc⟩ := hA.toR
  refine ⟨a, cap, by rw [hv, hl.1], by rw [← hl.1]; exact hlc, ?_⟩
  rcases hc with hc | ⟨b, off, ha, _, hb, hat⟩
  · exact .inl (List.eq_nil_of_length_eq_zero (by rw [← hl.1, hc]; rfl))
  · refine .inr ⟨b, off, ha, hb, fun j x hx => ?_⟩
    obtain ⟨d, h1, h2⟩ := hl.2 j x hx
    have h2 : d = [.string x] := h2
    have := At.cell (hat j d h1) (j := 0) (u := .string x) (by rw [h2]; rfl)
    rw [Nat.mul_one, Nat.add_zero] at this
    exact this
end
end Go.Lir
namespace Go.Proofs.YtjecflbbcnocdaaGreatDoor
open Go.Lir
/-- The table of powers of ten lies in what is only read. -/
abbrev PowT (c : Cx) : Prop := TabK Tryz.prog c "internal/strconv.uint64pow10" .u64 Lib.pow10Tab
end Go.Proofs.YtjecflbbcnocdaaGreatDoor
namespace Go.Proofs
open Go.Shelf
def Tryz.lays156_ren : Go.Shelf.Ren := ⟨fun | 156 => 108 | 165 => 140 | 166 => 57 | 169 => 62 | 240 => 106 | 241 => 151 | 276 => 139 | 277 => 164 | n => n, fun | 31 => 86 | 9 => 9 | 3 => 3 | 4 => 4 | 0 => 0 | 20 => 20 | 72 => 107 | 76 => 110 | 70 => 104 | 37 => 105 | 75 => 109 | 127 => 154 | 164 => 171 | 5 => 5 | 80 => 115 | n => n, fun | n => n⟩
theorem Tryz.lays156 : Go.Proofs.Lays.n156 Tryz.prog Tryz.lays156_ren := {
  mixed := by kernel_rfl
  f156 := Tryz.func108.trans (congrArg some (by kernel_rfl))
  f165 := Tryz.func140.trans (congrArg some (by kernel_rfl))
  f166 := Tryz.func57.trans (congrArg some (by kernel_rfl))
  f169 := Tryz.func62.trans (congrArg some (by kernel_rfl))
  f240 := Tryz.func106.trans (congrArg some (by kernel_rfl))
  f241 := Tryz.func151.trans (congrArg some (by kernel_rfl))
  f276 := Tryz.func139.trans (congrArg some (by kernel_rfl))
  f277 := Tryz.func164.trans (congrArg some (by kernel_rfl))
  t0 := Tryz.underlying0
  a0 := Tryz.isAgg0
  z0 := Tryz.sizeOf0
  v0 := Tryz.zeroValue0
  t3 := Tryz.underlying3
  a3 := Tryz.isAgg3
  z3 := Tryz.sizeOf3
  v3 := Tryz.zeroValue3
  t4 := Tryz.underlying4
  a4 := Tryz.isAgg4
  z4 := Tryz.sizeOf4
  v4 := Tryz.zeroValue4
  t9 := Tryz.underlying9
  a9 := Tryz.isAgg9
  z9 := Tryz.sizeOf9
  v9 := Tryz.zeroValue9
  t20 := Tryz.underlying20
  a20 := Tryz.isAgg20
  z20 := Tryz.sizeOf20
  v20 := Tryz.zeroValue20
  t31 := Tryz.underlying86
  a31 := Tryz.isAgg86
  z31 := Tryz.sizeOf86
  v31 := Tryz.zeroValue86
  t37 := Tryz.underlying105
  a37 := Tryz.isAgg105
  z37 := Tryz.sizeOf105
  v37 := Tryz.zeroValue105
  t70 := Tryz.underlying104
  a70 := Tryz.isAgg104
  z70 := Tryz.sizeOf104
  v70 := Tryz.zeroValue104
  t72 := Tryz.underlying107
  a72 := Tryz.isAgg107
  z72 := Tryz.sizeOf107
  v72 := Tryz.zeroValue107
  t75 := Tryz.underlying109
  a75 := Tryz.isAgg109
  z75 := Tryz.sizeOf109
  v75 := Tryz.zeroValue109
  t76 := Tryz.underlying110
  a76 := Tryz.isAgg110
  z76 := Tryz.sizeOf110
  v76 := Tryz.zeroValue110
  t127 := Tryz.underlying154
  a127 := Tryz.isAgg154
  z127 := Tryz.sizeOf154
  v127 := Tryz.zeroValue154
  t164 := Tryz.underlying171
  a164 := Tryz.isAgg171
  z164 := Tryz.sizeOf171
  v164 := Tryz.zeroValue171 }
theorem Tryz.Builder_Extra_156 : Builder.Extra Tryz.prog Tryz.lays156_ren := {
  sizeBuilder := by kernel_rfl
  liesBuilder := by kernel_rfl
  t5 := Tryz.underlying5
  a5 := Tryz.isAgg5
  z5 := Tryz.sizeOf5
  v5 := Tryz.zeroValue5
  infoByte := by kernel_rfl
  cellsByte := by kernel_rfl
  sizeByte := by kernel_rfl
  neB5 := by decide }
open Go.RowKit in
/-- No element: the empty string; the world is as it was. (Whatever the slice's address and capacity: a nil slice too.) (LAID: no walk: one application.) -/
theorem Tryz.strings_Join_none (a : Option Addr) (c : Nat) (sep : ByteArray) (w : World) :
    Calls Tryz.prog 108 #[.slice a 0 c, .string sep] w fun e w' => e = .returned (.string ⟨#[]⟩) ∧ w' = w := Any.strings_Join_none Tryz.lays156 Tryz.Builder_Extra_156 a c sep w
open Go.RowKit in
/-- strings.Join: "Join concatenates the elements of its first argument to create a single string. The separator string sep is placed between elements in the resulting string.": HOWEVER MANY ELEMENTS. Below the heap's end the world is as it was. (LAID: no walk: one application.) -/
theorem Tryz.strings_Join (bk o c : Nat) (xs : List ByteArray) (sep : ByteArray) (w : World) (hcells : ∀ (j : Nat) x, xs[j]? = some x → w.cell? ⟨bk, o + j, none⟩ = some (.string x)) (hbk : bk < w.heap.size) (hN : xs.length ≤ 140737488355328) (hcap : xs.length ≤ c) (hlen : (Lib.join (xs.map (·.data.toList)) sep.data.toList).length ≤ 140737488355328) :
    Calls Tryz.prog 108 #[.slice (some ⟨bk, o, none⟩) xs.length c, .string sep] w fun e w' => e = .returned (.string ⟨(Lib.join (xs.map (·.data.toList)) sep.data.toList).toArray⟩) ∧ Below w.heap.size w w' := Any.strings_Join Tryz.lays156 Tryz.Builder_Extra_156 bk o c xs sep w hcells hbk hN hcap hlen
def Tryz.lays137_ren : Go.Shelf.Ren := ⟨fun | 137 => 121 | 217 => 143 | 266 => 156 | n => n, fun | 9 => 9 | 5 => 5 | 3 => 3 | n => n, fun | n => n⟩
theorem Tryz.lays137 : Go.Proofs.Lays.n137 Tryz.prog Tryz.lays137_ren := {
  mixed := by kernel_rfl
  f137 := Tryz.func121.trans (congrArg some (by kernel_rfl))
  f217 := Tryz.func143.trans (congrArg some (by kernel_rfl))
  f266 := Tryz.func156.trans (congrArg some (by kernel_rfl))
  t3 := Tryz.underlying3
  a3 := Tryz.isAgg3
  z3 := Tryz.sizeOf3
  v3 := Tryz.zeroValue3
  t5 := Tryz.underlying5
  a5 := Tryz.isAgg5
  z5 := Tryz.sizeOf5
  v5 := Tryz.zeroValue5
  t9 := Tryz.underlying9
  a9 := Tryz.isAgg9
  z9 := Tryz.sizeOf9
  v9 := Tryz.zeroValue9 }
open Go.RowKit in
/-- strings.IndexByte: "IndexByte returns the index of the first instance of c in s, or -1 if c is not present in s.": IT RETURNS 'Lib.indexByte s c'; the world is as it was. (LAID: no walk: one application.) -/
theorem Tryz.strings_IndexByte (s : ByteArray) (c : Int) (w : World) :
    Calls Tryz.prog 121 #[.string s, .int .u8 c] w fun e w' => e = .returned (.int .i64 (Lib.indexByte s.data.toList c.toNat.toUInt8)) ∧ w' = w := Any.strings_IndexByte Tryz.lays137 s c w
def Tryz.laysM246_ren : Go.Shelf.Ren := ⟨fun | 246 => 141 | 283 => 152 | 284 => 153 | 285 => 154 | 286 => 155 | 129 => 166 | 317 => 165 | 318 => 167 | 319 => 168 | 320 => 169 | 337 => 174 | 338 => 175 | n => n, fun | 2 => 2 | 3 => 3 | 9 => 9 | 4 => 4 | 171 => 176 | 0 => 0 | 53 => 177 | 37 => 105 | 5 => 5 | 173 => 180 | 212 => 193 | 51 => 194 | 20 => 20 | 213 => 195 | 46 => 186 | 232 => 207 | 233 => 208 | n => n, fun | 17 => 0 | 18 => 4 | 19 => 5 | n => n⟩
theorem Tryz.laysM246 : Go.Proofs.LaysM.n246 Tryz.prog Tryz.laysM246_ren := {
  mixed := by kernel_rfl
  f129 := Tryz.func166.trans (congrArg some (by kernel_rfl))
  f246 := Tryz.func141.trans (congrArg some (by kernel_rfl))
  f283 := Tryz.func152.trans (congrArg some (by kernel_rfl))
  f284 := Tryz.func153.trans (congrArg some (by kernel_rfl))
  f285 := Tryz.func154.trans (congrArg some (by kernel_rfl))
  f286 := Tryz.func155.trans (congrArg some (by kernel_rfl))
  f317 := Tryz.func165.trans (congrArg some (by kernel_rfl))
  f318 := Tryz.func167.trans (congrArg some (by kernel_rfl))
  f319 := Tryz.func168.trans (congrArg some (by kernel_rfl))
  f320 := Tryz.func169.trans (congrArg some (by kernel_rfl))
  f337 := Tryz.func174.trans (congrArg some (by kernel_rfl))
  f338 := Tryz.func175.trans (congrArg some (by kernel_rfl))
  t0 := Tryz.underlying0
  a0 := Tryz.isAgg0
  z0 := Tryz.sizeOf0
  v0 := Tryz.zeroValue0
  t2 := Tryz.underlying2
  a2 := Tryz.isAgg2
  z2 := Tryz.sizeOf2
  v2 := Tryz.zeroValue2
  t3 := Tryz.underlying3
  a3 := Tryz.isAgg3
  z3 := Tryz.sizeOf3
  v3 := Tryz.zeroValue3
  t4 := Tryz.underlying4
  a4 := Tryz.isAgg4
  z4 := Tryz.sizeOf4
  v4 := Tryz.zeroValue4
  t5 := Tryz.underlying5
  a5 := Tryz.isAgg5
  z5 := Tryz.sizeOf5
  v5 := Tryz.zeroValue5
  t9 := Tryz.underlying9
  a9 := Tryz.isAgg9
  z9 := Tryz.sizeOf9
  v9 := Tryz.zeroValue9
  t20 := Tryz.underlying20
  a20 := Tryz.isAgg20
  z20 := Tryz.sizeOf20
  v20 := Tryz.zeroValue20
  t37 := Tryz.underlying105
  a37 := Tryz.isAgg105
  z37 := Tryz.sizeOf105
  v37 := Tryz.zeroValue105
  t46 := Tryz.underlying186
  a46 := Tryz.isAgg186
  z46 := Tryz.sizeOf186
  v46 := Tryz.zeroValue186
  t51 := Tryz.underlying194
  a51 := Tryz.isAgg194
  z51 := Tryz.sizeOf194
  v51 := Tryz.zeroValue194
  t53 := Tryz.underlying177
  a53 := Tryz.isAgg177
  z53 := Tryz.sizeOf177
  v53 := Tryz.zeroValue177
  t171 := Tryz.underlying176
  a171 := Tryz.isAgg176
  z171 := Tryz.sizeOf176
  v171 := Tryz.zeroValue176
  t173 := Tryz.underlying180
  a173 := Tryz.isAgg180
  z173 := Tryz.sizeOf180
  v173 := Tryz.zeroValue180
  t212 := Tryz.underlying193
  a212 := Tryz.isAgg193
  z212 := Tryz.sizeOf193
  v212 := Tryz.zeroValue193
  t213 := Tryz.underlying195
  a213 := Tryz.isAgg195
  z213 := Tryz.sizeOf195
  t232 := Tryz.underlying207
  a232 := Tryz.isAgg207
  z232 := Tryz.sizeOf207
  v232 := Tryz.zeroValue207
  t233 := Tryz.underlying208
  a233 := Tryz.isAgg208
  z233 := Tryz.sizeOf208
  v233 := Tryz.zeroValue208
  g17 := by kernel_rfl
  g18 := by kernel_rfl
  g19 := by kernel_rfl
  i0 := by kernel_rfl
  i2 := by kernel_rfl
  i3 := by kernel_rfl
  i4 := by kernel_rfl
  i5 := by kernel_rfl
  i9 := by kernel_rfl
  i20 := by kernel_rfl
  i37 := by kernel_rfl
  i46 := by kernel_rfl
  i51 := by kernel_rfl
  i53 := by kernel_rfl
  i171 := by kernel_rfl
  i173 := by kernel_rfl
  i212 := by kernel_rfl
  i232 := by kernel_rfl
  i233 := by kernel_rfl
  m17 := by kernel_rfl
  m18 := by kernel_rfl
  m19 := by kernel_rfl }
open Go.RowKit Go.Sort Go.Lib in
/-- internal/strconv.FormatInt: "FormatInt returns the string representation of i in the given base": AT BASE 10: i's decimal numeral, for every int64. The world behind the call: the world before it, new blocks behind the heap, draws. (LAID: no walk: one application.) -/
theorem Tryz.internal_strconv_FormatInt_10 (n : Int) (h0 : -9223372036854775808 ≤ n) (h1 : n ≤ 9223372036854775807) (w : World) (htab : Lib.TabIs Tryz.prog w "internal/strconv.uint64pow10" .u64 Lib.pow10Tab) :
    Calls Tryz.prog 141 #[.int .i64 n, .int .i64 10] w fun e w' => e = .returned (.string ⟨(Lib.itoa n).toArray⟩) ∧ ∃ k os, w' = grow (w.drewN k) os := Any.internal_strconv_FormatInt_10 Tryz.laysM246 n h0 h1 w htab
def Tryz.laysM171_ren : Go.Shelf.Ren := ⟨fun | 171 => 63 | 243 => 112 | 246 => 141 | 283 => 152 | 284 => 153 | 285 => 154 | 286 => 155 | 129 => 166 | 317 => 165 | 318 => 167 | 319 => 168 | 320 => 169 | 337 => 174 | 338 => 175 | n => n, fun | 3 => 3 | 9 => 9 | 2 => 2 | 4 => 4 | 171 => 176 | 0 => 0 | 53 => 177 | 37 => 105 | 5 => 5 | 173 => 180 | 212 => 193 | 51 => 194 | 20 => 20 | 213 => 195 | 46 => 186 | 232 => 207 | 233 => 208 | n => n, fun | 17 => 0 | 18 => 4 | 19 => 5 | n => n⟩
theorem Tryz.laysM171 : Go.Proofs.LaysM.n171 Tryz.prog Tryz.laysM171_ren := {
  mixed := by kernel_rfl
  f129 := Tryz.func166.trans (congrArg some (by kernel_rfl))
  f171 := Tryz.func63.trans (congrArg some (by kernel_rfl))
  f243 := Tryz.func112.trans (congrArg some (by kernel_rfl))
  f246 := Tryz.func141.trans (congrArg some (by kernel_rfl))
  f283 := Tryz.func152.trans (congrArg some (by kernel_rfl))
  f284 := Tryz.func153.trans (congrArg some (by kernel_rfl))
  f285 := Tryz.func154.trans (congrArg some (by kernel_rfl))
  f286 := Tryz.func155.trans (congrArg some (by kernel_rfl))
  f317 := Tryz.func165.trans (congrArg some (by kernel_rfl))
  f318 := Tryz.func167.trans (congrArg some (by kernel_rfl))
  f319 := Tryz.func168.trans (congrArg some (by kernel_rfl))
  f320 := Tryz.func169.trans (congrArg some (by kernel_rfl))
  f337 := Tryz.func174.trans (congrArg some (by kernel_rfl))
  f338 := Tryz.func175.trans (congrArg some (by kernel_rfl))
  t0 := Tryz.underlying0
  a0 := Tryz.isAgg0
  z0 := Tryz.sizeOf0
  v0 := Tryz.zeroValue0
  t2 := Tryz.underlying2
  a2 := Tryz.isAgg2
  z2 := Tryz.sizeOf2
  v2 := Tryz.zeroValue2
  t3 := Tryz.underlying3
  a3 := Tryz.isAgg3
  z3 := Tryz.sizeOf3
  v3 := Tryz.zeroValue3
  t4 := Tryz.underlying4
  a4 := Tryz.isAgg4
  z4 := Tryz.sizeOf4
  v4 := Tryz.zeroValue4
  t5 := Tryz.underlying5
  a5 := Tryz.isAgg5
  z5 := Tryz.sizeOf5
  v5 := Tryz.zeroValue5
  t9 := Tryz.underlying9
  a9 := Tryz.isAgg9
  z9 := Tryz.sizeOf9
  v9 := Tryz.zeroValue9
  t20 := Tryz.underlying20
  a20 := Tryz.isAgg20
  z20 := Tryz.sizeOf20
  v20 := Tryz.zeroValue20
  t37 := Tryz.underlying105
  a37 := Tryz.isAgg105
  z37 := Tryz.sizeOf105
  v37 := Tryz.zeroValue105
  t46 := Tryz.underlying186
  a46 := Tryz.isAgg186
  z46 := Tryz.sizeOf186
  v46 := Tryz.zeroValue186
  t51 := Tryz.underlying194
  a51 := Tryz.isAgg194
  z51 := Tryz.sizeOf194
  v51 := Tryz.zeroValue194
  t53 := Tryz.underlying177
  a53 := Tryz.isAgg177
  z53 := Tryz.sizeOf177
  v53 := Tryz.zeroValue177
  t171 := Tryz.underlying176
  a171 := Tryz.isAgg176
  z171 := Tryz.sizeOf176
  v171 := Tryz.zeroValue176
  t173 := Tryz.underlying180
  a173 := Tryz.isAgg180
  z173 := Tryz.sizeOf180
  v173 := Tryz.zeroValue180
  t212 := Tryz.underlying193
  a212 := Tryz.isAgg193
  z212 := Tryz.sizeOf193
  v212 := Tryz.zeroValue193
  t213 := Tryz.underlying195
  a213 := Tryz.isAgg195
  z213 := Tryz.sizeOf195
  t232 := Tryz.underlying207
  a232 := Tryz.isAgg207
  z232 := Tryz.sizeOf207
  v232 := Tryz.zeroValue207
  t233 := Tryz.underlying208
  a233 := Tryz.isAgg208
  z233 := Tryz.sizeOf208
  v233 := Tryz.zeroValue208
  g17 := by kernel_rfl
  g18 := by kernel_rfl
  g19 := by kernel_rfl
  i0 := by kernel_rfl
  i2 := by kernel_rfl
  i3 := by kernel_rfl
  i4 := by kernel_rfl
  i5 := by kernel_rfl
  i9 := by kernel_rfl
  i20 := by kernel_rfl
  i37 := by kernel_rfl
  i46 := by kernel_rfl
  i51 := by kernel_rfl
  i53 := by kernel_rfl
  i171 := by kernel_rfl
  i173 := by kernel_rfl
  i212 := by kernel_rfl
  i232 := by kernel_rfl
  i233 := by kernel_rfl
  m17 := by kernel_rfl
  m18 := by kernel_rfl
  m19 := by kernel_rfl }
open Go.RowKit Go.Sort Go.Lib in
/-- strconv.Itoa: "Itoa is equivalent to FormatInt(int64(i), 10).": i's DECIMAL NUMERAL ('Lib.itoa': a '-' where i is negative, then the digits), FOR EVERY int. The world behind the call: the world before it, new blocks behind the heap (the library's 'var a [24]byte'), draws. (LAID: no walk: one application.) -/
theorem Tryz.strconv_Itoa (n : Int) (h0 : -9223372036854775808 ≤ n) (h1 : n ≤ 9223372036854775807) (w : World) (htab : Lib.TabIs Tryz.prog w "internal/strconv.uint64pow10" .u64 Lib.pow10Tab) :
    Calls Tryz.prog 63 #[.int .i64 n] w fun e w' => e = .returned (.string ⟨(Lib.itoa n).toArray⟩) ∧ ∃ k os, w' = grow (w.drewN k) os := Any.strconv_Itoa Tryz.laysM171 n h0 h1 w htab
def Tryz.laysC174_ren : Go.Shelf.Ren := ⟨fun | 174 => 130 | 247 => 148 | 245 => 149 | 287 => 158 | 279 => 159 | 280 => 160 | 281 => 161 | 282 => 162 | 321 => 170 | 322 => 171 | 316 => 172 | 171 => 63 | 205 => 173 | 243 => 112 | 246 => 141 | 283 => 152 | 284 => 153 | 285 => 154 | 286 => 155 | 129 => 166 | 317 => 165 | 318 => 167 | 319 => 168 | 320 => 169 | 337 => 174 | 338 => 175 | n => n, fun | 9 => 9 | 3 => 3 | 2 => 2 | 75 => 109 | 85 => 165 | 4 => 4 | 167 => 183 | 5 => 5 | 53 => 177 | 175 => 184 | 46 => 186 | 168 => 187 | 37 => 105 | 0 => 0 | 210 => 201 | 21 => 21 | 127 => 154 | 145 => 206 | 143 => 204 | 171 => 176 | 173 => 180 | 212 => 193 | 51 => 194 | 20 => 20 | 213 => 195 | 232 => 207 | 233 => 208 | 80 => 115 | n => n, fun | 15 => 2 | 16 => 3 | 17 => 0 | 18 => 4 | 19 => 5 | n => n⟩
theorem Tryz.laysC174 : Go.Proofs.LaysC.n174 Tryz.prog Tryz.laysC174_ren := {
  mixed := by kernel_rfl
  f129 := Tryz.func166.trans (congrArg some (by kernel_rfl))
  f171 := Tryz.func63.trans (congrArg some (by kernel_rfl))
  f174 := Tryz.func130.trans (congrArg some (by kernel_rfl))
  f205 := Tryz.func173.trans (congrArg some (by kernel_rfl))
  f243 := Tryz.func112.trans (congrArg some (by kernel_rfl))
  f245 := Tryz.func149.trans (congrArg some (by kernel_rfl))
  f246 := Tryz.func141.trans (congrArg some (by kernel_rfl))
  f247 := Tryz.func148.trans (congrArg some (by kernel_rfl))
  f279 := Tryz.func159.trans (congrArg some (by kernel_rfl))
  f280 := Tryz.func160.trans (congrArg some (by kernel_rfl))
  f281 := Tryz.func161.trans (congrArg some (by kernel_rfl))
  f282 := Tryz.func162.trans (congrArg some (by kernel_rfl))
  f283 := Tryz.func152.trans (congrArg some (by kernel_rfl))
  f284 := Tryz.func153.trans (congrArg some (by kernel_rfl))
  f285 := Tryz.func154.trans (congrArg some (by kernel_rfl))
  f286 := Tryz.func155.trans (congrArg some (by kernel_rfl))
  f287 := Tryz.func158.trans (congrArg some (by kernel_rfl))
  f316 := Tryz.func172.trans (congrArg some (by kernel_rfl))
  f317 := Tryz.func165.trans (congrArg some (by kernel_rfl))
  f318 := Tryz.func167.trans (congrArg some (by kernel_rfl))
  f319 := Tryz.func168.trans (congrArg some (by kernel_rfl))
  f320 := Tryz.func169.trans (congrArg some (by kernel_rfl))
  f321 := Tryz.func170.trans (congrArg some (by kernel_rfl))
  f322 := Tryz.func171.trans (congrArg some (by kernel_rfl))
  f337 := Tryz.func174.trans (congrArg some (by kernel_rfl))
  f338 := Tryz.func175.trans (congrArg some (by kernel_rfl))
  t0 := Tryz.underlying0
  a0 := Tryz.isAgg0
  z0 := Tryz.sizeOf0
  v0 := Tryz.zeroValue0
  t2 := Tryz.underlying2
  a2 := Tryz.isAgg2
  z2 := Tryz.sizeOf2
  v2 := Tryz.zeroValue2
  t3 := Tryz.underlying3
  a3 := Tryz.isAgg3
  z3 := Tryz.sizeOf3
  v3 := Tryz.zeroValue3
  t4 := Tryz.underlying4
  a4 := Tryz.isAgg4
  z4 := Tryz.sizeOf4
  v4 := Tryz.zeroValue4
  t5 := Tryz.underlying5
  a5 := Tryz.isAgg5
  z5 := Tryz.sizeOf5
  v5 := Tryz.zeroValue5
  t9 := Tryz.underlying9
  a9 := Tryz.isAgg9
  z9 := Tryz.sizeOf9
  v9 := Tryz.zeroValue9
  t20 := Tryz.underlying20
  a20 := Tryz.isAgg20
  z20 := Tryz.sizeOf20
  v20 := Tryz.zeroValue20
  t21 := Tryz.underlying21
  a21 := Tryz.isAgg21
  z21 := Tryz.sizeOf21
  v21 := Tryz.zeroValue21
  t37 := Tryz.underlying105
  a37 := Tryz.isAgg105
  z37 := Tryz.sizeOf105
  v37 := Tryz.zeroValue105
  t46 := Tryz.underlying186
  a46 := Tryz.isAgg186
  z46 := Tryz.sizeOf186
  v46 := Tryz.zeroValue186
  t51 := Tryz.underlying194
  a51 := Tryz.isAgg194
  z51 := Tryz.sizeOf194
  v51 := Tryz.zeroValue194
  t53 := Tryz.underlying177
  a53 := Tryz.isAgg177
  z53 := Tryz.sizeOf177
  v53 := Tryz.zeroValue177
  t75 := Tryz.underlying109
  a75 := Tryz.isAgg109
  z75 := Tryz.sizeOf109
  v75 := Tryz.zeroValue109
  t85 := Tryz.underlying165
  a85 := Tryz.isAgg165
  z85 := Tryz.sizeOf165
  v85 := Tryz.zeroValue165
  t127 := Tryz.underlying154
  a127 := Tryz.isAgg154
  z127 := Tryz.sizeOf154
  v127 := Tryz.zeroValue154
  t143 := Tryz.underlying204
  a143 := Tryz.isAgg204
  z143 := Tryz.sizeOf204
  v143 := Tryz.zeroValue204
  t145 := Tryz.underlying206
  a145 := Tryz.isAgg206
  z145 := Tryz.sizeOf206
  v145 := Tryz.zeroValue206
  t167 := Tryz.underlying183
  a167 := Tryz.isAgg183
  z167 := Tryz.sizeOf183
  v167 := Tryz.zeroValue183
  t168 := Tryz.underlying187
  a168 := Tryz.isAgg187
  z168 := Tryz.sizeOf187
  v168 := Tryz.zeroValue187
  t171 := Tryz.underlying176
  a171 := Tryz.isAgg176
  z171 := Tryz.sizeOf176
  v171 := Tryz.zeroValue176
  t173 := Tryz.underlying180
  a173 := Tryz.isAgg180
  z173 := Tryz.sizeOf180
  v173 := Tryz.zeroValue180
  t175 := Tryz.underlying184
  a175 := Tryz.isAgg184
  z175 := Tryz.sizeOf184
  v175 := Tryz.zeroValue184
  t210 := Tryz.underlying201
  a210 := Tryz.isAgg201
  z210 := Tryz.sizeOf201
  v210 := Tryz.zeroValue201
  t212 := Tryz.underlying193
  a212 := Tryz.isAgg193
  z212 := Tryz.sizeOf193
  v212 := Tryz.zeroValue193
  t213 := Tryz.underlying195
  a213 := Tryz.isAgg195
  z213 := Tryz.sizeOf195
  t232 := Tryz.underlying207
  a232 := Tryz.isAgg207
  z232 := Tryz.sizeOf207
  v232 := Tryz.zeroValue207
  t233 := Tryz.underlying208
  a233 := Tryz.isAgg208
  z233 := Tryz.sizeOf208
  v233 := Tryz.zeroValue208
  g15 := by kernel_rfl
  g16 := by kernel_rfl
  g17 := by kernel_rfl
  g18 := by kernel_rfl
  g19 := by kernel_rfl
  t80 := Tryz.underlying115
  a80 := Tryz.isAgg115
  z80 := Tryz.sizeOf115
  v80 := Tryz.zeroValue115
  i0 := by kernel_rfl
  i2 := by kernel_rfl
  i3 := by kernel_rfl
  i4 := by kernel_rfl
  i5 := by kernel_rfl
  i9 := by kernel_rfl
  i20 := by kernel_rfl
  i21 := by kernel_rfl
  i37 := by kernel_rfl
  i46 := by kernel_rfl
  i51 := by kernel_rfl
  i53 := by kernel_rfl
  i75 := by kernel_rfl
  i80 := by kernel_rfl
  i85 := by kernel_rfl
  i127 := by kernel_rfl
  i143 := by kernel_rfl
  i145 := by kernel_rfl
  i167 := by kernel_rfl
  i168 := by kernel_rfl
  i171 := by kernel_rfl
  i173 := by kernel_rfl
  i175 := by kernel_rfl
  i210 := by kernel_rfl
  i212 := by kernel_rfl
  i232 := by kernel_rfl
  i233 := by kernel_rfl
  m15 := by kernel_rfl
  m16 := by kernel_rfl
  m17 := by kernel_rfl
  m18 := by kernel_rfl
  m19 := by kernel_rfl
  c0 := by kernel_rfl
  c2 := by kernel_rfl
  c3 := by kernel_rfl
  c4 := by kernel_rfl
  c5 := by kernel_rfl
  c9 := by kernel_rfl
  c20 := by kernel_rfl
  c21 := by kernel_rfl
  c37 := by kernel_rfl
  c46 := by kernel_rfl
  c51 := by kernel_rfl
  c53 := by kernel_rfl
  c75 := by kernel_rfl
  c80 := by kernel_rfl
  c85 := by kernel_rfl
  c127 := by kernel_rfl
  c143 := by kernel_rfl
  c145 := by kernel_rfl
  c167 := by kernel_rfl
  c168 := by kernel_rfl
  c171 := by kernel_rfl
  c173 := by kernel_rfl
  c175 := by kernel_rfl
  c210 := by kernel_rfl
  c212 := by kernel_rfl
  c213 := by kernel_rfl
  c232 := by kernel_rfl
  c233 := by kernel_rfl }
open Go.RowKit in
/-- strconv.ParseInt(s, 10, 64), AT EVERY STRING THAT SPELLS AN int64 ('Lib.parseIntB 64 s.data.toList = .ok v'): v, AND NO ERROR. (LAID: no walk: one application.) -/
theorem Tryz.strconv_ParseInt_10_at64_ok (s : ByteArray) (hmax : s.size ≤ 9223372036854775806) (v : Int) (h : Lib.parseIntB 64 s.data.toList = .ok v) (w : World) :
    Calls Tryz.prog 130 #[.string s, .int .i64 10, .int .i64 64] w fun e w' => e = .returned (.tuple #[.int .i64 v, .nilIface]) ∧ (w' = w ∨ ∃ t, w' = Lib.bytesWorld w 5 t) := Any.strconv_ParseInt_10_at64_ok Tryz.laysC174 s hmax v h w
open Go.RowKit in
/-- strconv.ParseInt(s, 10, 64), AT EVERY STRING THAT IS NO DECIMAL NUMERAL: 0, AND AN ERROR THAT IS NOT nil: a *NumError in a new block N: {Func: "ParseInt", Num: s's bytes, Err: what the variable ErrSyntax holds}. Of what was there nothing has turned. (LAID: no walk: one application.) -/
theorem Tryz.strconv_ParseInt_10_at64_syntax (s : ByteArray) (hlim : s.size ≤ 281474976710656) (h : Lib.parseIntB 64 s.data.toList = Lib.parseIntB 64 []) (ev : Value) (w : World) (hv : w.cell? ⟨2, 0, none⟩ = some ev) (hev : ev = .nilIface ∨ ∃ te pe, ev = .iface te pe) :
    Calls Tryz.prog 130 #[.string s, .int .i64 10, .int .i64 64] w fun e w' => ∃ N, e = .returned (.tuple #[.int .i64 (0), .iface 187 (.pointer (some ⟨N, 0, none⟩))]) ∧ w.heap.size ≤ N ∧ w'.heap[N]? = some (.cells #[.string ⟨#[80, 97, 114, 115, 101, 73, 110, 116]⟩, .string s, ev] 201 (0, 0)) ∧ Below w.heap.size w w' := Any.strconv_ParseInt_10_at64_syntax Tryz.laysC174 s hlim h ev w hv hev
open Go.RowKit in
/-- strconv.ParseInt(s, 10, 64), AT EVERY NUMERAL THAT NO int64 HOLDS: THE GREATEST OR THE LEAST int64, BY THE SIGN ('Lib.intSat 64'), AND AN ERROR THAT IS NOT nil: a *NumError in a new block N: {Func: "ParseInt", Num: s's bytes, Err: what the variable ErrRange holds}. Of what was there nothing has turned. (LAID: no walk: one application.) -/
theorem Tryz.strconv_ParseInt_10_at64_range (s : ByteArray) (hlim : s.size ≤ 281474976710656) (h : Lib.parseIntB 64 s.data.toList = .range) (ev : Value) (w : World) (hv : w.cell? ⟨3, 0, none⟩ = some ev) (hev : ev = .nilIface ∨ ∃ te pe, ev = .iface te pe) :
    Calls Tryz.prog 130 #[.string s, .int .i64 10, .int .i64 64] w fun e w' => ∃ N, e = .returned (.tuple #[.int .i64 (Lib.intSat 64 s.data.toList), .iface 187 (.pointer (some ⟨N, 0, none⟩))]) ∧ w.heap.size ≤ N ∧ w'.heap[N]? = some (.cells #[.string ⟨#[80, 97, 114, 115, 101, 73, 110, 116]⟩, .string s, ev] 201 (0, 0)) ∧ Below w.heap.size w w' := Any.strconv_ParseInt_10_at64_range Tryz.laysC174 s hlim h ev w hv hev
end Go.Proofs
