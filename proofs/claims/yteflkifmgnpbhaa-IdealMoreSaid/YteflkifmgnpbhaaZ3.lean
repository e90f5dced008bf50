/- Lemmas of the proof, part 3: what the functions of the program do (contracts), and what follows. -/
import Derived.Test.YteflkifmgnpbhaaProg
import Derived.Test.YteflkifmgnpbhaaZ2
import Derived.Test.YteflkifmgnpbhaaZ1
namespace Go.Proofs.Yteflkifmgnpbhaa
open Go.Lir
set_option maxRecDepth 100000

/- 3 -/
def QdW : List GO := [qb 5 24 0, qk 10 (.bool false)]
def QdV : List GO := [⟨none, .call (some 16) 4 []⟩, ⟨none, .un 17 .not (.tmp 16)⟩]
def QdU : List GO := [qk 10 (.bool false)]
def QdT : List GO := [qV 18 1 5, qm 19 2, ⟨none, .call (some 20) 5 [(.tmp 18), (.tmp 19)]⟩, qm 21 20, qg 21 false (qm 22 1), qg 21 false (qm 23 2), qg 21 false (qm 24 3), ⟨some (21, false), .call (some 25) 6 [(.tmp 22), (.tmp 23), (.tmp 24)]⟩, ⟨some (21, false), .fldv 26 (.tmp 25) 0⟩, qg 21 false (qj 27 .neq 3 26 0), ⟨none, .pick 28 (.tmp 21) (.const (.bool true)) (.tmp 27)⟩]
def QdS : List GO := [qk 10 (.bool true)]
def QdR : List GO := [qm 29 4, ⟨none, .conv 30 .u64 (.tmp 29)⟩, ⟨none, .bin 31 .rem 31 (.tmp 30) (.const (.int .u64 50))⟩, ⟨none, .conv 32 .i64 (.tmp 31)⟩, qm 11 32]
def QdQ : List GO := [qV 34 1 5, qm 35 1, qm 36 2, qm 37 3, ⟨none, .call (some 38) 7 [(.tmp 34), (.tmp 35), (.tmp 36), (.tmp 37)]⟩, qm 33 38, qx 39 33 0, qx 40 33 1, ⟨none, .alloc 12 33 [(vi 0), vn, vn, (vi 0)]⟩, ⟨none, .alloc 13 29 [(vi 0), (vi 0)]⟩, qw 4 12 39, qw 2 13 40]
def QdP : List GO := [qf 41 13 0, ql 42 41, qj 43 .neq 3 42 0]
def QdO : List GO := [qk 10 (.bool true)]
def QdN : List GO := [qV 45 1 5, qm 46 1, qm 47 2, qm 48 11, qt 49 .add 3 47 48, qm 50 3, qm 51 11, qt 52 .add 3 50 51, ⟨none, .mnx 53 false (.tmp 52) (.const (vi 64))⟩, ⟨none, .call (some 54) 7 [(.tmp 45), (.tmp 46), (.tmp 49), (.tmp 53)]⟩, qm 44 54, qx 55 44 0, qx 56 44 1, ⟨none, .alloc 14 33 [(vi 0), vn, vn, (vi 0)]⟩, ⟨none, .alloc 15 29 [(vi 0), (vi 0)]⟩, qw 4 14 55, qw 2 15 56]
def Qcl : List GO := [qf 57 15 0, ql 58 57, qj 59 .neq 3 58 0]
def Qck : List GO := [qf 60 12 0, ql 61 60, qj 62 .eql 3 61 7, qm 63 62, qg 63 false (qf 64 12 0), qg 63 false (ql 65 64), qg 63 false (qj 66 .eql 3 65 6), ⟨none, .pick 67 (.tmp 63) (.const (.bool true)) (.tmp 66)⟩, qm 10 67]
def Qcj : List GO := [qf 68 12 0, ql 69 68, qj 70 .neq 3 69 7, qm 71 70, qg 71 true (qf 72 12 0), qg 71 true (ql 73 72), qg 71 true (qj 74 .neq 3 73 6), ⟨none, .pick 75 (.tmp 71) (.tmp 74) (.const (.bool false))⟩]
def Qci : List GO := [qV 76 4 12, qV 77 4 14, ⟨none, .call (some 78) 8 [(.tmp 76), (.tmp 77)]⟩, qm 10 78]
def Qch : List GO := [qf 79 12 2, ql 80 79, qL 81 80, qf 82 14 2, ql 83 82, qL 84 83, qt 85 .leq 3 81 84, qm 86 85, qg 86 true (qf 87 12 2), qg 86 true (ql 88 87), qg 86 true (qf 89 14 2), qg 86 true (ql 90 89), qg 86 true (qf 91 12 2), qg 86 true (ql 92 91), qg 86 true (qL 93 92), ⟨some (86, true), .sub 94 1 (.tmp 90) none (some (.tmp 93)) none⟩, ⟨some (86, true), .call (some 95) 9 [(.tmp 88), (.tmp 94)]⟩, ⟨none, .pick 96 (.tmp 86) (.tmp 95) (.const (.bool false))⟩, qm 97 96, qg 97 true (qf 98 12 3), qg 97 true (ql 99 98), qg 97 true (qf 100 14 3), qg 97 true (ql 101 100), qg 97 true (qt 102 .leq 3 99 101), ⟨none, .pick 103 (.tmp 97) (.tmp 102) (.const (.bool false))⟩, qm 10 103]
def Qcn : List (List Nat) := [[],[0],[1],[],[3],[4],[2,5],[6],[7],[8,7],[7],[10,7],[7],[12,7],[13,7],[11,14,7],[9,15,7,7],[7,16],[17,16],[18],[19,18],[18],[21,18],[20,22,18],[18,23],[24,18,0,1,2,3,4,5,6,7,8,9,10,11,12,13,14,15,16,17,18,19,20,21,22,23,24]]
def Law_IdealMore_lc : LC := (.seq (.ops QdW) (.seq (.seq (.ops QdV) (.cond (.tmp 17) (.seq (.ops QdU) .ret) .skip)) (.seq (.seq (.ops QdT) (.cond (.tmp 28) (.seq (.ops QdS) .ret) .skip)) (.seq (.ops QdR) (.seq (.ops QdQ) (.seq (.seq (.ops QdP) (.cond (.tmp 43) (.seq (.ops QdO) .ret) .skip)) (.seq (.ops QdN) (.seq (.seq (.ops Qcl) (.cond (.tmp 59) (.seq (.ops Qck) .ret) .skip)) (.seq (.seq (.ops Qcj) (.cond (.tmp 75) (.seq (.ops Qci) .ret) .skip)) (.seq (.draw Qch Qcn) .ret))))))))))
@[reducible] def QC : FuncId := 3
theorem Qcm : lowF Try.prog Try.f3 = some Law_IdealMore_lc := by kernel_rfl
theorem QdX {a0 a1 a2 a3 a4 : Value} {w : World} {R : Ending → World → Prop} (h : Law_IdealMore_lc.wp Try.prog (retQ Try.prog [.tmp 10] R) (Qf [a0, a1, a2, a3, a4]) w) : Calls Try.prog QC ⟨[a0, a1, a2, a3, a4]⟩ w R :=
  Q3 Try.func3 Qcm (by kernel_rfl) (by kernel_rfl) h

/- 4 -/
def Qcf : List GO := [qk 0 (.bool false)]
def Qce : List GO := [⟨none, .call (some 7) 10 []⟩, ⟨none, .call (some 8) 7 [(.tmp 7), (.const vn), (.const (vi 9)), (.const (vi 0))]⟩, qm 6 8, qx 9 6 0, qx 10 6 1, ⟨none, .alloc 1 33 [(vi 0), vn, vn, (vi 0)]⟩, ⟨none, .alloc 2 29 [(vi 0), (vi 0)]⟩, qw 4 1 9, qw 2 2 10]
def Qcd : List GO := [⟨none, .call (some 11) 11 []⟩, ⟨none, .alloc 3 24 [vn]⟩, qw 1 3 11]
def Qcc : List GO := [qf 12 3 0, ql 13 12, ⟨none, .idx 14 4 (.tmp 13) (.const (vi 0))⟩, qf 15 14 3, ql 16 15, ⟨none, .build 17 [(vi 0), (vi 0), (vi 0), (vi 0), (vi 0), (vi 0), vn, vn] [(0, (1, (.const (vi 3))))]⟩, ⟨none, .build 18 [(vi 0), (vi 0), (vi 0), (vi 0), (vi 0), (vi 0), vn, vn] [(0, (1, (.const (vi 1)))), (5, (1, (.const (vi 1))))]⟩, ⟨none, .build 19 [(vi 0), (vi 0), (vi 0), (vi 0), (vi 0), (vi 0), vn, vn] [(0, (1, (.const (vi 4))))]⟩, ⟨none, .build 20 [(vi 0), (vi 0), (vi 0), (vi 0), (vi 0), (vi 0), vn, vn] [(0, (1, (.const (vi 4))))]⟩, ⟨none, .buildS 21 42 4 [(vi 0), (vi 0), (vi 0), (vi 0), (vi 0), (vi 0), vn, vn, (vi 0), (vi 0), (vi 0), (vi 0), (vi 0), (vi 0), vn, vn, (vi 0), (vi 0), (vi 0), (vi 0), (vi 0), (vi 0), vn, vn, (vi 0), (vi 0), (vi 0), (vi 0), (vi 0), (vi 0), vn, vn] [(0, (8, (.tmp 17))), (8, (8, (.tmp 18))), (16, (8, (.tmp 19))), (24, (8, (.tmp 20)))]⟩, ⟨none, .idx 22 12 (.tmp 16) (.const (vi 0))⟩, qf 23 22 2, qs 23 21]
def Qcb : List GO := [qV 25 1 3, ⟨none, .call (some 26) 7 [(.tmp 25), (.const vn), (.const (vi 9)), (.const (vi 0))]⟩, qm 24 26, qx 27 24 0, qx 28 24 1, ⟨none, .alloc 4 33 [(vi 0), vn, vn, (vi 0)]⟩, ⟨none, .alloc 5 29 [(vi 0), (vi 0)]⟩, qw 4 4 27, qw 2 5 28]
def Qca : List GO := [qf 29 2 0, ql 30 29, qj 31 .eql 3 30 0, qm 32 31, qg 32 true (qV 33 4 1), ⟨some (32, true), .buildS 34 2 1 [(vi 0)] [(0, (1, (.const (vi 5))))]⟩, ⟨some (32, true), .build 35 [(vi 0), vn, vn, (vi 0)] [(1, (1, (.tmp 34))), (3, (1, (.const (vi 2))))]⟩, ⟨some (32, true), .call (some 36) 8 [(.tmp 33), (.tmp 35)]⟩, ⟨none, .pick 37 (.tmp 32) (.tmp 36) (.const (.bool false))⟩, qm 38 37, qg 38 true (qV 39 2 5), ⟨some (38, true), .build 40 [(vi 0), (vi 0)] [(0, (1, (.const (vi 20)))), (1, (1, (.const (vi 3))))]⟩, qg 38 true (qt 41 .eql 29 39 40), ⟨none, .pick 42 (.tmp 38) (.tmp 41) (.const (.bool false))⟩, qm 0 42]
def Law_idealBegun_lc : LC := (.seq (.ops Qcf) (.seq (.ops Qce) (.seq (.ops Qcd) (.seq (.ops Qcc) (.seq (.ops Qcb) (.seq (.ops Qca) .ret))))))
@[reducible] def Q9d : FuncId := 4
theorem QaM : lowF Try.prog Try.f4 = some Law_idealBegun_lc := by kernel_rfl
theorem Qcg {w : World} {R : Ending → World → Prop} (h : Law_idealBegun_lc.wp Try.prog (retQ Try.prog [.tmp 0] R) (Qf []) w) : Calls Try.prog Q9d ⟨[]⟩ w R :=
  Q3 Try.func4 QaM (by kernel_rfl) (by kernel_rfl) h

/- 5 -/
def QkY : List GO := [qb 2 24 0, qk 4 (.bool false)]
def QkX : List GO := [qV 5 1 2, ⟨none, .call (some 6) 12 [(.tmp 5)]⟩, qm 7 6, qg 7 false (qm 8 1), qg 7 false (qj 9 .gtr 3 8 3000), ⟨none, .pick 10 (.tmp 7) (.const (.bool true)) (.tmp 9)⟩, qm 4 10]
def Law_long_lc : LC := (.seq (.ops QkY) (.seq (.ops QkX) .ret))
@[reducible] def QlA : FuncId := 5
theorem QjQ : lowF Try.prog Try.f5 = some Law_long_lc := by kernel_rfl
theorem QkZ {a0 a1 : Value} {w : World} {R : Ending → World → Prop} (h : Law_long_lc.wp Try.prog (retQ Try.prog [.tmp 4] R) (Qf [a0, a1]) w) : Calls Try.prog QlA ⟨[a0, a1]⟩ w R :=
  Q3 Try.func5 QjQ (by kernel_rfl) (by kernel_rfl) h

/- 6 -/
def QfJ : List GO := [⟨none, .alloc 6 29 [(vi 0), (vi 0)]⟩]
def QfI : List GO := [qm 7 0, qL 8 7, qj 9 .gtr 3 8 200, qm 10 9, qg 10 false (qm 11 1), qg 10 false (qj 12 .lss 3 11 0), ⟨none, .pick 13 (.tmp 10) (.const (.bool true)) (.tmp 12)⟩, qm 14 13, qg 14 false (qm 15 1), qg 14 false (qj 16 .gtr 3 15 20000), ⟨none, .pick 17 (.tmp 14) (.const (.bool true)) (.tmp 16)⟩, qm 18 17, qg 18 false (qm 19 2), qg 18 false (qj 20 .lss 3 19 0), ⟨none, .pick 21 (.tmp 18) (.const (.bool true)) (.tmp 20)⟩, qm 22 21, qg 22 false (qm 23 2), qg 22 false (qj 24 .gtr 3 23 64), ⟨none, .pick 25 (.tmp 22) (.const (.bool true)) (.tmp 24)⟩]
def QfH : List GO := [⟨none, .call (some 26) 13 [(.const (vi 1)), (.const (vi (-1)))]⟩, qw 2 6 26]
def QfG : List GO := [⟨none, .build 27 [(vi 0), (vi 0)] []⟩, qw 2 6 27]
def R_StartFault_lc : LC := (.seq (.ops QfJ) (.seq (.seq (.ops QfI) (.cond (.tmp 25) (.seq (.ops QfH) .ret) .skip)) (.seq (.ops QfG) .ret)))
@[reducible] def Q3W : FuncId := 6
theorem Qdy : lowF Try.prog Try.f6 = some R_StartFault_lc := by kernel_rfl
theorem QfK {a0 a1 a2 : Value} {w : World} {R : Ending → World → Prop} (h : R_StartFault_lc.wp Try.prog (retQ Try.prog [.cell 6 29] R) (Qf [a0, a1, a2]) w) : Calls Try.prog Q3W ⟨[a0, a1, a2]⟩ w R :=
  Q3 Try.func6 Qdy (by kernel_rfl) (by kernel_rfl) h

/- 7 -/
def QiV : List GO := [qb 4 24 0, ⟨none, .alloc 8 33 [(vi 0), vn, vn, (vi 0)]⟩, ⟨none, .alloc 9 29 [(vi 0), (vi 0)]⟩]
def QiU : List GO := [qV 14 1 4, qm 15 1, qm 16 2, qm 17 3, ⟨none, .call (some 18) 14 [(.tmp 14), (.tmp 15), (.tmp 16), (.tmp 17)]⟩, qm 13 18, qx 19 13 0, qx 20 13 1, ⟨none, .alloc 11 29 [(vi 0), (vi 0)]⟩, qm 10 19, qw 2 11 20]
def QiT : List GO := [qf 21 11 0, ql 22 21, qj 23 .neq 3 22 0]
def QiS : List GO := [⟨none, .build 24 [(vi 0), vn, vn, (vi 0)] []⟩, qV 25 2 11, qw 4 8 24, qw 2 9 25]
def QiX : List (List Nat) := [[],[],[0,0],[1,2,0,1,2]]
def QiR : List GO := [qm 26 10, ⟨none, .call (some 27) 15 [(.tmp 26)]⟩, ⟨none, .un 28 .not (.tmp 27)⟩]
def QiQ : List GO := [qm 29 10, ⟨none, .call (some 30) 16 [(.tmp 29)]⟩, ⟨none, .alloc 12 29 [(vi 0), (vi 0)]⟩, qw 2 12 30]
def QiP : List GO := [qf 31 12 0, ql 32 31, qj 33 .neq 3 32 0]
def QiO : List GO := [⟨none, .build 34 [(vi 0), vn, vn, (vi 0)] []⟩, qV 35 2 12, qw 4 8 34, qw 2 9 35]
def QiW : List (List Nat) := [[],[],[0,0],[1,2,0,1,2]]
def Qct : LC := (.seq (.seq (.ops QiR) (.cond (.tmp 28) .skip (.exit 0))) (.block 1 (.seq (.ops QiQ) (.seq (.ops QiP) (.cond (.tmp 33) (.seq (.draw QiO QiW) .ret) .skip)))))
def QiN : List GO := [qm 36 10, ⟨none, .call (some 37) 17 [(.tmp 36)]⟩, ⟨none, .build 38 [(vi 0), (vi 0)] []⟩, qw 4 8 37, qw 2 9 38]
def ideal_Run_lc : LC := (.seq (.ops QiV) (.seq (.ops QiU) (.seq (.seq (.ops QiT) (.cond (.tmp 23) (.seq (.draw QiS QiX) .ret) .skip)) (.seq (.block 0 (.loop Qct)) (.seq (.ops QiN) .ret)))))
@[reducible] def Q2d : FuncId := 7
theorem QhK : lowF Try.prog Try.f7 = some ideal_Run_lc := by kernel_rfl
theorem Qcs {a0 a1 a2 a3 : Value} {w : World} {R : Ending → World → Prop} (h : ideal_Run_lc.wp Try.prog (retQ Try.prog [.cell 8 33, .cell 9 29] R) (Qf [a0, a1, a2, a3]) w) : Calls Try.prog Q2d ⟨[a0, a1, a2, a3]⟩ w R :=
  Q3 Try.func7 QhK (by kernel_rfl) (by kernel_rfl) h

/- 8 -/
def QdA : List GO := [qb 2 33 0, qb 3 33 1, qk 4 (.bool false)]
def Qdz : List GO := [qf 5 2 0, ql 6 5, qf 7 3 0, ql 8 7, qt 9 .eql 3 6 8, qm 10 9, qg 10 true (qf 11 2 1), qg 10 true (ql 12 11), qg 10 true (qf 13 3 1), qg 10 true (ql 14 13), ⟨some (10, true), .call (some 15) 9 [(.tmp 12), (.tmp 14)]⟩, ⟨none, .pick 16 (.tmp 10) (.tmp 15) (.const (.bool false))⟩, qm 17 16, qg 17 true (qf 18 2 2), qg 17 true (ql 19 18), qg 17 true (qf 20 3 2), qg 17 true (ql 21 20), ⟨some (17, true), .call (some 22) 9 [(.tmp 19), (.tmp 21)]⟩, ⟨none, .pick 23 (.tmp 17) (.tmp 22) (.const (.bool false))⟩, qm 24 23, qg 24 true (qf 25 2 3), qg 24 true (ql 26 25), qg 24 true (qf 27 3 3), qg 24 true (ql 28 27), qg 24 true (qt 29 .eql 3 26 28), ⟨none, .pick 30 (.tmp 24) (.tmp 29) (.const (.bool false))⟩, qm 4 30]
def R_SameOutcome_lc : LC := (.seq (.ops QdA) (.seq (.ops Qdz) .ret))
@[reducible] def QaL : FuncId := 8
theorem QbW : lowF Try.prog Try.f8 = some R_SameOutcome_lc := by kernel_rfl
theorem QdB {a0 a1 : Value} {w : World} {R : Ending → World → Prop} (h : R_SameOutcome_lc.wp Try.prog (retQ Try.prog [.tmp 4] R) (Qf [a0, a1]) w) : Calls Try.prog QaL ⟨[a0, a1]⟩ w R :=
  Q3 Try.func8 QbW (by kernel_rfl) (by kernel_rfl) h

/- 9 -/
def QgH : List GO := [qk 4 (.bool false)]
def QgG : List GO := [qm 6 0, qL 7 6, qm 8 1, qL 9 8, qt 10 .neq 3 7 9]
def QgF : List GO := [qk 4 (.bool false)]
def QgE : List GO := [qk 5 (vi 0)]
def QgD : List GO := [qm 11 5, qm 12 0, qL 13 12, qt 14 .lss 3 11 13]
def QgC : List GO := [qm 17 0, qm 18 5, qi 19 1 17 18, ql 20 19, qm 21 1, qm 22 5, qi 23 1 21 22, ql 24 23, qt 25 .neq 2 20 24]
def QgJ : List (List Nat) := [[],[],[0,1],[2],[],[],[4,5],[6],[3,7]]
def QgB : List GO := [qk 4 (.bool false)]
def QgA : List GO := [qm 15 5, qj 16 .add 3 15 1, qm 5 16]
def Q9c : LC := (.seq (.seq (.ops QgD) (.cond (.tmp 14) .skip (.exit 0))) (.seq (.block 1 (.seq (.draw QgC QgJ) (.cond (.tmp 25) (.seq (.ops QgB) .ret) .skip))) (.ops QgA)))
def Qgz : List GO := [qk 4 (.bool true)]
def R_SameLongs_lc : LC := (.seq (.ops QgH) (.seq (.seq (.ops QgG) (.cond (.tmp 10) (.seq (.ops QgF) .ret) .skip)) (.seq (.seq (.ops QgE) (.block 0 (.loop Q9c))) (.seq (.ops Qgz) .ret))))
@[reducible] def Q2Q : FuncId := 9
theorem QfL : lowF Try.prog Try.f9 = some R_SameLongs_lc := by kernel_rfl
theorem QgI {a0 a1 : Value} {w : World} {R : Ending → World → Prop} (h : R_SameLongs_lc.wp Try.prog (retQ Try.prog [.tmp 4] R) (Qf [a0, a1]) w) : Calls Try.prog Q2Q ⟨[a0, a1]⟩ w R :=
  Q3 Try.func9 QfL (by kernel_rfl) (by kernel_rfl) h

/- 10 -/
def Ql5 : List GO := [⟨none, .alloc 0 24 [vn]⟩]
def Ql4 : List GO := [⟨none, .call (some 2) 11 []⟩, ⟨none, .alloc 1 24 [vn]⟩, qw 1 1 2]
def Ql3 : List GO := [qf 3 1 0, ql 4 3, ⟨none, .build 5 [(vi 0), (vi 0), vn] [(0, (1, (.const (vi 1))))]⟩, ⟨none, .buildS 6 62 1 [(vi 0), (vi 0), vn] [(0, (3, (.tmp 5)))]⟩, ⟨none, .idx 7 4 (.tmp 4) (.const (vi 0))⟩, qf 8 7 2, qs 8 6]
def Ql2 : List GO := [qf 9 1 0, ql 10 9, ⟨none, .idx 11 4 (.tmp 10) (.const (vi 0))⟩, qf 12 11 3, ql 13 12, ⟨none, .build 14 [(vi 0), (vi 0), (vi 0), (vi 0), (vi 0), (vi 0), vn, vn] [(0, (1, (.const (vi 1)))), (5, (1, (.const (vi 5))))]⟩, ⟨none, .buildS 15 42 1 [(vi 0), (vi 0), (vi 0), (vi 0), (vi 0), (vi 0), vn, vn] [(0, (8, (.tmp 14)))]⟩, ⟨none, .idx 16 12 (.tmp 13) (.const (vi 0))⟩, qf 17 16 2, qs 17 15]
def Ql1 : List GO := [qf 18 1 0, ql 19 18, ⟨none, .idx 20 4 (.tmp 19) (.const (vi 0))⟩, qf 21 20 3, ql 22 21, ⟨none, .buildS 23 3 1 [(vi 0)] [(0, (1, (.const (vi 0))))]⟩, ⟨none, .idx 24 12 (.tmp 22) (.const (vi 0))⟩, qf 25 24 3, qf 26 25 8, qs 26 23]
def Ql0 : List GO := [qV 27 1 1, qw 1 0 27]
def Law_five_lc : LC := (.seq (.ops Ql5) (.seq (.ops Ql4) (.seq (.ops Ql3) (.seq (.ops Ql2) (.seq (.ops Ql1) (.seq (.ops Ql0) .ret))))))
@[reducible] def QlB : FuncId := 10
theorem QjV : lowF Try.prog Try.f10 = some Law_five_lc := by kernel_rfl
theorem Ql6 {w : World} {R : Ending → World → Prop} (h : Law_five_lc.wp Try.prog (retQ Try.prog [.cell 0 24] R) (Qf []) w) : Calls Try.prog QlB ⟨[]⟩ w R :=
  Q3 Try.func10 QjV (by kernel_rfl) (by kernel_rfl) h

/- 11 -/
def QjS : List GO := [⟨none, .alloc 0 24 [vn]⟩]
def QjR : List GO := [⟨none, .build 1 [(vi 0), (vi 0), (vi 0), vn, vn, (vi 0), vn, vn, vn] [(0, (1, (.const (vi 3))))]⟩, ⟨none, .build 2 [(vi 0), vn, vn, (vi 0), (vi 0), (vi 0), vn, vn, (vi 0), vn, vn, vn] [(3, (9, (.tmp 1)))]⟩, ⟨none, .buildS 3 50 1 [(vi 0), vn, vn, (vi 0), (vi 0), (vi 0), vn, vn, (vi 0), vn, vn, vn] [(0, (12, (.tmp 2)))]⟩, ⟨none, .build 4 [(vi 0), vn, vn, vn] [(3, (1, (.tmp 3)))]⟩, ⟨none, .buildS 5 53 1 [(vi 0), vn, vn, vn] [(0, (4, (.tmp 4)))]⟩, ⟨none, .build 6 [vn] [(0, (1, (.tmp 5)))]⟩, qw 1 0 6]
def Law_least_lc : LC := (.seq (.ops QjS) (.seq (.ops QjR) .ret))
@[reducible] def QjU : FuncId := 11
theorem Qip : lowF Try.prog Try.f11 = some Law_least_lc := by kernel_rfl
theorem QjT {w : World} {R : Ending → World → Prop} (h : Law_least_lc.wp Try.prog (retQ Try.prog [.cell 0 24] R) (Qf []) w) : Calls Try.prog QjU ⟨[]⟩ w R :=
  Q3 Try.func11 Qip (by kernel_rfl) (by kernel_rfl) h

/- 12 -/
def QdL : List GO := [qb 1 24 0, qk 2 (.bool false)]
def QdK : List GO := [qf 8 1 0, ql 9 8, qL 10 9, qj 11 .gtr 3 10 20]
def QdJ : List GO := [qk 2 (.bool true)]
def QdI : List GO := [qk 3 (vi 0)]
def QdH : List GO := [qm 12 3, qf 13 1 0, ql 14 13, qL 15 14, qt 16 .lss 3 12 15]
def QdG : List GO := [qf 19 1 0, ql 20 19, qm 21 3, qi 22 4 20 21, qV 23 4 22, ⟨none, .alloc 4 53 [(vi 0), vn, vn, vn]⟩, qw 4 4 23]
def QdF : List GO := [qf 24 4 3, ql 25 24, qL 26 25, qj 27 .gtr 3 26 30, qm 28 27, qg 28 false (qf 29 4 1), qg 28 false (ql 30 29), ⟨some (28, false), .call (some 31) 18 [(.tmp 30)]⟩, ⟨none, .pick 32 (.tmp 28) (.const (.bool true)) (.tmp 31)⟩, qm 33 32, qg 33 false (qf 34 4 2), qg 33 false (ql 35 34), ⟨some (33, false), .call (some 36) 18 [(.tmp 35)]⟩, ⟨none, .pick 37 (.tmp 33) (.const (.bool true)) (.tmp 36)⟩]
def QdE : List GO := [qk 2 (.bool true)]
def QdD : List GO := [qk 5 (vi 0)]
def QdC : List GO := [qm 38 5, qf 39 4 3, ql 40 39, qL 41 40, qt 42 .lss 3 38 41]
def Qc7 : List GO := [qf 45 4 3, ql 46 45, qm 47 5, qi 48 12 46 47, qV 49 12 48, ⟨none, .alloc 6 50 [(vi 0), vn, vn, (vi 0), (vi 0), (vi 0), vn, vn, (vi 0), vn, vn, vn]⟩, qw 12 6 49]
def Qc6 : List GO := [qf 50 6 2, ql 51 50, qL 52 51, qj 53 .gtr 3 52 200, qm 54 53, qg 54 false (qf 55 6 1), qg 54 false (ql 56 55), ⟨some (54, false), .call (some 57) 18 [(.tmp 56)]⟩, ⟨none, .pick 58 (.tmp 54) (.const (.bool true)) (.tmp 57)⟩, qm 59 58, qg 59 false (qf 60 6 3), qg 59 false (qf 61 60 8), qg 59 false (ql 62 61), qg 59 false (qL 63 62), qg 59 false (qj 64 .gtr 3 63 300), ⟨none, .pick 65 (.tmp 59) (.const (.bool true)) (.tmp 64)⟩, qm 66 65, qg 66 false (qf 67 6 3), qg 66 false (qf 68 67 2), qg 66 false (qf 69 68 1), qg 66 false (ql 70 69), qg 66 false (qL 71 70), qg 66 false (qj 72 .gtr 3 71 300), ⟨none, .pick 73 (.tmp 66) (.const (.bool true)) (.tmp 72)⟩, qm 74 73, qg 74 false (qf 75 6 3), qg 74 false (qf 76 75 2), qg 74 false (qf 77 76 2), qg 74 false (ql 78 77), qg 74 false (qL 79 78), qg 74 false (qj 80 .gtr 3 79 300), ⟨none, .pick 81 (.tmp 74) (.const (.bool true)) (.tmp 80)⟩, qm 82 81, qg 82 false (qf 83 6 3), qg 82 false (qf 84 83 5), qg 82 false (qf 85 84 1), qg 82 false (ql 86 85), qg 82 false (qL 87 86), qg 82 false (qj 88 .gtr 3 87 300), ⟨none, .pick 89 (.tmp 82) (.const (.bool true)) (.tmp 88)⟩, qm 90 89, qg 90 false (qf 91 6 3), qg 90 false (qf 92 91 5), qg 90 false (qf 93 92 2), qg 90 false (ql 94 93), qg 90 false (qL 95 94), qg 90 false (qj 96 .gtr 3 95 300), ⟨none, .pick 97 (.tmp 90) (.const (.bool true)) (.tmp 96)⟩]
def Qc5 : List GO := [qk 2 (.bool true)]
def Qc4 : List GO := [qk 7 (vi 0)]
def Qc3 : List GO := [qm 98 7, qf 99 6 2, ql 100 99, qL 101 100, qt 102 .lss 3 98 101]
def Qc2 : List GO := [qf 105 6 2, ql 106 105, qm 107 7, qi 108 8 106 107, qf 109 108 6, ql 110 109, qL 111 110, qj 112 .gtr 3 111 300, qm 113 112, qg 113 false (qf 114 6 2), qg 113 false (ql 115 114), qg 113 false (qm 116 7), qg 113 false (qi 117 8 115 116), qg 113 false (qf 118 117 7), qg 113 false (ql 119 118), qg 113 false (qL 120 119), qg 113 false (qj 121 .gtr 3 120 300), ⟨none, .pick 122 (.tmp 113) (.const (.bool true)) (.tmp 121)⟩]
def Qc1 : List GO := [qk 2 (.bool true)]
def Qc0 : List GO := [qm 103 7, qj 104 .add 3 103 1, qm 7 104]
def Q4w : LC := (.seq (.seq (.ops Qc3) (.cond (.tmp 102) .skip (.exit 4))) (.seq (.block 5 (.seq (.ops Qc2) (.cond (.tmp 122) (.seq (.ops Qc1) .ret) .skip))) (.ops Qc0)))
def QbZ : List GO := [qm 43 5, qj 44 .add 3 43 1, qm 5 44]
def Q53 : LC := (.seq (.seq (.ops QdC) (.cond (.tmp 42) .skip (.exit 2))) (.seq (.block 3 (.seq (.ops Qc7) (.seq (.seq (.ops Qc6) (.cond (.tmp 97) (.seq (.ops Qc5) .ret) .skip)) (.seq (.ops Qc4) (.block 4 (.loop Q4w)))))) (.ops QbZ)))
def QbY : List GO := [qm 17 3, qj 18 .add 3 17 1, qm 3 18]
def Q54 : LC := (.seq (.seq (.ops QdH) (.cond (.tmp 16) .skip (.exit 0))) (.seq (.block 1 (.seq (.ops QdG) (.seq (.seq (.ops QdF) (.cond (.tmp 37) (.seq (.ops QdE) .ret) .skip)) (.seq (.ops QdD) (.block 2 (.loop Q53)))))) (.ops QbY)))
def QbX : List GO := [qk 2 (.bool false)]
def R_GreatModule_lc : LC := (.seq (.ops QdL) (.seq (.seq (.ops QdK) (.cond (.tmp 11) (.seq (.ops QdJ) .ret) .skip)) (.seq (.seq (.ops QdI) (.block 0 (.loop Q54))) (.seq (.ops QbX) .ret))))
@[reducible] def QV : FuncId := 12
theorem Qc8 : lowF Try.prog Try.f12 = some R_GreatModule_lc := by kernel_rfl
theorem QdM {a0 : Value} {w : World} {R : Ending → World → Prop} (h : R_GreatModule_lc.wp Try.prog (retQ Try.prog [.tmp 2] R) (Qf [a0]) w) : Calls Try.prog QV ⟨[a0]⟩ w R :=
  Q3 Try.func12 Qc8 (by kernel_rfl) (by kernel_rfl) h

/- 13 -/
def R_F_r0 : List GO := [⟨none, .alloc 4 29 [(vi 0), (vi 0)]⟩]
def R_F_r1 : List GO := [qm 5 0, qm 6 1, ⟨none, .build 7 [(vi 0), (vi 0)] [(0, (1, (.tmp 5))), (1, (1, (.tmp 6)))]⟩, qw 2 4 7]
def R_F_lc : LC := (.seq (.ops R_F_r0) (.seq (.ops R_F_r1) .ret))
@[reducible] def R_F : FuncId := 13
theorem R_F_low : lowF Try.prog Try.f13 = some R_F_lc := by kernel_rfl
theorem R_F_in {a0 a1 : Value} {w : World} {R : Ending → World → Prop} (h : R_F_lc.wp Try.prog (retQ Try.prog [.cell 4 29] R) (Qf [a0, a1]) w) : Calls Try.prog R_F ⟨[a0, a1]⟩ w R :=
  Q3 Try.func13 R_F_low (by kernel_rfl) (by kernel_rfl) h

/- 14 -/
def Qj4 : List GO := [qb 4 24 0, qk 8 (.pointer none), ⟨none, .alloc 9 29 [(vi 0), (vi 0)]⟩]
def Qj3 : List GO := [qV 11 1 4, ⟨none, .call (some 12) 19 [(.tmp 11)]⟩, ⟨none, .alloc 10 29 [(vi 0), (vi 0)]⟩, qw 2 10 12]
def Qj2 : List GO := [qf 13 10 0, ql 14 13, qj 15 .neq 3 14 0]
def Qj1 : List GO := [qV 16 2 10, qk 8 (.pointer none), qw 2 9 16]
def Qj7 : List (List Nat) := [[],[],[0,1,0,1]]
def Qj0 : List GO := [qm 17 1, qL 18 17, qj 19 .gtr 3 18 200, qm 20 19, qg 20 false (qm 21 2), qg 20 false (qj 22 .lss 3 21 0), ⟨none, .pick 23 (.tmp 20) (.const (.bool true)) (.tmp 22)⟩, qm 24 23, qg 24 false (qm 25 2), qg 24 false (qj 26 .gtr 3 25 20000), ⟨none, .pick 27 (.tmp 24) (.const (.bool true)) (.tmp 26)⟩, qm 28 27, qg 28 false (qm 29 3), qg 28 false (qj 30 .lss 3 29 0), ⟨none, .pick 31 (.tmp 28) (.const (.bool true)) (.tmp 30)⟩, qm 32 31, qg 32 false (qm 33 3), qg 32 false (qj 34 .gtr 3 33 64), ⟨none, .pick 35 (.tmp 32) (.const (.bool true)) (.tmp 34)⟩]
def QiZ : List GO := [⟨none, .build 36 [(vi 0), (vi 0)] [(0, (1, (.const (vi 1)))), (1, (1, (.const (vi (-1)))))]⟩, qk 8 (.pointer none), qw 2 9 36]
def QiY : List GO := [qm 37 3, ⟨none, .call (some 38) 20 [(.tmp 37)]⟩, qV 39 1 4, ⟨none, .call (some 40) 21 [(.tmp 39)]⟩, ⟨none, .build 41 [(vi 0), (vi 0), (vi 0), vn, vn] []⟩, ⟨none, .buildS 42 70 1 [(vi 0), (vi 0), (vi 0), vn, vn] [(0, (5, (.tmp 41)))]⟩, qm 43 1, ⟨none, .call (some 44) 22 [(.tmp 43)]⟩, qm 45 2, ⟨none, .build 46 [(.pointer none), vn, vn, vn, (vi 0), vn, vn, (vi 0), (vi 0), (.bool false), (vi 0), (vi 0)] [(0, (1, (.tmp 38))), (1, (1, (.tmp 40))), (2, (1, (.tmp 42))), (3, (1, (.tmp 44))), (8, (1, (.tmp 45)))]⟩, qb 47 74 46, ⟨none, .build 48 [(vi 0), (vi 0)] []⟩, qm 8 47, qw 2 9 48]
def Qj6 : List (List Nat) := [[],[0],[],[2,1],[],[4],[],[6,3],[],[1,3,5,7,8],[9],[],[10,7,0,1,2,3,4,5,6,7,8,9,10],[11,12,0,1,2,3,4,5,6,7,8,9,10,11,12]]
def ideal_New_lc : LC := (.seq (.ops Qj4) (.seq (.seq (.ops Qj3) (.seq (.ops Qj2) (.cond (.tmp 15) (.seq (.draw Qj1 Qj7) .ret) .skip))) (.seq (.seq (.ops Qj0) (.cond (.tmp 35) (.seq (.ops QiZ) .ret) .skip)) (.seq (.draw QiY Qj6) .ret))))
@[reducible] def Q4d : FuncId := 14
theorem QhL : lowF Try.prog Try.f14 = some ideal_New_lc := by kernel_rfl
theorem Qj5 {a0 a1 a2 a3 : Value} {w : World} {R : Ending → World → Prop} (h : ideal_New_lc.wp Try.prog (retQ Try.prog [.tmp 8, .cell 9 29] R) (Qf [a0, a1, a2, a3]) w) : Calls Try.prog Q4d ⟨[a0, a1, a2, a3]⟩ w R :=
  Q3 Try.func14 QhL (by kernel_rfl) (by kernel_rfl) h

/- 15 -/
def Q7w : List GO := [qk 2 (.bool false)]
def Q7v : List GO := [qm 3 0, qn 4 3, qf 5 4 9, ql 6 5, qm 2 6]
def ideal_Machine_Done_lc : LC := (.seq (.ops Q7w) (.seq (.ops Q7v) .ret))
@[reducible] def Q3Q : FuncId := 15
theorem Q5t : lowF Try.prog Try.f15 = some ideal_Machine_Done_lc := by kernel_rfl
theorem Q7x {a0 : Value} {w : World} {R : Ending → World → Prop} (h : ideal_Machine_Done_lc.wp Try.prog (retQ Try.prog [.tmp 2] R) (Qf [a0]) w) : Calls Try.prog Q3Q ⟨[a0]⟩ w R :=
  Q3 Try.func15 Q5t (by kernel_rfl) (by kernel_rfl) h

/- 16 -/
def Q7t : List GO := [qb 1 56 0, ⟨none, .alloc 2 29 [(vi 0), (vi 0)]⟩]
def Q7s : List GO := [ql 4 1, qn 5 4, qf 6 5 9, ql 7 6, qm 8 7, qg 8 false (ql 9 1), qg 8 false (qn 10 9), qg 8 false (qf 11 10 10), qg 8 false (qf 12 11 0), qg 8 false (ql 13 12), qg 8 false (qj 14 .neq 3 13 0), ⟨none, .pick 15 (.tmp 8) (.const (.bool true)) (.tmp 14)⟩]
def Q7r : List GO := [ql 16 1, qn 17 16, qf 18 17 10, qV 19 2 18, qw 2 2 19]
def Q7q : List GO := [ql 20 1, ⟨none, .call (some 21) 23 [(.tmp 20)]⟩, ⟨none, .alloc 3 3 [(vi 0)]⟩, qs 3 21]
def Q7p : List GO := [⟨none, .mkfn 22 24 [(.tmp 3), (.tmp 1), (.tmp 2)]⟩]
def Q7o : List GO := []
def Q7n : List GO := [ql 23 1, ⟨none, .call (some 24) 25 [(.tmp 23)]⟩]
def Q7m : List GO := [⟨none, .build 25 [(vi 0), (vi 0)] []⟩, qw 2 2 25]
def ideal_Machine_Step_ld : LD := (.seq (.pl (.ops Q7t)) (.seq (.pl (.seq (.ops Q7s) (.cond (.tmp 15) (.seq (.ops Q7r) .ret) .skip))) (.seq (.pl (.ops Q7q)) (.seq (.sp Q7p (.dfr none (.tmp 22)) Q7o) (.pl (.seq (.ops Q7n) (.seq (.ops Q7m) .ret)))))))
@[reducible] def Q2F : FuncId := 16
theorem Q5s : QlQ Try.prog Try.f16 = some ideal_Machine_Step_ld := by kernel_rfl
theorem Q7u {a0 : Value} {w : World} {R : Ending → World → Prop} (h : ideal_Machine_Step_ld.wpD Try.prog (retD Try.prog [.cell 2 29] R) [] (Qf [a0]) w) : Calls Try.prog Q2F ⟨[a0]⟩ w R :=
  Qie Try.func16 Q5s (by kernel_rfl) (by kernel_rfl) h
/- 17 -/
def Q4p : List GO := [⟨none, .alloc 2 33 [(vi 0), vn, vn, (vi 0)]⟩]
def Q4o : List GO := [qm 4 0, qn 5 4, qf 6 5 4, qV 7 4 6, ⟨none, .alloc 3 33 [(vi 0), vn, vn, (vi 0)]⟩, qw 4 3 7]
def Q4n : List GO := [qf 8 3 1, ql 9 8, ⟨none, .call (some 10) 22 [(.tmp 9)]⟩, qf 11 3 2, ql 12 11, ⟨none, .call (some 13) 22 [(.tmp 12)]⟩, qf 14 3 1, qs 14 10, qf 15 3 2, qs 15 13]
def Q4r : List (List Nat) := [[],[0],[1],[],[3],[4,2],[0,1,2,3,4],[6,2,5,0,1,2,3,4],[0,1,2,3,4,5,6,7],[8,5,7,0,1,2,3,4,5,6,7]]
def Q4m : List GO := [qV 16 4 3, qw 4 2 16]
def ideal_Machine_Outcome_lc : LC := (.seq (.ops Q4p) (.seq (.ops Q4o) (.seq (.draw Q4n Q4r) (.seq (.ops Q4m) .ret))))
@[reducible] def Q30 : FuncId := 17
theorem Q49 : lowF Try.prog Try.f17 = some ideal_Machine_Outcome_lc := by kernel_rfl
theorem Q4q {a0 : Value} {w : World} {R : Ending → World → Prop} (h : ideal_Machine_Outcome_lc.wp Try.prog (retQ Try.prog [.cell 2 33] R) (Qf [a0]) w) : Calls Try.prog Q30 ⟨[a0]⟩ w R :=
  Q3 Try.func17 Q49 (by kernel_rfl) (by kernel_rfl) h

/- 18 -/
def QfE : List GO := [qk 2 (.bool false)]
def QfD : List GO := [qm 4 0, qL 5 4, qj 6 .gtr 3 5 200]
def QfC : List GO := [qk 2 (.bool true)]
def QfB : List GO := [qk 3 (vi 0)]
def QfA : List GO := [qm 7 3, qm 8 0, qL 9 8, qt 10 .lss 3 7 9]
def Qfz : List GO := [qm 13 0, qm 14 3, qi 15 3 13 14, qV 16 3 15, ⟨none, .call (some 17) 26 [(.tmp 16)]⟩]
def Qfy : List GO := [qk 2 (.bool true)]
def Qfx : List GO := [qm 11 3, qj 12 .add 3 11 1, qm 3 12]
def Q7J : LC := (.seq (.seq (.ops QfA) (.cond (.tmp 10) .skip (.exit 0))) (.seq (.block 1 (.seq (.ops Qfz) (.cond (.tmp 17) (.seq (.ops Qfy) .ret) .skip))) (.ops Qfx)))
def Qfw : List GO := [qk 2 (.bool false)]
def R_greatTypes_lc : LC := (.seq (.ops QfE) (.seq (.seq (.ops QfD) (.cond (.tmp 6) (.seq (.ops QfC) .ret) .skip)) (.seq (.seq (.ops QfB) (.block 0 (.loop Q7J))) (.seq (.ops Qfw) .ret))))
@[reducible] def Q2p : FuncId := 18
theorem Qdx : lowF Try.prog Try.f18 = some R_greatTypes_lc := by kernel_rfl
theorem QfF {a0 : Value} {w : World} {R : Ending → World → Prop} (h : R_greatTypes_lc.wp Try.prog (retQ Try.prog [.tmp 2] R) (Qf [a0]) w) : Calls Try.prog Q2p ⟨[a0]⟩ w R :=
  Q3 Try.func18 Qdx (by kernel_rfl) (by kernel_rfl) h

/- 19 -/
def Qib : List GO := [qb 1 24 0, ⟨none, .alloc 2 29 [(vi 0), (vi 0)]⟩]
def Qia : List GO := [qV 7 1 1, ⟨none, .build 8 [vn, (vi 0), (vi 0), (vi 0)] [(0, (1, (.tmp 7))), (3, (1, (.const (vi (-1)))))]⟩, qb 9 82 8, qm 3 9]
def Qi9 : List GO := [qm 10 3, qf 11 1 0, ql 12 11, qL 13 12, qj 14 .eql 3 13 0, qm 15 14, qg 15 false (qf 16 1 0), qg 15 false (ql 17 16), qg 15 false (qL 18 17), qg 15 false (qj 19 .gtr 3 18 8), ⟨none, .pick 20 (.tmp 15) (.const (.bool true)) (.tmp 19)⟩, ⟨none, .call (some 21) 27 [(.tmp 10), (.tmp 20), (.const (vi 2))]⟩]
def Qi8 : List GO := [qk 4 (vi 0)]
def Qi7 : List GO := [qm 22 4, qf 23 1 0, ql 24 23, qL 25 24, qt 26 .lss 3 22 25, qm 27 26, qg 27 true (qm 28 3), qg 27 true (qn 29 28), qg 27 true (qf 30 29 1), qg 27 true (qf 31 30 0), qg 27 true (ql 32 31), qg 27 true (qj 33 .eql 3 32 0), ⟨none, .pick 34 (.tmp 27) (.tmp 33) (.const (.bool false))⟩]
def Qi6 : List GO := [qf 37 1 0, ql 38 37, qm 39 4, qi 40 4 38 39, qV 41 4 40, ⟨none, .alloc 5 53 [(vi 0), vn, vn, vn]⟩, qw 4 5 41]
def Qi5 : List GO := [qm 42 3, qm 43 4, ⟨none, .call (some 44) 28 [(.tmp 43)]⟩, qn 45 42, qf 46 45 3, qs 46 44]
def Qi4 : List GO := [qm 47 3, qf 48 5 0, ql 49 48, qj 50 .lss 3 49 0, qm 51 50, qg 51 false (qf 52 5 0), qg 51 false (ql 53 52), qg 51 false (qj 54 .gtr 3 53 6), ⟨none, .pick 55 (.tmp 51) (.const (.bool true)) (.tmp 54)⟩, ⟨none, .call (some 56) 27 [(.tmp 47), (.tmp 55), (.const (vi 1))]⟩]
def Qi3 : List GO := [qm 57 3, qf 58 5 1, ql 59 58, qf 60 5 0, ql 61 60, ⟨none, .call (some 62) 29 [(.tmp 57), (.tmp 59), (.tmp 61)]⟩]
def Qi2 : List GO := [qm 63 3, qf 64 5 2, ql 65 64, qf 66 5 0, ql 67 66, ⟨none, .call (some 68) 29 [(.tmp 63), (.tmp 65), (.tmp 67)]⟩]
def Qgp : List GO := [qm 69 3, qf 70 5 3, ql 71 70, qL 72 71, qj 73 .eql 3 72 0, qm 74 73, qg 74 false (qf 75 5 3), qg 74 false (ql 76 75), qg 74 false (qL 77 76), qg 74 false (qj 78 .gtr 3 77 12), ⟨none, .pick 79 (.tmp 74) (.const (.bool true)) (.tmp 78)⟩, ⟨none, .call (some 80) 27 [(.tmp 69), (.tmp 79), (.const (vi 2))]⟩]
def Qgo : List GO := [qm 81 3, qm 82 4, qj 83 .eql 3 82 0, qm 84 83, qg 84 true (qf 85 5 0), qg 84 true (ql 86 85), qg 84 true (qj 87 .gtr 3 86 0), qg 84 true (qm 88 87), qg 88 false (qf 89 5 1), qg 88 false (ql 90 89), qg 88 false (qL 91 90), qg 88 false (qj 92 .gtr 3 91 0), ⟨some (84, true), .pick 93 (.tmp 88) (.const (.bool true)) (.tmp 92)⟩, qg 84 true (qm 94 93), qg 94 false (qf 95 5 2), qg 94 false (ql 96 95), ⟨some (94, false), .call (some 97) 30 [(.tmp 96), (.func 31)]⟩, ⟨some (84, true), .pick 98 (.tmp 94) (.const (.bool true)) (.tmp 97)⟩, ⟨none, .pick 99 (.tmp 84) (.tmp 98) (.const (.bool false))⟩, ⟨none, .call (some 100) 27 [(.tmp 81), (.tmp 99), (.const (vi 18))]⟩]
def Qgn : List GO := [qk 6 (vi 0)]
def Qgm : List GO := [qm 101 6, qf 102 5 3, ql 103 102, qL 104 103, qt 105 .lss 3 101 104, qm 106 105, qg 106 true (qm 107 3), qg 106 true (qn 108 107), qg 106 true (qf 109 108 1), qg 106 true (qf 110 109 0), qg 106 true (ql 111 110), qg 106 true (qj 112 .eql 3 111 0), ⟨none, .pick 113 (.tmp 106) (.tmp 112) (.const (.bool false))⟩]
def Qgl : List GO := [qm 116 3, qm 117 4, qm 118 6, ⟨none, .call (some 119) 32 [(.tmp 116), (.tmp 117), (.tmp 118)]⟩]
def Qgk : List GO := [qm 114 6, qj 115 .add 3 114 1, qm 6 115]
def Q9b : LC := (.seq (.seq (.ops Qgm) (.cond (.tmp 113) .skip (.exit 2))) (.seq (.block 3 (.ops Qgl)) (.ops Qgk)))
def Qgj : List GO := [qm 35 4, qj 36 .add 3 35 1, qm 4 36]
def QaG : LC := (.seq (.seq (.ops Qi7) (.cond (.tmp 34) .skip (.exit 0))) (.seq (.block 1 (.seq (.ops Qi6) (.seq (.ops Qi5) (.seq (.ops Qi4) (.seq (.ops Qi3) (.seq (.ops Qi2) (.seq (.ops Qgp) (.seq (.ops Qgo) (.seq (.ops Qgn) (.block 2 (.loop Q9b))))))))))) (.ops Qgj)))
def Qgi : List GO := [qm 120 3, qn 121 120, qf 122 121 1, qV 123 2 122, qw 2 2 123]
def code_Check_lc : LC := (.seq (.ops Qib) (.seq (.ops Qia) (.seq (.ops Qi9) (.seq (.seq (.ops Qi8) (.block 0 (.loop QaG))) (.seq (.ops Qgi) .ret)))))
@[reducible] def Q3l : FuncId := 19
theorem Qgq : lowF Try.prog Try.f19 = some code_Check_lc := by kernel_rfl
theorem Qic {a0 : Value} {w : World} {R : Ending → World → Prop} (h : code_Check_lc.wp Try.prog (retQ Try.prog [.cell 2 29] R) (Qf [a0]) w) : Calls Try.prog Q3l ⟨[a0]⟩ w R :=
  Q3 Try.func19 Qgq (by kernel_rfl) (by kernel_rfl) h

/- 20 -/
def Qkq : List GO := [qk 2 (.pointer none)]
def Qkp : List GO := [qm 3 0, ⟨none, .build 4 [vn, (vi 0), (vi 0)] [(1, (1, (.tmp 3)))]⟩, qb 5 90 4, qm 2 5]
def heap_New_lc : LC := (.seq (.ops Qkq) (.seq (.ops Qkp) .ret))
@[reducible] def Qls : FuncId := 20
theorem Qjb : lowF Try.prog Try.f20 = some heap_New_lc := by kernel_rfl
theorem Qkr {a0 : Value} {w : World} {R : Ending → World → Prop} (h : heap_New_lc.wp Try.prog (retQ Try.prog [.tmp 2] R) (Qf [a0]) w) : Calls Try.prog Qls ⟨[a0]⟩ w R :=
  Q3 Try.func20 Qjb (by kernel_rfl) (by kernel_rfl) h

/- 21 -/
def QkG : List GO := [qb 1 24 0, ⟨none, .alloc 2 24 [vn]⟩]
def QkF : List GO := [⟨none, .alloc 3 24 [vn]⟩]
def QkE : List GO := [qf 12 1 0, ql 13 12, qL 14 13, qk 15 (vi 0)]
def QkD : List GO := [qt 16 .lss 3 15 14]
def QkC : List GO := [qi 17 4 13 15, qV 18 4 17, ⟨none, .alloc 5 53 [(vi 0), vn, vn, vn]⟩, qw 4 5 18]
def QkB : List GO := [qf 19 5 0, ql 20 19, qf 21 5 1, ql 22 21, ⟨none, .call (some 23) 33 [(.tmp 22)]⟩, qf 24 5 2, ql 25 24, ⟨none, .call (some 26) 33 [(.tmp 25)]⟩, ⟨none, .build 27 [(vi 0), vn, vn, vn] [(0, (1, (.tmp 20))), (1, (1, (.tmp 23))), (2, (1, (.tmp 26)))]⟩, ⟨none, .alloc 6 53 [(vi 0), vn, vn, vn]⟩, qw 4 6 27]
def QkJ : List (List Nat) := [[],[0],[],[2],[3],[],[5],[6,4],[1,4,7],[],[9,8,7,0,1,2,3,4,5,6,7,8,9]]
def QkA : List GO := [qf 28 5 3, ql 29 28, qL 30 29, qk 31 (vi 0)]
def Qkz : List GO := [qt 32 .lss 3 31 30]
def Qky : List GO := [qi 33 12 29 31, qV 34 12 33, ⟨none, .alloc 8 50 [(vi 0), vn, vn, (vi 0), (vi 0), (vi 0), vn, vn, (vi 0), vn, vn, vn]⟩, qw 12 8 34]
def Qkx : List GO := [qf 35 8 0, ql 36 35, qf 37 8 1, ql 38 37, ⟨none, .call (some 39) 33 [(.tmp 38)]⟩, qf 40 8 3, qV 41 9 40, ⟨none, .build 42 [(vi 0), vn, vn, (vi 0), (vi 0), (vi 0), vn, vn, (vi 0), vn, vn, vn] [(0, (1, (.tmp 36))), (1, (1, (.tmp 39))), (3, (9, (.tmp 41)))]⟩, ⟨none, .alloc 9 50 [(vi 0), vn, vn, (vi 0), (vi 0), (vi 0), vn, vn, (vi 0), vn, vn, vn]⟩, qw 12 9 42]
def QkI : List (List Nat) := [[],[0],[],[2],[3],[],[5],[1,4,6],[],[8,7,4,0,1,2,3,4,5,6,7,8]]
def Qju : List GO := [qf 43 8 3, qf 44 43 2, qV 45 3 44, ⟨none, .call (some 46) 34 [(.tmp 45)]⟩, qf 47 8 3, qf 48 47 5, qV 49 3 48, ⟨none, .call (some 50) 34 [(.tmp 49)]⟩, qf 51 8 3, qf 52 51 8, ql 53 52, ⟨none, .call (some 54) 35 [(.tmp 53)]⟩, qf 55 9 3, qf 56 55 2, qw 3 56 46, qf 57 9 3, qf 58 57 5, qw 3 58 50, qf 59 9 3, qf 60 59 8, qs 60 54]
def Qjx : List (List Nat) := [[],[0],[1],[2],[],[4],[5],[6,3],[],[8],[9],[10,7],[0,1,2,3],[12,0,1,2,3],[13,3,11,0,1,2,3],[0,1,2,3,4,5,6,7,12,13,14],[15,0,1,2,3,4,5,6,7,12,13,14],[16,7,14,0,1,2,3,4,5,6,7,12,13,14],[0,1,2,3,4,5,6,7,8,9,10,11,12,13,14,15,16,17],[18,0,1,2,3,4,5,6,7,8,9,10,11,12,13,14,15,16,17],[19,11,17,0,1,2,3,4,5,6,7,8,9,10,11,12,13,14,15,16,17]]
def Qjt : List GO := [qf 61 8 2, ql 62 61, qL 63 62, qk 64 (vi 0)]
def Qjs : List GO := [qt 65 .lss 3 64 63]
def Qjr : List GO := [qi 66 8 62 64, qV 67 8 66, ⟨none, .alloc 11 42 [(vi 0), (vi 0), (vi 0), (vi 0), (vi 0), (vi 0), vn, vn]⟩, qw 8 11 67]
def Qjq : List GO := [qf 68 11 6, ql 69 68, ⟨none, .call (some 70) 35 [(.tmp 69)]⟩, qf 71 11 7, ql 72 71, ⟨none, .call (some 73) 35 [(.tmp 72)]⟩, qf 74 11 6, qs 74 70, qf 75 11 7, qs 75 73]
def Qjw : List (List Nat) := [[],[0],[1],[],[3],[4,2],[0,1,2,3,4],[6,2,5,0,1,2,3,4],[0,1,2,3,4,5,6,7],[8,5,7,0,1,2,3,4,5,6,7]]
def Qjp : List GO := [qf 76 9 2, ql 77 76, qV 78 8 11, ⟨none, .buildS 79 42 1 [(vi 0), (vi 0), (vi 0), (vi 0), (vi 0), (vi 0), vn, vn] [(0, (8, (.tmp 78)))]⟩, ⟨none, .raw ⟨(some 80), (.call ⟨(.builtin .append), #[(.tmp 77), (.tmp 79)], #[43, 43]⟩), 43, "", #[], none⟩⟩, qf 81 9 2, qs 81 80]
def Qjo : List GO := [qj 82 .add 3 64 1, qm 64 82]
def Qcw : LC := (.seq (.ops Qjs) (.seq (.cond (.tmp 65) .skip (.exit 4)) (.seq (.block 5 (.seq (.ops Qjr) (.seq (.draw Qjq Qjw) (.ops Qjp)))) (.ops Qjo))))
def Qjn : List GO := [qf 83 6 3, ql 84 83, qV 85 12 9, ⟨none, .buildS 86 50 1 [(vi 0), vn, vn, (vi 0), (vi 0), (vi 0), vn, vn, (vi 0), vn, vn, vn] [(0, (12, (.tmp 85)))]⟩, ⟨none, .raw ⟨(some 87), (.call ⟨(.builtin .append), #[(.tmp 84), (.tmp 86)], #[51, 51]⟩), 51, "", #[], none⟩⟩, qf 88 6 3, qs 88 87]
def Qjm : List GO := [qj 89 .add 3 31 1, qm 31 89]
def Qfb : LC := (.seq (.ops Qkz) (.seq (.cond (.tmp 32) .skip (.exit 2)) (.seq (.block 3 (.seq (.ops Qky) (.seq (.draw Qkx QkI) (.seq (.draw Qju Qjx) (.seq (.seq (.ops Qjt) (.block 4 (.loop Qcw))) (.ops Qjn)))))) (.ops Qjm))))
def Qjl : List GO := [qf 90 3 0, ql 91 90, qV 92 4 6, ⟨none, .buildS 93 53 1 [(vi 0), vn, vn, vn] [(0, (4, (.tmp 92)))]⟩, ⟨none, .raw ⟨(some 94), (.call ⟨(.builtin .append), #[(.tmp 91), (.tmp 93)], #[22, 22]⟩), 22, "", #[], none⟩⟩, qf 95 3 0, qs 95 94]
def Qjk : List GO := [qj 96 .add 3 15 1, qm 15 96]
def Qfc : LC := (.seq (.ops QkD) (.seq (.cond (.tmp 16) .skip (.exit 0)) (.seq (.block 1 (.seq (.ops QkC) (.seq (.draw QkB QkJ) (.seq (.seq (.ops QkA) (.block 2 (.loop Qfb))) (.ops Qjl))))) (.ops Qjk))))
def Qjj : List GO := [qV 97 1 3, qw 1 2 97]
def code_Own_lc : LC := (.seq (.ops QkG) (.seq (.ops QkF) (.seq (.seq (.ops QkE) (.block 0 (.loop Qfc))) (.seq (.ops Qjj) .ret))))
@[reducible] def Qlx : FuncId := 21
theorem Qjv : lowF Try.prog Try.f21 = some code_Own_lc := by kernel_rfl
theorem QkH {a0 : Value} {w : World} {R : Ending → World → Prop} (h : code_Own_lc.wp Try.prog (retQ Try.prog [.cell 2 24] R) (Qf [a0]) w) : Calls Try.prog Qlx ⟨[a0]⟩ w R :=
  Q3 Try.func21 Qjv (by kernel_rfl) (by kernel_rfl) h

/- 22 -/
def Q3s : List GO := [qk 2 vn]
def Q3r : List GO := [qm 3 0, ⟨none, .bin 4 .eql 25 (.tmp 3) (.const vn)⟩]
def Q3q : List GO := [qk 2 vn]
def Q3p : List GO := [⟨none, .raw ⟨(some 5), (.buildSlice 25 0 #[]), 25, "", #[], none⟩⟩, qm 6 0, ⟨none, .raw ⟨(some 7), (.call ⟨(.builtin .append), #[(.tmp 5), (.tmp 6)], #[25, 25]⟩), 25, "", #[], none⟩⟩, qm 2 7]
def slices_Clone_int64_int64_lc : LC := (.seq (.ops Q3s) (.seq (.seq (.ops Q3r) (.cond (.tmp 4) (.seq (.ops Q3q) .ret) .skip)) (.seq (.ops Q3p) .ret)))
@[reducible] def Q1r : FuncId := 22
theorem Q3h : lowF Try.prog Try.f22 = some slices_Clone_int64_int64_lc := by kernel_rfl
theorem Q1K {a0 : Value} {w : World} {R : Ending → World → Prop} (h : slices_Clone_int64_int64_lc.wp Try.prog (retQ Try.prog [.tmp 2] R) (Qf [a0]) w) : Calls Try.prog Q1r ⟨[a0]⟩ w R :=
  Q3 Try.func22 Q3h (by kernel_rfl) (by kernel_rfl) h

/- 23 -/
def Q5d : List GO := [qk 2 (vi 0)]
def Q5c : List GO := [qm 4 0, ⟨none, .call (some 5) 36 [(.tmp 4)]⟩, qm 3 5]
def Q5b : List GO := [qm 6 3, qn 7 6, qf 8 7 2, ql 9 8, qm 10 0, qn 11 10, qf 12 11 1, qf 13 12 0, ql 14 13, qm 15 3, qn 16 15, qf 17 16 0, ql 18 17, qi 19 4 14 18, qf 20 19 3, ql 21 20, qm 22 3, qn 23 22, qf 24 23 1, ql 25 24, qi 26 12 21 25, qf 27 26 2, ql 28 27, qL 29 28, qt 30 .lss 3 9 29]
def Q5h : List (List Nat) := [[],[0],[1],[2],[],[4],[5],[6],[7],[],[9],[10],[11],[8,12],[13],[14],[],[16],[17],[18],[15,19],[20],[21],[22],[3,23]]
def Q5a : List GO := [qm 31 3, qn 32 31, qf 33 32 0, ql 34 33, qm 35 3, qn 36 35, qf 37 36 1, ql 38 37, qm 39 3, qn 40 39, qf 41 40 2, ql 42 41, ⟨none, .call (some 43) 37 [(.tmp 34), (.tmp 38), (.tmp 42)]⟩, qm 2 43]
def Q5g : List (List Nat) := [[],[0],[1],[2],[],[4],[5],[6],[],[8],[9],[10],[3,7,11],[12,12,0,1,2,3,4,5,6,7,8,9,10,11,12]]
def Q59 : List GO := [qm 44 3, qn 45 44, qf 46 45 0, ql 47 46, qm 48 3, qn 49 48, qf 50 49 1, ql 51 50, ⟨none, .call (some 52) 38 [(.tmp 47), (.tmp 51)]⟩, qm 2 52]
def Q5f : List (List Nat) := [[],[0],[1],[2],[],[4],[5],[6],[3,7],[8,8,0,1,2,3,4,5,6,7,8]]
def ideal_Machine_place_lc : LC := (.seq (.ops Q5d) (.seq (.ops Q5c) (.seq (.seq (.draw Q5b Q5h) (.cond (.tmp 30) (.seq (.draw Q5a Q5g) .ret) .skip)) (.seq (.draw Q59 Q5f) .ret))))
@[reducible] def Q1w : FuncId := 23
theorem Q4J : lowF Try.prog Try.f23 = some ideal_Machine_place_lc := by kernel_rfl
theorem Q5e {a0 : Value} {w : World} {R : Ending → World → Prop} (h : ideal_Machine_place_lc.wp Try.prog (retQ Try.prog [.tmp 2] R) (Qf [a0]) w) : Calls Try.prog Q1w ⟨[a0]⟩ w R :=
  Q3 Try.func23 Q4J (by kernel_rfl) (by kernel_rfl) h

/- 24 -/
def Q4U : List GO := []
def Q4T : List GO := []
def Q4S : List GO := [⟨none, .bin 9 .eql 20 (.tmp 7) (.const .nilIface)⟩]
def Q4R : List GO := [qm 3 7]
def Q4Q : List GO := [⟨none, .raw ⟨(some 10), (.typeAssert (.tmp 7) 20 77 true), 0, "", #[], none⟩⟩, qx 11 10 1, qx 12 10 0]
def Q4P : List GO := [⟨none, .alloc 4 77 []⟩, qw 0 4 12]
def Q4O : List GO := [ql 13 1, ql 14 0, ⟨none, .build 15 [(vi 0), (vi 0)] [(0, (1, (.const (vi 20)))), (1, (1, (.tmp 14)))]⟩, qn 16 13, qf 17 16 10, qw 2 17 15]
def Q4N : List GO := [ql 18 1, qn 19 18, qf 20 19 10, qV 21 2 20, qw 2 2 21]
def Q4M : List GO := [⟨none, .raw ⟨(some 22), (.typeAssert (.tmp 7) 20 78 true), 0, "", #[], none⟩⟩, qx 23 22 1, qx 24 22 0]
def Q4L : List GO := [qm 5 24]
def Q4k : List GO := [ql 25 1, ql 26 1, qm 27 5, qn 28 25, qf 29 28 9, ⟨none, .store1 (.tmp 29) (.const (.bool true))⟩, qn 30 26, qf 31 30 4, qf 32 31 0, qs 32 27]
def Q4j : List GO := [qm 6 7]
def Q4i : List GO := [qm 8 6, ⟨none, .raw ⟨none, (.panic (.tmp 8)), 0, "", #[], none⟩⟩]
def ideal_Machine_Step_1_ld : LD := (.seq (.sp Q4U (.rcv (some 7)) Q4T) (.pl (.block 0 (.seq (.ops Q4S) (.cond (.tmp 9) (.ops Q4R) (.seq (.ops Q4Q) (.cond (.tmp 11) (.seq (.ops Q4P) (.seq (.ops Q4O) (.ops Q4N))) (.seq (.ops Q4M) (.cond (.tmp 23) (.seq (.ops Q4L) (.ops Q4k)) (.seq (.ops Q4j) (.ops Q4i)))))))))))
@[reducible] def Q1p : FuncId := 24
theorem Q4l : QlQ Try.prog Try.f24 = some ideal_Machine_Step_1_ld := by kernel_rfl
theorem Q1s {a0 a1 a2 : Value} {u : FrameMode} {w : World} {R : Ending → FrameMode → World → Prop} (h : ideal_Machine_Step_1_ld.wpR Try.prog (retR Try.prog [] R) u (Qf [a0, a1, a2]) w) : CallsD Try.prog Q1p ⟨[a0, a1, a2]⟩ u w R :=
  Qgr Try.func24 Q4l (by kernel_rfl) (by kernel_rfl) h

/- 25 -/
def Q8o : List GO := [qm 4 0, qn 5 4, qf 6 5 4, qf 7 6 3, ql 8 7, qm 9 0, qn 10 9, qf 11 10 8, ql 12 11, qt 13 .eql 3 8 12, ⟨none, .call (some 14) 39 [(.tmp 13), (.const (vi 7))]⟩]
def Q8t : List (List Nat) := [[],[0],[1],[2],[3],[],[5],[6],[7],[4,8],[9]]
def Q8n : List GO := [qm 15 0, qn 16 15, qf 17 16 4, qf 18 17 3, ql 19 18, qj 20 .add 3 19 1, qn 21 15, qf 22 21 4, qf 23 22 3, qs 23 20]
def Q8m : List GO := [qm 24 0, ⟨none, .call (some 25) 36 [(.tmp 24)]⟩, qm 2 25]
def Q8l : List GO := [qm 26 0, qn 27 26, qf 28 27 1, qf 29 28 0, ql 30 29, qm 31 2, qn 32 31, qf 33 32 0, ql 34 33, qi 35 4 30 34, qf 36 35 3, ql 37 36, qm 38 2, qn 39 38, qf 40 39 1, ql 41 40, qi 42 12 37 41, qV 43 12 42, ⟨none, .alloc 3 50 [(vi 0), vn, vn, (vi 0), (vi 0), (vi 0), vn, vn, (vi 0), vn, vn, vn]⟩, qw 12 3 43]
def Q8s : List (List Nat) := [[],[0],[1],[2],[3],[],[5],[6],[7],[4,8],[9],[10],[],[12],[13],[14],[11,15],[16],[],[18,17,0,1,2,3,4,5,6,7,8,9,10,11,12,13,14,15,16,17,18]]
def Q8k : List GO := [qm 44 2, qn 45 44, qf 46 45 2, ql 47 46, qf 48 3 2, ql 49 48, qL 50 49, qt 51 .lss 3 47 50]
def Q8r : List (List Nat) := [[],[0],[1],[2],[],[4],[5],[3,6]]
def Q8j : List GO := [qm 52 0, qf 53 3 2, ql 54 53, qm 55 2, qn 56 55, qf 57 56 2, ql 58 57, qi 59 8 54 58, qV 60 8 59, ⟨none, .call (some 61) 40 [(.tmp 52), (.tmp 60)]⟩]
def Q8q : List (List Nat) := [[],[],[1],[],[3],[4],[5],[2,6],[7],[0,8]]
def Q8i : List GO := [qm 62 0, qf 63 3 3, qV 64 9 63, ⟨none, .call (some 65) 41 [(.tmp 62), (.tmp 64)]⟩]
def ideal_Machine_one_lc : LC := (.seq (.draw Q8o Q8t) (.seq (.ops Q8n) (.seq (.ops Q8m) (.seq (.draw Q8l Q8s) (.seq (.draw Q8k Q8r) (.cond (.tmp 51) (.draw Q8j Q8q) (.ops Q8i)))))))
@[reducible] def Q1U : FuncId := 25
theorem Q6i : lowF Try.prog Try.f25 = some ideal_Machine_one_lc := by kernel_rfl
theorem Q8p {a0 : Value} {w : World} {R : Ending → World → Prop} (h : ideal_Machine_one_lc.wp Try.prog (retQ Try.prog [] R) (Qf [a0]) w) : Calls Try.prog Q1U ⟨[a0]⟩ w R :=
  Q3 Try.func25 Q6i (by kernel_rfl) (by kernel_rfl) h

/- 26 -/
def QgL : List GO := [qb 1 62 0, qk 2 (.bool false)]
def QgK : List GO := [qV 3 3 1, ⟨none, .call (some 4) 42 [(.tmp 3), (.const (vi 2000))]⟩, qj 5 .lss 3 4 0, qm 2 5]
def R_GreatType_lc : LC := (.seq (.ops QgL) (.seq (.ops QgK) .ret))
@[reducible] def QfN : FuncId := 26
theorem QfM : lowF Try.prog Try.f26 = some R_GreatType_lc := by kernel_rfl
theorem QgM {a0 : Value} {w : World} {R : Ending → World → Prop} (h : R_GreatType_lc.wp Try.prog (retQ Try.prog [.tmp 2] R) (Qf [a0]) w) : Calls Try.prog QfN ⟨[a0]⟩ w R :=
  Q3 Try.func26 QfM (by kernel_rfl) (by kernel_rfl) h

/- 27 -/
def QaE : List GO := [qm 6 1, qm 7 6, qg 7 true (qm 8 0), qg 7 true (qn 9 8), qg 7 true (qf 10 9 1), qg 7 true (qf 11 10 0), qg 7 true (ql 12 11), qg 7 true (qj 13 .eql 3 12 0), ⟨none, .pick 14 (.tmp 7) (.tmp 13) (.const (.bool false))⟩]
def QaD : List GO := [qm 15 0, qm 16 2, qm 17 0, qn 18 17, qf 19 18 3, ql 20 19, ⟨none, .build 21 [(vi 0), (vi 0)] [(0, (1, (.tmp 16))), (1, (1, (.tmp 20)))]⟩, qn 22 15, qf 23 22 1, qw 2 23 21]
def code_judge_fail_lc : LC := (.seq (.ops QaE) (.cond (.tmp 14) (.ops QaD) .skip))
@[reducible] def Q2I : FuncId := 27
theorem Q9y : lowF Try.prog Try.f27 = some code_judge_fail_lc := by kernel_rfl
theorem Q2H {a0 a1 a2 : Value} {w : World} {R : Ending → World → Prop} (h : code_judge_fail_lc.wp Try.prog (retQ Try.prog [] R) (Qf [a0, a1, a2]) w) : Calls Try.prog Q2I ⟨[a0, a1, a2]⟩ w R :=
  Q3 Try.func27 Q9y (by kernel_rfl) (by kernel_rfl) h

/- 28 -/
def Qgf : List GO := [qk 2 (vi 0)]
def Qge : List GO := [qm 3 0, qj 4 .mul 3 3 10000, qj 5 .add 3 4 9999, qm 2 5]
def code_FuncAt_lc : LC := (.seq (.ops Qgf) (.seq (.ops Qge) .ret))
@[reducible] def Qfe : FuncId := 28
theorem Qfd : lowF Try.prog Try.f28 = some code_FuncAt_lc := by kernel_rfl
theorem Qgg {a0 : Value} {w : World} {R : Ending → World → Prop} (h : code_FuncAt_lc.wp Try.prog (retQ Try.prog [.tmp 2] R) (Qf [a0]) w) : Calls Try.prog Qfe ⟨[a0]⟩ w R :=
  Q3 Try.func28 Qfd (by kernel_rfl) (by kernel_rfl) h

/- 29 -/
def Qau : List GO := [qm 9 0, qm 10 1, qL 11 10, qj 12 .gtr 3 11 8, ⟨none, .call (some 13) 27 [(.tmp 9), (.tmp 12), (.const (vi 2))]⟩]
def Qat : List GO := [qm 14 1, qL 15 14, qk 16 (vi 0)]
def Qas : List GO := [qt 17 .lss 3 16 15]
def Qar : List GO := [qi 18 3 14 16, qV 19 3 18, ⟨none, .alloc 7 62 [(vi 0), (vi 0), vn]⟩, qw 3 7 19]
def Qaq : List GO := [qV 20 3 7, qm 21 2, ⟨none, .call (some 22) 43 [(.tmp 20), (.tmp 21)]⟩, qm 8 22]
def Qap : List GO := [qm 23 0, qm 24 8, qj 25 .neq 3 24 0, qm 26 8, ⟨none, .call (some 27) 27 [(.tmp 23), (.tmp 25), (.tmp 26)]⟩]
def Qao : List GO := [qj 28 .add 3 16 1, qm 16 28]
def Q3U : LC := (.seq (.ops Qas) (.seq (.cond (.tmp 17) .skip (.exit 0)) (.seq (.block 1 (.seq (.ops Qar) (.seq (.ops Qaq) (.ops Qap)))) (.ops Qao))))
def code_judge_list_lc : LC := (.seq (.ops Qau) (.seq (.ops Qat) (.block 0 (.loop Q3U))))
@[reducible] def Q7E : FuncId := 29
theorem Q9x : lowF Try.prog Try.f29 = some code_judge_list_lc := by kernel_rfl
theorem Qav {a0 a1 a2 : Value} {w : World} {R : Ending → World → Prop} (h : code_judge_list_lc.wp Try.prog (retQ Try.prog [] R) (Qf [a0, a1, a2]) w) : Calls Try.prog Q7E ⟨[a0, a1, a2]⟩ w R :=
  Q3 Try.func29 Q9x (by kernel_rfl) (by kernel_rfl) h

/- 30 -/
def Q1I : List GO := [qk 4 (.bool false)]
def Q1H : List GO := [qm 5 0, qm 6 1, ⟨none, .call (some 7) 44 [(.tmp 5), (.tmp 6)]⟩, qj 8 .geq 3 7 0, qm 4 8]
def slices_ContainsFunc_api_Type_api_Type_lc : LC := (.seq (.ops Q1I) (.seq (.ops Q1H) .ret))
@[reducible] def Q1f : FuncId := 30
theorem Q1C : lowF Try.prog Try.f30 = some slices_ContainsFunc_api_Type_api_Type_lc := by kernel_rfl
theorem Q1J {a0 a1 : Value} {w : World} {R : Ending → World → Prop} (h : slices_ContainsFunc_api_Type_api_Type_lc.wp Try.prog (retQ Try.prog [.tmp 4] R) (Qf [a0, a1]) w) : Calls Try.prog Q1f ⟨[a0, a1]⟩ w R :=
  Q3 Try.func30 Q1C (by kernel_rfl) (by kernel_rfl) h

/- 31 -/
def Qfg : List GO := [qb 1 62 0, qk 2 (.bool false)]
def Qff : List GO := [qf 3 1 0, ql 4 3, qj 5 .neq 3 4 1, qm 2 5]
def code_Check_1_lc : LC := (.seq (.ops Qfg) (.seq (.ops Qff) .ret))
@[reducible] def Q3V : FuncId := 31
theorem Qdu : lowF Try.prog Try.f31 = some code_Check_1_lc := by kernel_rfl
theorem Qfh {a0 : Value} {w : World} {R : Ending → World → Prop} (h : code_Check_1_lc.wp Try.prog (retQ Try.prog [.tmp 2] R) (Qf [a0]) w) : Calls Try.prog Q3V ⟨[a0]⟩ w R :=
  Q3 Try.func31 Qdu (by kernel_rfl) (by kernel_rfl) h

/- 32 -/
def Q9I : List GO := [qm 9 0, qn 10 9, qf 11 10 0, qf 12 11 0, ql 13 12, qm 14 1, qi 15 4 13 14, qV 16 4 15, ⟨none, .alloc 6 53 [(vi 0), vn, vn, vn]⟩, qw 4 6 16]
def Q9H : List GO := [qf 17 6 3, ql 18 17, qm 19 2, qi 20 12 18 19, qV 21 12 20, ⟨none, .alloc 7 50 [(vi 0), vn, vn, (vi 0), (vi 0), (vi 0), vn, vn, (vi 0), vn, vn, vn]⟩, qw 12 7 21]
def Q9G : List GO := [qm 22 0, qm 23 1, qm 24 2, ⟨none, .call (some 25) 45 [(.tmp 23), (.tmp 24)]⟩, qn 26 22, qf 27 26 3, qs 27 25]
def Q9F : List GO := [qm 28 0, qf 29 7 0, ql 30 29, qf 31 6 0, ql 32 31, qt 33 .lss 3 30 32, qm 34 33, qg 34 false (qf 35 7 0), qg 34 false (ql 36 35), qg 34 false (qj 37 .gtr 3 36 16), ⟨none, .pick 38 (.tmp 34) (.const (.bool true)) (.tmp 37)⟩, ⟨none, .call (some 39) 27 [(.tmp 28), (.tmp 38), (.const (vi 1))]⟩]
def Q9E : List GO := [qm 40 0, qf 41 7 1, ql 42 41, qf 43 7 0, ql 44 43, ⟨none, .call (some 45) 29 [(.tmp 40), (.tmp 42), (.tmp 44)]⟩]
def Q9D : List GO := [qm 46 0, qm 47 2, qj 48 .eql 3 47 0, qm 49 48, qg 49 true (qf 50 7 0), qg 49 true (ql 51 50), qg 49 true (qf 52 6 0), qg 49 true (ql 53 52), qg 49 true (qt 54 .neq 3 51 53), qg 49 true (qm 55 54), qg 55 false (qf 56 7 1), qg 55 false (ql 57 56), qg 55 false (qf 58 6 1), qg 55 false (ql 59 58), ⟨some (55, false), .call (some 60) 46 [(.tmp 57), (.tmp 59), (.func 47)]⟩, ⟨some (55, false), .un 61 .not (.tmp 60)⟩, ⟨some (49, true), .pick 62 (.tmp 55) (.const (.bool true)) (.tmp 61)⟩, ⟨none, .pick 63 (.tmp 49) (.tmp 62) (.const (.bool false))⟩, ⟨none, .call (some 64) 27 [(.tmp 46), (.tmp 63), (.const (vi 9))]⟩]
def Q9C : List GO := [qm 65 0, qf 66 7 2, ql 67 66, qL 68 67, qj 69 .gtr 3 68 40, ⟨none, .call (some 70) 27 [(.tmp 65), (.tmp 69), (.const (vi 2))]⟩]
def Q9B : List GO := [qk 8 (vi 0)]
def Q9A : List GO := [qm 71 8, qf 72 7 2, ql 73 72, qL 74 73, qt 75 .lss 3 71 74, qm 76 75, qg 76 true (qm 77 0), qg 76 true (qn 78 77), qg 76 true (qf 79 78 1), qg 76 true (qf 80 79 0), qg 76 true (ql 81 80), qg 76 true (qj 82 .eql 3 81 0), ⟨none, .pick 83 (.tmp 76) (.tmp 82) (.const (.bool false))⟩]
def Q9z : List GO := [qm 86 0, qm 87 1, qm 88 2, qm 89 8, ⟨none, .call (some 90) 37 [(.tmp 87), (.tmp 88), (.tmp 89)]⟩, qn 91 86, qf 92 91 3, qs 92 90]
def Q8Y : List GO := [qm 93 0, qf 94 7 2, ql 95 94, qm 96 8, qi 97 8 95 96, qV 98 8 97, ⟨none, .call (some 99) 48 [(.tmp 93), (.tmp 98)]⟩]
def Q8X : List GO := [qm 84 8, qj 85 .add 3 84 1, qm 8 85]
def Q3D : LC := (.seq (.seq (.ops Q9A) (.cond (.tmp 83) .skip (.exit 0))) (.seq (.block 1 (.seq (.ops Q9z) (.ops Q8Y))) (.ops Q8X)))
def Q8W : List GO := [qm 100 0, qm 101 1, qm 102 2, ⟨none, .call (some 103) 38 [(.tmp 101), (.tmp 102)]⟩, qn 104 100, qf 105 104 3, qs 105 103]
def Q8V : List GO := [qm 106 0, qV 107 4 6, qf 108 7 3, qV 109 9 108, ⟨none, .call (some 110) 49 [(.tmp 106), (.tmp 107), (.tmp 109)]⟩]
def code_judge_block_lc : LC := (.seq (.ops Q9I) (.seq (.ops Q9H) (.seq (.ops Q9G) (.seq (.ops Q9F) (.seq (.ops Q9E) (.seq (.ops Q9D) (.seq (.ops Q9C) (.seq (.seq (.ops Q9B) (.block 0 (.loop Q3D))) (.seq (.ops Q8W) (.ops Q8V))))))))))
@[reducible] def Q2f : FuncId := 32
theorem Q8Z : lowF Try.prog Try.f32 = some code_judge_block_lc := by kernel_rfl
theorem Q9J {a0 a1 a2 : Value} {w : World} {R : Ending → World → Prop} (h : code_judge_block_lc.wp Try.prog (retQ Try.prog [] R) (Qf [a0, a1, a2]) w) : Calls Try.prog Q2f ⟨[a0, a1, a2]⟩ w R :=
  Q3 Try.func32 Q8Z (by kernel_rfl) (by kernel_rfl) h

/- 33 -/
def Qdm : List GO := [qk 2 vn]
def Qdl : List GO := [qk 3 vn]
def Qdk : List GO := [qm 6 0, qL 7 6, qk 8 (vi 0)]
def Qdj : List GO := [qt 9 .lss 3 8 7]
def Qdi : List GO := [qi 10 3 6 8, qV 11 3 10, ⟨none, .alloc 5 62 [(vi 0), (vi 0), vn]⟩, qw 3 5 11]
def Qdh : List GO := [qm 12 3, qV 13 3 5, ⟨none, .call (some 14) 50 [(.tmp 13)]⟩, ⟨none, .buildS 15 62 1 [(vi 0), (vi 0), vn] [(0, (3, (.tmp 14)))]⟩, ⟨none, .raw ⟨(some 16), (.call ⟨(.builtin .append), #[(.tmp 12), (.tmp 15)], #[44, 44]⟩), 44, "", #[], none⟩⟩, qm 3 16]
def Qdg : List GO := [qj 17 .add 3 8 1, qm 8 17]
def Q51 : LC := (.seq (.ops Qdj) (.seq (.cond (.tmp 9) .skip (.exit 0)) (.seq (.block 1 (.seq (.ops Qdi) (.ops Qdh))) (.ops Qdg))))
def Qdf : List GO := [qm 18 3, qm 2 18]
def code_ownTypes_lc : LC := (.seq (.ops Qdm) (.seq (.ops Qdl) (.seq (.seq (.ops Qdk) (.block 0 (.loop Q51))) (.seq (.ops Qdf) .ret))))
@[reducible] def Q4X : FuncId := 33
theorem QbB : lowF Try.prog Try.f33 = some code_ownTypes_lc := by kernel_rfl
theorem Qdn {a0 : Value} {w : World} {R : Ending → World → Prop} (h : code_ownTypes_lc.wp Try.prog (retQ Try.prog [.tmp 2] R) (Qf [a0]) w) : Calls Try.prog Q4X ⟨[a0]⟩ w R :=
  Q3 Try.func33 QbB (by kernel_rfl) (by kernel_rfl) h

/- 34 -/
def QhT : List GO := [qb 1 46 0, ⟨none, .alloc 2 46 [(vi 0), vn, vn]⟩]
def QhS : List GO := [qf 3 1 0, ql 4 3, qf 5 1 1, ql 6 5, ⟨none, .call (some 7) 35 [(.tmp 6)]⟩, qf 8 1 2, ql 9 8, ⟨none, .call (some 10) 35 [(.tmp 9)]⟩, ⟨none, .build 11 [(vi 0), vn, vn] [(0, (1, (.tmp 4))), (1, (1, (.tmp 7))), (2, (1, (.tmp 10)))]⟩, qw 3 2 11]
def QhV : List (List Nat) := [[],[0],[],[2],[3],[],[5],[6,4],[1,4,7],[8,7,0,1,2,3,4,5,6,7,8]]
def code_ownTo_lc : LC := (.seq (.ops QhT) (.seq (.draw QhS QhV) .ret))
@[reducible] def QgZ : FuncId := 34
theorem Qgc : lowF Try.prog Try.f34 = some code_ownTo_lc := by kernel_rfl
theorem QhU {a0 : Value} {w : World} {R : Ending → World → Prop} (h : code_ownTo_lc.wp Try.prog (retQ Try.prog [.cell 2 46] R) (Qf [a0]) w) : Calls Try.prog QgZ ⟨[a0]⟩ w R :=
  Q3 Try.func34 Qgc (by kernel_rfl) (by kernel_rfl) h

/- 35 -/
def Q4D : List GO := [qk 2 vn]
def Q4C : List GO := [qm 3 0, ⟨none, .bin 4 .eql 40 (.tmp 3) (.const vn)⟩]
def Q4B : List GO := [qk 2 vn]
def Q4A : List GO := [⟨none, .raw ⟨(some 5), (.buildSlice 40 0 #[]), 40, "", #[], none⟩⟩, qm 6 0, ⟨none, .raw ⟨(some 7), (.call ⟨(.builtin .append), #[(.tmp 5), (.tmp 6)], #[40, 40]⟩), 40, "", #[], none⟩⟩, qm 2 7]
def slices_Clone_int_int_lc : LC := (.seq (.ops Q4D) (.seq (.seq (.ops Q4C) (.cond (.tmp 4) (.seq (.ops Q4B) .ret) .skip)) (.seq (.ops Q4A) .ret)))
@[reducible] def Q28 : FuncId := 35
theorem Q4b : lowF Try.prog Try.f35 = some slices_Clone_int_int_lc := by kernel_rfl
theorem Q2r {a0 : Value} {w : World} {R : Ending → World → Prop} (h : slices_Clone_int_int_lc.wp Try.prog (retQ Try.prog [.tmp 2] R) (Qf [a0]) w) : Calls Try.prog Q28 ⟨[a0]⟩ w R :=
  Q3 Try.func35 Q4b (by kernel_rfl) (by kernel_rfl) h

/- 36 -/
def Q80 : List GO := [qk 2 (.pointer none)]
def Q7Z : List GO := [qm 3 0, qn 4 3, qf 5 4 2, ql 6 5, qm 7 0, qn 8 7, qf 9 8 2, ql 10 9, qL 11 10, qj 12 .sub 3 11 1, qi 13 5 6 12, qm 2 13]
def Q82 : List (List Nat) := [[],[0],[1],[2],[],[4],[5],[6],[7],[8],[3,9],[10,0,1,2,3,4,5,6,7,8,9,10]]
def ideal_Machine_top_lc : LC := (.seq (.ops Q80) (.seq (.draw Q7Z Q82) .ret))
@[reducible] def Q4f : FuncId := 36
theorem Q5U : lowF Try.prog Try.f36 = some ideal_Machine_top_lc := by kernel_rfl
theorem Q81 {a0 : Value} {w : World} {R : Ending → World → Prop} (h : ideal_Machine_top_lc.wp Try.prog (retQ Try.prog [.tmp 2] R) (Qf [a0]) w) : Calls Try.prog Q4f ⟨[a0]⟩ w R :=
  Q3 Try.func36 Q5U (by kernel_rfl) (by kernel_rfl) h

/- 37 -/
def QhX : List GO := [qk 6 (vi 0)]
def QhW : List GO := [qm 7 0, qj 8 .mul 3 7 10000, qm 9 1, qj 10 .mul 3 9 100, qt 11 .add 3 8 10, qm 12 2, qt 13 .add 3 11 12, qm 6 13]
def code_InsAt_lc : LC := (.seq (.ops QhX) (.seq (.ops QhW) .ret))
@[reducible] def Qh0 : FuncId := 37
theorem Qgd : lowF Try.prog Try.f37 = some code_InsAt_lc := by kernel_rfl
theorem QhY {a0 a1 a2 : Value} {w : World} {R : Ending → World → Prop} (h : code_InsAt_lc.wp Try.prog (retQ Try.prog [.tmp 6] R) (Qf [a0, a1, a2]) w) : Calls Try.prog Qh0 ⟨[a0, a1, a2]⟩ w R :=
  Q3 Try.func37 Qgd (by kernel_rfl) (by kernel_rfl) h

/- 38 -/
def Qi0 : List GO := [qk 4 (vi 0)]
def QhZ : List GO := [qm 5 0, qj 6 .mul 3 5 10000, qm 7 1, qj 8 .mul 3 7 100, qt 9 .add 3 6 8, qj 10 .add 3 9 91, qm 4 10]
def code_EndAt_lc : LC := (.seq (.ops Qi0) (.seq (.ops QhZ) .ret))
@[reducible] def Qh1 : FuncId := 38
theorem Qgh : lowF Try.prog Try.f38 = some code_EndAt_lc := by kernel_rfl
theorem Qi1 {a0 a1 : Value} {w : World} {R : Ending → World → Prop} (h : code_EndAt_lc.wp Try.prog (retQ Try.prog [.tmp 4] R) (Qf [a0, a1]) w) : Calls Try.prog Qh1 ⟨[a0, a1]⟩ w R :=
  Q3 Try.func38 Qgh (by kernel_rfl) (by kernel_rfl) h

/- 39 -/
def QhJ : List GO := [qm 4 0]
def QhI : List GO := [qm 5 1, ⟨none, .mki 6 78 (.tmp 5)⟩, ⟨none, .raw ⟨none, (.panic (.tmp 6)), 0, "", #[], none⟩⟩]
def ideal_halt_lc : LC := (.seq (.ops QhJ) (.cond (.tmp 4) (.ops QhI) .skip))
@[reducible] def Qb4 : FuncId := 39
theorem Qgb : lowF Try.prog Try.f39 = some ideal_halt_lc := by kernel_rfl
theorem Q9Z {a0 a1 : Value} {w : World} {R : Ending → World → Prop} (h : ideal_halt_lc.wp Try.prog (retQ Try.prog [] R) (Qf [a0, a1]) w) : Calls Try.prog Qb4 ⟨[a0, a1]⟩ w R :=
  Q3 Try.func39 Qgb (by kernel_rfl) (by kernel_rfl) h

/- 40 -/
def Q8I : List GO := [qb 3 42 1]
def Q8H : List GO := [qm 16 0, ⟨none, .call (some 17) 36 [(.tmp 16)]⟩, qn 18 17, qf 19 18 2, ql 20 19, qj 21 .add 3 20 1, qn 22 17, qf 23 22 2, qs 23 21]
def Q8G : List GO := [qf 24 3 0, ql 25 24]
def Q8F : List GO := [qj 27 .eql 3 25 1, qm 26 27]
def Q8E : List GO := [qm 28 0, qf 29 3 5, ql 30 29, ⟨none, .call (some 31) 52 [(.tmp 30)]⟩, ⟨none, .buildS 32 108 1 [(vi 0), (vi 0), (vi 0), (vi 0)] [(0, (4, (.tmp 31)))]⟩, ⟨none, .call (some 33) 51 [(.tmp 28), (.tmp 32)]⟩]
def Q8D : List GO := [qj 35 .eql 3 25 2, qm 34 35]
def Q8C : List GO := [qf 37 3 4, ql 38 37, qm 39 0, qf 40 3 1, ql 41 40, ⟨none, .call (some 42) 54 [(.tmp 39), (.tmp 41)]⟩, qm 43 0, qf 44 3 2, ql 45 44, ⟨none, .call (some 46) 54 [(.tmp 43), (.tmp 45)]⟩, ⟨none, .call (some 47) 53 [(.tmp 38), (.tmp 42), (.tmp 46)]⟩, qm 36 47, qx 48 36 0, qx 49 36 1, qm 4 48, qm 5 49]
def Q8K : List (List Nat) := [[],[0],[],[],[3],[2,4],[],[],[7],[6,8,5],[1,5,9,9],[10],[11],[11],[12,10,0,1,2,3,4,5,6,7,8,9,10,11,12],[13,14,0,1,2,3,4,5,6,7,8,9,10,11,12,13,14]]
def Q8B : List GO := [qm 50 5, ⟨none, .un 51 .not (.tmp 50)⟩, ⟨none, .call (some 52) 39 [(.tmp 51), (.const (vi 1))]⟩]
def Q8A : List GO := [qm 53 0, qm 54 4, ⟨none, .call (some 55) 52 [(.tmp 54)]⟩, ⟨none, .buildS 56 108 1 [(vi 0), (vi 0), (vi 0), (vi 0)] [(0, (4, (.tmp 55)))]⟩, ⟨none, .call (some 57) 51 [(.tmp 53), (.tmp 56)]⟩]
def Q8z : List GO := [qj 59 .eql 3 25 3, qm 58 59]
def Q71 : List GO := [qm 61 0, qn 62 61, qf 63 62 0, ql 64 63, ⟨none, .call (some 65) 55 [(.tmp 64)]⟩, qm 60 65, qx 66 60 0, qx 67 60 1, ⟨none, .alloc 6 108 [(vi 0), (vi 0), (vi 0), (vi 0)]⟩, qw 4 6 66, qm 7 67]
def Q70 : List GO := [qm 68 7, ⟨none, .un 69 .not (.tmp 68)⟩, ⟨none, .call (some 70) 39 [(.tmp 69), (.const (vi 6))]⟩]
def Q6Z : List GO := [qm 71 0, ⟨none, .call (some 72) 36 [(.tmp 71)]⟩, qm 73 0, ⟨none, .call (some 74) 36 [(.tmp 73)]⟩, qn 75 74, qf 76 75 4, ql 77 76, qf 78 6 1, ql 79 78, ⟨none, .buildS 80 3 1 [(vi 0)] [(0, (1, (.tmp 79)))]⟩, ⟨none, .raw ⟨(some 81), (.call ⟨(.builtin .append), #[(.tmp 77), (.tmp 80)], #[40, 40]⟩), 40, "", #[], none⟩⟩, qn 82 72, qf 83 82 4, qs 83 81]
def Q7a : List (List Nat) := [[],[0],[],[2,1],[3],[4],[5],[],[7],[8],[6,9,3],[1,0,1,2,3,4,5,6,7,8,9,10],[11,0,1,2,3,4,5,6,7,8,9,10],[12,10,10,0,1,2,3,4,5,6,7,8,9,10]]
def Q6Y : List GO := [qm 84 0, qV 85 4 6, ⟨none, .buildS 86 108 1 [(vi 0), (vi 0), (vi 0), (vi 0)] [(0, (4, (.tmp 85)))]⟩, ⟨none, .call (some 87) 51 [(.tmp 84), (.tmp 86)]⟩]
def Q6X : List GO := [qj 89 .eql 3 25 4, qm 88 89]
def Q6W : List GO := [qm 90 0, qn 91 90, qf 92 91 0, ql 93 92, qm 94 0, qf 95 3 1, ql 96 95, ⟨none, .call (some 97) 58 [(.tmp 94), (.tmp 96)]⟩, ⟨none, .call (some 98) 57 [(.tmp 93), (.tmp 97)]⟩, ⟨none, .call (some 99) 56 [(.tmp 98)]⟩]
def Q79 : List (List Nat) := [[],[0],[1],[2],[],[],[5],[4,6],[3,7,7],[8,8]]
def Q6V : List GO := [qj 101 .eql 3 25 5, qm 100 101]
def Q6U : List GO := [qm 102 0, qm 103 0, qn 104 103, qf 105 104 0, ql 106 105, qm 107 0, qf 108 3 1, ql 109 108, ⟨none, .call (some 110) 58 [(.tmp 107), (.tmp 109)]⟩, qm 111 0, qf 112 3 7, ql 113 112, ⟨none, .call (some 114) 61 [(.tmp 111), (.tmp 113)]⟩, ⟨none, .call (some 115) 60 [(.tmp 106), (.tmp 110), (.tmp 114)]⟩, qx 116 115 0, qx 117 115 1, ⟨none, .call (some 118) 59 [(.tmp 102), (.tmp 116), (.tmp 117)]⟩]
def Q78 : List (List Nat) := [[],[],[1],[2],[3],[],[],[6],[5,7],[],[],[10],[9,11,8],[4,8,12,12],[13],[13],[0,14,15,13]]
def Q6T : List GO := [qj 120 .eql 3 25 6, qm 119 120]
def Q6S : List GO := [qm 121 0, qf 122 3 1, ql 123 122, ⟨none, .call (some 124) 58 [(.tmp 121), (.tmp 123)]⟩, ⟨none, .fldv 125 (.tmp 124) 0⟩, qj 126 .eql 3 125 3, ⟨none, .call (some 127) 56 [(.tmp 126)]⟩]
def Q6R : List GO := [qm 129 0, qn 130 129, qf 131 130 0, ql 132 131, qm 133 0, qf 134 3 1, ql 135 134, ⟨none, .call (some 136) 58 [(.tmp 133), (.tmp 135)]⟩, qf 137 3 4, ql 138 137, ⟨none, .call (some 139) 62 [(.tmp 132), (.tmp 136), (.tmp 138)]⟩, qm 128 139, qx 140 128 0, qx 141 128 1, ⟨none, .alloc 8 108 [(vi 0), (vi 0), (vi 0), (vi 0)]⟩, qw 4 8 140, qm 9 141]
def Q77 : List (List Nat) := [[],[0],[1],[2],[],[],[5],[4,6],[],[8],[3,7,9,7],[10],[11],[11],[],[14,12,10,0,1,2,3,4,5,6,7,8,9,10,11,12,14],[13,15,0,1,2,3,4,5,6,7,8,9,10,11,12,13,14,15]]
def Q6Q : List GO := [qm 142 9, qj 143 .eql 3 142 0, ⟨none, .call (some 144) 56 [(.tmp 143)]⟩]
def Q6P : List GO := [qm 145 0, qV 146 4 8, ⟨none, .buildS 147 108 1 [(vi 0), (vi 0), (vi 0), (vi 0)] [(0, (4, (.tmp 146)))]⟩, ⟨none, .call (some 148) 51 [(.tmp 145), (.tmp 147)]⟩]
def Q6O : List GO := [qj 150 .eql 3 25 7, qm 149 150]
def Q6N : List GO := [qm 151 0, qf 152 3 1, ql 153 152, ⟨none, .call (some 154) 58 [(.tmp 151), (.tmp 153)]⟩, ⟨none, .fldv 155 (.tmp 154) 0⟩, qj 156 .eql 3 155 3, ⟨none, .call (some 157) 56 [(.tmp 156)]⟩]
def Q6M : List GO := [qm 158 0, qn 159 158, qf 160 159 0, ql 161 160, qm 162 0, qf 163 3 1, ql 164 163, ⟨none, .call (some 165) 58 [(.tmp 162), (.tmp 164)]⟩, qf 166 3 4, ql 167 166, qm 168 0, qf 169 3 2, ql 170 169, ⟨none, .call (some 171) 58 [(.tmp 168), (.tmp 170)]⟩, ⟨none, .call (some 172) 63 [(.tmp 161), (.tmp 165), (.tmp 167), (.tmp 171)]⟩, qj 173 .eql 3 172 0, ⟨none, .call (some 174) 56 [(.tmp 173)]⟩]
def Q76 : List (List Nat) := [[],[0],[1],[2],[],[],[5],[4,6],[],[8],[],[],[11],[10,12,7],[3,7,9,13,13],[14],[15,14]]
def Q6L : List GO := [qj 176 .eql 3 25 8, qm 175 176]
def Q6K : List GO := [qm 177 0, qV 178 8 3, ⟨none, .call (some 179) 64 [(.tmp 177), (.tmp 178)]⟩]
def Q6J : List GO := [qj 181 .eql 3 25 9, qm 180 181]
def Q6I : List GO := [qm 183 0, qn 184 183, qf 185 184 0, ql 186 185, qm 187 0, qf 188 3 1, ql 189 188, ⟨none, .call (some 190) 58 [(.tmp 187), (.tmp 189)]⟩, qm 191 0, qf 192 3 2, ql 193 192, ⟨none, .call (some 194) 54 [(.tmp 191), (.tmp 193)]⟩, ⟨none, .call (some 195) 62 [(.tmp 186), (.tmp 190), (.tmp 194)]⟩, qm 182 195, qx 196 182 0, qx 197 182 1, ⟨none, .alloc 10 108 [(vi 0), (vi 0), (vi 0), (vi 0)]⟩, qw 4 10 196, qm 11 197]
def Q75 : List (List Nat) := [[],[0],[1],[2],[],[],[5],[4,6],[],[],[9],[8,10,7],[3,7,11,11],[12],[13],[13],[],[16,14,12,0,1,2,3,4,5,6,7,8,9,10,11,12,13,14,16],[15,17,0,1,2,3,4,5,6,7,8,9,10,11,12,13,14,15,16,17]]
def Q6H : List GO := [qm 198 0, qV 199 8 3, qm 200 11, ⟨none, .call (some 201) 65 [(.tmp 198), (.tmp 199), (.tmp 200)]⟩]
def Q6G : List GO := [qm 202 0, qV 203 4 10, ⟨none, .buildS 204 108 1 [(vi 0), (vi 0), (vi 0), (vi 0)] [(0, (4, (.tmp 203)))]⟩, ⟨none, .call (some 205) 51 [(.tmp 202), (.tmp 204)]⟩]
def Q6F : List GO := [qj 207 .eql 3 25 10, qm 206 207]
def Q6E : List GO := [qm 208 0, qn 209 208, qf 210 209 0, ql 211 210, qm 212 0, qf 213 3 1, ql 214 213, ⟨none, .call (some 215) 58 [(.tmp 212), (.tmp 214)]⟩, qm 216 0, qf 217 3 2, ql 218 217, ⟨none, .call (some 219) 54 [(.tmp 216), (.tmp 218)]⟩, qm 220 0, qf 221 3 3, ql 222 221, ⟨none, .call (some 223) 54 [(.tmp 220), (.tmp 222)]⟩, ⟨none, .call (some 224) 52 [(.tmp 223)]⟩, ⟨none, .call (some 225) 63 [(.tmp 211), (.tmp 215), (.tmp 219), (.tmp 224)]⟩, qm 12 225]
def Q74 : List (List Nat) := [[],[0],[1],[2],[],[],[5],[4,6],[],[],[9],[8,10,7],[],[],[13],[12,14,11],[15,15],[3,7,11,16,16],[17,17,0,1,2,3,4,5,6,7,8,9,10,11,12,13,14,15,16,17]]
def Q6D : List GO := [qm 226 0, qV 227 8 3, qm 228 12, ⟨none, .call (some 229) 65 [(.tmp 226), (.tmp 227), (.tmp 228)]⟩]
def Q6C : List GO := [qj 231 .eql 3 25 11, qm 230 231]
def Q6B : List GO := [qm 233 0, qn 234 233, qf 235 234 0, ql 236 235, qm 237 0, qf 238 3 1, ql 239 238, ⟨none, .call (some 240) 58 [(.tmp 237), (.tmp 239)]⟩, ⟨none, .call (some 241) 66 [(.tmp 236), (.tmp 240)]⟩, qm 232 241, qx 242 232 0, qx 243 232 1, qm 13 242, qm 14 243]
def Q73 : List (List Nat) := [[],[0],[1],[2],[],[],[5],[4,6],[3,7,7],[8],[9],[9],[10,8,0,1,2,3,4,5,6,7,8,9,10],[11,12,0,1,2,3,4,5,6,7,8,9,10,11,12]]
def Q6A : List GO := [qm 244 0, qV 245 8 3, qm 246 14, ⟨none, .call (some 247) 65 [(.tmp 244), (.tmp 245), (.tmp 246)]⟩]
def Q6z : List GO := [qm 248 0, qm 249 13, ⟨none, .call (some 250) 52 [(.tmp 249)]⟩, ⟨none, .buildS 251 108 1 [(vi 0), (vi 0), (vi 0), (vi 0)] [(0, (4, (.tmp 250)))]⟩, ⟨none, .call (some 252) 51 [(.tmp 248), (.tmp 251)]⟩]
def Q6y : List GO := [qj 254 .eql 3 25 12, qm 253 254]
def Q6x : List GO := [qm 255 0, qn 256 255, qf 257 256 3, ql 258 257, qL 259 258, qj 260 .eql 3 259 0, ⟨none, .call (some 261) 39 [(.tmp 260), (.const (vi 4))]⟩]
def Q6w : List GO := [qm 262 0, qm 263 0, qn 264 263, qf 265 264 3, ql 266 265, ⟨none, .idx 267 1 (.tmp 266) (.const (vi 0))⟩, ql 268 267, ⟨none, .call (some 269) 52 [(.tmp 268)]⟩, ⟨none, .buildS 270 108 1 [(vi 0), (vi 0), (vi 0), (vi 0)] [(0, (4, (.tmp 269)))]⟩, ⟨none, .call (some 271) 51 [(.tmp 262), (.tmp 270)]⟩]
def Q6v : List GO := [qm 272 0, qm 273 0, qn 274 273, qf 275 274 3, ql 276 275, ⟨none, .sub 277 1 (.tmp 276) (some (.const (vi 1))) none none⟩, qn 278 272, qf 279 278 3, qs 279 277]
def Q6u : List GO := [qj 281 .eql 3 25 13, qm 280 281]
def Q6t : List GO := [qm 282 0, qf 283 3 1, ql 284 283, ⟨none, .call (some 285) 54 [(.tmp 282), (.tmp 284)]⟩, qm 15 285]
def Q6s : List GO := [qm 286 0, qn 287 286, qf 288 287 4, qf 289 288 2, ql 290 289, qL 291 290, qj 292 .eql 3 291 2000, ⟨none, .call (some 293) 39 [(.tmp 292), (.const (vi 8))]⟩]
def Q6r : List GO := [qm 294 0, qm 295 0, qn 296 295, qf 297 296 4, qf 298 297 2, ql 299 298, qm 300 15, ⟨none, .buildS 301 2 1 [(vi 0)] [(0, (1, (.tmp 300)))]⟩, ⟨none, .raw ⟨(some 302), (.call ⟨(.builtin .append), #[(.tmp 299), (.tmp 301)], #[25, 25]⟩), 25, "", #[], none⟩⟩, qn 303 294, qf 304 303 4, qf 305 304 2, qs 305 302]
def Q6q : List GO := [qj 307 .eql 3 25 14, qm 306 307]
def Q6p : List GO := [qm 308 0, qV 309 8 3, ⟨none, .call (some 310) 67 [(.tmp 308), (.tmp 309)]⟩]
def ideal_Machine_ins_lc : LC := (.seq (.ops Q8I) (.seq (.ops Q8H) (.seq (.ops Q8G) (.block 0 (.seq (.ops Q8F) (.cond (.tmp 26) (.ops Q8E) (.seq (.ops Q8D) (.cond (.tmp 34) (.seq (.draw Q8C Q8K) (.seq (.ops Q8B) (.ops Q8A))) (.seq (.ops Q8z) (.cond (.tmp 58) (.seq (.ops Q71) (.seq (.ops Q70) (.seq (.draw Q6Z Q7a) (.ops Q6Y)))) (.seq (.ops Q6X) (.cond (.tmp 88) (.draw Q6W Q79) (.seq (.ops Q6V) (.cond (.tmp 100) (.draw Q6U Q78) (.seq (.ops Q6T) (.cond (.tmp 119) (.seq (.ops Q6S) (.seq (.draw Q6R Q77) (.seq (.ops Q6Q) (.ops Q6P)))) (.seq (.ops Q6O) (.cond (.tmp 149) (.seq (.ops Q6N) (.draw Q6M Q76)) (.seq (.ops Q6L) (.cond (.tmp 175) (.ops Q6K) (.seq (.ops Q6J) (.cond (.tmp 180) (.seq (.draw Q6I Q75) (.seq (.ops Q6H) (.ops Q6G))) (.seq (.ops Q6F) (.cond (.tmp 206) (.seq (.draw Q6E Q74) (.ops Q6D)) (.seq (.ops Q6C) (.cond (.tmp 230) (.seq (.draw Q6B Q73) (.seq (.ops Q6A) (.ops Q6z))) (.seq (.ops Q6y) (.cond (.tmp 253) (.seq (.ops Q6x) (.seq (.ops Q6w) (.ops Q6v))) (.seq (.ops Q6u) (.cond (.tmp 280) (.seq (.ops Q6t) (.seq (.ops Q6s) (.ops Q6r))) (.seq (.ops Q6q) (.cond (.tmp 306) (.ops Q6p) .skip))))))))))))))))))))))))))))))))
@[reducible] def Q7 : FuncId := 40
theorem Q72 : lowF Try.prog Try.f40 = some ideal_Machine_ins_lc := by kernel_rfl
theorem Q8J {a0 a1 : Value} {w : World} {R : Ending → World → Prop} (h : ideal_Machine_ins_lc.wp Try.prog (retQ Try.prog [] R) (Qf [a0, a1]) w) : Calls Try.prog Q7 ⟨[a0, a1]⟩ w R :=
  Q3 Try.func40 Q72 (by kernel_rfl) (by kernel_rfl) h

/- 41 -/
def Q8U : List GO := [qb 3 48 1]
def Q8T : List GO := [qf 4 3 0, ql 5 4]
def Q8S : List GO := [qj 7 .eql 3 5 1, qm 6 7]
def Q8R : List GO := [qm 8 0, qf 9 3 2, qV 10 3 9, ⟨none, .call (some 11) 68 [(.tmp 8), (.tmp 10)]⟩]
def Q8Q : List GO := [qj 13 .eql 3 5 2, qm 12 13]
def Q8P : List GO := [qm 14 0, qf 15 3 1, ql 16 15, ⟨none, .call (some 17) 54 [(.tmp 14), (.tmp 16)]⟩, qj 18 .neq 2 17 0]
def Q8O : List GO := [qm 19 0, qf 20 3 2, qV 21 3 20, ⟨none, .call (some 22) 68 [(.tmp 19), (.tmp 21)]⟩]
def Q8N : List GO := [qm 23 0, qf 24 3 5, qV 25 3 24, ⟨none, .call (some 26) 68 [(.tmp 23), (.tmp 25)]⟩]
def Q8M : List GO := [qj 28 .eql 3 5 3, qm 27 28]
def Q8L : List GO := [qm 29 0, qV 30 9 3, ⟨none, .call (some 31) 69 [(.tmp 29), (.tmp 30)]⟩]
def ideal_Machine_end_lc : LC := (.seq (.ops Q8U) (.seq (.ops Q8T) (.block 0 (.seq (.ops Q8S) (.cond (.tmp 6) (.ops Q8R) (.seq (.ops Q8Q) (.cond (.tmp 12) (.seq (.ops Q8P) (.cond (.tmp 18) (.ops Q8O) (.ops Q8N))) (.seq (.ops Q8M) (.cond (.tmp 27) (.ops Q8L) .skip)))))))))
@[reducible] def Q1V : FuncId := 41
theorem Q7b : lowF Try.prog Try.f41 = some ideal_Machine_end_lc := by kernel_rfl
theorem Q29 {a0 a1 : Value} {w : World} {R : Ending → World → Prop} (h : ideal_Machine_end_lc.wp Try.prog (retQ Try.prog [] R) (Qf [a0, a1]) w) : Calls Try.prog Q1V ⟨[a0, a1]⟩ w R :=
  Q3 Try.func41 Q7b (by kernel_rfl) (by kernel_rfl) h

/- 42 -/
def Qin : List GO := [qb 2 62 0, qk 4 (vi 0)]
def Qim : List GO := [qm 6 1, qj 7 .sub 3 6 1, qm 1 7]
def Qil : List GO := [qk 5 (vi 0)]
def Qik : List GO := [qm 8 5, qf 9 2 2, ql 10 9, qL 11 10, qt 12 .lss 3 8 11, qm 13 12, qg 13 true (qm 14 1), qg 13 true (qj 15 .geq 3 14 0), ⟨none, .pick 16 (.tmp 13) (.tmp 15) (.const (.bool false))⟩]
def Qij : List GO := [qf 19 2 2, ql 20 19, qm 21 5, qi 22 3 20 21, qV 23 3 22, qm 24 1, ⟨none, .call (some 25) 42 [(.tmp 23), (.tmp 24)]⟩, qm 1 25]
def Qii : List GO := [qm 17 5, qj 18 .add 3 17 1, qm 5 18]
def QaK : LC := (.seq (.seq (.ops Qik) (.cond (.tmp 16) .skip (.exit 0))) (.seq (.block 1 (.ops Qij)) (.ops Qii)))
def Qih : List GO := [qm 26 1, qm 4 26]
def R_typeSize_lc : LC := (.seq (.ops Qin) (.seq (.ops Qim) (.seq (.seq (.ops Qil) (.block 0 (.loop QaK))) (.seq (.ops Qih) .ret))))
@[reducible] def Q7S : FuncId := 42
theorem Qgy : lowF Try.prog Try.f42 = some R_typeSize_lc := by kernel_rfl
theorem Qio {a0 a1 : Value} {w : World} {R : Ending → World → Prop} (h : R_typeSize_lc.wp Try.prog (retQ Try.prog [.tmp 4] R) (Qf [a0, a1]) w) : Calls Try.prog Q7S ⟨[a0, a1]⟩ w R :=
  Q3 Try.func42 Qgy (by kernel_rfl) (by kernel_rfl) h

/- 43 -/
def Qg6 : List GO := [qb 2 62 0, qk 4 (vi 0)]
def Qg5 : List GO := [qV 5 3 2, ⟨none, .call (some 6) 70 [(.tmp 5), (.const (vi 4))]⟩, ⟨none, .un 7 .not (.tmp 6)⟩]
def Qg4 : List GO := [qk 4 (vi 19)]
def Qg3 : List GO := [qV 8 3 2, qm 9 1, ⟨none, .call (some 10) 71 [(.tmp 8), (.tmp 9)]⟩, qm 4 10]
def types_Check_lc : LC := (.seq (.ops Qg6) (.seq (.seq (.ops Qg5) (.cond (.tmp 7) (.seq (.ops Qg4) .ret) .skip)) (.seq (.ops Qg3) .ret)))
@[reducible] def Q4y : FuncId := 43
theorem Qeq : lowF Try.prog Try.f43 = some types_Check_lc := by kernel_rfl
theorem Qg7 {a0 a1 : Value} {w : World} {R : Ending → World → Prop} (h : types_Check_lc.wp Try.prog (retQ Try.prog [.tmp 4] R) (Qf [a0, a1]) w) : Calls Try.prog Q4y ⟨[a0, a1]⟩ w R :=
  Q3 Try.func43 Qeq (by kernel_rfl) (by kernel_rfl) h

/- 44 -/
def Q26 : List GO := [qk 4 (vi 0)]
def Q25 : List GO := [qm 6 0, qL 7 6, qk 8 (vi 0)]
def Q24 : List GO := [qt 9 .lss 3 8 7]
def Q23 : List GO := [qm 10 8, qm 5 10]
def Q22 : List GO := [qm 11 1, qm 12 0, qm 13 5, qi 14 3 12 13, qV 15 3 14, ⟨none, .callv (some 16) (.tmp 11) [(.tmp 15)]⟩]
def Q21 : List GO := [qm 17 5, qm 4 17]
def Q20 : List GO := [qj 18 .add 3 8 1, qm 8 18]
def Q1e : LC := (.seq (.ops Q24) (.seq (.cond (.tmp 9) .skip (.exit 0)) (.seq (.block 1 (.seq (.ops Q23) (.seq (.ops Q22) (.cond (.tmp 16) (.seq (.ops Q21) .ret) .skip)))) (.ops Q20))))
def Q1Z : List GO := [qk 4 (vi (-1))]
def slices_IndexFunc_api_Type_api_Type_lc : LC := (.seq (.ops Q26) (.seq (.seq (.ops Q25) (.block 0 (.loop Q1e))) (.seq (.ops Q1Z) .ret)))
@[reducible] def Qw : FuncId := 44
theorem Q1Q : lowF Try.prog Try.f44 = some slices_IndexFunc_api_Type_api_Type_lc := by kernel_rfl
theorem Q27 {a0 a1 : Value} {w : World} {R : Ending → World → Prop} (h : slices_IndexFunc_api_Type_api_Type_lc.wp Try.prog (retQ Try.prog [.tmp 4] R) (Qf [a0, a1]) w) : Calls Try.prog Qw ⟨[a0, a1]⟩ w R :=
  Q3 Try.func44 Q1Q (by kernel_rfl) (by kernel_rfl) h

/- 45 -/
def Qfj : List GO := [qk 4 (vi 0)]
def Qfi : List GO := [qm 5 0, qj 6 .mul 3 5 10000, qm 7 1, qj 8 .mul 3 7 100, qt 9 .add 3 6 8, qj 10 .add 3 9 90, qm 4 10]
def code_BlockAt_lc : LC := (.seq (.ops Qfj) (.seq (.ops Qfi) .ret))
@[reducible] def Qcx : FuncId := 45
theorem Qdv : lowF Try.prog Try.f45 = some code_BlockAt_lc := by kernel_rfl
theorem Qfk {a0 a1 : Value} {w : World} {R : Ending → World → Prop} (h : code_BlockAt_lc.wp Try.prog (retQ Try.prog [.tmp 4] R) (Qf [a0, a1]) w) : Calls Try.prog Qcx ⟨[a0, a1]⟩ w R :=
  Q3 Try.func45 Qdv (by kernel_rfl) (by kernel_rfl) h

/- 46 -/
def Q19 : List GO := [qk 6 (.bool false)]
def Q18 : List GO := [qm 10 0, qL 11 10, qm 12 1, qL 13 12, qt 14 .neq 3 11 13]
def Q17 : List GO := [qk 6 (.bool false)]
def Q16 : List GO := [qm 15 0, qL 16 15, qk 17 (vi 0)]
def Q15 : List GO := [qt 18 .lss 3 17 16]
def Q14 : List GO := [qm 19 17, qi 20 3 15 17, qV 21 3 20, ⟨none, .alloc 8 62 [(vi 0), (vi 0), vn]⟩, qm 7 19, qw 3 8 21]
def Q13 : List GO := [qm 22 1, qm 23 7, qi 24 3 22 23, qV 25 3 24, ⟨none, .alloc 9 62 [(vi 0), (vi 0), vn]⟩, qw 3 9 25]
def Q12 : List GO := [qm 26 2, qV 27 3 8, qV 28 3 9, ⟨none, .callv (some 29) (.tmp 26) [(.tmp 27), (.tmp 28)]⟩, ⟨none, .un 30 .not (.tmp 29)⟩]
def Q11 : List GO := [qk 6 (.bool false)]
def Q10 : List GO := [qj 31 .add 3 17 1, qm 17 31]
def Qv : LC := (.seq (.ops Q15) (.seq (.cond (.tmp 18) .skip (.exit 0)) (.seq (.block 1 (.seq (.ops Q14) (.seq (.ops Q13) (.seq (.ops Q12) (.cond (.tmp 30) (.seq (.ops Q11) .ret) .skip))))) (.ops Q10))))
def QX : List GO := [qk 6 (.bool true)]
def slices_EqualFunc_api_Type_api_Type_api_Type_api_Type_lc : LC := (.seq (.ops Q19) (.seq (.seq (.ops Q18) (.cond (.tmp 14) (.seq (.ops Q17) .ret) .skip)) (.seq (.seq (.ops Q16) (.block 0 (.loop Qv))) (.seq (.ops QX) .ret))))
@[reducible] def Q9 : FuncId := 46
theorem QY : lowF Try.prog Try.f46 = some slices_EqualFunc_api_Type_api_Type_api_Type_api_Type_lc := by kernel_rfl
theorem Q1a {a0 a1 a2 : Value} {w : World} {R : Ending → World → Prop} (h : slices_EqualFunc_api_Type_api_Type_api_Type_api_Type_lc.wp Try.prog (retQ Try.prog [.tmp 6] R) (Qf [a0, a1, a2]) w) : Calls Try.prog Q9 ⟨[a0, a1, a2]⟩ w R :=
  Q3 Try.func46 QY (by kernel_rfl) (by kernel_rfl) h

/- 47 -/
def Qhj : List GO := [qb 2 62 0, qb 3 62 1, qk 4 (.bool false)]
def Qhi : List GO := [qf 5 2 0, ql 6 5, qf 7 3 0, ql 8 7, qt 9 .eql 3 6 8, qm 10 9, qg 10 true (qf 11 2 1), qg 10 true (ql 12 11), qg 10 true (qf 13 3 1), qg 10 true (ql 14 13), qg 10 true (qt 15 .eql 3 12 14), ⟨none, .pick 16 (.tmp 10) (.tmp 15) (.const (.bool false))⟩, qm 17 16, qg 17 true (qf 18 2 2), qg 17 true (ql 19 18), qg 17 true (qf 20 3 2), qg 17 true (ql 21 20), ⟨some (17, true), .call (some 22) 46 [(.tmp 19), (.tmp 21), (.func 47)]⟩, ⟨none, .pick 23 (.tmp 17) (.tmp 22) (.const (.bool false))⟩, qm 4 23]
def types_Same_lc : LC := (.seq (.ops Qhj) (.seq (.ops Qhi) .ret))
@[reducible] def QgO : FuncId := 47
theorem Qg2 : lowF Try.prog Try.f47 = some types_Same_lc := by kernel_rfl
theorem Qhk {a0 a1 : Value} {w : World} {R : Ending → World → Prop} (h : types_Same_lc.wp Try.prog (retQ Try.prog [.tmp 4] R) (Qf [a0, a1]) w) : Calls Try.prog QgO ⟨[a0, a1]⟩ w R :=
  Q3 Try.func47 Qg2 (by kernel_rfl) (by kernel_rfl) h

/- 48 -/
def QbM : List GO := [qb 3 42 1]
def QbL : List GO := [qm 5 0, qf 6 3 0, ql 7 6, qj 8 .lss 3 7 1, qm 9 8, qg 9 false (qf 10 3 0), qg 9 false (ql 11 10), qg 9 false (qj 12 .gtr 3 11 14), ⟨none, .pick 13 (.tmp 9) (.const (.bool true)) (.tmp 12)⟩, ⟨none, .call (some 14) 27 [(.tmp 5), (.tmp 13), (.const (vi 3))]⟩]
def QbK : List GO := [qf 15 3 0, ql 16 15, ⟨none, .call (some 17) 72 [(.tmp 16)]⟩, qm 4 17]
def QbJ : List GO := [qm 18 0, qm 19 4, ⟨none, .call (some 20) 73 [(.tmp 19), (.const (.int .u8 97))]⟩, ⟨none, .un 21 .not (.tmp 20)⟩, qm 22 21, qg 22 true (qf 23 3 1), qg 22 true (ql 24 23), qg 22 true (qj 25 .neq 3 24 0), ⟨none, .pick 26 (.tmp 22) (.tmp 25) (.const (.bool false))⟩, qm 27 26, qg 27 false (qm 28 4), ⟨some (27, false), .call (some 29) 73 [(.tmp 28), (.const (.int .u8 98))]⟩, ⟨some (27, false), .un 30 .not (.tmp 29)⟩, qg 27 false (qm 31 30), qg 31 true (qf 32 3 2), qg 31 true (ql 33 32), qg 31 true (qj 34 .neq 3 33 0), ⟨some (27, false), .pick 35 (.tmp 31) (.tmp 34) (.const (.bool false))⟩, ⟨none, .pick 36 (.tmp 27) (.const (.bool true)) (.tmp 35)⟩, qm 37 36, qg 37 false (qm 38 4), ⟨some (37, false), .call (some 39) 73 [(.tmp 38), (.const (.int .u8 99))]⟩, ⟨some (37, false), .un 40 .not (.tmp 39)⟩, qg 37 false (qm 41 40), qg 41 true (qf 42 3 3), qg 41 true (ql 43 42), qg 41 true (qj 44 .neq 3 43 0), ⟨some (37, false), .pick 45 (.tmp 41) (.tmp 44) (.const (.bool false))⟩, ⟨none, .pick 46 (.tmp 37) (.const (.bool true)) (.tmp 45)⟩, qm 47 46, qg 47 false (qm 48 4), ⟨some (47, false), .call (some 49) 73 [(.tmp 48), (.const (.int .u8 107))]⟩, ⟨some (47, false), .un 50 .not (.tmp 49)⟩, qg 47 false (qm 51 50), qg 51 true (qf 52 3 4), qg 51 true (ql 53 52), qg 51 true (qj 54 .neq 3 53 0), ⟨some (47, false), .pick 55 (.tmp 51) (.tmp 54) (.const (.bool false))⟩, ⟨none, .pick 56 (.tmp 47) (.const (.bool true)) (.tmp 55)⟩, qm 57 56, qg 57 false (qm 58 4), ⟨some (57, false), .call (some 59) 73 [(.tmp 58), (.const (.int .u8 110))]⟩, ⟨some (57, false), .un 60 .not (.tmp 59)⟩, qg 57 false (qm 61 60), qg 61 true (qf 62 3 5), qg 61 true (ql 63 62), qg 61 true (qj 64 .neq 2 63 0), ⟨some (57, false), .pick 65 (.tmp 61) (.tmp 64) (.const (.bool false))⟩, ⟨none, .pick 66 (.tmp 57) (.const (.bool true)) (.tmp 65)⟩, qm 67 66, qg 67 false (qm 68 4), ⟨some (67, false), .call (some 69) 73 [(.tmp 68), (.const (.int .u8 103))]⟩, ⟨some (67, false), .un 70 .not (.tmp 69)⟩, qg 67 false (qm 71 70), qg 71 true (qf 72 3 6), qg 71 true (ql 73 72), qg 71 true (qL 74 73), qg 71 true (qj 75 .gtr 3 74 0), ⟨some (67, false), .pick 76 (.tmp 71) (.tmp 75) (.const (.bool false))⟩, ⟨none, .pick 77 (.tmp 67) (.const (.bool true)) (.tmp 76)⟩, qm 78 77, qg 78 false (qm 79 4), ⟨some (78, false), .call (some 80) 73 [(.tmp 79), (.const (.int .u8 114))]⟩, ⟨some (78, false), .un 81 .not (.tmp 80)⟩, qg 78 false (qm 82 81), qg 82 true (qf 83 3 7), qg 82 true (ql 84 83), qg 82 true (qL 85 84), qg 82 true (qj 86 .gtr 3 85 0), ⟨some (78, false), .pick 87 (.tmp 82) (.tmp 86) (.const (.bool false))⟩, ⟨none, .pick 88 (.tmp 78) (.const (.bool true)) (.tmp 87)⟩, ⟨none, .call (some 89) 27 [(.tmp 18), (.tmp 88), (.const (vi 4))]⟩]
def QbI : List GO := [qf 90 3 0, ql 91 90]
def QbH : List GO := [qj 93 .eql 3 91 2, qm 92 93]
def QbG : List GO := [qm 94 0, qf 95 3 4, ql 96 95, qj 97 .lss 3 96 1, qm 98 97, qg 98 false (qf 99 3 4), qg 98 false (ql 100 99), qg 98 false (qj 101 .gtr 3 100 9), ⟨none, .pick 102 (.tmp 98) (.const (.bool true)) (.tmp 101)⟩, ⟨none, .call (some 103) 27 [(.tmp 94), (.tmp 102), (.const (vi 1))]⟩]
def QbF : List GO := [qj 105 .eql 3 91 5, qm 104 105]
def QbE : List GO := [qm 106 0, qf 107 3 7, ql 108 107, qL 109 108, qj 110 .gtr 3 109 8, ⟨none, .call (some 111) 27 [(.tmp 106), (.tmp 110), (.const (vi 2))]⟩]
def QbD : List GO := [qj 113 .eql 3 91 6, qm 112 113]
def QaA : List GO := [qj 114 .eql 3 91 7, qm 112 114]
def Qaz : List GO := [qm 115 0, qf 116 3 4, ql 117 116, qj 118 .lss 3 117 0, qm 119 118, qg 119 false (qf 120 3 4), qg 119 false (ql 121 120), qg 119 false (qj 122 .geq 3 121 8), ⟨none, .pick 123 (.tmp 119) (.const (.bool true)) (.tmp 122)⟩, ⟨none, .call (some 124) 27 [(.tmp 115), (.tmp 123), (.const (vi 1))]⟩]
def Qay : List GO := [qj 126 .eql 3 91 14, qm 125 126]
def Qax : List GO := [qm 127 0, qf 128 3 4, ql 129 128, qj 130 .lss 3 129 0, qm 131 130, qg 131 false (qf 132 3 4), qg 131 false (ql 133 132), qg 131 false (qm 134 0), qg 131 false (qn 135 134), qg 131 false (qf 136 135 0), qg 131 false (qf 137 136 0), qg 131 false (ql 138 137), qg 131 false (qL 139 138), qg 131 false (qt 140 .geq 3 133 139), ⟨none, .pick 141 (.tmp 131) (.const (.bool true)) (.tmp 140)⟩, ⟨none, .call (some 142) 27 [(.tmp 127), (.tmp 141), (.const (vi 1))]⟩]
def QaC : List (List Nat) := [[],[],[1],[2],[3],[4],[5,4],[4],[7,4],[8,4],[9,4],[10,4],[11,4],[6,12,4],[4,13],[0,14,4]]
def Qaw : List GO := [qm 143 0, qf 144 3 6, ql 145 144, qL 146 145, qj 147 .gtr 3 146 6, qm 148 147, qg 148 false (qf 149 3 7), qg 148 false (ql 150 149), qg 148 false (qL 151 150), qg 148 false (qj 152 .gtr 3 151 8), ⟨none, .pick 153 (.tmp 148) (.const (.bool true)) (.tmp 152)⟩, ⟨none, .call (some 154) 27 [(.tmp 143), (.tmp 153), (.const (vi 2))]⟩]
def code_judge_ins_lc : LC := (.seq (.ops QbM) (.seq (.ops QbL) (.seq (.ops QbK) (.seq (.ops QbJ) (.seq (.ops QbI) (.block 0 (.seq (.ops QbH) (.cond (.tmp 92) (.ops QbG) (.seq (.ops QbF) (.cond (.tmp 104) (.ops QbE) (.seq (.seq (.ops QbD) (.cond (.tmp 112) .skip (.ops QaA))) (.cond (.tmp 112) (.ops Qaz) (.seq (.ops Qay) (.cond (.tmp 125) (.seq (.draw Qax QaC) (.ops Qaw)) .skip))))))))))))))
@[reducible] def QA : FuncId := 48
theorem QaB : lowF Try.prog Try.f48 = some code_judge_ins_lc := by kernel_rfl
theorem QbN {a0 a1 : Value} {w : World} {R : Ending → World → Prop} (h : code_judge_ins_lc.wp Try.prog (retQ Try.prog [] R) (Qf [a0, a1]) w) : Calls Try.prog QA ⟨[a0, a1]⟩ w R :=
  Q3 Try.func48 QaB (by kernel_rfl) (by kernel_rfl) h

/- 49 -/
def QbT : List GO := [qb 4 53 1, qb 5 48 2]
def QbS : List GO := [qm 6 0, qf 7 5 0, ql 8 7, qj 9 .lss 3 8 1, qm 10 9, qg 10 false (qf 11 5 0), qg 10 false (ql 12 11), qg 10 false (qj 13 .gtr 3 12 3), ⟨none, .pick 14 (.tmp 10) (.const (.bool true)) (.tmp 13)⟩, ⟨none, .call (some 15) 27 [(.tmp 6), (.tmp 14), (.const (vi 3))]⟩]
def QbR : List GO := [qm 16 0, qf 17 5 0, ql 18 17, qj 19 .neq 3 18 2, qm 20 19, qg 20 true (qf 21 5 1), qg 20 true (ql 22 21), qg 20 true (qj 23 .neq 3 22 0), ⟨none, .pick 24 (.tmp 20) (.tmp 23) (.const (.bool false))⟩, qm 25 24, qg 25 false (qf 26 5 0), qg 25 false (ql 27 26), qg 25 false (qj 28 .neq 3 27 3), qg 25 false (qm 29 28), qg 29 true (qf 30 5 8), qg 29 true (ql 31 30), qg 29 true (qL 32 31), qg 29 true (qj 33 .gtr 3 32 0), ⟨some (25, false), .pick 34 (.tmp 29) (.tmp 33) (.const (.bool false))⟩, ⟨none, .pick 35 (.tmp 25) (.const (.bool true)) (.tmp 34)⟩, ⟨none, .call (some 36) 27 [(.tmp 16), (.tmp 35), (.const (vi 4))]⟩]
def QbQ : List GO := [qm 37 0, qf 38 5 8, ql 39 38, qL 40 39, qj 41 .gtr 3 40 8, ⟨none, .call (some 42) 27 [(.tmp 37), (.tmp 41), (.const (vi 2))]⟩]
def QbP : List GO := [qm 43 0, qV 44 4 4, qf 45 5 2, qV 46 3 45, qf 47 5 0, ql 48 47, qj 49 .neq 3 48 3, ⟨none, .call (some 50) 74 [(.tmp 43), (.tmp 44), (.tmp 46), (.tmp 49)]⟩]
def QbO : List GO := [qm 51 0, qV 52 4 4, qf 53 5 5, qV 54 3 53, qf 55 5 0, ql 56 55, qj 57 .eql 3 56 2, ⟨none, .call (some 58) 74 [(.tmp 51), (.tmp 52), (.tmp 54), (.tmp 57)]⟩]
def code_judge_end_lc : LC := (.seq (.ops QbT) (.seq (.ops QbS) (.seq (.ops QbR) (.seq (.ops QbQ) (.seq (.ops QbP) (.ops QbO))))))
@[reducible] def Q9a : FuncId := 49
theorem QaF : lowF Try.prog Try.f49 = some code_judge_end_lc := by kernel_rfl
theorem QbU {a0 a1 a2 : Value} {w : World} {R : Ending → World → Prop} (h : code_judge_end_lc.wp Try.prog (retQ Try.prog [] R) (Qf [a0, a1, a2]) w) : Calls Try.prog Q9a ⟨[a0, a1, a2]⟩ w R :=
  Q3 Try.func49 QaF (by kernel_rfl) (by kernel_rfl) h

/- 50 -/
def Qf8 : List GO := [qb 1 62 0, ⟨none, .alloc 2 62 [(vi 0), (vi 0), vn]⟩]
def Qf7 : List GO := [qf 4 1 0, ql 5 4, qf 6 1 1, ql 7 6, ⟨none, .build 8 [(vi 0), (vi 0), vn] [(0, (1, (.tmp 5))), (1, (1, (.tmp 7)))]⟩, ⟨none, .alloc 3 62 [(vi 0), (vi 0), vn]⟩, qw 3 3 8]
def Qf6 : List GO := [qf 9 1 2, ql 10 9, ⟨none, .call (some 11) 33 [(.tmp 10)]⟩, qf 12 3 2, qs 12 11]
def Qf5 : List GO := [qV 13 3 3, qw 3 2 13]
def code_ownType_lc : LC := (.seq (.ops Qf8) (.seq (.ops Qf7) (.seq (.ops Qf6) (.seq (.ops Qf5) .ret))))
@[reducible] def Q7D : FuncId := 50
theorem Qdo : lowF Try.prog Try.f50 = some code_ownType_lc := by kernel_rfl
theorem Qf9 {a0 : Value} {w : World} {R : Ending → World → Prop} (h : code_ownType_lc.wp Try.prog (retQ Try.prog [.cell 2 62] R) (Qf [a0]) w) : Calls Try.prog Q7D ⟨[a0]⟩ w R :=
  Q3 Try.func50 Qdo (by kernel_rfl) (by kernel_rfl) h

/- 51 -/
def Q8g : List GO := [qm 4 0, ⟨none, .call (some 5) 36 [(.tmp 4)]⟩, qm 6 0, ⟨none, .call (some 7) 36 [(.tmp 6)]⟩, qn 8 7, qf 9 8 3, ql 10 9, qm 11 1, ⟨none, .raw ⟨(some 12), (.call ⟨(.builtin .append), #[(.tmp 10), (.tmp 11)], #[68, 68]⟩), 68, "", #[], none⟩⟩, qn 13 5, qf 14 13 3, qs 14 12]
def ideal_Machine_put_lc : LC := (.ops Q8g)
@[reducible] def Q4g : FuncId := 51
theorem Q6c : lowF Try.prog Try.f51 = some ideal_Machine_put_lc := by kernel_rfl
theorem Q8h {a0 a1 : Value} {w : World} {R : Ending → World → Prop} (h : ideal_Machine_put_lc.wp Try.prog (retQ Try.prog [] R) (Qf [a0, a1]) w) : Calls Try.prog Q4g ⟨[a0, a1]⟩ w R :=
  Q3 Try.func51 Q6c (by kernel_rfl) (by kernel_rfl) h

/- 52 -/
def QeH : List GO := [⟨none, .alloc 2 108 [(vi 0), (vi 0), (vi 0), (vi 0)]⟩]
def QeG : List GO := [qm 3 0, ⟨none, .build 4 [(vi 0), (vi 0), (vi 0), (vi 0)] [(0, (1, (.const (vi 1)))), (3, (1, (.tmp 3)))]⟩, qw 4 2 4]
def ideal_number_lc : LC := (.seq (.ops QeH) (.seq (.ops QeG) .ret))
@[reducible] def Qcr : FuncId := 52
theorem QcB : lowF Try.prog Try.f52 = some ideal_number_lc := by kernel_rfl
theorem QeI {a0 : Value} {w : World} {R : Ending → World → Prop} (h : ideal_number_lc.wp Try.prog (retQ Try.prog [.cell 2 108] R) (Qf [a0]) w) : Calls Try.prog Qcr ⟨[a0]⟩ w R :=
  Q3 Try.func52 QcB (by kernel_rfl) (by kernel_rfl) h

/- 53 -/
def QkV : List GO := [qk 6 (vi 0), qk 7 (.bool false)]
def QkU : List GO := [qm 10 0]
def QkT : List GO := [qj 12 .eql 3 10 1, qm 11 12]
def QkS : List GO := [qm 13 1, qm 14 2, qt 15 .add 2 13 14, qm 6 15, qk 7 (.bool true)]
def QkR : List GO := [qj 17 .eql 3 10 2, qm 16 17]
def QkQ : List GO := [qm 18 1, qm 19 2, qt 20 .sub 2 18 19, qm 6 20, qk 7 (.bool true)]
def QkP : List GO := [qj 22 .eql 3 10 3, qm 21 22]
def QkO : List GO := [qm 23 1, qm 24 2, qt 25 .mul 2 23 24, qm 6 25, qk 7 (.bool true)]
def QkN : List GO := [qj 27 .eql 3 10 4, qm 26 27]
def QkM : List GO := [qm 28 1, qm 29 2, ⟨none, .call (some 30) 75 [(.tmp 28), (.tmp 29)]⟩, qx 31 30 0, qx 32 30 1, qm 6 31, qm 7 32]
def QjO : List GO := [qj 34 .eql 3 10 5, qm 33 34]
def QjN : List GO := [qm 36 1, qm 37 2, ⟨none, .call (some 38) 75 [(.tmp 36), (.tmp 37)]⟩, qm 35 38, qx 39 35 0, qx 40 35 1, qm 8 39, qm 9 40]
def QjM : List GO := [qm 41 9, ⟨none, .un 42 .not (.tmp 41)⟩]
def QjL : List GO := [qk 6 (vi 0), qk 7 (.bool false)]
def QjK : List GO := [qm 43 1, qm 44 8, qm 45 2, qt 46 .mul 2 44 45, qt 47 .sub 2 43 46, qm 6 47, qk 7 (.bool true)]
def QjJ : List GO := [qj 49 .eql 3 10 6, qm 48 49]
def QjI : List GO := [qm 50 1, qm 51 2, qt 52 .lss 2 50 51, ⟨none, .call (some 53) 76 [(.tmp 52)]⟩, qm 6 53, qk 7 (.bool true)]
def QjH : List GO := [qj 55 .eql 3 10 7, qm 54 55]
def QjG : List GO := [qm 56 1, qm 57 2, qt 58 .eql 2 56 57, ⟨none, .call (some 59) 76 [(.tmp 58)]⟩, qm 6 59, qk 7 (.bool true)]
def QjF : List GO := [qj 61 .eql 3 10 8, qm 60 61]
def QjE : List GO := [qm 62 1, qm 63 2, qt 64 .and 2 62 63, qm 6 64, qk 7 (.bool true)]
def QjD : List GO := [qj 66 .eql 3 10 9, qm 65 66]
def QjC : List GO := [qm 67 1, qm 68 2, qt 69 .xor 2 67 68, qm 6 69, qk 7 (.bool true)]
def QjB : List GO := [qk 6 (vi 0), qk 7 (.bool false)]
def arith_Op_lc : LC := (.seq (.ops QkV) (.seq (.seq (.ops QkU) (.block 0 (.seq (.ops QkT) (.cond (.tmp 11) (.seq (.ops QkS) .ret) (.seq (.ops QkR) (.cond (.tmp 16) (.seq (.ops QkQ) .ret) (.seq (.ops QkP) (.cond (.tmp 21) (.seq (.ops QkO) .ret) (.seq (.ops QkN) (.cond (.tmp 26) (.seq (.ops QkM) .ret) (.seq (.ops QjO) (.cond (.tmp 33) (.seq (.ops QjN) (.seq (.seq (.ops QjM) (.cond (.tmp 42) (.seq (.ops QjL) .ret) .skip)) (.seq (.ops QjK) .ret))) (.seq (.ops QjJ) (.cond (.tmp 48) (.seq (.ops QjI) .ret) (.seq (.ops QjH) (.cond (.tmp 54) (.seq (.ops QjG) .ret) (.seq (.ops QjF) (.cond (.tmp 60) (.seq (.ops QjE) .ret) (.seq (.ops QjD) (.cond (.tmp 65) (.seq (.ops QjC) .ret) .skip)))))))))))))))))))) (.seq (.ops QjB) .ret)))
@[reducible] def QM : FuncId := 53
theorem QjP : lowF Try.prog Try.f53 = some arith_Op_lc := by kernel_rfl
theorem QkW {a0 a1 a2 : Value} {w : World} {R : Ending → World → Prop} (h : arith_Op_lc.wp Try.prog (retQ Try.prog [.tmp 6, .tmp 7] R) (Qf [a0, a1, a2]) w) : Calls Try.prog QM ⟨[a0, a1, a2]⟩ w R :=
  Q3 Try.func53 QjP (by kernel_rfl) (by kernel_rfl) h

/- 54 -/
def Q8x : List GO := [qk 4 (vi 0)]
def Q8w : List GO := [qm 6 0, qm 7 1, ⟨none, .call (some 8) 58 [(.tmp 6), (.tmp 7)]⟩, ⟨none, .alloc 5 108 [(vi 0), (vi 0), (vi 0), (vi 0)]⟩, qw 4 5 8]
def Q8v : List GO := [qf 9 5 0, ql 10 9, qj 11 .eql 3 10 1, ⟨none, .call (some 12) 56 [(.tmp 11)]⟩]
def Q8u : List GO := [qf 13 5 3, ql 14 13, qm 4 14]
def ideal_Machine_num_lc : LC := (.seq (.ops Q8x) (.seq (.ops Q8w) (.seq (.ops Q8v) (.seq (.ops Q8u) .ret))))
@[reducible] def Q4h : FuncId := 54
theorem Q6j : lowF Try.prog Try.f54 = some ideal_Machine_num_lc := by kernel_rfl
theorem Q8y {a0 a1 : Value} {w : World} {R : Ending → World → Prop} (h : ideal_Machine_num_lc.wp Try.prog (retQ Try.prog [.tmp 4] R) (Qf [a0, a1]) w) : Calls Try.prog Q4h ⟨[a0, a1]⟩ w R :=
  Q3 Try.func54 Q6j (by kernel_rfl) (by kernel_rfl) h

/- 55 -/
def Qbw : List GO := [⟨none, .alloc 2 108 [(vi 0), (vi 0), (vi 0), (vi 0)]⟩, qk 3 (.bool false)]
def Qbv : List GO := [qm 4 0, qn 5 4, qf 6 5 2, ql 7 6, qj 8 .eql 3 7 16]
def Qbu : List GO := [⟨none, .build 9 [(vi 0), (vi 0), (vi 0), (vi 0)] []⟩, qw 4 2 9, qk 3 (.bool false)]
def Qbt : List GO := [qm 10 0, qn 11 10, qf 12 11 2, ql 13 12, qj 14 .add 3 13 1, qn 15 10, qf 16 15 2, qs 16 14]
def Qbs : List GO := [qm 17 0, qm 18 0, qn 19 18, qf 20 19 0, ql 21 20, ⟨none, .build 22 [(.bool false), vn, (vi 0), (vi 0)] [(0, (1, (.const (.bool true))))]⟩, ⟨none, .buildS 23 136 1 [(.bool false), vn, (vi 0), (vi 0)] [(0, (4, (.tmp 22)))]⟩, ⟨none, .raw ⟨(some 24), (.call ⟨(.builtin .append), #[(.tmp 21), (.tmp 23)], #[88, 88]⟩), 88, "", #[], none⟩⟩, qn 25 17, qf 26 25 0, qs 26 24]
def Qbr : List GO := [qm 27 0, qn 28 27, qf 29 28 0, ql 30 29, qL 31 30, qj 32 .sub 3 31 1, ⟨none, .build 33 [(vi 0), (vi 0), (vi 0), (vi 0)] [(0, (1, (.const (vi 2)))), (1, (1, (.tmp 32)))]⟩, qw 4 2 33, qk 3 (.bool true)]
def heap_Heap_Open_lc : LC := (.seq (.ops Qbw) (.seq (.seq (.ops Qbv) (.cond (.tmp 8) (.seq (.ops Qbu) .ret) .skip)) (.seq (.ops Qbt) (.seq (.ops Qbs) (.seq (.ops Qbr) .ret)))))
@[reducible] def Q98 : FuncId := 55
theorem Qa7 : lowF Try.prog Try.f55 = some heap_Heap_Open_lc := by kernel_rfl
theorem Q4s {a0 : Value} {w : World} {R : Ending → World → Prop} (h : heap_Heap_Open_lc.wp Try.prog (retQ Try.prog [.cell 2 108, .tmp 3] R) (Qf [a0]) w) : Calls Try.prog Q98 ⟨[a0]⟩ w R :=
  Q3 Try.func55 Qa7 (by kernel_rfl) (by kernel_rfl) h

/- 56 -/
def QhH : List GO := [qm 2 0, ⟨none, .un 3 .not (.tmp 2)⟩]
def QhG : List GO := [⟨none, .build 4 [] []⟩, ⟨none, .mki 5 77 (.tmp 4)⟩, ⟨none, .raw ⟨none, (.panic (.tmp 5)), 0, "", #[], none⟩⟩]
def ideal_need_lc : LC := (.seq (.ops QhH) (.cond (.tmp 3) (.ops QhG) .skip))
@[reducible] def Qb3 : FuncId := 56
theorem Qga : lowF Try.prog Try.f56 = some ideal_need_lc := by kernel_rfl
theorem Q9Y {a0 : Value} {w : World} {R : Ending → World → Prop} (h : ideal_need_lc.wp Try.prog (retQ Try.prog [] R) (Qf [a0]) w) : Calls Try.prog Qb3 ⟨[a0]⟩ w R :=
  Q3 Try.func56 Qga (by kernel_rfl) (by kernel_rfl) h

/- 57 -/
def Qbn : List GO := [qb 3 108 1, qk 4 (.bool false)]
def Qbm : List GO := [qf 6 3 0, ql 7 6, qj 8 .neq 3 7 2, qm 9 8, qg 9 false (qm 10 0), qg 9 false (qf 11 3 1), qg 9 false (ql 12 11), ⟨some (9, false), .call (some 13) 77 [(.tmp 10), (.tmp 12)]⟩, ⟨some (9, false), .un 14 .not (.tmp 13)⟩, ⟨none, .pick 15 (.tmp 9) (.const (.bool true)) (.tmp 14)⟩]
def Qbl : List GO := [qk 4 (.bool false)]
def Qbk : List GO := [qm 16 0, qn 17 16, qf 18 17 0, ql 19 18, qf 20 3 1, ql 21 20, qi 22 4 19 21, qm 5 22]
def Qbp : List (List Nat) := [[],[0],[1],[2],[],[4],[3,5],[6,0,1,2,3,4,5,6]]
def Qbj : List GO := [qm 23 0, qn 24 23, qf 25 24 1, ql 26 25, qm 27 5, qn 28 27, qf 29 28 2, ql 30 29, qt 31 .add 3 26 30, qn 32 23, qf 33 32 1, qs 33 31]
def Qbo : List (List Nat) := [[],[0],[1],[2],[],[4],[5],[6],[3,7],[0,0,1,2,3,4,5,6,7,8],[9,0,1,2,3,4,5,6,7,8],[10,8,0,1,2,3,4,5,6,7,8]]
def Qbi : List GO := [qm 34 5, ⟨none, .build 35 [(.bool false), vn, (vi 0), (vi 0)] []⟩, qn 36 34, qw 4 36 35]
def Qbh : List GO := [qm 37 0, qn 38 37, qf 39 38 2, ql 40 39, qj 41 .sub 3 40 1, qn 42 37, qf 43 42 2, qs 43 41]
def Qbg : List GO := [qk 4 (.bool true)]
def heap_Heap_Shut_lc : LC := (.seq (.ops Qbn) (.seq (.seq (.ops Qbm) (.cond (.tmp 15) (.seq (.ops Qbl) .ret) .skip)) (.seq (.draw Qbk Qbp) (.seq (.draw Qbj Qbo) (.seq (.ops Qbi) (.seq (.ops Qbh) (.seq (.ops Qbg) .ret)))))))
@[reducible] def Q97 : FuncId := 57
theorem Qa6 : lowF Try.prog Try.f57 = some heap_Heap_Shut_lc := by kernel_rfl
theorem Q2O {a0 a1 : Value} {w : World} {R : Ending → World → Prop} (h : heap_Heap_Shut_lc.wp Try.prog (retQ Try.prog [.tmp 4] R) (Qf [a0, a1]) w) : Calls Try.prog Q97 ⟨[a0, a1]⟩ w R :=
  Q3 Try.func57 Qa6 (by kernel_rfl) (by kernel_rfl) h

/- 58 -/
def Q7Y : List GO := [⟨none, .alloc 4 108 [(vi 0), (vi 0), (vi 0), (vi 0)]⟩]
def Q7X : List GO := [qm 6 0, ⟨none, .call (some 7) 36 [(.tmp 6)]⟩, qn 8 7, qf 9 8 3, ql 10 9, qm 5 10]
def Q7W : List GO := [qm 11 1, qj 12 .geq 3 11 0, qm 13 12, qg 13 true (qm 14 1), qg 13 true (qm 15 5), qg 13 true (qL 16 15), qg 13 true (qt 17 .lss 3 14 16), ⟨none, .pick 18 (.tmp 13) (.tmp 17) (.const (.bool false))⟩, ⟨none, .call (some 19) 56 [(.tmp 18)]⟩]
def Q7V : List GO := [qm 20 5, qm 21 1, qi 22 4 20 21, qV 23 4 22, qw 4 4 23]
def ideal_Machine_val_lc : LC := (.seq (.ops Q7Y) (.seq (.ops Q7X) (.seq (.ops Q7W) (.seq (.ops Q7V) .ret))))
@[reducible] def Q4e : FuncId := 58
theorem Q5T : lowF Try.prog Try.f58 = some ideal_Machine_val_lc := by kernel_rfl
theorem Q3a {a0 a1 : Value} {w : World} {R : Ending → World → Prop} (h : ideal_Machine_val_lc.wp Try.prog (retQ Try.prog [.cell 4 108] R) (Qf [a0, a1]) w) : Calls Try.prog Q4e ⟨[a0, a1]⟩ w R :=
  Q3 Try.func58 Q5T (by kernel_rfl) (by kernel_rfl) h

/- 59 -/
def Q6n : List GO := [qb 4 108 1]
def Q6m : List GO := [qm 6 2, qj 7 .eql 3 6 14, ⟨none, .call (some 8) 39 [(.tmp 7), (.const (vi 6))]⟩]
def Q6l : List GO := [qm 9 2, qj 10 .eql 3 9 0, ⟨none, .call (some 11) 56 [(.tmp 10)]⟩]
def Q6k : List GO := [qm 12 0, qV 13 4 4, ⟨none, .buildS 14 108 1 [(vi 0), (vi 0), (vi 0), (vi 0)] [(0, (4, (.tmp 13)))]⟩, ⟨none, .call (some 15) 51 [(.tmp 12), (.tmp 14)]⟩]
def ideal_Machine_made_lc : LC := (.seq (.ops Q6n) (.seq (.ops Q6m) (.seq (.ops Q6l) (.ops Q6k))))
@[reducible] def Q3O : FuncId := 59
theorem Q5j : lowF Try.prog Try.f59 = some ideal_Machine_made_lc := by kernel_rfl
theorem Q6o {a0 a1 a2 : Value} {w : World} {R : Ending → World → Prop} (h : ideal_Machine_made_lc.wp Try.prog (retQ Try.prog [] R) (Qf [a0, a1, a2]) w) : Calls Try.prog Q3O ⟨[a0, a1, a2]⟩ w R :=
  Q3 Try.func59 Q5j (by kernel_rfl) (by kernel_rfl) h

/- 60 -/
def Qa3 : List GO := [qb 4 108 1, ⟨none, .alloc 6 108 [(vi 0), (vi 0), (vi 0), (vi 0)]⟩, qk 7 (vi 0)]
def Qa2 : List GO := [qm 8 0, qV 9 4 4, qm 10 2, qL 11 10, ⟨none, .mnx 12 true (.tmp 11) (.const (vi 1))⟩, qm 13 2, ⟨none, .call (some 14) 79 [(.tmp 13)]⟩, ⟨none, .build 15 [(.bool false), vn] [(1, (1, (.tmp 14)))]⟩, ⟨none, .call (some 16) 78 [(.tmp 8), (.tmp 9), (.const (vi 3)), (.tmp 12), (.tmp 15)]⟩, qx 17 16 0, qx 18 16 1, qw 4 6 17, qm 7 18]
def Qa5 : List (List Nat) := [[],[],[],[2],[3],[],[5],[6],[0,1,4,7,6],[8],[8],[9,8,0,1,2,3,4,5,6,7,8,9,10],[10,11,0,1,2,3,4,5,6,7,8,9,10,11]]
def heap_Heap_Tuple_lc : LC := (.seq (.ops Qa3) (.seq (.draw Qa2 Qa5) .ret))
@[reducible] def Q7y : FuncId := 60
theorem Q9t : lowF Try.prog Try.f60 = some heap_Heap_Tuple_lc := by kernel_rfl
theorem Qa4 {a0 a1 a2 : Value} {w : World} {R : Ending → World → Prop} (h : heap_Heap_Tuple_lc.wp Try.prog (retQ Try.prog [.cell 6 108, .tmp 7] R) (Qf [a0, a1, a2]) w) : Calls Try.prog Q7y ⟨[a0, a1, a2]⟩ w R :=
  Q3 Try.func60 Q9t (by kernel_rfl) (by kernel_rfl) h

/- 61 -/
def Q5R : List GO := [qk 4 vn]
def Q5Q : List GO := [qk 5 vn]
def Q5P : List GO := [qm 8 1, qL 9 8, qk 10 (vi 0)]
def Q5O : List GO := [qt 11 .lss 3 10 9]
def Q5N : List GO := [qi 12 1 8 10, ql 13 12, qm 7 13]
def Q5M : List GO := [qm 14 5, qm 15 0, qm 16 7, ⟨none, .call (some 17) 58 [(.tmp 15), (.tmp 16)]⟩, ⟨none, .buildS 18 108 1 [(vi 0), (vi 0), (vi 0), (vi 0)] [(0, (4, (.tmp 17)))]⟩, ⟨none, .raw ⟨(some 19), (.call ⟨(.builtin .append), #[(.tmp 14), (.tmp 18)], #[68, 68]⟩), 68, "", #[], none⟩⟩, qm 5 19]
def Q5L : List GO := [qj 20 .add 3 10 1, qm 10 20]
def Q2Y : LC := (.seq (.ops Q5O) (.seq (.cond (.tmp 11) .skip (.exit 0)) (.seq (.block 1 (.seq (.ops Q5N) (.ops Q5M))) (.ops Q5L))))
def Q5K : List GO := [qm 21 5, qm 4 21]
def ideal_Machine_vals_lc : LC := (.seq (.ops Q5R) (.seq (.ops Q5Q) (.seq (.seq (.ops Q5P) (.block 0 (.loop Q2Y))) (.seq (.ops Q5K) .ret))))
@[reducible] def Q3L : FuncId := 61
theorem Q57 : lowF Try.prog Try.f61 = some ideal_Machine_vals_lc := by kernel_rfl
theorem Q5S {a0 a1 : Value} {w : World} {R : Ending → World → Prop} (h : ideal_Machine_vals_lc.wp Try.prog (retQ Try.prog [.tmp 4] R) (Qf [a0, a1]) w) : Calls Try.prog Q3L ⟨[a0, a1]⟩ w R :=
  Q3 Try.func61 Q57 (by kernel_rfl) (by kernel_rfl) h

/- 62 -/
def Qdd : List GO := [qb 4 108 1, ⟨none, .alloc 6 108 [(vi 0), (vi 0), (vi 0), (vi 0)]⟩, qk 7 (vi 0)]
def Qdc : List GO := [qm 9 0, qV 10 4 4, ⟨none, .call (some 11) 80 [(.tmp 9), (.tmp 10)]⟩, qm 8 11]
def Qdb : List GO := [qm 12 8, ⟨none, .bin 13 .eql 143 (.tmp 12) (.const (.pointer none))⟩]
def Qda : List GO := [⟨none, .build 14 [(vi 0), (vi 0), (vi 0), (vi 0)] []⟩, qw 4 6 14, qk 7 (vi 20)]
def Qd9 : List GO := [qm 15 2, qj 16 .lss 2 15 0, qm 17 16, qg 17 false (qm 18 2), qg 17 false (qm 19 8), qg 17 false (qn 20 19), qg 17 false (qf 21 20 1), qg 17 false (ql 22 21), qg 17 false (qL 23 22), qg 17 false (qt 24 .geq 2 18 23), ⟨none, .pick 25 (.tmp 17) (.const (.bool true)) (.tmp 24)⟩]
def Qd8 : List GO := [⟨none, .build 26 [(vi 0), (vi 0), (vi 0), (vi 0)] []⟩, qw 4 6 26, qk 7 (vi 1)]
def Qd7 : List GO := [qm 27 8, qn 28 27, qf 29 28 1, ql 30 29, qm 31 2, qi 32 4 30 31, qV 33 4 32, qw 4 6 33, qk 7 (vi 0)]
def heap_Heap_Get_lc : LC := (.seq (.ops Qdd) (.seq (.ops Qdc) (.seq (.seq (.ops Qdb) (.cond (.tmp 13) (.seq (.ops Qda) .ret) .skip)) (.seq (.seq (.ops Qd9) (.cond (.tmp 25) (.seq (.ops Qd8) .ret) .skip)) (.seq (.ops Qd7) .ret)))))
@[reducible] def Q1X : FuncId := 62
theorem Qby : lowF Try.prog Try.f62 = some heap_Heap_Get_lc := by kernel_rfl
theorem Qde {a0 a1 a2 : Value} {w : World} {R : Ending → World → Prop} (h : heap_Heap_Get_lc.wp Try.prog (retQ Try.prog [.cell 6 108, .tmp 7] R) (Qf [a0, a1, a2]) w) : Calls Try.prog Q1X ⟨[a0, a1, a2]⟩ w R :=
  Q3 Try.func62 Qby (by kernel_rfl) (by kernel_rfl) h

/- 63 -/
def QcY : List GO := [qb 5 108 1, qb 7 108 3, qk 8 (vi 0)]
def QcX : List GO := [qm 10 0, qV 11 4 5, ⟨none, .call (some 12) 80 [(.tmp 10), (.tmp 11)]⟩, qm 9 12]
def QcW : List GO := [qm 13 9, ⟨none, .bin 14 .eql 143 (.tmp 13) (.const (.pointer none))⟩, qm 15 14, qg 15 false (qm 16 9), qg 15 false (qn 17 16), qg 15 false (qf 18 17 0), qg 15 false (ql 19 18), qg 15 false (qm 20 19), qg 20 true (qf 21 7 0), qg 20 true (ql 22 21), qg 20 true (qj 23 .neq 3 22 1), ⟨some (15, false), .pick 24 (.tmp 20) (.tmp 23) (.const (.bool false))⟩, ⟨none, .pick 25 (.tmp 15) (.const (.bool true)) (.tmp 24)⟩]
def QcV : List GO := [qk 8 (vi 20)]
def QcU : List GO := [qm 26 2, qj 27 .lss 2 26 0, qm 28 27, qg 28 false (qm 29 2), qg 28 false (qm 30 9), qg 28 false (qn 31 30), qg 28 false (qf 32 31 1), qg 28 false (ql 33 32), qg 28 false (qL 34 33), qg 28 false (qt 35 .geq 2 29 34), ⟨none, .pick 36 (.tmp 28) (.const (.bool true)) (.tmp 35)⟩]
def QcT : List GO := [qk 8 (vi 1)]
def QcS : List GO := [qm 37 9, qn 38 37, qf 39 38 1, ql 40 39, qm 41 2, qV 42 4 7, qi 43 4 40 41, qw 4 43 42]
def Qd0 : List (List Nat) := [[],[0],[1],[2],[],[],[3,4,0,1,2,3,4,5],[6,5,0,1,2,3,4,5]]
def QcR : List GO := [qk 8 (vi 0)]
def heap_Heap_Set_lc : LC := (.seq (.ops QcY) (.seq (.ops QcX) (.seq (.seq (.ops QcW) (.cond (.tmp 25) (.seq (.ops QcV) .ret) .skip)) (.seq (.seq (.ops QcU) (.cond (.tmp 36) (.seq (.ops QcT) .ret) .skip)) (.seq (.draw QcS Qd0) (.seq (.ops QcR) .ret))))))
@[reducible] def Q1W : FuncId := 63
theorem Qbq : lowF Try.prog Try.f63 = some heap_Heap_Set_lc := by kernel_rfl
theorem QcZ {a0 a1 a2 a3 : Value} {w : World} {R : Ending → World → Prop} (h : heap_Heap_Set_lc.wp Try.prog (retQ Try.prog [.tmp 8] R) (Qf [a0, a1, a2, a3]) w) : Calls Try.prog Q1W ⟨[a0, a1, a2, a3]⟩ w R :=
  Q3 Try.func63 Qbq (by kernel_rfl) (by kernel_rfl) h

/- 64 -/
def Q5o : List GO := [qb 3 42 1]
def Q5n : List GO := [qm 6 0, qf 7 3 1, ql 8 7, ⟨none, .call (some 9) 58 [(.tmp 6), (.tmp 8)]⟩, qm 10 0, qf 11 3 2, ql 12 11, ⟨none, .call (some 13) 54 [(.tmp 10), (.tmp 12)]⟩, ⟨none, .alloc 4 108 [(vi 0), (vi 0), (vi 0), (vi 0)]⟩, qw 4 4 9, qm 5 13]
def Q5r : List (List Nat) := [[],[],[1],[0,2],[],[],[5],[4,6,3],[],[8,3,7,0,1,2,3,8],[7,9,0,1,2,3,4,5,6,7,8,9]]
def Q5m : List GO := [qm 14 5, qj 15 .lss 2 14 0, qm 16 15, qg 16 false (qm 17 5), qg 16 false (qj 18 .gtr 2 17 15), ⟨none, .pick 19 (.tmp 16) (.const (.bool true)) (.tmp 18)⟩, ⟨none, .call (some 20) 39 [(.tmp 19), (.const (vi 3))]⟩]
def Q5l : List GO := [qm 21 0, qm 22 0, qn 23 22, qf 24 23 0, ql 25 24, qV 26 4 4, qm 27 5, ⟨none, .call (some 28) 81 [(.tmp 25), (.tmp 26), (.tmp 27)]⟩, qx 29 28 0, qx 30 28 1, ⟨none, .call (some 31) 59 [(.tmp 21), (.tmp 29), (.tmp 30)]⟩]
def Q5q : List (List Nat) := [[],[],[1],[2],[3],[],[],[4,5,6],[7],[7],[0,8,9,7]]
def ideal_Machine_array_lc : LC := (.seq (.ops Q5o) (.seq (.draw Q5n Q5r) (.seq (.ops Q5m) (.draw Q5l Q5q))))
@[reducible] def Q3B : FuncId := 64
theorem Q4K : lowF Try.prog Try.f64 = some ideal_Machine_array_lc := by kernel_rfl
theorem Q5p {a0 a1 : Value} {w : World} {R : Ending → World → Prop} (h : ideal_Machine_array_lc.wp Try.prog (retQ Try.prog [] R) (Qf [a0, a1]) w) : Calls Try.prog Q3B ⟨[a0, a1]⟩ w R :=
  Q3 Try.func64 Q4K (by kernel_rfl) (by kernel_rfl) h

/- 65 -/
def Q6g : List GO := [qb 4 42 1]
def Q6f : List GO := [qm 6 0, qf 7 4 1, ql 8 7, ⟨none, .call (some 9) 58 [(.tmp 6), (.tmp 8)]⟩, ⟨none, .fldv 10 (.tmp 9) 0⟩, qj 11 .eql 3 10 4, ⟨none, .call (some 12) 56 [(.tmp 11)]⟩]
def Q6e : List GO := [qm 13 2, qj 14 .eql 3 13 1, ⟨none, .call (some 15) 39 [(.tmp 14), (.const (vi 2))]⟩]
def Q6d : List GO := [qm 16 2, qj 17 .eql 3 16 0, ⟨none, .call (some 18) 56 [(.tmp 17)]⟩]
def ideal_Machine_part_lc : LC := (.seq (.ops Q6g) (.seq (.ops Q6f) (.seq (.ops Q6e) (.ops Q6d))))
@[reducible] def Q3N : FuncId := 65
theorem Q5i : lowF Try.prog Try.f65 = some ideal_Machine_part_lc := by kernel_rfl
theorem Q6h {a0 a1 a2 : Value} {w : World} {R : Ending → World → Prop} (h : ideal_Machine_part_lc.wp Try.prog (retQ Try.prog [] R) (Qf [a0, a1, a2]) w) : Calls Try.prog Q3N ⟨[a0, a1, a2]⟩ w R :=
  Q3 Try.func65 Q5i (by kernel_rfl) (by kernel_rfl) h

/- 66 -/
def Qd5 : List GO := [qb 3 108 1, qk 4 (vi 0), qk 5 (vi 0)]
def Qd4 : List GO := [qm 7 0, qV 8 4 3, ⟨none, .call (some 9) 80 [(.tmp 7), (.tmp 8)]⟩, qm 6 9]
def Qd3 : List GO := [qm 10 6, ⟨none, .bin 11 .eql 143 (.tmp 10) (.const (.pointer none))⟩]
def Qd2 : List GO := [qk 4 (vi 0), qk 5 (vi 20)]
def Qd1 : List GO := [qm 12 6, qn 13 12, qf 14 13 1, ql 15 14, qL 16 15, qm 4 16, qk 5 (vi 0)]
def heap_Heap_Len_lc : LC := (.seq (.ops Qd5) (.seq (.ops Qd4) (.seq (.seq (.ops Qd3) (.cond (.tmp 11) (.seq (.ops Qd2) .ret) .skip)) (.seq (.ops Qd1) .ret))))
@[reducible] def Q3j : FuncId := 66
theorem Qbx : lowF Try.prog Try.f66 = some heap_Heap_Len_lc := by kernel_rfl
theorem Qd6 {a0 a1 : Value} {w : World} {R : Ending → World → Prop} (h : heap_Heap_Len_lc.wp Try.prog (retQ Try.prog [.tmp 4, .tmp 5] R) (Qf [a0, a1]) w) : Calls Try.prog Q3j ⟨[a0, a1]⟩ w R :=
  Q3 Try.func66 Qbx (by kernel_rfl) (by kernel_rfl) h

/- 67 -/
def Q7h : List GO := [qb 3 42 1]
def Q7g : List GO := [qm 7 0, qn 8 7, qf 9 8 1, qf 10 9 0, ql 11 10, qf 12 3 4, ql 13 12, qi 14 4 11 13, qV 15 4 14, ⟨none, .alloc 4 53 [(vi 0), vn, vn, vn]⟩, qw 4 4 15]
def Q7l : List (List Nat) := [[],[0],[1],[2],[3],[],[5],[4,6],[7],[],[9,8,0,1,2,3,4,5,6,7,8,9]]
def Q7f : List GO := [qm 16 0, qf 17 3 6, ql 18 17, ⟨none, .call (some 19) 82 [(.tmp 16), (.tmp 18)]⟩, qm 20 0, qf 21 3 7, ql 22 21, ⟨none, .call (some 23) 61 [(.tmp 20), (.tmp 22)]⟩, qm 5 19, qm 6 23]
def Q7k : List (List Nat) := [[],[],[1],[0,2],[],[],[5],[4,6,3],[3,7,0,1,2,3],[7,8,0,1,2,3,4,5,6,7,8]]
def Q7e : List GO := [qm 24 5, qL 25 24, qf 26 4 0, ql 27 26, qt 28 .eql 3 25 27, qm 29 28, qg 29 true (qm 30 6), qg 29 true (qL 31 30), qg 29 true (qf 32 4 1), qg 29 true (ql 33 32), qg 29 true (qL 34 33), qg 29 true (qt 35 .eql 3 31 34), ⟨none, .pick 36 (.tmp 29) (.tmp 35) (.const (.bool false))⟩, ⟨none, .call (some 37) 56 [(.tmp 36)]⟩]
def Q7d : List GO := [qm 38 0, qn 39 38, qf 40 39 2, ql 41 40, qL 42 41, qj 43 .eql 3 42 40, ⟨none, .call (some 44) 39 [(.tmp 43), (.const (vi 5))]⟩]
def Q7c : List GO := [qm 45 0, qm 46 0, qn 47 46, qf 48 47 2, ql 49 48, qf 50 3 4, ql 51 50, qm 52 6, qm 53 5, ⟨none, .build 54 [(vi 0), (vi 0), (vi 0), vn, vn] [(0, (1, (.tmp 51))), (3, (1, (.tmp 52))), (4, (1, (.tmp 53)))]⟩, ⟨none, .buildS 55 70 1 [(vi 0), (vi 0), (vi 0), vn, vn] [(0, (5, (.tmp 54)))]⟩, ⟨none, .raw ⟨(some 56), (.call ⟨(.builtin .append), #[(.tmp 49), (.tmp 55)], #[71, 71]⟩), 71, "", #[], none⟩⟩, qn 57 45, qf 58 57 2, qs 58 56]
def Q7j : List (List Nat) := [[],[],[1],[2],[3],[],[5],[],[],[6,7,8],[9],[4,10],[0,0,1,2,3,4,5,6,7,8,9,10,11],[12,0,1,2,3,4,5,6,7,8,9,10,11],[13,11,11,0,1,2,3,4,5,6,7,8,9,10,11]]
def ideal_Machine_call_lc : LC := (.seq (.ops Q7h) (.seq (.draw Q7g Q7l) (.seq (.draw Q7f Q7k) (.seq (.ops Q7e) (.seq (.ops Q7d) (.draw Q7c Q7j))))))
@[reducible] def Q3P : FuncId := 67
theorem Q5k : lowF Try.prog Try.f67 = some ideal_Machine_call_lc := by kernel_rfl
theorem Q7i {a0 a1 : Value} {w : World} {R : Ending → World → Prop} (h : ideal_Machine_call_lc.wp Try.prog (retQ Try.prog [] R) (Qf [a0, a1]) w) : Calls Try.prog Q3P ⟨[a0, a1]⟩ w R :=
  Q3 Try.func67 Q5k (by kernel_rfl) (by kernel_rfl) h

/- 68 -/
def Q9n : List GO := [qb 3 46 1]
def Q9m : List GO := [qm 8 0, ⟨none, .call (some 9) 36 [(.tmp 8)]⟩, qm 4 9]
def Q9l : List GO := [qm 10 0, qn 11 10, qf 12 11 1, qf 13 12 0, ql 14 13, qm 15 4, qn 16 15, qf 17 16 0, ql 18 17, qi 19 4 14 18, qf 20 19 3, ql 21 20, qf 22 3 0, ql 23 22, qi 24 12 21 23, qV 25 12 24, ⟨none, .alloc 5 50 [(vi 0), vn, vn, (vi 0), (vi 0), (vi 0), vn, vn, (vi 0), vn, vn, vn]⟩, qw 12 5 25]
def Q9r : List (List Nat) := [[],[0],[1],[2],[3],[],[5],[6],[7],[4,8],[9],[10],[],[12],[11,13],[14],[],[16,15,0,1,2,3,4,5,6,7,8,9,10,11,12,13,14,15,16]]
def Q9k : List GO := [qm 26 0, qf 27 3 1, ql 28 27, ⟨none, .call (some 29) 82 [(.tmp 26), (.tmp 28)]⟩, qm 30 0, qf 31 3 2, ql 32 31, ⟨none, .call (some 33) 61 [(.tmp 30), (.tmp 32)]⟩, qm 6 29, qm 7 33]
def Q9q : List (List Nat) := [[],[],[1],[0,2],[],[],[5],[4,6,3],[3,7,0,1,2,3],[7,8,0,1,2,3,4,5,6,7,8]]
def Q9j : List GO := [qm 34 6, qL 35 34, qf 36 5 0, ql 37 36, qt 38 .eql 3 35 37, qm 39 38, qg 39 true (qm 40 7), qg 39 true (qL 41 40), qg 39 true (qf 42 5 1), qg 39 true (ql 43 42), qg 39 true (qL 44 43), qg 39 true (qt 45 .eql 3 41 44), ⟨none, .pick 46 (.tmp 39) (.tmp 45) (.const (.bool false))⟩, ⟨none, .call (some 47) 56 [(.tmp 46)]⟩]
def Q9i : List GO := [qm 48 4, qm 49 4, qn 50 49, qf 51 50 0, ql 52 51, qf 53 3 0, ql 54 53, qm 55 7, qm 56 6, ⟨none, .build 57 [(vi 0), (vi 0), (vi 0), vn, vn] [(0, (1, (.tmp 52))), (1, (1, (.tmp 54))), (3, (1, (.tmp 55))), (4, (1, (.tmp 56)))]⟩, qn 58 48, qw 5 58 57]
def Q9p : List (List Nat) := [[],[],[1],[2],[3],[],[5],[],[],[4,6,7,8],[0,0,1,2,3,4,5,6,7,8,9],[10,9,0,1,2,3,4,5,6,7,8,9]]
def ideal_Machine_to_lc : LC := (.seq (.ops Q9n) (.seq (.ops Q9m) (.seq (.draw Q9l Q9r) (.seq (.draw Q9k Q9q) (.seq (.ops Q9j) (.draw Q9i Q9p))))))
@[reducible] def Q4Z : FuncId := 68
theorem Q83 : lowF Try.prog Try.f68 = some ideal_Machine_to_lc := by kernel_rfl
theorem Q9o {a0 a1 : Value} {w : World} {R : Ending → World → Prop} (h : ideal_Machine_to_lc.wp Try.prog (retQ Try.prog [] R) (Qf [a0, a1]) w) : Calls Try.prog Q4Z ⟨[a0, a1]⟩ w R :=
  Q3 Try.func68 Q83 (by kernel_rfl) (by kernel_rfl) h

/- 69 -/
def Q8d : List GO := [qb 3 48 1]
def Q8c : List GO := [qm 8 0, qf 9 3 8, ql 10 9, ⟨none, .call (some 11) 61 [(.tmp 8), (.tmp 10)]⟩, qm 4 11]
def Q8b : List GO := [qm 12 4, qL 13 12, qm 14 0, qn 15 14, qf 16 15 1, qf 17 16 0, ql 18 17, qm 19 0, ⟨none, .call (some 20) 36 [(.tmp 19)]⟩, qn 21 20, qf 22 21 0, ql 23 22, qi 24 4 18 23, qf 25 24 2, ql 26 25, qL 27 26, qt 28 .eql 3 13 27, ⟨none, .call (some 29) 56 [(.tmp 28)]⟩]
def Q8f : List (List Nat) := [[],[0],[],[2],[3],[4],[5],[],[7],[8],[9],[10],[6,11],[12],[13],[14],[1,15],[16,8]]
def Q8a : List GO := [qm 30 0, qn 31 30, qf 32 31 2, ql 33 32, qL 34 33, qj 35 .gtr 3 34 1]
def Q89 : List GO := [qm 36 0, qm 37 0, qn 38 37, qf 39 38 2, ql 40 39, qm 41 0, qn 42 41, qf 43 42 2, ql 44 43, qL 45 44, qj 46 .sub 3 45 1, ⟨none, .sub 47 5 (.tmp 40) none (some (.tmp 46)) none⟩, qn 48 36, qf 49 48 2, qs 49 47]
def Q8e : List (List Nat) := [[],[],[1],[2],[3],[],[5],[6],[7],[8],[9],[4,10],[0,0,1,2,3,4,5,6,7,8,9,10,11],[12,0,1,2,3,4,5,6,7,8,9,10,11],[13,11,0,1,2,3,4,5,6,7,8,9,10,11]]
def Q88 : List GO := [qm 50 0, qm 51 4, ⟨none, .call (some 52) 51 [(.tmp 50), (.tmp 51)]⟩]
def Q87 : List GO := [qk 5 vn]
def Q86 : List GO := [qm 53 4, qL 54 53, qk 55 (vi 0)]
def Q85 : List GO := [qt 56 .lss 3 55 54]
def Q84 : List GO := [qi 57 4 53 55, qV 58 4 57, ⟨none, .alloc 7 108 [(vi 0), (vi 0), (vi 0), (vi 0)]⟩, qw 4 7 58]
def Q5Z : List GO := [qf 59 7 0, ql 60 59, qj 61 .eql 3 60 1, ⟨none, .call (some 62) 56 [(.tmp 61)]⟩]
def Q5Y : List GO := [qm 63 5, qf 64 7 3, ql 65 64, ⟨none, .buildS 66 2 1 [(vi 0)] [(0, (1, (.tmp 65)))]⟩, ⟨none, .raw ⟨(some 67), (.call ⟨(.builtin .append), #[(.tmp 63), (.tmp 66)], #[25, 25]⟩), 25, "", #[], none⟩⟩, qm 5 67]
def Q5X : List GO := [qj 68 .add 3 55 1, qm 55 68]
def Q3c : LC := (.seq (.ops Q85) (.seq (.cond (.tmp 56) .skip (.exit 0)) (.seq (.block 1 (.seq (.ops Q84) (.seq (.ops Q5Z) (.ops Q5Y)))) (.ops Q5X))))
def Q5W : List GO := [qm 69 0, qm 70 5, qn 71 69, qf 72 71 4, qf 73 72 1, qs 73 70]
def Q5V : List GO := [qm 74 0, qn 75 74, qf 76 75 9, ⟨none, .store1 (.tmp 76) (.const (.bool true))⟩]
def ideal_Machine_ret_lc : LC := (.seq (.ops Q8d) (.seq (.ops Q8c) (.seq (.draw Q8b Q8f) (.seq (.seq (.ops Q8a) (.cond (.tmp 35) (.seq (.draw Q89 Q8e) (.seq (.ops Q88) .ret)) .skip)) (.seq (.ops Q87) (.seq (.seq (.ops Q86) (.block 0 (.loop Q3c))) (.seq (.ops Q5W) (.ops Q5V))))))))
@[reducible] def Q1T : FuncId := 69
theorem Q60 : lowF Try.prog Try.f69 = some ideal_Machine_ret_lc := by kernel_rfl
theorem Q3b {a0 a1 : Value} {w : World} {R : Ending → World → Prop} (h : ideal_Machine_ret_lc.wp Try.prog (retQ Try.prog [] R) (Qf [a0, a1]) w) : Calls Try.prog Q1T ⟨[a0, a1]⟩ w R :=
  Q3 Try.func69 Q60 (by kernel_rfl) (by kernel_rfl) h

/- 70 -/
def Qhg : List GO := [qb 2 62 0, qk 4 (.bool false)]
def Qhf : List GO := [qm 7 1, qj 8 .lss 3 7 0]
def Qhe : List GO := [qk 4 (.bool false)]
def Qhd : List GO := [qf 9 2 2, ql 10 9, qL 11 10, qk 12 (vi 0)]
def Qhc : List GO := [qt 13 .lss 3 12 11]
def Qhb : List GO := [qi 14 3 10 12, qV 15 3 14, ⟨none, .alloc 6 62 [(vi 0), (vi 0), vn]⟩, qw 3 6 15]
def Qha : List GO := [qV 16 3 6, qm 17 1, qj 18 .sub 3 17 1, ⟨none, .call (some 19) 70 [(.tmp 16), (.tmp 18)]⟩, ⟨none, .un 20 .not (.tmp 19)⟩]
def Qh9 : List GO := [qk 4 (.bool false)]
def Qh8 : List GO := [qj 21 .add 3 12 1, qm 12 21]
def Q9M : LC := (.seq (.ops Qhc) (.seq (.cond (.tmp 13) .skip (.exit 0)) (.seq (.block 1 (.seq (.ops Qhb) (.seq (.ops Qha) (.cond (.tmp 20) (.seq (.ops Qh9) .ret) .skip)))) (.ops Qh8))))
def Qh7 : List GO := [qk 4 (.bool true)]
def types_deep_lc : LC := (.seq (.ops Qhg) (.seq (.seq (.ops Qhf) (.cond (.tmp 8) (.seq (.ops Qhe) .ret) .skip)) (.seq (.seq (.ops Qhd) (.block 0 (.loop Q9M))) (.seq (.ops Qh7) .ret))))
@[reducible] def Q3k : FuncId := 70
theorem Qg1 : lowF Try.prog Try.f70 = some types_deep_lc := by kernel_rfl
theorem Qhh {a0 a1 : Value} {w : World} {R : Ending → World → Prop} (h : types_deep_lc.wp Try.prog (retQ Try.prog [.tmp 4] R) (Qf [a0, a1]) w) : Calls Try.prog Q3k ⟨[a0, a1]⟩ w R :=
  Q3 Try.func70 Qg1 (by kernel_rfl) (by kernel_rfl) h

/- 71 -/
def QfZ : List GO := [qb 2 62 0, qk 4 (vi 0)]
def QfY : List GO := [qf 8 2 0, ql 9 8]
def QfX : List GO := [qj 11 .eql 3 9 1, qm 10 11]
def QfW : List GO := [qf 12 2 1, ql 13 12, qj 14 .neq 3 13 0, qm 15 14, qg 15 false (qf 16 2 2), qg 15 false (ql 17 16), qg 15 false (qL 18 17), qg 15 false (qj 19 .gtr 3 18 0), ⟨none, .pick 20 (.tmp 15) (.const (.bool true)) (.tmp 19)⟩]
def QfV : List GO := [qk 4 (vi 4)]
def QfU : List GO := [qk 4 (vi 0)]
def QfT : List GO := [qj 22 .eql 3 9 2, qm 21 22]
def QfS : List GO := [qj 23 .eql 3 9 4, qm 21 23]
def QfR : List GO := [qf 24 2 2, ql 25 24, qL 26 25, qj 27 .gtr 3 26 0]
def QfQ : List GO := [qk 4 (vi 4)]
def Qeo : List GO := [qj 29 .eql 3 9 3, qm 28 29]
def Qen : List GO := [qf 30 2 2, ql 31 30, qL 32 31, qj 33 .gtr 3 32 8]
def Qem : List GO := [qk 4 (vi 2)]
def Qel : List GO := [qk 4 (vi 3)]
def Qek : List GO := [qf 34 2 1, ql 35 34, qj 36 .lss 3 35 0, qm 37 36, qg 37 false (qf 38 2 1), qg 37 false (ql 39 38), qg 37 false (qm 40 1), qg 37 false (qt 41 .geq 3 39 40), ⟨none, .pick 42 (.tmp 37) (.const (.bool true)) (.tmp 41)⟩]
def Qej : List GO := [qk 4 (vi 1)]
def Qei : List GO := [qf 43 2 2, ql 44 43, qL 45 44, qk 46 (vi 0)]
def Qeh : List GO := [qt 47 .lss 3 46 45]
def Qeg : List GO := [qi 48 3 44 46, qV 49 3 48, ⟨none, .alloc 6 62 [(vi 0), (vi 0), vn]⟩, qw 3 6 49]
def Qef : List GO := [qV 50 3 6, qm 51 1, ⟨none, .call (some 52) 71 [(.tmp 50), (.tmp 51)]⟩, qm 7 52]
def Qee : List GO := [qm 53 7, qj 54 .neq 3 53 0]
def Qed : List GO := [qm 55 7, qm 4 55]
def Qec : List GO := [qj 56 .add 3 46 1, qm 46 56]
def Q5u : LC := (.seq (.ops Qeh) (.seq (.cond (.tmp 47) .skip (.exit 1)) (.seq (.block 2 (.seq (.ops Qeg) (.seq (.ops Qef) (.seq (.ops Qee) (.cond (.tmp 54) (.seq (.ops Qed) .ret) .skip))))) (.ops Qec))))
def Qeb : List GO := [qk 4 (vi 0)]
def types_wrong_lc : LC := (.seq (.ops QfZ) (.seq (.seq (.ops QfY) (.block 0 (.seq (.ops QfX) (.cond (.tmp 10) (.seq (.seq (.ops QfW) (.cond (.tmp 20) (.seq (.ops QfV) .ret) .skip)) (.seq (.ops QfU) .ret)) (.seq (.seq (.ops QfT) (.cond (.tmp 21) .skip (.ops QfS))) (.cond (.tmp 21) (.seq (.ops QfR) (.cond (.tmp 27) (.seq (.ops QfQ) .ret) .skip)) (.seq (.ops Qeo) (.cond (.tmp 28) (.seq (.ops Qen) (.cond (.tmp 33) (.seq (.ops Qem) .ret) .skip)) (.seq (.ops Qel) .ret))))))))) (.seq (.seq (.ops Qek) (.cond (.tmp 42) (.seq (.ops Qej) .ret) .skip)) (.seq (.seq (.ops Qei) (.block 1 (.loop Q5u))) (.seq (.ops Qeb) .ret)))))
@[reducible] def Qq : FuncId := 71
theorem Qep : lowF Try.prog Try.f71 = some types_wrong_lc := by kernel_rfl
theorem Qg0 {a0 a1 : Value} {w : World} {R : Ending → World → Prop} (h : types_wrong_lc.wp Try.prog (retQ Try.prog [.tmp 4] R) (Qf [a0, a1]) w) : Calls Try.prog Qq ⟨[a0, a1]⟩ w R :=
  Q3 Try.func71 Qep (by kernel_rfl) (by kernel_rfl) h

/- 72 -/
def Qkw : List GO := [qk 2 (.string ⟨#[]⟩)]
def Qkv : List GO := [qm 3 0, qj 4 .lss 3 3 1, qm 5 4, qg 5 false (qm 6 0), qg 5 false (qj 7 .gtr 3 6 14), ⟨none, .pick 8 (.tmp 5) (.const (.bool true)) (.tmp 7)⟩]
def Qku : List GO := [qk 2 (.string ⟨#[]⟩)]
def Qkt : List GO := [⟨none, .build 9 [(.string ⟨#[]⟩), (.string ⟨#[]⟩), (.string ⟨#[]⟩), (.string ⟨#[]⟩), (.string ⟨#[]⟩), (.string ⟨#[]⟩), (.string ⟨#[]⟩), (.string ⟨#[]⟩), (.string ⟨#[]⟩), (.string ⟨#[]⟩), (.string ⟨#[]⟩), (.string ⟨#[]⟩), (.string ⟨#[]⟩), (.string ⟨#[]⟩), (.string ⟨#[]⟩)] [(0, (1, (.const (.string ⟨#[]⟩)))), (1, (1, (.const (.string ⟨#[110]⟩)))), (2, (1, (.const (.string ⟨#[97, 98, 107]⟩)))), (3, (1, (.const (.string ⟨#[]⟩)))), (4, (1, (.const (.string ⟨#[97]⟩)))), (5, (1, (.const (.string ⟨#[97, 114]⟩)))), (6, (1, (.const (.string ⟨#[97, 107]⟩)))), (7, (1, (.const (.string ⟨#[97, 98, 107]⟩)))), (8, (1, (.const (.string ⟨#[97, 98]⟩)))), (9, (1, (.const (.string ⟨#[97, 98]⟩)))), (10, (1, (.const (.string ⟨#[97, 98, 99]⟩)))), (11, (1, (.const (.string ⟨#[97]⟩)))), (12, (1, (.const (.string ⟨#[]⟩)))), (13, (1, (.const (.string ⟨#[97]⟩)))), (14, (1, (.const (.string ⟨#[107, 103, 114]⟩))))]⟩, qm 10 0, ⟨none, .raw ⟨(some 11), (.index 146 (.tmp 9) (.tmp 10)), 9, "", #[], none⟩⟩, qm 2 11]
def code_has_lc : LC := (.seq (.ops Qkw) (.seq (.seq (.ops Qkv) (.cond (.tmp 8) (.seq (.ops Qku) .ret) .skip)) (.seq (.ops Qkt) .ret)))
@[reducible] def Qlw : FuncId := 72
theorem Qji : lowF Try.prog Try.f72 = some code_has_lc := by kernel_rfl
theorem Qfa {a0 : Value} {w : World} {R : Ending → World → Prop} (h : code_has_lc.wp Try.prog (retQ Try.prog [.tmp 2] R) (Qf [a0]) w) : Calls Try.prog Qlw ⟨[a0]⟩ w R :=
  Q3 Try.func72 Qji (by kernel_rfl) (by kernel_rfl) h

/- 73 -/
def Qjf : List GO := [qk 4 (.bool false)]
def Qje : List GO := [qm 5 0, ⟨none, .raw ⟨(some 6), (.convert 9 148 (.tmp 5)), 148, "", #[], none⟩⟩, qm 7 1, ⟨none, .call (some 8) 83 [(.tmp 6), (.tmp 7)]⟩, qm 4 8]
def code_with_lc : LC := (.seq (.ops Qjf) (.seq (.ops Qje) .ret))
@[reducible] def Qjh : FuncId := 73
theorem QhR : lowF Try.prog Try.f73 = some code_with_lc := by kernel_rfl
theorem Qjg {a0 a1 : Value} {w : World} {R : Ending → World → Prop} (h : code_with_lc.wp Try.prog (retQ Try.prog [.tmp 4] R) (Qf [a0, a1]) w) : Calls Try.prog Qjh ⟨[a0, a1]⟩ w R :=
  Q3 Try.func73 QhR (by kernel_rfl) (by kernel_rfl) h

/- 74 -/
def Qdt : List GO := [qb 5 53 1, qb 6 46 2]
def Qds : List GO := [qm 8 3, ⟨none, .un 9 .not (.tmp 8)⟩]
def Qdr : List GO := [qm 10 0, qf 11 6 0, ql 12 11, qj 13 .neq 3 12 0, qm 14 13, qg 14 false (qf 15 6 1), qg 14 false (ql 16 15), qg 14 false (qL 17 16), qg 14 false (qj 18 .gtr 3 17 0), ⟨none, .pick 19 (.tmp 14) (.const (.bool true)) (.tmp 18)⟩, qm 20 19, qg 20 false (qf 21 6 2), qg 20 false (ql 22 21), qg 20 false (qL 23 22), qg 20 false (qj 24 .gtr 3 23 0), ⟨none, .pick 25 (.tmp 20) (.const (.bool true)) (.tmp 24)⟩, ⟨none, .call (some 26) 27 [(.tmp 10), (.tmp 25), (.const (vi 4))]⟩]
def Qdq : List GO := [qm 27 0, qf 28 6 0, ql 29 28, qj 30 .lss 3 29 0, qm 31 30, qg 31 false (qf 32 6 0), qg 31 false (ql 33 32), qg 31 false (qf 34 5 3), qg 31 false (ql 35 34), qg 31 false (qL 36 35), qg 31 false (qt 37 .geq 3 33 36), ⟨none, .pick 38 (.tmp 31) (.const (.bool true)) (.tmp 37)⟩, ⟨none, .call (some 39) 27 [(.tmp 27), (.tmp 38), (.const (vi 1))]⟩]
def Qdp : List GO := [qm 40 0, qf 41 6 1, ql 42 41, qL 43 42, qj 44 .gtr 3 43 16, qm 45 44, qg 45 false (qf 46 6 2), qg 45 false (ql 47 46), qg 45 false (qL 48 47), qg 45 false (qj 49 .gtr 3 48 8), ⟨none, .pick 50 (.tmp 45) (.const (.bool true)) (.tmp 49)⟩, ⟨none, .call (some 51) 27 [(.tmp 40), (.tmp 50), (.const (vi 2))]⟩]
def code_judge_to_lc : LC := (.seq (.ops Qdt) (.seq (.seq (.ops Qds) (.cond (.tmp 9) (.seq (.ops Qdr) .ret) .skip)) (.seq (.ops Qdq) (.ops Qdp))))
@[reducible] def Qan : FuncId := 74
theorem QbC : lowF Try.prog Try.f74 = some code_judge_to_lc := by kernel_rfl
theorem Q52 {a0 a1 a2 a3 : Value} {w : World} {R : Ending → World → Prop} (h : code_judge_to_lc.wp Try.prog (retQ Try.prog [] R) (Qf [a0, a1, a2, a3]) w) : Calls Try.prog Qan ⟨[a0, a1, a2, a3]⟩ w R :=
  Q3 Try.func74 QbC (by kernel_rfl) (by kernel_rfl) h

/- 75 -/
def Qfu : List GO := [qk 4 (vi 0), qk 5 (.bool false)]
def Qft : List GO := [qm 6 1]
def Qfs : List GO := [qj 8 .eql 2 6 0, qm 7 8]
def Qfr : List GO := [qk 4 (vi 0), qk 5 (.bool false)]
def Qfq : List GO := [qj 10 .eql 2 6 (-1), qm 9 10]
def Qfp : List GO := [qm 11 0, ⟨none, .un 12 .neg (.tmp 11)⟩, qm 4 12, qk 5 (.bool true)]
def Qfo : List GO := [qm 13 0, qm 14 1, qt 15 .quo 2 13 14, qm 4 15, qk 5 (.bool true)]
def arith_divide_lc : LC := (.seq (.ops Qfu) (.seq (.seq (.ops Qft) (.block 0 (.seq (.ops Qfs) (.cond (.tmp 7) (.seq (.ops Qfr) .ret) (.seq (.ops Qfq) (.cond (.tmp 9) (.seq (.ops Qfp) .ret) .skip)))))) (.seq (.ops Qfo) .ret)))
@[reducible] def Q2o : FuncId := 75
theorem Qdw : lowF Try.prog Try.f75 = some arith_divide_lc := by kernel_rfl
theorem Qfv {a0 a1 : Value} {w : World} {R : Ending → World → Prop} (h : arith_divide_lc.wp Try.prog (retQ Try.prog [.tmp 4, .tmp 5] R) (Qf [a0, a1]) w) : Calls Try.prog Q2o ⟨[a0, a1]⟩ w R :=
  Q3 Try.func75 Qdw (by kernel_rfl) (by kernel_rfl) h

/- 76 -/
def Qgw : List GO := [qk 2 (vi 0)]
def Qgv : List GO := [qm 3 0]
def Qgu : List GO := [qk 2 (vi 1)]
def Qgt : List GO := [qk 2 (vi 0)]
def arith_truth_lc : LC := (.seq (.ops Qgw) (.seq (.seq (.ops Qgv) (.cond (.tmp 3) (.seq (.ops Qgu) .ret) .skip)) (.seq (.ops Qgt) .ret)))
@[reducible] def Q4Y : FuncId := 76
theorem Qfn : lowF Try.prog Try.f76 = some arith_truth_lc := by kernel_rfl
theorem Qgx {a0 : Value} {w : World} {R : Ending → World → Prop} (h : arith_truth_lc.wp Try.prog (retQ Try.prog [.tmp 2] R) (Qf [a0]) w) : Calls Try.prog Q4Y ⟨[a0]⟩ w R :=
  Q3 Try.func76 Qfn (by kernel_rfl) (by kernel_rfl) h

/- 77 -/
def QcP : List GO := [qk 4 (.bool false)]
def QcO : List GO := [qm 5 1, qj 6 .geq 3 5 0, qm 7 6, qg 7 true (qm 8 1), qg 7 true (qm 9 0), qg 7 true (qn 10 9), qg 7 true (qf 11 10 0), qg 7 true (ql 12 11), qg 7 true (qL 13 12), qg 7 true (qt 14 .lss 3 8 13), ⟨none, .pick 15 (.tmp 7) (.tmp 14) (.const (.bool false))⟩, qm 16 15, qg 16 true (qm 17 0), qg 16 true (qn 18 17), qg 16 true (qf 19 18 0), qg 16 true (ql 20 19), qg 16 true (qm 21 1), qg 16 true (qi 22 4 20 21), qg 16 true (qf 23 22 0), qg 16 true (ql 24 23), ⟨none, .pick 25 (.tmp 16) (.tmp 24) (.const (.bool false))⟩, qm 4 25]
def heap_Heap_has_lc : LC := (.seq (.ops QcP) (.seq (.ops QcO) .ret))
@[reducible] def Qa1 : FuncId := 77
theorem Qbf : lowF Try.prog Try.f77 = some heap_Heap_has_lc := by kernel_rfl
theorem Q50 {a0 a1 : Value} {w : World} {R : Ending → World → Prop} (h : heap_Heap_has_lc.wp Try.prog (retQ Try.prog [.tmp 4] R) (Qf [a0, a1]) w) : Calls Try.prog Qa1 ⟨[a0, a1]⟩ w R :=
  Q3 Try.func77 Qbf (by kernel_rfl) (by kernel_rfl) h

/- 78 -/
def QcK : List GO := [qb 6 108 1, qb 9 142 4, ⟨none, .alloc 10 108 [(vi 0), (vi 0), (vi 0), (vi 0)]⟩, qk 11 (vi 0)]
def QcJ : List GO := [qf 14 6 0, ql 15 14, qj 16 .neq 3 15 2, qm 17 16, qg 17 false (qm 18 0), qg 17 false (qf 19 6 1), qg 17 false (ql 20 19), ⟨some (17, false), .call (some 21) 77 [(.tmp 18), (.tmp 20)]⟩, ⟨some (17, false), .un 22 .not (.tmp 21)⟩, ⟨none, .pick 23 (.tmp 17) (.const (.bool true)) (.tmp 22)⟩]
def QcI : List GO := [⟨none, .build 24 [(vi 0), (vi 0), (vi 0), (vi 0)] []⟩, qw 4 10 24, qk 11 (vi 20)]
def QcH : List GO := [qm 25 0, qn 26 25, qf 27 26 0, ql 28 27, qf 29 6 1, ql 30 29, qi 31 4 28 30, qm 12 31]
def QcN : List (List Nat) := [[],[0],[1],[2],[],[4],[3,5],[6,0,1,2,3,4,5,6]]
def QcG : List GO := [qm 32 0, qm 33 12, qm 34 3, ⟨none, .call (some 35) 84 [(.tmp 32), (.tmp 33), (.tmp 34)]⟩, qm 13 35]
def QcF : List GO := [qm 36 13, qj 37 .neq 3 36 0]
def QcE : List GO := [⟨none, .build 38 [(vi 0), (vi 0), (vi 0), (vi 0)] []⟩, qm 39 13, qw 4 10 38, qm 11 39]
def QcD : List GO := [qm 40 12, qm 41 12, qn 42 41, qf 43 42 1, ql 44 43, qV 45 2 9, ⟨none, .buildS 46 142 1 [(.bool false), vn] [(0, (2, (.tmp 45)))]⟩, ⟨none, .raw ⟨(some 47), (.call ⟨(.builtin .append), #[(.tmp 44), (.tmp 46)], #[134, 134]⟩), 134, "", #[], none⟩⟩, qn 48 40, qf 49 48 1, qs 49 47]
def QcM : List (List Nat) := [[],[],[1],[2],[3],[],[5],[4,6],[0,0,1,2,3,4,5,6,7],[8,0,1,2,3,4,5,6,7],[9,7,7,0,1,2,3,4,5,6,7]]
def QcC : List GO := [qm 50 2, qf 51 6 1, ql 52 51, qm 53 12, qn 54 53, qf 55 54 1, ql 56 55, qL 57 56, qj 58 .sub 3 57 1, ⟨none, .build 59 [(vi 0), (vi 0), (vi 0), (vi 0)] [(0, (1, (.tmp 50))), (1, (1, (.tmp 52))), (2, (1, (.tmp 58)))]⟩, qw 4 10 59, qk 11 (vi 0)]
def QcL : List (List Nat) := [[],[],[1],[],[3],[4],[5],[6],[7],[0,2,8],[9,0,1,2,3,4,5,6,7,8,9],[10,0,1,2,3,4,5,6,7,8,9,10]]
def heap_Heap_put_lc : LC := (.seq (.ops QcK) (.seq (.seq (.ops QcJ) (.cond (.tmp 23) (.seq (.ops QcI) .ret) .skip)) (.seq (.draw QcH QcN) (.seq (.seq (.ops QcG) (.seq (.ops QcF) (.cond (.tmp 37) (.seq (.ops QcE) .ret) .skip))) (.seq (.draw QcD QcM) (.seq (.draw QcC QcL) .ret))))))
@[reducible] def Q3i : FuncId := 78
theorem Qbe : lowF Try.prog Try.f78 = some heap_Heap_put_lc := by kernel_rfl
theorem Q37 {a0 a1 a2 a3 a4 : Value} {w : World} {R : Ending → World → Prop} (h : heap_Heap_put_lc.wp Try.prog (retQ Try.prog [.cell 10 108, .tmp 11] R) (Qf [a0, a1, a2, a3, a4]) w) : Calls Try.prog Q3i ⟨[a0, a1, a2, a3, a4]⟩ w R :=
  Q3 Try.func78 Qbe (by kernel_rfl) (by kernel_rfl) h

/- 79 -/
def Q2v : List GO := [qk 2 vn]
def Q2u : List GO := [qm 3 0, ⟨none, .bin 4 .eql 68 (.tmp 3) (.const vn)⟩]
def Q2t : List GO := [qk 2 vn]
def Q2s : List GO := [⟨none, .raw ⟨(some 5), (.buildSlice 68 0 #[]), 68, "", #[], none⟩⟩, qm 6 0, ⟨none, .raw ⟨(some 7), (.call ⟨(.builtin .append), #[(.tmp 5), (.tmp 6)], #[68, 68]⟩), 68, "", #[], none⟩⟩, qm 2 7]
def slices_Clone_heap_Val_heap_Val_lc : LC := (.seq (.ops Q2v) (.seq (.seq (.ops Q2u) (.cond (.tmp 4) (.seq (.ops Q2t) .ret) .skip)) (.seq (.ops Q2s) .ret)))
@[reducible] def Q1u : FuncId := 79
theorem Q2q : lowF Try.prog Try.f79 = some slices_Clone_heap_Val_heap_Val_lc := by kernel_rfl
theorem Q1m {a0 : Value} {w : World} {R : Ending → World → Prop} (h : slices_Clone_heap_Val_heap_Val_lc.wp Try.prog (retQ Try.prog [.tmp 2] R) (Qf [a0]) w) : Calls Try.prog Q1u ⟨[a0]⟩ w R :=
  Q3 Try.func79 Q2q (by kernel_rfl) (by kernel_rfl) h

/- 80 -/
def QeR : List GO := [qb 3 108 1, qk 4 (.pointer none)]
def QeQ : List GO := [qf 6 3 0, ql 7 6, qj 8 .neq 3 7 3, qm 9 8, qg 9 true (qf 10 3 0), qg 9 true (ql 11 10), qg 9 true (qj 12 .neq 3 11 4), ⟨none, .pick 13 (.tmp 9) (.tmp 12) (.const (.bool false))⟩, qm 14 13, qg 14 false (qm 15 0), qg 14 false (qf 16 3 1), qg 14 false (ql 17 16), ⟨some (14, false), .call (some 18) 77 [(.tmp 15), (.tmp 17)]⟩, ⟨some (14, false), .un 19 .not (.tmp 18)⟩, ⟨none, .pick 20 (.tmp 14) (.const (.bool true)) (.tmp 19)⟩, qm 21 20, qg 21 false (qf 22 3 2), qg 21 false (ql 23 22), qg 21 false (qj 24 .lss 3 23 0), ⟨none, .pick 25 (.tmp 21) (.const (.bool true)) (.tmp 24)⟩, qm 26 25, qg 26 false (qf 27 3 2), qg 26 false (ql 28 27), qg 26 false (qm 29 0), qg 26 false (qn 30 29), qg 26 false (qf 31 30 0), qg 26 false (ql 32 31), qg 26 false (qf 33 3 1), qg 26 false (ql 34 33), qg 26 false (qi 35 4 32 34), qg 26 false (qf 36 35 1), qg 26 false (ql 37 36), qg 26 false (qL 38 37), qg 26 false (qt 39 .geq 3 28 38), ⟨none, .pick 40 (.tmp 26) (.const (.bool true)) (.tmp 39)⟩]
def QeU : List (List Nat) := [[],[0],[1],[2],[3],[4,3],[5,3],[3,6],[7,3],[8],[8],[10,8],[9,11,8,8],[12,8],[8,13],[14,12],[15],[16,15],[17,15],[15,18],[19,15],[20],[21,20],[20],[23,20],[24,20],[25,20],[20],[27,20],[26,28,20],[29,20],[30,20],[31,20],[22,32,20],[20,33]]
def QeP : List GO := [qk 4 (.pointer none)]
def QeO : List GO := [qm 41 0, qn 42 41, qf 43 42 0, ql 44 43, qf 45 3 1, ql 46 45, qi 47 4 44 46, qf 48 47 1, ql 49 48, qf 50 3 2, ql 51 50, qi 52 2 49 51, qm 5 52]
def QeT : List (List Nat) := [[],[0],[1],[2],[],[4],[3,5],[6],[7],[],[9],[8,10],[11,0,1,2,3,4,5,6,7,8,9,10,11]]
def QeN : List GO := [qm 53 5, qn 54 53, qf 55 54 0, ql 56 55, qf 57 3 0, ql 58 57, qj 59 .eql 3 58 4, qt 60 .neq 4 56 59]
def QeS : List (List Nat) := [[],[0],[1],[2],[],[4],[5],[3,6]]
def QeM : List GO := [qk 4 (.pointer none)]
def QeL : List GO := [qm 61 5, qm 4 61]
def heap_Heap_at_lc : LC := (.seq (.ops QeR) (.seq (.seq (.draw QeQ QeU) (.cond (.tmp 40) (.seq (.ops QeP) .ret) .skip)) (.seq (.draw QeO QeT) (.seq (.seq (.draw QeN QeS) (.cond (.tmp 60) (.seq (.ops QeM) .ret) .skip)) (.seq (.ops QeL) .ret)))))
@[reducible] def Q2m : FuncId := 80
theorem QcQ : lowF Try.prog Try.f80 = some heap_Heap_at_lc := by kernel_rfl
theorem Q2G {a0 a1 : Value} {w : World} {R : Ending → World → Prop} (h : heap_Heap_at_lc.wp Try.prog (retQ Try.prog [.tmp 4] R) (Qf [a0, a1]) w) : Calls Try.prog Q2m ⟨[a0, a1]⟩ w R :=
  Q3 Try.func80 QcQ (by kernel_rfl) (by kernel_rfl) h

/- 81 -/
def Qag : List GO := [qb 4 108 1, ⟨none, .alloc 6 108 [(vi 0), (vi 0), (vi 0), (vi 0)]⟩, qk 7 (vi 0)]
def Qaf : List GO := [qm 9 2, qj 10 .lss 3 9 0, qm 11 10, qg 11 false (qm 12 2), qg 11 false (qj 13 .gtr 3 12 15), ⟨none, .pick 14 (.tmp 11) (.const (.bool true)) (.tmp 13)⟩]
def Qae : List GO := [⟨none, .build 15 [(vi 0), (vi 0), (vi 0), (vi 0)] []⟩, qw 4 6 15, qk 7 (vi 1)]
def Qad : List GO := [⟨none, .build 16 [(.bool false), vn] [(0, (1, (.const (.bool true))))]⟩, ⟨none, .alloc 8 142 [(.bool false), vn]⟩, qw 2 8 16]
def Qac : List GO := [qm 17 2, qk 18 (vi 0)]
def Qab : List GO := [qt 19 .lss 3 18 17]
def Qaa : List GO := [qf 20 8 1, ql 21 20, ⟨none, .build 22 [(vi 0), (vi 0), (vi 0), (vi 0)] [(0, (1, (.const (vi 1))))]⟩, ⟨none, .buildS 23 108 1 [(vi 0), (vi 0), (vi 0), (vi 0)] [(0, (4, (.tmp 22)))]⟩, ⟨none, .raw ⟨(some 24), (.call ⟨(.builtin .append), #[(.tmp 21), (.tmp 23)], #[68, 68]⟩), 68, "", #[], none⟩⟩, qf 25 8 1, qs 25 24]
def Qa9 : List GO := [qj 26 .add 3 18 1, qm 18 26]
def Q3S : LC := (.seq (.ops Qab) (.seq (.cond (.tmp 19) .skip (.exit 0)) (.seq (.block 1 (.ops Qaa)) (.ops Qa9))))
def Qa8 : List GO := [qm 27 0, qV 28 4 4, qm 29 2, ⟨none, .bin 30 .add 3 (.const (vi 1)) (.tmp 29)⟩, qV 31 2 8, ⟨none, .call (some 32) 78 [(.tmp 27), (.tmp 28), (.const (vi 4)), (.tmp 30), (.tmp 31)]⟩, qx 33 32 0, qx 34 32 1, qw 4 6 33, qm 7 34]
def heap_Heap_Array_lc : LC := (.seq (.ops Qag) (.seq (.seq (.ops Qaf) (.cond (.tmp 14) (.seq (.ops Qae) .ret) .skip)) (.seq (.ops Qad) (.seq (.seq (.ops Qac) (.block 0 (.loop Q3S))) (.seq (.ops Qa8) .ret)))))
@[reducible] def Q7z : FuncId := 81
theorem Q9u : lowF Try.prog Try.f81 = some heap_Heap_Array_lc := by kernel_rfl
theorem Q3R {a0 a1 a2 : Value} {w : World} {R : Ending → World → Prop} (h : heap_Heap_Array_lc.wp Try.prog (retQ Try.prog [.cell 6 108, .tmp 7] R) (Qf [a0, a1, a2]) w) : Calls Try.prog Q7z ⟨[a0, a1, a2]⟩ w R :=
  Q3 Try.func81 Q9u (by kernel_rfl) (by kernel_rfl) h

/- 82 -/
def Q6a : List GO := [qk 4 vn]
def Q69 : List GO := [qk 5 vn]
def Q68 : List GO := [qm 9 1, qL 10 9, qk 11 (vi 0)]
def Q67 : List GO := [qt 12 .lss 3 11 10]
def Q66 : List GO := [qi 13 1 9 11, ql 14 13, qm 7 14]
def Q65 : List GO := [qm 15 0, ⟨none, .call (some 16) 36 [(.tmp 15)]⟩, qm 8 16]
def Q64 : List GO := [qm 17 7, qj 18 .geq 3 17 0, qm 19 18, qg 19 true (qm 20 7), qg 19 true (qm 21 8), qg 19 true (qn 22 21), qg 19 true (qf 23 22 4), qg 19 true (ql 24 23), qg 19 true (qL 25 24), qg 19 true (qt 26 .lss 3 20 25), ⟨none, .pick 27 (.tmp 19) (.tmp 26) (.const (.bool false))⟩, ⟨none, .call (some 28) 56 [(.tmp 27)]⟩]
def Q63 : List GO := [qm 29 5, qm 30 8, qn 31 30, qf 32 31 4, ql 33 32, qm 34 7, qi 35 1 33 34, ql 36 35, ⟨none, .buildS 37 3 1 [(vi 0)] [(0, (1, (.tmp 36)))]⟩, ⟨none, .raw ⟨(some 38), (.call ⟨(.builtin .append), #[(.tmp 29), (.tmp 37)], #[40, 40]⟩), 40, "", #[], none⟩⟩, qm 5 38]
def Q62 : List GO := [qj 39 .add 3 11 1, qm 11 39]
def Q2Z : LC := (.seq (.ops Q67) (.seq (.cond (.tmp 12) .skip (.exit 0)) (.seq (.block 1 (.seq (.ops Q66) (.seq (.ops Q65) (.seq (.ops Q64) (.ops Q63))))) (.ops Q62))))
def Q61 : List GO := [qm 40 5, qm 4 40]
def ideal_Machine_regs_lc : LC := (.seq (.ops Q6a) (.seq (.ops Q69) (.seq (.seq (.ops Q68) (.block 0 (.loop Q2Z))) (.seq (.ops Q61) .ret))))
@[reducible] def Q3M : FuncId := 82
theorem Q58 : lowF Try.prog Try.f82 = some ideal_Machine_regs_lc := by kernel_rfl
theorem Q6b {a0 a1 : Value} {w : World} {R : Ending → World → Prop} (h : ideal_Machine_regs_lc.wp Try.prog (retQ Try.prog [.tmp 4] R) (Qf [a0, a1]) w) : Calls Try.prog Q3M ⟨[a0, a1]⟩ w R :=
  Q3 Try.func82 Q58 (by kernel_rfl) (by kernel_rfl) h

/- 83 -/
def Q3f : List GO := [qk 4 (.bool false)]
def Q3e : List GO := [qm 5 0, qm 6 1, ⟨none, .call (some 7) 85 [(.tmp 5), (.tmp 6)]⟩, qj 8 .geq 3 7 0, qm 4 8]
def slices_Contains_byte_byte_lc : LC := (.seq (.ops Q3f) (.seq (.ops Q3e) .ret))
@[reducible] def Q2b : FuncId := 83
theorem Q33 : lowF Try.prog Try.f83 = some slices_Contains_byte_byte_lc := by kernel_rfl
theorem Q3g {a0 a1 : Value} {w : World} {R : Ending → World → Prop} (h : slices_Contains_byte_byte_lc.wp Try.prog (retQ Try.prog [.tmp 4] R) (Qf [a0, a1]) w) : Calls Try.prog Q2b ⟨[a0, a1]⟩ w R :=
  Q3 Try.func83 Q33 (by kernel_rfl) (by kernel_rfl) h

/- 84 -/
def Qbd : List GO := [qk 6 (vi 0)]
def Qbc : List GO := [qm 7 1, qn 8 7, qf 9 8 2, ql 10 9, qj 11 .eql 3 10 0, qm 12 11, qg 12 false (qm 13 1), qg 12 false (qn 14 13), qg 12 false (qf 15 14 3), qg 12 false (ql 16 15), qg 12 false (qm 17 2), qg 12 false (qt 18 .add 3 16 17), qg 12 false (qj 19 .gtr 3 18 16), ⟨none, .pick 20 (.tmp 12) (.const (.bool true)) (.tmp 19)⟩]
def Qbb : List GO := [qm 21 0, qn 22 21, qf 23 22 1, ql 24 23, qj 25 .eql 3 24 0]
def Qba : List GO := [qk 6 (vi 14)]
def Qb9 : List GO := [qm 26 0, qn 27 26, qf 28 27 1, ql 29 28, qj 30 .sub 3 29 1, qn 31 26, qf 32 31 1, qs 32 30]
def Qb8 : List GO := [qm 33 1, qn 34 33, qf 35 34 2, ql 36 35, qj 37 .add 3 36 1, qn 38 33, qf 39 38 2, qs 39 37]
def Qb7 : List GO := [qm 40 1, qn 41 40, qf 42 41 3, ⟨none, .store1 (.tmp 42) (.const (vi 0))⟩]
def Qb6 : List GO := [qm 43 1, qn 44 43, qf 45 44 3, ql 46 45, qm 47 2, qt 48 .add 3 46 47, qn 49 43, qf 50 49 3, qs 50 48]
def Qb5 : List GO := [qk 6 (vi 0)]
def heap_Heap_room_lc : LC := (.seq (.ops Qbd) (.seq (.seq (.ops Qbc) (.cond (.tmp 20) (.seq (.seq (.ops Qbb) (.cond (.tmp 25) (.seq (.ops Qba) .ret) .skip)) (.seq (.ops Qb9) (.seq (.ops Qb8) (.ops Qb7)))) .skip)) (.seq (.ops Qb6) (.seq (.ops Qb5) .ret))))
@[reducible] def Q96 : FuncId := 84
theorem Qa0 : lowF Try.prog Try.f84 = some heap_Heap_room_lc := by kernel_rfl
theorem Q2N {a0 a1 a2 : Value} {w : World} {R : Ending → World → Prop} (h : heap_Heap_room_lc.wp Try.prog (retQ Try.prog [.tmp 6] R) (Qf [a0, a1, a2]) w) : Calls Try.prog Q96 ⟨[a0, a1, a2]⟩ w R :=
  Q3 Try.func84 Qa0 (by kernel_rfl) (by kernel_rfl) h

/- 85 -/
def Q45 : List GO := [qk 4 (vi 0)]
def Q44 : List GO := [qm 6 0, qL 7 6, qk 8 (vi 0)]
def Q43 : List GO := [qt 9 .lss 3 8 7]
def Q42 : List GO := [qm 10 8, qm 5 10]
def Q41 : List GO := [qm 11 1, qm 12 0, qm 13 5, qi 14 1 12 13, ql 15 14, qt 16 .eql 5 11 15]
def Q40 : List GO := [qm 17 5, qm 4 17]
def Q3Z : List GO := [qj 18 .add 3 8 1, qm 8 18]
def Q2a : LC := (.seq (.ops Q43) (.seq (.cond (.tmp 9) .skip (.exit 0)) (.seq (.block 1 (.seq (.ops Q42) (.seq (.ops Q41) (.cond (.tmp 16) (.seq (.ops Q40) .ret) .skip)))) (.ops Q3Z))))
def Q3Y : List GO := [qk 4 (vi (-1))]
def slices_Index_byte_byte_lc : LC := (.seq (.ops Q45) (.seq (.seq (.ops Q44) (.block 0 (.loop Q2a))) (.seq (.ops Q3Y) .ret)))
@[reducible] def Q1k : FuncId := 85
theorem Q3F : lowF Try.prog Try.f85 = some slices_Index_byte_byte_lc := by kernel_rfl
theorem Q46 {a0 a1 : Value} {w : World} {R : Ending → World → Prop} (h : slices_Index_byte_byte_lc.wp Try.prog (retQ Try.prog [.tmp 4] R) (Qf [a0, a1]) w) : Calls Try.prog Q1k ⟨[a0, a1]⟩ w R :=
  Q3 Try.func85 Q3F (by kernel_rfl) (by kernel_rfl) h

end Go.Proofs.Yteflkifmgnpbhaa
namespace Go.Proofs.Yteflkifmgnpbhaa
open Go.Lir
set_option maxRecDepth 100000
theorem el_T22 : Q2n Try.prog 22 = some (53, 4, 80, [(.int .i64 0), (.slice none 0 0), (.slice none 0 0), (.slice none 0 0)]) := by kernel_rfl
theorem u_T22 : ∃ e2, Try.prog.underlying 22 = some (.slice e2) := ⟨53, by kernel_rfl⟩
theorem QgX : Q2n Try.prog 25 = some (2, 1, 8, [(.int .i64 0)]) := by kernel_rfl
theorem Qma : ∃ e2, Try.prog.underlying 25 = some (.slice e2) := ⟨2, by kernel_rfl⟩
theorem Qcv : Q2n Try.prog 40 = some (3, 1, 8, [(.int .i64 0)]) := by kernel_rfl
theorem Qk0 : ∃ e2, Try.prog.underlying 40 = some (.slice e2) := ⟨3, by kernel_rfl⟩
theorem el_T43 : Q2n Try.prog 43 = some (42, 8, 96, [(.int .i64 0), (.int .i64 0), (.int .i64 0), (.int .i64 0), (.int .i64 0), (.int .i64 0), (.slice none 0 0), (.slice none 0 0)]) := by kernel_rfl
theorem u_T43 : ∃ e2, Try.prog.underlying 43 = some (.slice e2) := ⟨42, by kernel_rfl⟩
theorem el_T44 : Q2n Try.prog 44 = some (62, 3, 40, [(.int .i64 0), (.int .i64 0), (.slice none 0 0)]) := by kernel_rfl
theorem u_T44 : ∃ e2, Try.prog.underlying 44 = some (.slice e2) := ⟨62, by kernel_rfl⟩
theorem el_T51 : Q2n Try.prog 51 = some (50, 12, 208, [(.int .i64 0), (.slice none 0 0), (.slice none 0 0), (.int .i64 0), (.int .i64 0), (.int .i64 0), (.slice none 0 0), (.slice none 0 0), (.int .i64 0), (.slice none 0 0), (.slice none 0 0), (.slice none 0 0)]) := by kernel_rfl
theorem u_T51 : ∃ e2, Try.prog.underlying 51 = some (.slice e2) := ⟨50, by kernel_rfl⟩
theorem el_T71 : Q2n Try.prog 71 = some (70, 5, 72, [(.int .i64 0), (.int .i64 0), (.int .i64 0), (.slice none 0 0), (.slice none 0 0)]) := by kernel_rfl
theorem u_T71 : ∃ e2, Try.prog.underlying 71 = some (.slice e2) := ⟨70, by kernel_rfl⟩
end Go.Proofs.Yteflkifmgnpbhaa
namespace Go.Proofs.Yteflkifmgnpbhaa
open Go.Lir
set_option maxHeartbeats 1000000
attribute [local irreducible] LC.wp Q2 Qy QD retQ Q1n LO.wp Ql Calls
set_option linter.unusedSimpArgs false
set_option linter.unusedVariables false
/-! ### in memory -/
structure HT where
  Tv : TypeId
  Tt : TypeId
  Tr : TypeId
  Th : TypeId
structure ThgV where
  array : Bool
  lv : Value
  l : List Val
def ThgV.abs (t : ThgV) : Thg := ⟨t.array, t.l⟩
def ThgV.cells (t : ThgV) : List Value := [.bool t.array, t.lv]
def ThgV.res (H : HT) (t : ThgV) : Res := sl H.Tv 4 t.lv (t.l.map Val.cells)
structure RgnV where
  there : Bool
  lv : Value
  l : List ThgV
  pages : Int
  used : Int
def RgnV.abs (r : RgnV) : Rgn := ⟨r.there, r.l.map ThgV.abs, r.pages, r.used⟩
def RgnV.cells (r : RgnV) : List Value := [.bool r.there, r.lv, .int .i64 r.pages, .int .i64 r.used]
def RgnV.res (H : HT) (r : RgnV) : Res := star (sl H.Tt 2 r.lv (r.l.map ThgV.cells)) (big (ThgV.res H) r.l)
def RgnV.nil : RgnV := ⟨false, .slice none 0 0, [], 0, 0⟩
structure HpO (N : Nat) (s : HpS) (rv : List RgnV) : Prop where
  hr : rv.map RgnV.abs = s.l
  ok : s.Ok N
section
variable {cx : Cx} {w : World} {L : List Res} {H : HT}
theorem QH {x y : Res} {rv : List RgnV} {k : Nat} {r : RgnV} (hS : St cx w (x :: y :: big (RgnV.res H) rv :: L)) (hr : rv[k]? = some r) : St cx w (sl H.Tt 2 r.lv (r.l.map ThgV.cells) :: big (ThgV.res H) r.l :: x :: y :: big (RgnV.res H) (rv.eraseIdx k) :: L) :=
  St.star (hS.bigOut nth2 hr)
theorem QmE {x y : Res} {rv : List RgnV} {k : Nat} {r : RgnV} (hk : k < rv.length) (hS : St cx w (sl H.Tt 2 r.lv (r.l.map ThgV.cells) :: big (ThgV.res H) r.l :: x :: y :: big (RgnV.res H) (rv.eraseIdx k) :: L)) : St cx w (x :: y :: big (RgnV.res H) (rv.set k r) :: L) :=
  St.bigIn (f := RgnV.res H) (x' := r) hS.star' nth2 hk
theorem QaP {x : Res} {l : List ThgV} {k : Nat} {t : ThgV} (hS : St cx w (x :: big (ThgV.res H) l :: L)) (ht : l[k]? = some t) : St cx w (sl H.Tv 4 t.lv (t.l.map Val.cells) :: x :: big (ThgV.res H) (l.eraseIdx k) :: L) := hS.bigOut nth1 ht
theorem thg_in {x : Res} {l : List ThgV} {k : Nat} {t : ThgV} (hk : k < l.length) (hS : St cx w (sl H.Tv 4 t.lv (t.l.map Val.cells) :: x :: big (ThgV.res H) (l.eraseIdx k) :: L)) : St cx w (x :: big (ThgV.res H) (l.set k t) :: L) := St.bigIn (f := ThgV.res H) (x' := t) hS nth1 hk
/-- One more at the end. -/
theorem St.big_push {α : Type} {f : α → Res} {l : List α} {x : α} (h : St cx w (f x :: big f l :: L)) : St cx w (big f (l ++ [x]) :: L) := by
  have h1 : St cx w (l.map f ++ (f x :: L)) := h.mv1.list
  have h2 : St cx w ((l ++ [x]).map f ++ L) := by simpa using h1
  exact h2.list'
theorem St.big_nil {α : Type} (f : α → Res) (h : St cx w L) : St cx w (big f [] :: L) := h.emp (r := Go.Lir.emp) fun _ h => h
theorem St.rot1 {a b c d : Res} (h : St cx w (a :: b :: c :: d :: L)) : St cx w (b :: c :: d :: a :: L) := St.mv3 (St.mv3 (St.mv3 h))
theorem St.rot2 {a e b c d : Res} (h : St cx w (a :: e :: b :: c :: d :: L)) : St cx w (b :: c :: d :: a :: e :: L) := St.mv4 (St.mv4 (St.mv4 h))
theorem St.rot3 {a e f b c d : Res} (h : St cx w (a :: e :: f :: b :: c :: d :: L)) : St cx w (b :: c :: d :: a :: e :: f :: L) := St.mv5 (St.mv5 (St.mv5 h))
theorem big_same {α : Type} {f : α → Res} {l : List α} {k : Nat} {x y : α} (h : l[k]? = some x) (he : f y = f x) : big f (l.set k y) = big f l := by
  unfold big; rw [List.map_set, he, Qhq (by rw [List.getElem?_map, h]; rfl)]
theorem QO {rv : List RgnV} {m : Nat} {r : RgnV} (h : rv[m]? = some r) : (rv.map RgnV.cells)[m]? = some r.cells := by rw [List.getElem?_map, h]; rfl
theorem rcset {rv : List RgnV} {m : Nat} {r' : RgnV} : (rv.map RgnV.cells).set m r'.cells = (rv.set m r').map RgnV.cells := List.map_set.symm
theorem QiB {rv : List RgnV} {m j : Nat} {r r' : RgnV} {u : Value} (h : r.cells.set j u = r'.cells) : (rv.map RgnV.cells).set m (r.cells.set j u) = (rv.set m r').map RgnV.cells := by rw [h]; exact rcset
theorem Q4z {tv : List ThgV} {m : Nat} {t : ThgV} (h : tv[m]? = some t) : (tv.map ThgV.cells)[m]? = some t.cells := by rw [List.getElem?_map, h]; rfl
theorem vcget {l : List Val} {m : Nat} (h : m < l.length) : (l.map Val.cells)[m]? = some (l.getD m Val.zero).cells := map_get Val.cells l Val.zero h
theorem Q1R {rv : List RgnV} {m : Nat} {r : RgnV} (h : m < rv.length) : (rv.set m r)[m]? = some r := by simp [h]
/-! what the state says of what lies there -/
theorem HpO.len {N : Nat} {s : HpS} {rv : List RgnV} (h : HpO N s rv) : rv.length = s.l.length := by rw [← h.hr, List.length_map]
theorem HpO.at_ {N : Nat} {s : HpS} {rv : List RgnV} (h : HpO N s rv) {k : Nat} (hk : k < rv.length) : ∃ r, rv[k]? = some r ∧ s.reg k = r.abs ∧ s.l[k]? = some r.abs := by
  refine ⟨rv[k], List.getElem?_eq_getElem hk, ?_, ?_⟩
  · unfold HpS.reg
    rw [if_pos (by omega), Int.toNat_natCast, ← h.hr, List.getD_eq_getElem?_getD, List.getElem?_map, List.getElem?_eq_getElem hk]; rfl
  · rw [← h.hr, List.getElem?_map, List.getElem?_eq_getElem hk]; rfl
theorem HpO.out {N : Nat} {s : HpS} {rv : List RgnV} (h : HpO N s rv) {k : Int} (hk : k < 0 ∨ (rv.length : Int) ≤ k) : s.has k = false := by
  have hl := h.len
  unfold HpS.has HpS.reg
  split
  · rw [List.getD_eq_getElem?_getD, List.getElem?_eq_none (by omega)]; rfl
  · rfl
theorem HpO.has_in {N : Nat} {s : HpS} {rv : List RgnV} (h : HpO N s rv) {k : Int} (hk : s.has k = true) : ∃ m : Nat, k = m ∧ m < rv.length := by
  by_cases hc : k < 0 ∨ (rv.length : Int) ≤ k
  · rw [h.out hc] at hk; cases hk
  · exact ⟨k.toNat, by omega, by omega⟩
theorem HpO.rng {N : Nat} {s : HpS} {rv : List RgnV} (h : HpO N s rv) {k : Nat} {r : RgnV} (hr : rv[k]? = some r) : r.l.length ≤ N ∧ (∀ t ∈ r.l, t.l.length ≤ 1000) ∧ 0 ≤ r.pages ∧ 0 ≤ r.used ∧ r.used ≤ 1000 ∧ (r.there = false → r.l.length = 0 ∧ r.pages = 0) := by
  have hm : r.abs ∈ s.l := by rw [← h.hr]; exact List.mem_map.2 ⟨r, List.mem_of_getElem? hr, rfl⟩
  obtain ⟨h1, h2, h3, h4, h5, h6⟩ := h.ok.each _ hm
  refine ⟨by simpa [RgnV.abs] using h1, fun t ht => h2 t.abs (List.mem_map.2 ⟨t, ht, rfl⟩), h3, h4, h5, fun hf => ?_⟩
  have := h6 hf
  simp only [RgnV.abs, Rgn.none, Rgn.mk.injEq, List.map_eq_nil_iff] at this
  exact ⟨by rw [this.2.1]; rfl, this.2.2.1⟩
end
end Go.Proofs.Yteflkifmgnpbhaa
namespace Go.Proofs.Yteflkifmgnpbhaa
open Go.Lir
set_option maxHeartbeats 1000000
attribute [local irreducible] LC.wp Q2 Qy QD retQ Q1n LO.wp Ql Calls
set_option linter.unusedSimpArgs false
set_option linter.unusedVariables false
def H0 : HT := ⟨108, 142, 136, 90⟩
abbrev Qah (b : Nat) (lv : Value) (left live : Int) (rv : List RgnV) (L : List Res) : List Res := blk b 90 [lv, .int .i64 left, .int .i64 live] :: sl 136 4 lv (rv.map RgnV.cells) :: big (RgnV.res H0) rv :: L
def Q1D (N : Nat) (h : Value) (s : HpS) : Res := Res.ex fun x : Nat × Value × List RgnV => Res.pure (h = .pointer (some ⟨x.1, 0, none⟩) ∧ HpO N s x.2.2) (QaQ [blk x.1 90 [x.2.1, .int .i64 s.left, .int .i64 s.live], sl 136 4 x.2.1 (x.2.2.map RgnV.cells), big (RgnV.res H0) x.2.2])
variable {cx : Cx} {w : World} {L : List Res} {i : Nat} {N : Nat} {h : Value} {s : HpS}
theorem Qja (hS : St cx w (Q1D N h s :: L)) : ∃ b lv rv, h = .pointer (some ⟨b, 0, none⟩) ∧ HpO N s rv ∧ St cx w (Qah b lv s.left s.live rv L) := by
  obtain ⟨⟨b, lv, rv⟩, h⟩ := hS.ex
  obtain ⟨⟨h0, h1⟩, h2⟩ := h.pure
  exact ⟨b, lv, rv, h0, h1, h2.list⟩
theorem Qm {b : Nat} {lv : Value} {rv : List RgnV} (ho : HpO N s rv) (hS : St cx w (Qah b lv s.left s.live rv L)) : St cx w (Q1D N (.pointer (some ⟨b, 0, none⟩)) s :: L) :=
  St.ex' (b, lv, rv) (St.pure' ⟨rfl, ho⟩ (St.list' hS))
theorem Q9s (hS : St cx w L) {b : Nat} (hi : nth L i = some (Q1D N (.pointer (some ⟨b, 0, none⟩)) s)) : ∃ lv rv, HpO N s rv ∧ St cx w (Qah b lv s.left s.live rv (L.eraseIdx i)) := by
  obtain ⟨b', lv, rv, he, ho, h⟩ := Qja (hS.out hi)
  cases he
  exact ⟨lv, rv, ho, h⟩
theorem Q2M (hS : St cx w L) (hi : nth L i = some (Q1D N h s)) : s.Ok N ∧ ∃ b, h = .pointer (some ⟨b, 0, none⟩) := by
  obtain ⟨b, lv, rv, he, ho, _⟩ := Qja (hS.out hi); exact ⟨ho.ok, b, he⟩

variable {b : Nat} {lv : Value} {left live : Int} {rv : List RgnV}
theorem QeJ (k : Int) (ho : HpO N s rv) (hS : St cx w (Qah b lv left live rv L)) : Rets Try.prog Qa1 [.pointer (some ⟨b, 0, none⟩), .int .i64 k] w fun v w' => v = .bool (s.has k) ∧ St cx w' (Qah b lv left live rv L) := by
  rcases (show (k < 0 ∨ (rv.length : Int) ≤ k) ∨ ∃ m : Nat, k = m ∧ m < rv.length by (by_cases h : k < 0 ∨ (rv.length : Int) ≤ k; (exact .inl h); exact .inr ⟨k.toNat, by omega, by omega⟩)) with hk | ⟨m, rfl, hm⟩
  · have e0 := ho.out hk
    all_goals refine Q50 ?_
    all_goals (unfold heap_Heap_has_lc; refine Q0 ?_; refine Q1 ?_; refine zm ?_; refine zn ?_; refine Q0 ?_; refine Q1 ?_; refine zm ?_)
    all_goals (first | (refine Q7T ?_) | (refine QaN ?_) | (refine Q34 rfl rfl (fun hc => ?_) (fun hc => ?_)))
    all_goals (refine zm ?_; (first | refine zgn ?_ | (refine zgy ?_; refine zm ?_)); (first | refine zgn ?_ | (refine zgy ?_; refine zm ?_)); (first | refine zgn ?_ | (refine zgy ?_; refine znc ?_)); (first | refine zgn ?_ | (refine zgy ?_; refine zf0 ?_)); (first | refine zgn ?_ | (refine zgy ?_; refine zl hS ?_)); (first | refine zgn ?_ | (refine zgy ?_; (first | (refine zL ?_) | (refine zLe hS ?_)))))
    all_goals (first | refine zgn ?_ | (refine zgy ?_; (first | (refine Q1G ?_) | (refine Q1N ?_))))
    all_goals ((first | (refine zpt ?_) | (refine zpf ?_)); refine zm ?_; refine zgn ?_; refine zgn ?_; refine zgn ?_; refine zgn ?_; refine zgn ?_; refine zgn ?_; refine zgn ?_; refine zgn ?_; (first | (refine zpt ?_) | (refine zpf ?_)); refine zm ?_; refine zn ?_; refine zr ?_; refine zf ?_; exact ⟨_, rfl, by rw [e0], hS⟩)
  · obtain ⟨r, hr, hrs, _⟩ := ho.at_ hm
    have e0 : s.has m = r.there := by unfold HpS.has; rw [hrs]; rfl
    all_goals refine Q50 ?_
    all_goals (unfold heap_Heap_has_lc; refine Q0 ?_; refine Q1 ?_; refine zm ?_; refine zn ?_; refine Q0 ?_; refine Q1 ?_; refine zm ?_)
    all_goals (refine Q7T ?_)
    all_goals (refine zm ?_; (first | refine zgn ?_ | (refine zgy ?_; refine zm ?_)); (first | refine zgn ?_ | (refine zgy ?_; refine zm ?_)); (first | refine zgn ?_ | (refine zgy ?_; refine znc ?_)); (first | refine zgn ?_ | (refine zgy ?_; refine zf0 ?_)); (first | refine zgn ?_ | (refine zgy ?_; (first | (refine Q5 hS (by assumption) rfl fd (by exact List.length_map _) (QO hr) rfl ?_) | (refine zl hS ?_)))); (first | refine zgn ?_ | (refine zgy ?_; (first | (refine zL ?_) | (refine zLe hS ?_)))))
    all_goals (first | refine zgn ?_ | (refine zgy ?_; refine Q1G ?_))
    all_goals (refine zpt ?_; refine zm ?_; (first | refine zgn ?_ | (refine zgy ?_; refine zm ?_)); (first | refine zgn ?_ | (refine zgy ?_; refine znc ?_)); (first | refine zgn ?_ | (refine zgy ?_; refine zf0 ?_)); (first | refine zgn ?_ | (refine zgy ?_; (first | (refine Q5 hS (by assumption) rfl fd (by exact List.length_map _) (QO hr) rfl ?_) | (refine zl hS ?_)))); (first | refine zgn ?_ | (refine zgy ?_; refine zm ?_)); (first | refine zgn ?_ | (refine zgy ?_; (first | ((first | refine zi ?_ | refine zj ?_); intro b1 o1 cs1 x1 hat1 hx1 he1; obtain ⟨vp1, vr1, vb1, rfl, hp1, hr1, hb1⟩ := QW he1) | (refine zie hS ?_; intro b1 o1 hel1)))); (first | refine zgn ?_ | (refine zgy ?_; (first | refine zf0 ?_ | refine zfd ?_))); (first | refine zgn ?_ | (refine zgy ?_; refine Q5 hS (by assumption) rfl fd (by first | exact List.length_map _ | rfl) (QO hr) rfl ?_)); refine zpt ?_; refine zm ?_; refine zn ?_; refine zr ?_; refine zf ?_; exact ⟨_, rfl, by rw [e0], hS⟩)
/-- Where a thing lies. -/
def ThgAt (rv : List RgnV) (k t : Nat) (th : ThgV) (v : Value) : Prop := ∃ r b o, rv[k]? = some r ∧ r.l[t]? = some th ∧ v = .pointer (some ⟨b, o, none⟩) ∧ ElP r.lv r.l.length 2 t b o
theorem HpO.thg {k t : Nat} {r : RgnV} {th : ThgV} (ho : HpO N s rv) (hr : rv[k]? = some r) (ht : r.l[t]? = some th) : s.thg k t = th.abs := by
  obtain ⟨r', h1, h2, _⟩ := ho.at_ (List.getElem?_eq_some_iff.1 hr).1
  rw [hr] at h1; cases h1
  unfold HpS.thg; rw [h2]
  show (r.l.map ThgV.abs).getD t _ = _
  rw [List.getD_eq_getElem?_getD, List.getElem?_map, ht]; rfl
theorem hat_c (v : Val) (ho : HpO N s rv) (hS : St cx w (Qah b lv left live rv L)) : Rets Try.prog Q2m [.pointer (some ⟨b, 0, none⟩), v.v] w fun u w' => St cx w' (Qah b lv left live rv L) ∧ (s.at_ v = none ∧ u = .pointer none ∨ ∃ k t th, s.at_ v = some (k, t) ∧ ThgAt rv k t th u) := by
  by_cases hv : v.kind = 3 ∨ v.kind = 4
  · cases hh : s.has v.region with
    | false =>
      have e0 : s.at_ v = none := by unfold HpS.at_; rw [if_neg (by rw [hh]; simp)]
      all_goals refine Q2G ?_
      all_goals (unfold heap_Heap_at_lc; refine Q0 ?_; refine Q1 ?_; refine Q2c hS vw (by rfl) ?_; intro b3 w1 hS; simp only [Val.cells] at hS; refine zm ?_; refine zn ?_; refine Q0 ?_; refine Q0 ?_; refine zD [(0, none), (1, none), (2, none), (3, none), (4, none), (5, none), (6, none), (7, none), (8, none), (9, none), (10, none), (11, none), (12, some none), (13, none), (14, none), (15, none), (16, none), (17, none), (18, none), (19, none), (20, none), (21, none), (22, none), (23, none), (24, none), (25, none), (26, none), (27, none), (28, none), (29, none), (30, none), (31, none), (32, none), (33, none), (34, some none)] ?_; have hS := hS.drew; refine zf0 ?_; refine zl hS ?_)
      all_goals (first | (refine Q1o ?_) | (refine Q1B ?_) | (refine Q1b rfl rfl (fun hc => ?_) (fun hc => ?_)))
      all_goals (refine zm ?_; (first | refine zgn ?_ | (refine zgy ?_; refine zf0 ?_)); (first | refine zgn ?_ | (refine zgy ?_; refine zl hS ?_)))
      all_goals (first | refine zgn ?_ | (refine zgy ?_; (first | (refine Q1o ?_) | (refine Q1B ?_))))
      all_goals ((first | (refine zpt ?_) | (refine zpf ?_)); refine zm ?_; (first | refine zgn ?_ | (refine zgy ?_; refine zm ?_)); (first | refine zgn ?_ | (refine zgy ?_; refine zf0 ?_)); (first | refine zgn ?_ | (refine zgy ?_; refine zl hS ?_)); (first | refine zgn ?_ | (refine zgy ?_; refine zR2 (c := QeJ _ ho (St.rot1 hS)) (h := ?_); rintro v1 w1 ⟨rfl, hS⟩; rw [hh])); (first | refine zgn ?_ | (refine zgy ?_; refine znt ?_)); (first | (refine zpt ?_) | (refine zpf ?_)); refine zm ?_; refine zgn ?_; refine zgn ?_)
      all_goals (refine zgn ?_)
      all_goals (refine zpt ?_; refine zm ?_; refine zgn ?_; refine zgn ?_; refine zgn ?_; refine zgn ?_; refine zgn ?_; refine zgn ?_; refine zgn ?_; refine zgn ?_; refine zgn ?_; refine zgn ?_)
      all_goals (refine zgn ?_; refine zgn ?_)
      all_goals (refine zgn ?_)
      all_goals (refine zpt ?_; refine zn ?_)
      all_goals refine zct ?_
      all_goals (refine Q0 ?_; refine Q1 ?_; refine zm ?_; refine zn ?_; refine zr ?_; refine zf ?_; exact ⟨_, rfl, hS.sp, .inl ⟨e0, rfl⟩⟩)
    | true =>
      obtain ⟨vk, vr, vt, vn⟩ := v
      have hv' : vk = 3 ∨ vk = 4 := hv
      obtain ⟨m, rfl, hm⟩ := ho.has_in hh
      obtain ⟨r, hr, hrs, _⟩ := ho.at_ hm
      have hrl : (s.reg (m : Int)).l.length = r.l.length := by rw [hrs]; exact List.length_map _
      have hrn := (ho.rng hr).1
      have hmt : (m : Int).toNat = m := by omega
      by_cases ht : 0 ≤ vt ∧ vt < r.l.length
      · obtain ⟨t, rfl⟩ := Int.eq_ofNat_of_zero_le ht.1
        have htt : (t : Int).toNat = t := by omega
        obtain ⟨th, hth⟩ : ∃ th, r.l[t]? = some th := ⟨_, List.getElem?_eq_getElem (by omega)⟩
        have hthg := ho.thg hr hth
        have e1 : s.at_ ⟨vk, m, t, vn⟩ = if th.array = decide (vk = 4) then some (m, t) else none := by
          unfold HpS.at_
          simp only [hmt, htt, hthg, hh, hrl]
          by_cases ha : th.array = decide (vk = 4)
          · rw [if_pos ⟨hv', trivial, ht.1, ht.2, ha⟩, if_pos ha]
          · rw [if_neg (fun h => ha h.2.2.2.2), if_neg ha]
        all_goals refine Q2G ?_
        all_goals (unfold heap_Heap_at_lc; refine Q0 ?_; refine Q1 ?_; refine Q2c hS vw (by rfl) ?_; intro b3 w1 hS; simp only [Val.cells] at hS; refine zm ?_; refine zn ?_; refine Q0 ?_; refine Q0 ?_; refine zD [(0, none), (1, none), (2, none), (3, none), (4, none), (5, none), (6, none), (7, none), (8, none), (9, none), (10, none), (11, none), (12, some none), (13, none), (14, none), (15, none), (16, none), (17, none), (18, none), (19, none), (20, none), (21, none), (22, none), (23, none), (24, none), (25, none), (26, none), (27, none), (28, none), (29, none), (30, none), (31, none), (32, none), (33, none), (34, some none)] ?_; have hS := hS.drew; refine zf0 ?_; (first | (refine Q5 hS (by assumption) rfl fd (by exact List.length_map _) (QO hr) rfl ?_) | (refine Q5 (QH (H := H0) hS hr) (by assumption) rfl nth0 (by exact List.length_map _) (Q4z hth) rfl ?_) | (refine zl hS ?_)))
        all_goals (first | (refine Q1o ?_) | (refine Q1B ?_) | (refine Q1b rfl rfl (fun hc => ?_) (fun hc => ?_)))
        all_goals (refine zm ?_; (first | refine zgn ?_ | (refine zgy ?_; refine zf0 ?_)); (first | refine zgn ?_ | (refine zgy ?_; (first | (refine Q5 hS (by assumption) rfl fd (by exact List.length_map _) (QO hr) rfl ?_) | (refine Q5 (QH (H := H0) hS hr) (by assumption) rfl nth0 (by exact List.length_map _) (Q4z hth) rfl ?_) | (refine zl hS ?_)))))
        all_goals (first | refine zgn ?_ | (refine zgy ?_; (first | (refine Q1o ?_) | (refine Q1B ?_))))
        all_goals ((first | (refine zpt ?_) | (refine zpf ?_)); refine zm ?_; (first | refine zgn ?_ | (refine zgy ?_; refine zm ?_)); (first | refine zgn ?_ | (refine zgy ?_; refine zf0 ?_)); (first | refine zgn ?_ | (refine zgy ?_; (first | (refine Q5 hS (by assumption) rfl fd (by exact List.length_map _) (QO hr) rfl ?_) | (refine Q5 (QH (H := H0) hS hr) (by assumption) rfl nth0 (by exact List.length_map _) (Q4z hth) rfl ?_) | (refine zl hS ?_)))); (first | refine zgn ?_ | (refine zgy ?_; refine zR2 (c := QeJ _ ho (St.rot1 hS)) (h := ?_); rintro v1 w1 ⟨rfl, hS⟩; rw [hh])); (first | refine zgn ?_ | (refine zgy ?_; refine znt ?_)); (first | (refine zpt ?_) | (refine zpf ?_)); refine zm ?_; (first | refine zgn ?_ | (refine zgy ?_; refine zf0 ?_)); (first | refine zgn ?_ | (refine zgy ?_; (first | (refine Q5 hS (by assumption) rfl fd (by exact List.length_map _) (QO hr) rfl ?_) | (refine Q5 (QH (H := H0) hS hr) (by assumption) rfl nth0 (by exact List.length_map _) (Q4z hth) rfl ?_) | (refine zl hS ?_)))))
        all_goals (first | refine zgn ?_ | (refine zgy ?_; (first | (refine Q1G ?_) | (refine Q1N ?_))))
        all_goals ((first | (refine zpt ?_) | (refine zpf ?_)); refine zm ?_; (first | refine zgn ?_ | (refine zgy ?_; refine zf0 ?_)); (first | refine zgn ?_ | (refine zgy ?_; (first | (refine Q5 hS (by assumption) rfl fd (by exact List.length_map _) (QO hr) rfl ?_) | (refine Q5 (QH (H := H0) hS hr) (by assumption) rfl nth0 (by exact List.length_map _) (Q4z hth) rfl ?_) | (refine zl hS ?_)))); (first | refine zgn ?_ | (refine zgy ?_; refine zm ?_)); (first | refine zgn ?_ | (refine zgy ?_; refine znc ?_)); (first | refine zgn ?_ | (refine zgy ?_; refine zf0 ?_)); (first | refine zgn ?_ | (refine zgy ?_; (first | (refine Q5 hS (by assumption) rfl fd (by exact List.length_map _) (QO hr) rfl ?_) | (refine Q5 (QH (H := H0) hS hr) (by assumption) rfl nth0 (by exact List.length_map _) (Q4z hth) rfl ?_) | (refine zl hS ?_)))); (first | refine zgn ?_ | (refine zgy ?_; refine zf0 ?_)); (first | refine zgn ?_ | (refine zgy ?_; (first | (refine Q5 hS (by assumption) rfl fd (by exact List.length_map _) (QO hr) rfl ?_) | (refine Q5 (QH (H := H0) hS hr) (by assumption) rfl nth0 (by exact List.length_map _) (Q4z hth) rfl ?_) | (refine zl hS ?_)))))
        all_goals ((first | refine zgn ?_ | (refine zgy ?_; (first | (refine Qcp (QH (H := H0) hS hr) vw rfl nth0 (by first | omega | (simp only [List.length_map, List.length_append, List.length_cons, List.length_nil, List.length_set, List.length_replicate]; omega) | (simp; done) | (simp; omega)) ?_; rw [List.length_map]; intro b5 o5 hel5) | ((first | refine zi ?_ | refine zj ?_); intro b1 o1 cs1 x1 hat1 hx1 he1; obtain ⟨vp1, vr1, vb1, rfl, hp1, hr1, hb1⟩ := QW he1) | (refine zie hS ?_; intro b1 o1 hel1)))); (first | refine zgn ?_ | (refine zgy ?_; (first | refine zf0 ?_ | refine zfd ?_))); (first | refine zgn ?_ | (refine zgy ?_; refine Q5 hS (by assumption) rfl fd (by first | exact List.length_map _ | rfl) (QO hr) rfl ?_)); (first | (refine zgn ?_) | (refine zgy ?_; refine Q2h (QH (H := H0) hS hr) vw nth0 (by exact List.length_map _) ?_)))
        all_goals (first | refine zgn ?_ | (refine zgy ?_; (first | (refine Q7T ?_) | (refine QaN ?_))))
        all_goals ((first | (refine zpt ?_) | (refine zpf ?_)); refine zn ?_)
        all_goals
          first
          | (refine zct ?_ -- Q2m c0
             all_goals (refine Q0 ?_; refine Q1 ?_; refine zm ?_; refine zn ?_; refine zr ?_; refine zf ?_)
             all_goals (exact ⟨_, rfl, hS.sp, .inl ⟨by rw [e1]; simp [hta, hk4], rfl⟩⟩))
          | (refine zcf ?_ -- Q2m c0
             all_goals refine zsk ?_)
        all_goals (refine Q0 ?_; have hS : St cx _ (Qah b lv left live rv _) := (by exact hS); refine zD [(0, none), (1, none), (2, none), (3, none), (4, none), (5, none), (6, none), (7, none), (8, none), (9, none), (10, none), (11, none), (12, some none)] ?_; have hS := hS.drew; refine zm ?_; refine znc ?_; refine zf0 ?_; (first | (refine Q5 hS (by assumption) rfl fd (by first | exact List.length_map _ | rfl) (QO hr) rfl ?_) | (refine Q5 (QH (H := H0) hS hr) (by assumption) rfl nth0 (by exact List.length_map _) (Q4z hth) rfl ?_) | (refine zl hS ?_)); refine zf0 ?_; (first | (refine Q5 hS (by assumption) rfl fd (by first | exact List.length_map _ | rfl) (QO hr) rfl ?_) | (refine Q5 (QH (H := H0) hS hr) (by assumption) rfl nth0 (by exact List.length_map _) (Q4z hth) rfl ?_) | (refine zl hS ?_)); (first | (refine Qcp (QH (H := H0) hS hr) vw rfl nth0 (by first | omega | (simp only [List.length_map, List.length_append, List.length_cons, List.length_nil, List.length_set, List.length_replicate]; omega) | (simp; done) | (simp; omega)) ?_; rw [List.length_map]; intro b5 o5 hel5) | ((first | refine zi ?_ | refine zj ?_); intro b2 o2 cs2 x2 hat2 hx2 he2; obtain ⟨vp2, vr2, vb2, rfl, hp2, hr2, hb2⟩ := QW he2) | (refine zie hS ?_; intro b2 o2 hel2)); (first | refine zf0 ?_ | refine zfd ?_); refine Q5 hS (by assumption) rfl fd (by first | exact List.length_map _ | rfl) (QO hr) rfl ?_)
        all_goals (refine zf0 ?_; (first | (refine Q5 hS (by assumption) rfl fd (by first | exact List.length_map _ | rfl) (QO hr) rfl ?_) | (refine Q5 (QH (H := H0) hS hr) (by assumption) rfl nth0 (by exact List.length_map _) (Q4z hth) rfl ?_) | (refine zl hS ?_)); refine Qcp (QH (H := H0) hS hr) vw rfl nth0 (by first | omega | (simp only [List.length_map, List.length_append, List.length_cons, List.length_nil, List.length_set, List.length_replicate]; omega)) ?_; rw [List.length_map]; intro b5 o5 hel5; refine zm ?_; refine zn ?_; refine Q0 ?_; refine Q0 ?_; refine zD [(0, none), (1, none), (2, none), (3, none), (4, none), (5, none), (6, none), (7, some none)] ?_; have hS := hS.drew; refine zm ?_; refine znc ?_; (first | refine zf0 ?_ | refine zfd ?_); (first | (refine Q5 hS (by assumption) rfl fd (by exact List.length_map _) (QO hr) rfl ?_) | (refine Q5 (QH (H := H0) hS hr) (by assumption) rfl nth0 (by exact List.length_map _) (Q4z hth) rfl ?_)); refine zf0 ?_; (first | (refine Q5 hS (by assumption) rfl fd (by first | exact List.length_map _ | rfl) (QO hr) rfl ?_) | (refine Q5 (QH (H := H0) hS hr) (by assumption) rfl nth0 (by exact List.length_map _) (Q4z hth) rfl ?_) | (refine zl hS ?_)))
        all_goals (cases hta : th.array <;> by_cases hk4 : vk = 4 <;> first | (refine Q2w rfl rfl hk4 ?_) | (refine Q2x rfl rfl hk4 ?_))
        all_goals ((first | refine s_bne_f (by kernel_rfl) rfl rfl rfl ?_ | refine s_bne (by kernel_rfl) rfl rfl ?_); refine zn ?_)
        all_goals
          first
          | (refine zct ?_ -- Q2m c1
             all_goals (refine Q0 ?_; refine Q1 ?_; refine zm ?_; refine zn ?_; refine zr ?_; refine zf ?_)
             all_goals (exact ⟨_, rfl, hS.sp, .inl ⟨by rw [e1]; simp [hta, hk4], rfl⟩⟩))
          | (refine zcf ?_ -- Q2m c1
             all_goals refine zsk ?_)
        all_goals (refine Q0 ?_; refine Q1 ?_; refine zm ?_; refine zm ?_; refine zn ?_; refine zr ?_; refine zf ?_; (first | exact ⟨_, rfl, hS.sp, .inl ⟨by rw [e1]; simp [hta, hk4], rfl⟩⟩ | exact ⟨_, rfl, hS.sp, .inr ⟨m, t, th, by rw [e1]; simp [hta, hk4], r, b5, o5, hr, hth, rfl, hel5⟩⟩))
      · have e0 : s.at_ ⟨vk, m, vt, vn⟩ = none := by unfold HpS.at_; rw [if_neg fun h => ht ⟨h.2.2.1, by have := h.2.2.2.1; simp only [hrl] at this; exact this⟩]
        all_goals refine Q2G ?_
        all_goals (unfold heap_Heap_at_lc; refine Q0 ?_; refine Q1 ?_; refine Q2c hS vw (by rfl) ?_; intro b3 w1 hS; simp only [Val.cells] at hS; refine zm ?_; refine zn ?_; refine Q0 ?_; refine Q0 ?_; refine zD [(0, none), (1, none), (2, none), (3, none), (4, none), (5, none), (6, none), (7, none), (8, none), (9, none), (10, none), (11, none), (12, some none), (13, none), (14, none), (15, none), (16, none), (17, none), (18, none), (19, none), (20, none), (21, none), (22, none), (23, none), (24, none), (25, none), (26, none), (27, none), (28, none), (29, none), (30, none), (31, none), (32, none), (33, none), (34, some none)] ?_; have hS := hS.drew; refine zf0 ?_; (first | (refine Q5 hS (by assumption) rfl fd (by exact List.length_map _) (QO hr) rfl ?_) | (refine zl hS ?_)))
        all_goals (first | (refine Q1o ?_) | (refine Q1B ?_) | (refine Q1b rfl rfl (fun hc => ?_) (fun hc => ?_)))
        all_goals (refine zm ?_; (first | refine zgn ?_ | (refine zgy ?_; refine zf0 ?_)); (first | refine zgn ?_ | (refine zgy ?_; (first | (refine Q5 hS (by assumption) rfl fd (by exact List.length_map _) (QO hr) rfl ?_) | (refine zl hS ?_)))))
        all_goals (first | refine zgn ?_ | (refine zgy ?_; (first | (refine Q1o ?_) | (refine Q1B ?_))))
        all_goals ((first | (refine zpt ?_) | (refine zpf ?_)); refine zm ?_; (first | refine zgn ?_ | (refine zgy ?_; refine zm ?_)); (first | refine zgn ?_ | (refine zgy ?_; refine zf0 ?_)); (first | refine zgn ?_ | (refine zgy ?_; (first | (refine Q5 hS (by assumption) rfl fd (by exact List.length_map _) (QO hr) rfl ?_) | (refine zl hS ?_)))); (first | refine zgn ?_ | (refine zgy ?_; refine zR2 (c := QeJ _ ho (St.rot1 hS)) (h := ?_); rintro v1 w1 ⟨rfl, hS⟩; rw [hh])); (first | refine zgn ?_ | (refine zgy ?_; refine znt ?_)); (first | (refine zpt ?_) | (refine zpf ?_)); refine zm ?_; (first | refine zgn ?_ | (refine zgy ?_; refine zf0 ?_)); (first | refine zgn ?_ | (refine zgy ?_; (first | (refine Q5 hS (by assumption) rfl fd (by exact List.length_map _) (QO hr) rfl ?_) | (refine zl hS ?_)))))
        all_goals (first | refine zgn ?_ | (refine zgy ?_; (first | (refine Q1G ?_) | (refine Q1N ?_) | (refine QJ rfl rfl (fun hc => ?_) (fun hc => ?_)))))
        all_goals ((first | (refine zpt ?_) | (refine zpf ?_)); refine zm ?_; (first | refine zgn ?_ | (refine zgy ?_; refine zf0 ?_)); (first | refine zgn ?_ | (refine zgy ?_; (first | (refine Q5 hS (by assumption) rfl fd (by exact List.length_map _) (QO hr) rfl ?_) | (refine zl hS ?_)))); (first | refine zgn ?_ | (refine zgy ?_; refine zm ?_)); (first | refine zgn ?_ | (refine zgy ?_; refine znc ?_)); (first | refine zgn ?_ | (refine zgy ?_; refine zf0 ?_)); (first | refine zgn ?_ | (refine zgy ?_; (first | (refine Q5 hS (by assumption) rfl fd (by exact List.length_map _) (QO hr) rfl ?_) | (refine zl hS ?_)))); (first | refine zgn ?_ | (refine zgy ?_; refine zf0 ?_)); (first | refine zgn ?_ | (refine zgy ?_; (first | (refine Q5 hS (by assumption) rfl fd (by exact List.length_map _) (QO hr) rfl ?_) | (refine zl hS ?_)))); (first | refine zgn ?_ | (refine zgy ?_; (first | ((first | refine zi ?_ | refine zj ?_); intro b1 o1 cs1 x1 hat1 hx1 he1; obtain ⟨vp1, vr1, vb1, rfl, hp1, hr1, hb1⟩ := QW he1) | (refine zie hS ?_; intro b1 o1 hel1)))))
        all_goals ((first | refine zgn ?_ | (refine zgy ?_; (first | refine zf0 ?_ | refine zfd ?_))); (first | refine zgn ?_ | (refine zgy ?_; refine Q5 hS (by assumption) rfl fd (by first | exact List.length_map _ | rfl) (QO hr) rfl ?_)); (first | refine zgn ?_ | (refine zgy ?_; refine Q2h (QH (H := H0) hS hr) vw nth0 (by exact List.length_map _) ?_)))
        all_goals (first | refine zgn ?_ | (refine zgy ?_; refine Q7T ?_))
        all_goals ((first | (refine zpt ?_) | (refine zpf ?_)); refine zn ?_)
        all_goals refine zct ?_
        all_goals (refine Q0 ?_; refine Q1 ?_; refine zm ?_; refine zn ?_; refine zr ?_; refine zf ?_; exact ⟨_, rfl, hS.sp, .inl ⟨e0, rfl⟩⟩)
  · have e0 : s.at_ v = none := by unfold HpS.at_; rw [if_neg fun h => hv h.1]
    all_goals refine Q2G ?_
    all_goals (unfold heap_Heap_at_lc; refine Q0 ?_; refine Q1 ?_; refine Q2c hS vw (by rfl) ?_; intro b3 w1 hS; simp only [Val.cells] at hS; refine zm ?_; refine zn ?_; refine Q0 ?_; refine Q0 ?_; refine zD [(0, none), (1, none), (2, none), (3, none), (4, none), (5, none), (6, none), (7, none), (8, none), (9, none), (10, none), (11, none), (12, some none), (13, none), (14, none), (15, none), (16, none), (17, none), (18, none), (19, none), (20, none), (21, none), (22, none), (23, none), (24, none), (25, none), (26, none), (27, none), (28, none), (29, none), (30, none), (31, none), (32, none), (33, none), (34, some none)] ?_; have hS := hS.drew; refine zf0 ?_; refine zl hS ?_)
    all_goals (refine Q1o ?_)
    all_goals (refine zm ?_; (first | refine zgn ?_ | (refine zgy ?_; refine zf0 ?_)); (first | refine zgn ?_ | (refine zgy ?_; refine zl hS ?_)))
    all_goals (first | refine zgn ?_ | (refine zgy ?_; refine Q1o ?_))
    all_goals (refine zpt ?_; refine zm ?_; refine zgn ?_; refine zgn ?_; refine zgn ?_; refine zgn ?_; refine zgn ?_; refine zpt ?_; refine zm ?_; refine zgn ?_; refine zgn ?_)
    all_goals (refine zgn ?_)
    all_goals (refine zpt ?_; refine zm ?_; refine zgn ?_; refine zgn ?_; refine zgn ?_; refine zgn ?_; refine zgn ?_; refine zgn ?_; refine zgn ?_; refine zgn ?_; refine zgn ?_; refine zgn ?_)
    all_goals (refine zgn ?_; refine zgn ?_)
    all_goals (refine zgn ?_)
    all_goals (refine zpt ?_; refine zn ?_)
    all_goals refine zct ?_
    all_goals (refine Q0 ?_; refine Q1 ?_; refine zm ?_; refine zn ?_; refine zr ?_; refine zf ?_; exact ⟨_, rfl, hS.sp, .inl ⟨e0, rfl⟩⟩)
def RgnV.roomV (r : RgnV) (n : Int) : RgnV := if r.abs.more n then ⟨r.there, r.lv, r.l, r.pages + 1, n⟩ else ⟨r.there, r.lv, r.l, r.pages, r.used + n⟩
theorem roomV_abs {r : RgnV} {n : Int} : (r.roomV n).abs = r.abs.room n ∧ (r.roomV n).lv = r.lv ∧ (r.roomV n).l = r.l := by
  unfold RgnV.roomV Rgn.room; split <;> exact ⟨rfl, rfl, rfl⟩
theorem RgnV.more_iff {r : RgnV} {n : Int} : r.abs.more n = true ↔ (r.pages = 0 ∨ 16 < r.used + n) := decide_eq_true_iff
theorem hroom_c {k b1 o1 : Nat} {r : RgnV} {n : Int} (hn : 1 ≤ n ∧ n ≤ 1000) (hel : ElP lv rv.length 4 k b1 o1) (hr : rv[k]? = some r) (hl : 0 ≤ left ∧ left ≤ 1000) (hp : 0 ≤ r.pages ∧ r.pages ≤ 1000) (hu : 0 ≤ r.used ∧ r.used ≤ 1000) (hS : St cx w (Qah b lv left live rv L)) :
    Rets Try.prog Q96 [.pointer (some ⟨b, 0, none⟩), .pointer (some ⟨b1, o1, none⟩), .int .i64 n] w fun v w' =>
      v = .int .i64 14 ∧ r.abs.more n = true ∧ left = 0 ∧ St cx w' (Qah b lv left live rv L) ∨
      v = .int .i64 0 ∧ ¬ (r.abs.more n = true ∧ left = 0) ∧ St cx w' (Qah b lv (if r.abs.more n then left - 1 else left) live (rv.set k (r.roomV n)) L) := by
  have hk := (List.getElem?_eq_some_iff.1 hr).1
  have hlm : (rv.map RgnV.cells).length = rv.length := List.length_map _
  have hls : ∀ r', ((rv.set k r').map RgnV.cells).length = rv.length := fun r' => by rw [List.length_map, List.length_set]
  have hbig : big (RgnV.res H0) (rv.set k (r.roomV n)) = big (RgnV.res H0) rv := big_same hr (by unfold RgnV.res; rw [roomV_abs.2.1, roomV_abs.2.2])
  by_cases hmo : r.abs.more n = true
  · have hmo' := RgnV.more_iff.1 hmo
    by_cases h0 : left = 0
    · skip
      all_goals refine Q2N ?_
      all_goals (unfold heap_Heap_room_lc; refine Q0 ?_; refine Q1 ?_; refine zm ?_; refine zn ?_; refine Q0 ?_; refine Q0 ?_; refine Q1 ?_; refine zm ?_; refine znc ?_; (first | refine zf0 ?_ | refine zfd ?_); refine Q5 hS hel rfl fd hlm (QO hr) rfl ?_)
      all_goals (first | (refine Qx ?_) | (refine QE ?_) | (refine Qb rfl rfl (fun hc => ?_) (fun hc => ?_)))
      all_goals (refine zm ?_; (first | refine zgn ?_ | (refine zgy ?_; refine zm ?_)); (first | refine zgn ?_ | (refine zgy ?_; refine znc ?_)); (first | refine zgn ?_ | (refine zgy ?_; (first | refine zf0 ?_ | refine zfd ?_))); (first | refine zgn ?_ | (refine zgy ?_; refine Q5 hS hel rfl fd hlm (QO hr) rfl ?_)); (first | refine zgn ?_ | (refine zgy ?_; refine zm ?_)); (first | refine zgn ?_ | (refine zgy ?_; refine zad ?_)))
      all_goals (first | refine zgn ?_ | (refine zgy ?_; refine QQ ?_))
      all_goals ((first | (refine zpt ?_) | (refine zpf ?_)); refine zn ?_)
      all_goals refine zct ?_
      all_goals (refine Q0 ?_; refine Q0 ?_; refine Q1 ?_; refine zm ?_; refine znc ?_; refine zf0 ?_; (first | (refine Q5 hS hel rfl fd hlm (QO hr) rfl ?_) | (refine zl hS ?_)))
      all_goals (refine Qx ?_)
      all_goals (refine zn ?_)
      all_goals refine zct ?_
      all_goals (refine Q0 ?_; refine Q1 ?_; refine zm ?_; refine zn ?_; refine zr ?_; refine zf ?_; exact ⟨_, rfl, .inl ⟨rfl, hmo, h0, hS⟩⟩)
    · have e1 : r.roomV n = ⟨r.there, r.lv, r.l, r.pages + 1, 0 + n⟩ := by unfold RgnV.roomV; rw [if_pos hmo, Int.zero_add]
      all_goals refine Q2N ?_
      all_goals (unfold heap_Heap_room_lc; refine Q0 ?_; refine Q1 ?_; refine zm ?_; refine zn ?_; refine Q0 ?_; refine Q0 ?_; refine Q1 ?_; refine zm ?_; refine znc ?_; (first | refine zf0 ?_ | refine zfd ?_); refine Q5 hS hel rfl fd hlm (QO hr) rfl ?_)
      all_goals (first | (refine Qx ?_) | (refine QE ?_) | (refine Qb rfl rfl (fun hc => ?_) (fun hc => ?_)))
      all_goals (refine zm ?_; (first | refine zgn ?_ | (refine zgy ?_; refine zm ?_)); (first | refine zgn ?_ | (refine zgy ?_; refine znc ?_)); (first | refine zgn ?_ | (refine zgy ?_; (first | refine zf0 ?_ | refine zfd ?_))); (first | refine zgn ?_ | (refine zgy ?_; refine Q5 hS hel rfl fd hlm (QO hr) rfl ?_)); (first | refine zgn ?_ | (refine zgy ?_; refine zm ?_)); (first | refine zgn ?_ | (refine zgy ?_; refine zad ?_)))
      all_goals (first | refine zgn ?_ | (refine zgy ?_; refine QQ ?_))
      all_goals ((first | (refine zpt ?_) | (refine zpf ?_)); refine zn ?_)
      all_goals refine zct ?_
      all_goals (refine Q0 ?_; refine Q0 ?_; refine Q1 ?_; refine zm ?_; refine znc ?_; refine zf0 ?_; (first | (refine Q5 hS hel rfl fd hlm (QO hr) rfl ?_) | (refine zl hS ?_)))
      all_goals (first | (refine Qx ?_) | (refine QE ?_))
      all_goals (refine zn ?_)
      all_goals refine zcf ?_
      all_goals (refine zsk ?_; refine Q0 ?_; refine Q1 ?_; refine zm ?_; refine znc ?_; refine zf0 ?_; (first | (refine Q5 hS hel rfl fd hlm (QO hr) rfl ?_) | (refine zl hS ?_)); refine zsu ?_; refine znc ?_; refine zf0 ?_; refine zst hS ?_; intro w1 hS; have hS := hS.ns; refine zn ?_; refine Q0 ?_; refine Q1 ?_; refine zm ?_; refine znc ?_; (first | refine zf0 ?_ | refine zfd ?_); refine Q5 hS hel rfl fd hlm (QO hr) rfl ?_; refine zad ?_; refine znc ?_; (first | refine zf0 ?_ | refine zfd ?_); refine Q1z hS hel rfl vw fd hlm (QO hr) (by omega) (by rfl) (QiB (r' := ⟨r.there, r.lv, r.l, r.pages + 1, r.used⟩) rfl) ?_; intro w8 hS; have hS := hS.ns; refine zn ?_; refine Q1 ?_; refine zm ?_; refine znc ?_; (first | refine zf0 ?_ | refine zfd ?_); refine Q1z hS hel rfl vw fd (hls _) (QO (Q1R (r := ⟨r.there, r.lv, r.l, r.pages + 1, r.used⟩) (by omega))) (by omega) (by rfl) (QiB (r' := ⟨r.there, r.lv, r.l, r.pages + 1, 0⟩) rfl) ?_; intro w8 hS; have hS := hS.ns; rw [List.set_set] at hS)
      all_goals (refine zn ?_; refine Q0 ?_; refine Q1 ?_; refine zm ?_; refine znc ?_; (first | refine zf0 ?_ | refine zfd ?_); refine Q5 (j := 3) (u := .int .i64 0) hS hel rfl fd (hls _) (QO (Q1R (r := ⟨r.there, r.lv, r.l, r.pages + 1, 0⟩) (by omega))) rfl ?_; refine zm ?_; refine zad ?_; refine znc ?_; (first | refine zf0 ?_ | refine zfd ?_); refine Q1z hS hel rfl vw fd (hls _) (QO (Q1R (r := ⟨r.there, r.lv, r.l, r.pages + 1, 0⟩) (by omega))) (by omega) (by rfl) (QiB (r' := ⟨r.there, r.lv, r.l, r.pages + 1, 0 + n⟩) rfl) ?_; intro w8 hS; have hS := hS.ns; rw [List.set_set] at hS; refine zn ?_; refine Q0 ?_; refine Q1 ?_; refine zm ?_; refine zn ?_; refine zr ?_; refine zf ?_)
      all_goals (exact ⟨_, rfl, .inr ⟨rfl, fun h => h0 h.2, by rw [if_pos hmo]; unfold Qah; rw [hbig, e1]; exact hS⟩⟩)
  · have hmo' : ¬ (r.pages = 0 ∨ 16 < r.used + n) := fun h => hmo (RgnV.more_iff.2 h)
    have e1 : r.roomV n = ⟨r.there, r.lv, r.l, r.pages, r.used + n⟩ := by unfold RgnV.roomV; rw [if_neg hmo]
    all_goals refine Q2N ?_
    all_goals (unfold heap_Heap_room_lc; refine Q0 ?_; refine Q1 ?_; refine zm ?_; refine zn ?_; refine Q0 ?_; refine Q0 ?_; refine Q1 ?_; refine zm ?_; refine znc ?_; (first | refine zf0 ?_ | refine zfd ?_); refine Q5 hS hel rfl fd hlm (QO hr) rfl ?_)
    all_goals (first | (refine Qx ?_) | (refine QE ?_))
    all_goals (refine zm ?_; (first | refine zgn ?_ | (refine zgy ?_; refine zm ?_)); (first | refine zgn ?_ | (refine zgy ?_; refine znc ?_)); (first | refine zgn ?_ | (refine zgy ?_; (first | refine zf0 ?_ | refine zfd ?_))); (first | refine zgn ?_ | (refine zgy ?_; refine Q5 hS hel rfl fd hlm (QO hr) rfl ?_)); (first | refine zgn ?_ | (refine zgy ?_; refine zm ?_)); (first | refine zgn ?_ | (refine zgy ?_; refine zad ?_)))
    all_goals (first | refine zgn ?_ | (refine zgy ?_; (first | (refine QQ ?_) | (refine Q1c ?_))))
    all_goals ((first | (refine zpt ?_) | (refine zpf ?_)); refine zn ?_)
    all_goals refine zcf ?_
    all_goals (refine zsk ?_; refine Q0 ?_; refine Q1 ?_; refine zm ?_; refine znc ?_; (first | refine zf0 ?_ | refine zfd ?_); refine Q5 hS hel rfl fd hlm (QO hr) rfl ?_; refine zm ?_; refine zad ?_; refine znc ?_; (first | refine zf0 ?_ | refine zfd ?_); refine Q1z hS hel rfl vw fd hlm (QO hr) (by omega) (by rfl) (QiB (r' := ⟨r.there, r.lv, r.l, r.pages, r.used + n⟩) rfl) ?_; intro w8 hS; have hS := hS.ns; refine zn ?_; refine Q0 ?_; refine Q1 ?_; refine zm ?_; refine zn ?_; refine zr ?_; refine zf ?_)
    all_goals (exact ⟨_, rfl, .inr ⟨rfl, fun h => hmo h.1, by rw [if_neg hmo]; unfold Qah; rw [hbig, e1]; exact hS⟩⟩)
end Go.Proofs.Yteflkifmgnpbhaa
namespace Go.Proofs.Yteflkifmgnpbhaa
open Go.Lir
set_option maxHeartbeats 1000000
attribute [local irreducible] LC.wp Q2 Qy QD retQ Q1n LO.wp Ql Calls
set_option linter.unusedSimpArgs false
set_option linter.unusedVariables false
variable {cx : Cx} {w : World} {L : List Res} {i : Nat} {N : Nat} {h : Value} {s : HpS}
theorem Qn7 : Q2n Try.prog 134 = some (142, 2, 32, [.bool false, .slice none 0 0]) := by kernel_rfl
theorem Qm2 : Q2n Try.prog 88 = some (136, 4, 48, [.bool false, .slice none 0 0, .int .i64 0, .int .i64 0]) := by kernel_rfl
theorem Qf1 : Q2n Try.prog 68 = some (108, 4, 32, [.int .i64 0, .int .i64 0, .int .i64 0, .int .i64 0]) := by kernel_rfl
theorem Qm9 : ∃ e2, Try.prog.underlying 134 = some (.slice e2) := ⟨142, by kernel_rfl⟩
theorem QlD : ∃ e2, Try.prog.underlying 88 = some (.slice e2) := ⟨136, by kernel_rfl⟩
theorem Qh5 : ∃ e2, Try.prog.underlying 68 = some (.slice e2) := ⟨108, by kernel_rfl⟩
theorem Qn9 {s : HpS} {v : Val} {n : Int} (hc : s.can v = false) : s.code v n = 20 := by unfold HpS.code; rw [hc]; rfl
theorem Qli {s : HpS} {v : Val} {n : Int} (hc : s.code v n ≠ 0) (kind : Int) (t : Thg) : s.put v n t = s ∧ s.putV v kind n = Val.zero := by unfold HpS.put HpS.putV; rw [if_neg hc, if_neg hc]; exact ⟨rfl, rfl⟩
theorem one2 {a b : Value} (h1 : oneC a = true) (h2 : oneC b = true) : ∀ u ∈ [a, b], oneC u = true := by
  intro u hu; simp only [List.mem_cons, List.not_mem_nil, or_false] at hu; rcases hu with rfl | rfl; exact h1; exact h2
theorem Qm6 (l : List Val) : ∀ c ∈ l.map Val.cells, ∀ u ∈ c, oneC u = true := by
  intro c hc u hu; obtain ⟨v, _, rfl⟩ := List.mem_map.1 hc; simp [Val.cells] at hu; rcases hu with rfl | rfl | rfl | rfl <;> rfl

def Qkc (r : RgnV) (v : Value) (t : ThgV) : RgnV := ⟨r.there, v, r.l ++ [t], r.pages, r.used⟩
theorem QmL {r : RgnV} {v : Value} {t : ThgV} : (Qkc r v t).abs = r.abs.push t.abs := by simp [Qkc, RgnV.abs, Rgn.push]
theorem abs_len {r : RgnV} : r.abs.l.length = r.l.length := List.length_map _
theorem put_yes {s : HpS} {m : Nat} {vt vn n kind : Int} {t : Thg} {r : RgnV} (hc : s.code ⟨2, m, vt, vn⟩ n = 0) (hsl : s.l[m]? = some r.abs) (hrs : s.reg m = r.abs) :
    s.put ⟨2, m, vt, vn⟩ n t = ⟨s.l.set m ((r.abs.room n).push t), if r.abs.more n then s.left - 1 else s.left⟩ ∧ (s.put ⟨2, m, vt, vn⟩ n t).live = s.live ∧ s.putV ⟨2, m, vt, vn⟩ kind n = ⟨kind, m, r.abs.l.length, 0⟩ := by
  have e : s.put ⟨2, m, vt, vn⟩ n t = ⟨s.l.set m ((r.abs.room n).push t), if r.abs.more n then s.left - 1 else s.left⟩ := by
    unfold HpS.put; rw [if_pos hc]; simp only [hrs, Int.toNat_natCast]
  refine ⟨e, ?_, ?_⟩
  · rw [e]
    have h1 := Qe2 (r' := (r.abs.room n).push t) hsl
    have h2 : ((r.abs.room n).push t).there = r.abs.there := by unfold Rgn.room; split <;> rfl
    rw [h2] at h1
    show (s.l.set m _).countP (fun r => r.there) = s.l.countP fun r => r.there
    omega
  · unfold HpS.putV; rw [if_pos hc]; simp only [hrs]
theorem hput_c (v : Val) (kind n : Int) (arr : Bool) (tlv : Value) (tl : List Val) (hn : 1 ≤ n ∧ n ≤ 1000) (hN : N ≤ 100000) (htl : tl.length ≤ 1000) (h1 : oneC tlv = true) (hS : St cx w (sl H0.Tv 4 tlv (tl.map Val.cells) :: L)) (hi : nth L i = some (Q1D N h s)) :
    Rets Try.prog Q3i [h, v.v, .int .i64 kind, .int .i64 n, .agg ⟨[.bool arr, tlv]⟩] w fun u w' => u = .tuple #[(s.putV v kind n).v, .int .i64 (s.code v n)] ∧ St cx w' (L.set i (Q1D (N + 1) h (s.put v n ⟨arr, tl⟩))) := by
  obtain ⟨hok, b, rfl⟩ := Q2M hS.drop hi
  obtain ⟨lv, rv, ho, hS⟩ := Q9s hS (i := i + 1) hi
  simp only [List.eraseIdx_cons_succ] at hS
  have ho1 : HpO (N + 1) s rv := ⟨ho.hr, hok.mono (by omega)⟩
  by_cases hk : v.kind = 2
  · cases hh : s.has v.region with
    | false =>
      have hcan : s.can v = false := by unfold HpS.can; rw [hh, Bool.and_false]
      have hc := Qn9 (n := n) hcan
      obtain ⟨e1, e2⟩ := Qli (s := s) (v := v) (n := n) (by omega) kind ⟨arr, tl⟩
      rw [e1, e2, hc]
      all_goals refine Q37 ?_
      all_goals (unfold heap_Heap_put_lc; refine Q0 ?_; refine Q1 ?_; refine Q2c hS vw (by rfl) ?_; intro b6 w1 hS; simp only [Val.cells] at hS; refine Q2c hS vw (by rfl) ?_; intro b9 w1 hS; refine Q8 hS ?_; intro b10 w1 hS; refine zm ?_; refine zn ?_; refine Q0 ?_; refine Q0 ?_; refine Q1 ?_; refine zf0 ?_; refine zl hS ?_)
      all_goals (first | (refine Q1o ?_) | (refine Q1B ?_))
      all_goals (refine zm ?_; (first | refine zgn ?_ | (refine zgy ?_; refine zm ?_)); (first | refine zgn ?_ | (refine zgy ?_; refine zf0 ?_)); (first | refine zgn ?_ | (refine zgy ?_; refine zl hS ?_)); (first | refine zgn ?_ | (refine zgy ?_; refine zR2 (c := QeJ _ ho (St.rot3 hS)) (h := ?_); rintro v1 w1 ⟨rfl, hS⟩; rw [hh])); (first | refine zgn ?_ | (refine zgy ?_; refine znt ?_)); (first | (refine zpt ?_) | (refine zpf ?_)); refine zn ?_)
      all_goals refine zct ?_
      all_goals (refine Q0 ?_; refine Q1 ?_; refine zb0 [_, _, _, _] ?_; refine zsn hS ?_; intro w1 hS; have hS := hS.ns; refine zm ?_; refine zn ?_; refine zr ?_; refine Q36 vw (Qg (n := 4) (by kernel_rfl) (by kernel_rfl) (hS.blkAt fd) (by rfl) (by rfl)) vw ?_; exact ⟨_, rfl, rfl, (Qm ho1 (L := L.eraseIdx i) hS.sp).back hi⟩)
    | true =>
      obtain ⟨vk, vr, vt, vn⟩ := v
      obtain rfl : vk = 2 := hk
      obtain ⟨m, rfl, hm⟩ := ho.has_in hh
      replace hh : s.has (m : Int) = true := hh
      obtain ⟨r, hr, hrs, hsl⟩ := ho.at_ hm
      have hcan : s.can ⟨2, m, vt, vn⟩ = true := by unfold HpS.can; rw [hh]; rfl
      have hrn := ho.rng hr
      have hpg := hok.pages
      have hpr := hpg.2 r.abs (List.mem_of_getElem? hsl)
      have hl0 := hok.left
      have hlm : (rv.map RgnV.cells).length = rv.length := List.length_map _
      have hls : ∀ r', ((rv.set m r').map RgnV.cells).length = rv.length := fun r' => by rw [List.length_map, List.length_set]
      have hpr' : r.pages + s.left ≤ 1000 := hpr
      have hcd : s.code ⟨2, m, vt, vn⟩ n = if r.abs.more n = true ∧ s.left = 0 then 14 else 0 := by unfold HpS.code; rw [hcan]; simp only [Bool.not_true, Bool.false_eq_true, if_false, hrs]
      obtain ⟨e3, e4, e5⟩ := roomV_abs (r := r) (n := n)
      all_goals refine Q37 ?_
      all_goals (unfold heap_Heap_put_lc; refine Q0 ?_; refine Q1 ?_; refine Q2c hS vw (by rfl) ?_; intro b6 w1 hS; simp only [Val.cells] at hS; refine Q2c hS vw (by rfl) ?_; intro b9 w1 hS; refine Q8 hS ?_; intro b10 w1 hS; refine zm ?_; refine zn ?_; refine Q0 ?_; refine Q0 ?_; refine Q1 ?_; refine zf0 ?_; (first | (refine Q5 hS hel rfl fd (hls _) (QO (Q1R (by omega))) rfl ?_) | (refine zl hS ?_)))
      all_goals (first | (refine Q1o ?_) | (refine Q1B ?_))
      all_goals (refine zm ?_; (first | refine zgn ?_ | (refine zgy ?_; refine zm ?_)); (first | refine zgn ?_ | (refine zgy ?_; refine zf0 ?_)); (first | refine zgn ?_ | (refine zgy ?_; (first | (refine Q5 hS hel rfl fd (hls _) (QO (Q1R (by omega))) rfl ?_) | (refine zl hS ?_)))); (first | refine zgn ?_ | (refine zgy ?_; refine zR2 (c := QeJ _ ho (St.rot3 hS)) (h := ?_); rintro v1 w1 ⟨rfl, hS⟩; rw [hh])); (first | refine zgn ?_ | (refine zgy ?_; refine znt ?_)); (first | (refine zpt ?_) | (refine zpf ?_)); refine zn ?_)
      all_goals refine zcf ?_
      all_goals (refine zsk ?_; refine Q0 ?_; refine zD [(0, none), (1, none), (2, none), (3, none), (4, none), (5, none), (6, none), (7, some none)] ?_; have hS := hS.drew; refine zm ?_; refine znc ?_; refine zf0 ?_; (first | (refine Q5 hS hel rfl fd (hls _) (QO (Q1R (by omega))) rfl ?_) | (refine zl hS ?_)); refine zf0 ?_; (first | (refine Q5 hS hel rfl fd (hls _) (QO (Q1R (by omega))) rfl ?_) | (refine zl hS ?_)); refine Qcp hS vw rfl fd (by omega) ?_; rw [hlm]; intro b12 o12 hel; refine zm ?_; refine zn ?_; refine Q0 ?_; refine Q0 ?_; refine Q1 ?_; refine zm ?_; refine zm ?_; refine zm ?_)
      all_goals (refine zR3 (c := hroom_c hn hel hr ⟨hl0, hpg.1⟩ ⟨hrn.2.2.1, by omega⟩ ⟨hrn.2.2.2.1, hrn.2.2.2.2.1⟩ hS) (h := ?_); rintro v2 w2 (⟨rfl, hmo, h0, hS⟩ | ⟨rfl, hnm, hS⟩))
      all_goals (refine zm ?_; refine zn ?_; refine Q0 ?_; refine Q1 ?_; refine zm ?_)
      all_goals (first | (refine Q1o ?_) | (refine Q1B ?_))
      all_goals (refine zn ?_)
      all_goals
        first
        | (refine zct ?_ -- Q3i c1
           all_goals (refine Q0 ?_; refine Q1 ?_; refine zb0 [_, _, _, _] ?_; refine zm ?_; refine zsn hS ?_; intro w1 hS; have hS := hS.ns; refine zm ?_; refine zn ?_; refine zr ?_; refine Q36 vw (Qg (n := 4) (by kernel_rfl) (by kernel_rfl) (hS.blkAt fd) (by rfl) (by rfl)) vw ?_)
           all_goals (rw [if_pos ⟨hmo, h0⟩] at hcd; obtain ⟨e1, e2⟩ := Qli (s := s) (v := ⟨2, m, vt, vn⟩) (n := n) (by omega) kind ⟨arr, tl⟩; rw [e1, e2, hcd]; exact ⟨_, rfl, rfl, (Qm ho1 (L := L.eraseIdx i) hS.sp).back hi⟩))
        | (refine zcf ?_ -- Q3i c1
           all_goals refine zsk ?_)
      all_goals (refine Q0 ?_; rw [if_neg hnm] at hcd; have hS := QH (H := H0) hS (Q1R (by omega)); have hrl := hrn.1; rw [← e5] at hrl; refine zC [(0, none), (1, none), (2, none), (3, none), (4, none), (5, none), (6, some (some [4])), (7, some (some [])), (8, none), (9, none), (10, some none)] ?_; have hS := hS.drew; refine s_cq ?_; refine zm ?_; refine zt ?_; refine s_cq ?_; refine zm ?_; refine zt ?_; refine s_cq ?_; refine znc ?_; refine zt ?_; refine s_cq ?_; (first | refine zf0 ?_ | refine zfd ?_); refine zt ?_; refine s_cq ?_; refine Q5 hS hel rfl fd (hls _) (QO (Q1R (by omega))) rfl ?_; refine zt ?_; refine s_cq ?_; refine zv hS ?_; refine zt ?_; refine Qi ?_; refine zB1 hS [_, _] ?_; intro b1 w1 hS; refine zt ?_; refine ⟨List.forall_mem_cons.2 ⟨(by (exact QP hS hel rfl fd (hls _) (QO (Q1R (by omega))) rfl)), fun _ h => (List.not_mem_nil h).elim⟩, ?_⟩; refine Qi ?_; refine Q3w Qn7 (.inl Qm9) hS vw vw fd (hS.srcB fd (by rfl) (one2 rfl h1)) (by first | omega | (simp only [List.length_map, List.length_append, List.length_cons, List.length_nil, List.length_set, List.length_replicate]; omega)) ?_; intro v7 w7 hS; have hS := hS.ns; have hS := hS.drop)
      all_goals (refine zt ?_; refine ⟨fun _ h => (List.not_mem_nil h).elim, ?_⟩; refine s_cq ?_; refine znc ?_; refine zt ?_; refine s_cq ?_; (first | refine zf0 ?_ | refine zfd ?_); refine zt ?_; refine s_cf ?_; refine Q1z hS hel rfl vw fd (hls (r.roomV n)) (QO (Q1R (r := r.roomV n) (by omega))) (by omega) (by first | rfl | assumption | exact hS.oneC fd) (QiB (r' := Qkc (r.roomV n) v7 ⟨arr, tlv, tl⟩) rfl) ?_; intro w8 hS; have hS := hS.ns; rw [List.set_set] at hS; refine zt ?_; refine zcn ?_; refine Q0 ?_; refine zD [(0, none), (1, none), (2, none), (3, none), (4, none), (5, none), (6, none), (7, none), (8, none), (9, none), (10, some none), (11, some none)] ?_; have hS := hS.drew; refine zm ?_; refine zf0 ?_; (first | (refine Q5 hS hel rfl fd (hls _) (QO (Q1R (by omega))) rfl ?_) | (refine zl hS ?_)); refine zm ?_; refine znc ?_; (first | refine zf0 ?_ | refine zfd ?_); refine Q5 (j := 1) (u := v7) hS hel rfl fd (hls _) (QO (Q1R (r := Qkc (r.roomV n) v7 ⟨arr, tlv, tl⟩) (by omega))) rfl ?_; refine Q2h (n := r.l.length + 1) hS vw fd (by simp [e5]) ?_; refine Qiw rfl rfl (by omega) (by omega) ?_; rw [show ((r.l.length + 1 : Nat) : Int) - 1 = r.l.length by omega]; refine zb3 [_, _, _, _] ?_; refine zsn hS ?_; intro w1 hS; have hS := hS.ns)
      all_goals (refine zm ?_; refine zn ?_; refine zr ?_; refine Q36 vw (Qg (n := 4) (by kernel_rfl) (by kernel_rfl) (hS.blkAt fd) (by rfl) (by rfl)) vw ?_; (first | (rw [if_pos ⟨hmo, h0⟩] at hcd; obtain ⟨e1, e2⟩ := Qli (s := s) (v := ⟨2, m, vt, vn⟩) (n := n) (by omega) kind ⟨arr, tl⟩; rw [e1, e2, hcd]; exact ⟨_, rfl, rfl, (Qm ho1 (L := L.eraseIdx i) hS.sp).back hi⟩) | (have hS : St cx _ (ThgV.res H0 ⟨arr, tlv, tl⟩ :: big (ThgV.res H0) (r.roomV n).l :: sl H0.Tt 2 v7 (((r.roomV n).l ++ [(⟨arr, tlv, tl⟩ : ThgV)]).map ThgV.cells) :: blk b 90 [lv, .int .i64 (if r.abs.more n then s.left - 1 else s.left), .int .i64 s.live] :: sl 136 4 lv ((rv.set m (Qkc (r.roomV n) v7 ⟨arr, tlv, tl⟩)).map RgnV.cells) :: big (RgnV.res H0) ((rv.set m (r.roomV n)).eraseIdx m) :: L.eraseIdx i) := (by rw [List.map_append]; exact hS.sp); have hS := QmE (H := H0) (rv := rv.set m (r.roomV n)) (k := m) (r := Qkc (r.roomV n) v7 ⟨arr, tlv, tl⟩) (by rw [List.length_set]; omega) (St.big_push hS).mv1; rw [List.set_set] at hS; obtain ⟨e6, e7, e8⟩ := put_yes (t := ⟨arr, tl⟩) (kind := kind) hcd hsl hrs; have ho2 : HpO (N + 1) (s.put ⟨2, m, vt, vn⟩ n ⟨arr, tl⟩) (rv.set m (Qkc (r.roomV n) v7 ⟨arr, tlv, tl⟩)) := ⟨by rw [List.map_set, QmL, e3, ho.hr, e6]; rfl, HpS.ok_put hok hn htl⟩; rw [e8, hcd]; exact ⟨_, rfl, by rw [abs_len]; rfl, (Qm ho2 (by rw [e7, e6]; exact hS)).back hi⟩)))
  · have hcan : s.can v = false := by unfold HpS.can; rw [decide_eq_false hk, Bool.false_and]
    have hc := Qn9 (n := n) hcan
    obtain ⟨e1, e2⟩ := Qli (s := s) (v := v) (n := n) (by omega) kind ⟨arr, tl⟩
    rw [e1, e2, hc]
    all_goals refine Q37 ?_
    all_goals (unfold heap_Heap_put_lc; refine Q0 ?_; refine Q1 ?_; refine Q2c hS vw (by rfl) ?_; intro b6 w1 hS; simp only [Val.cells] at hS; refine Q2c hS vw (by rfl) ?_; intro b9 w1 hS; refine Q8 hS ?_; intro b10 w1 hS; refine zm ?_; refine zn ?_; refine Q0 ?_; refine Q0 ?_; refine Q1 ?_; refine zf0 ?_; refine zl hS ?_)
    all_goals (refine Q1o ?_)
    all_goals (refine zm ?_; refine zgn ?_; refine zgn ?_; refine zgn ?_; refine zgn ?_; refine zgn ?_; refine zpt ?_; refine zn ?_)
    all_goals refine zct ?_
    all_goals (refine Q0 ?_; refine Q1 ?_; refine zb0 [_, _, _, _] ?_; refine zsn hS ?_; intro w1 hS; have hS := hS.ns; refine zm ?_; refine zn ?_; refine zr ?_; refine Q36 vw (Qg (n := 4) (by kernel_rfl) (by kernel_rfl) (hS.blkAt fd) (by rfl) (by rfl)) vw ?_; exact ⟨_, rfl, rfl, (Qm ho1 (L := L.eraseIdx i) hS.sp).back hi⟩)
/-- slices.Clone of values: what is read may be any thing that reads so. -/
theorem hclone_c {v : Value} {l : List Val} (hS : St cx w L) (hi : nth L i = some (sl H0.Tv 4 v (l.map Val.cells))) (hl : l.length ≤ 1000000) : Rets Try.prog Q1u [v] w fun u w' => St cx w' (sl H0.Tv 4 u (l.map Val.cells) :: L) ∧ oneC u = true := by
  obtain ⟨a, c, hv⟩ := hS.shape hi
  have hlen : (l.map Val.cells).length = l.length := List.length_map _
  cases a with
  | none =>
    have hn : l.map Val.cells = [] := by
      obtain ⟨F, hr, _⟩ := hS.step hi
      obtain ⟨_, ⟨_, h2, _⟩ | ⟨b, off, cap, arr, h1, _⟩⟩ := hr
      · exact h2
      · rw [hv] at h1; simp at h1
    subst hv
    all_goals refine Q1m ?_
    all_goals (unfold slices_Clone_heap_Val_heap_Val_lc; refine Q0 ?_; refine Q1 ?_; refine zm ?_; refine zn ?_; refine Q0 ?_; refine Q0 ?_; refine Q1 ?_; refine zm ?_; refine QaT (e := 108) (by kernel_rfl) rfl rfl ?_; refine zn ?_)
    all_goals refine zct ?_
    all_goals (refine Q0 ?_; refine Q1 ?_; refine zm ?_; refine zn ?_; refine zr ?_; refine zf ?_; exact ⟨_, rfl, by rw [hn]; exact hS.nil, rfl⟩)
  | some a =>
    all_goals refine Q1m ?_
    all_goals (unfold slices_Clone_heap_Val_heap_Val_lc; refine Q0 ?_; refine Q1 ?_; refine zm ?_; refine zn ?_; refine Q0 ?_; refine Q0 ?_; refine Q1 ?_; refine zm ?_; refine QaT (e := 108) (by kernel_rfl) hv rfl ?_; refine zn ?_)
    all_goals refine zcf ?_
    all_goals (refine zsk ?_; refine Q0 ?_; refine Q1 ?_; refine Qk4 Qf1 ?_; intro v1 w1 hf1 hs1 hz1; have hS := hS.new (r := sl 108 4 v1 []) hs1 hf1 (fun b hb => Nat.le_of_eq hb.symm); refine zm ?_; refine Q3w Qf1 (.inl Qh5) hS vw vw nth0 (St.srcS (i := i + 1) (T := H0.Tv) (v := v) (css := l.map Val.cells) hS hi (Qm6 l)) (by rw [hlen, List.length_nil]; omega) ?_; intro v2 w2 hS; have hS := hS.ns; have h1 := hS.oneC nth0; refine zm ?_; refine zn ?_; refine zr ?_; refine zf ?_; exact ⟨_, rfl, hS, h1⟩)
theorem hopen_c (hN : N ≤ 100000) (hS : St cx w L) (hi : nth L i = some (Q1D N h s)) : Rets Try.prog Q98 [h] w fun u w' => u = .tuple #[s.openV.v, .bool (!s.full)] ∧ St cx w' (L.set i (Q1D (N + 1) h s.open)) := by
  obtain ⟨hok, b, rfl⟩ := Q2M hS hi
  obtain ⟨lv, rv, ho, hS⟩ := Q9s hS hi
  have hlv := hok.live
  have hlen := ho.len
  have hsl := hok.len
  cases hf : s.full with
  | true =>
    have h16 : s.live = 16 := of_decide_eq_true hf
    have e1 : s.open = s := by unfold HpS.open; rw [hf]; rfl
    have e2 : s.openV = Val.zero := by unfold HpS.openV; rw [hf]; rfl
    rw [e1, e2]
    all_goals refine Q4s ?_
    all_goals (unfold heap_Heap_Open_lc; refine Q0 ?_; refine Q1 ?_; refine Q8 hS ?_; intro p2 w1 hS; refine zm ?_; refine zn ?_; refine Q0 ?_; refine Q0 ?_; refine Q1 ?_; refine zm ?_; refine znc ?_; refine zf0 ?_; refine zl hS ?_)
    all_goals (refine Qx ?_)
    all_goals (refine zn ?_)
    all_goals refine zct ?_
    all_goals (refine Q0 ?_; refine Q1 ?_; refine zb0 [_, _, _, _] ?_; refine zsn hS ?_; intro w1 hS; have hS := hS.ns; refine zm ?_; refine zn ?_; refine zr ?_; refine Q36 vw (Qg (n := 4) (by kernel_rfl) (by kernel_rfl) (hS.blkAt fd) (by rfl) (by rfl)) vw ?_; exact ⟨_, rfl, rfl, (Qm (⟨ho.hr, hok.mono (by omega)⟩ : HpO (N + 1) s rv) (L := L.eraseIdx i) hS.sp).back hi⟩)
  | false =>
    have h16 : s.live ≠ 16 := of_decide_eq_false hf
    have e1 : s.open = ⟨s.l ++ [⟨true, [], 0, 0⟩], s.left⟩ := by unfold HpS.open; rw [hf]; rfl
    have e2 : s.openV = ⟨2, s.l.length, 0, 0⟩ := by unfold HpS.openV; rw [hf]; rfl
    have e3 : (s.open.live : Int) = s.live + 1 := by
      have : s.open.live = s.live + 1 := by rw [e1]; unfold HpS.live; simp [List.countP_append]
      omega
    have ho2 : HpO (N + 1) s.open (rv ++ [⟨true, .slice none 0 0, [], 0, 0⟩]) := ⟨by rw [List.map_append, ho.hr, e1]; rfl, HpS.ok_open hok⟩
    all_goals refine Q4s ?_
    all_goals (unfold heap_Heap_Open_lc; refine Q0 ?_; refine Q1 ?_; refine Q8 hS ?_; intro p2 w1 hS; refine zm ?_; refine zn ?_; refine Q0 ?_; refine Q0 ?_; refine Q1 ?_; refine zm ?_; refine znc ?_; refine zf0 ?_; refine zl hS ?_)
    all_goals (first | (refine Qx ?_) | (refine QE ?_))
    all_goals (refine zn ?_)
    all_goals refine zcf ?_
    all_goals (refine zsk ?_; refine Q0 ?_; refine Q1 ?_; refine zm ?_; refine znc ?_; refine zf0 ?_; refine zl hS ?_; refine zad ?_; refine znc ?_; refine zf0 ?_; refine zst hS ?_; intro w1 hS; have hS := hS.ns; refine zn ?_; refine Q0 ?_; refine Q1 ?_; refine zm ?_; refine zm ?_; refine znc ?_; refine zf0 ?_; refine zl hS ?_; refine zb1 [_, _, _, _] ?_; refine zB1 hS [_, _, _, _] ?_; intro b1 w1 hS; refine Q3w Qm2 (.inl QlD) hS vw vw fd (hS.srcB fd (by rfl) (by simp [oneC])) (by first | omega | (simp only [List.length_map, List.length_append, List.length_cons, List.length_nil, List.length_set, List.length_replicate]; omega)) ?_; intro v7 w7 hS; have hS := hS.ns; refine znc ?_; refine zf0 ?_; refine zst hS ?_; intro w1 hS; have hS := hS.ns)
    all_goals (refine zn ?_; refine Q0 ?_; refine Q1 ?_; refine zm ?_; refine znc ?_; refine zf0 ?_; refine zl hS ?_; refine Q2h (n := rv.length + 1) hS vw fd (by simp) ?_; refine Qiw rfl rfl (by omega) (by omega) ?_; rw [show ((rv.length + 1 : Nat) : Int) - 1 = s.l.length by omega]; refine zb2 [_, _, _, _] ?_; refine zsn hS ?_; intro w1 hS; have hS := hS.ns; refine zm ?_; refine zn ?_; refine zr ?_; refine Q36 vw (Qg (n := 4) (by kernel_rfl) (by kernel_rfl) (hS.blkAt fd) (by rfl) (by rfl)) vw ?_; rw [e2]; refine ⟨_, rfl, rfl, (Qm (lv := v7) ho2 (L := L.eraseIdx i) ?_).back hi⟩; rw [e3]; have hS : St cx _ (big (RgnV.res H0) rv :: blk b 90 [v7, .int .i64 s.left, .int .i64 (s.live + 1)] :: sl 136 4 v7 ((rv ++ [(⟨true, .slice none 0 0, [], 0, 0⟩ : RgnV)]).map RgnV.cells) :: L.eraseIdx i) := (by rw [List.map_append]; exact hS.sp); have hS := St.star' (St.nil (T := H0.Tt) (es := 2) (St.big_nil (ThgV.res H0) hS)); have hS := St.big_push (f := RgnV.res H0) (l := rv) (x := ⟨true, .slice none 0 0, [], 0, 0⟩) hS; rw [e1]; exact hS.sp)
theorem Qmi {s : HpS} {v : Val} (h : s.can v = false) : s.shut v = s := by unfold HpS.shut; rw [h]; rfl
theorem big_nilR {rv : List RgnV} {k : Nat} (hk : k < rv.length) {x y : Res} (hS : St cx w (x :: y :: big (RgnV.res H0) (rv.eraseIdx k) :: L)) : St cx w (x :: y :: big (RgnV.res H0) (rv.set k RgnV.nil) :: L) :=
  QmE (H := H0) (r := RgnV.nil) hk (St.nil (St.big_nil (ThgV.res H0) hS))
theorem hshut_c (v : Val) (hS : St cx w L) (hi : nth L i = some (Q1D N h s)) : Rets Try.prog Q97 [h, v.v] w fun u w' => u = .bool (s.can v) ∧ St cx w' (L.set i (Q1D N h (s.shut v))) := by
  obtain ⟨hok, b, rfl⟩ := Q2M hS hi
  obtain ⟨lv, rv, ho, hS⟩ := Q9s hS hi
  have hlv := hok.live
  by_cases hk : v.kind = 2
  · cases hh : s.has v.region with
    | false =>
      have hcan : s.can v = false := by unfold HpS.can; rw [hh, Bool.and_false]
      rw [Qmi hcan, hcan]
      all_goals refine Q2O ?_
      all_goals (unfold heap_Heap_Shut_lc; refine Q0 ?_; refine Q1 ?_; refine Q2c hS vw (by rfl) ?_; intro b6 w1 hS; simp only [Val.cells] at hS; refine zm ?_; refine zn ?_; refine Q0 ?_; refine Q0 ?_; refine Q1 ?_; refine zf0 ?_; refine zl hS ?_)
      all_goals (first | (refine Q1o ?_) | (refine Q1B ?_))
      all_goals (refine zm ?_; (first | refine zgn ?_ | (refine zgy ?_; refine zm ?_)); (first | refine zgn ?_ | (refine zgy ?_; refine zf0 ?_)); (first | refine zgn ?_ | (refine zgy ?_; refine zl hS ?_)); (first | refine zgn ?_ | (refine zgy ?_; refine zR2 (c := QeJ _ ho (St.rot1 hS)) (h := ?_); rintro v1 w1 ⟨rfl, hS⟩; rw [hh])); (first | refine zgn ?_ | (refine zgy ?_; refine znt ?_)); (first | (refine zpt ?_) | (refine zpf ?_)); refine zn ?_)
      all_goals refine zct ?_
      all_goals (refine Q0 ?_; refine Q1 ?_; refine zm ?_; refine zn ?_; refine zr ?_; refine zf ?_; exact ⟨_, rfl, rfl, (Qm ho (L := L.eraseIdx i) hS.sp).back hi⟩)
    | true =>
      obtain ⟨vk, vr, vt, vn⟩ := v
      obtain rfl : vk = 2 := hk
      obtain ⟨m, rfl, hm⟩ := ho.has_in hh
      replace hh : s.has (m : Int) = true := hh
      obtain ⟨r, hr, hrs, hsl⟩ := ho.at_ hm
      have hcan : s.can ⟨2, m, vt, vn⟩ = true := by unfold HpS.can; rw [hh]; rfl
      have hrn := ho.rng hr
      have hpg := hok.pages
      have hpr' : r.pages + s.left ≤ 1000 := hpg.2 r.abs (List.mem_of_getElem? hsl)
      have hl0 := hok.left
      have hth : r.there = true := by unfold HpS.has at hh; rw [hrs] at hh; exact hh
      have hlm : (rv.map RgnV.cells).length = rv.length := List.length_map _
      have e1 : s.shut ⟨2, m, vt, vn⟩ = ⟨s.l.set m Rgn.none, s.left + r.pages⟩ := by unfold HpS.shut; rw [if_pos hcan]; simp only [hrs, Int.toNat_natCast]; rfl
      have e2 : ((s.shut ⟨2, m, vt, vn⟩).live : Int) = s.live - 1 := by
        rw [e1]
        have h1 := Qe2 (r' := Rgn.none) hsl
        have h2 : r.abs.there = true := hth
        rw [h2] at h1
        simp only [Rgn.none, if_true, Bool.false_eq_true, if_false] at h1
        show (((s.l.set m Rgn.none).countP fun r => r.there : Nat) : Int) = ((s.l.countP fun r => r.there : Nat) : Int) - 1
        simp only [Rgn.none]
        omega
      have hlive : 1 ≤ s.live := by omega
      have ho2 : HpO N (s.shut ⟨2, m, vt, vn⟩) (rv.set m RgnV.nil) := ⟨by rw [List.map_set, ho.hr, e1]; rfl, by rw [e1]; exact HpS.ok_shut hok hsl⟩
      rw [hcan]
      all_goals refine Q2O ?_
      all_goals (unfold heap_Heap_Shut_lc; refine Q0 ?_; refine Q1 ?_; refine Q2c hS vw (by rfl) ?_; intro b6 w1 hS; simp only [Val.cells] at hS; refine zm ?_; refine zn ?_; refine Q0 ?_; refine Q0 ?_; refine Q1 ?_; refine zf0 ?_; (first | (refine Q5 hS hel rfl fd hlm (QO hr) rfl ?_) | (refine zl hS ?_)))
      all_goals (first | (refine Q1o ?_) | (refine Q1B ?_))
      all_goals (refine zm ?_; (first | refine zgn ?_ | (refine zgy ?_; refine zm ?_)); (first | refine zgn ?_ | (refine zgy ?_; refine zf0 ?_)); (first | refine zgn ?_ | (refine zgy ?_; (first | (refine Q5 hS hel rfl fd hlm (QO hr) rfl ?_) | (refine zl hS ?_)))); (first | refine zgn ?_ | (refine zgy ?_; refine zR2 (c := QeJ _ ho (St.rot1 hS)) (h := ?_); rintro v1 w1 ⟨rfl, hS⟩; rw [hh])); (first | refine zgn ?_ | (refine zgy ?_; refine znt ?_)); (first | (refine zpt ?_) | (refine zpf ?_)); refine zn ?_)
      all_goals refine zcf ?_
      all_goals (refine zsk ?_; refine Q0 ?_; refine zD [(0, none), (1, none), (2, none), (3, none), (4, none), (5, none), (6, none), (7, some none)] ?_; have hS := hS.drew; refine zm ?_; refine znc ?_; refine zf0 ?_; (first | (refine Q5 hS hel rfl fd hlm (QO hr) rfl ?_) | (refine zl hS ?_)); refine zf0 ?_; (first | (refine Q5 hS hel rfl fd hlm (QO hr) rfl ?_) | (refine zl hS ?_)); refine Qcp hS vw rfl fd (by omega) ?_; rw [hlm]; intro b12 o12 hel; refine zm ?_; refine zn ?_; refine Q0 ?_; refine zD [(0, none), (1, none), (2, none), (3, none), (4, none), (5, none), (6, none), (7, none), (8, none), (9, none), (10, none), (11, some none)] ?_; have hS := hS.drew; refine zm ?_; refine znc ?_; refine zf0 ?_; (first | (refine Q5 hS hel rfl fd hlm (QO hr) rfl ?_) | (refine zl hS ?_)); refine zm ?_; refine znc ?_; (first | refine zf0 ?_ | refine zfd ?_); refine Q5 hS hel rfl fd hlm (QO hr) rfl ?_; refine zad ?_)
      all_goals (refine znc ?_; refine zf0 ?_; refine zst hS ?_; intro w1 hS; have hS := hS.ns; refine zn ?_; refine Q0 ?_; refine Q1 ?_; refine zm ?_; refine zb0 [_, _, _, _] ?_; refine znc ?_; refine QaR hS hel rfl rfl (by rfl) fd hlm (QO hr) rfl (by simp [oneC]) (rcset (r' := RgnV.nil)) ?_; intro w8 hS; have hS := hS.ns; have hS := big_nilR hm ((QH (H := H0) hS hr).drop.drop); refine zn ?_; refine Q0 ?_; refine Q1 ?_; refine zm ?_; refine znc ?_; refine zf0 ?_; (first | (refine Q5 hS hel rfl fd hlm (QO hr) rfl ?_) | (refine zl hS ?_)); refine zsu ?_; refine znc ?_; refine zf0 ?_; refine zst hS ?_; intro w1 hS; have hS := hS.ns; refine zn ?_; refine Q0 ?_; refine Q1 ?_; refine zm ?_; refine zn ?_; refine zr ?_; refine zf ?_; exact ⟨_, rfl, rfl, (Qm ho2 (L := L.eraseIdx i) (by rw [e2, e1]; exact hS.sp)).back hi⟩)
  · have hcan : s.can v = false := by unfold HpS.can; rw [decide_eq_false hk, Bool.false_and]
    rw [Qmi hcan, hcan]
    all_goals refine Q2O ?_
    all_goals (unfold heap_Heap_Shut_lc; refine Q0 ?_; refine Q1 ?_; refine Q2c hS vw (by rfl) ?_; intro b6 w1 hS; simp only [Val.cells] at hS; refine zm ?_; refine zn ?_; refine Q0 ?_; refine Q0 ?_; refine Q1 ?_; refine zf0 ?_; refine zl hS ?_)
    all_goals (refine Q1o ?_)
    all_goals (refine zm ?_; refine zgn ?_; refine zgn ?_; refine zgn ?_; refine zgn ?_; refine zgn ?_; refine zpt ?_; refine zn ?_)
    all_goals refine zct ?_
    all_goals (refine Q0 ?_; refine Q1 ?_; refine zm ?_; refine zn ?_; refine zr ?_; refine zf ?_; exact ⟨_, rfl, rfl, (Qm ho (L := L.eraseIdx i) hS.sp).back hi⟩)
theorem HpS.ok_new {n : Int} (hn : 0 ≤ n ∧ n ≤ 1000) : (⟨[], n⟩ : HpS).Ok 0 := ⟨Nat.le_refl _, by simp, hn.1, by simp; omega, by simp [HpS.live]⟩
theorem Qlr (n : Int) (hn : 0 ≤ n ∧ n ≤ 1000) (hS : St cx w L) : Rets Try.prog Qls [.int .i64 n] w fun u w' => ∃ b, u = .pointer (some ⟨b, 0, none⟩) ∧ St cx w' (Q1D 0 (.pointer (some ⟨b, 0, none⟩)) ⟨[], n⟩ :: L) := by
  all_goals refine Qkr ?_
  all_goals (unfold heap_New_lc; refine Q0 ?_; refine Q1 ?_; refine zm ?_; refine zn ?_; refine Q0 ?_; refine Q1 ?_; refine zm ?_; refine zb1 [_, _, _] ?_; refine zb hS ?_; intro p5 w1 hS; refine zm ?_; refine zn ?_; refine zr ?_; refine zf ?_; exact ⟨_, rfl, _, rfl, Qm (lv := .slice none 0 0) (rv := []) ⟨rfl, HpS.ok_new hn⟩ ((St.nil (T := 136) (es := 4) (St.big_nil (RgnV.res H0) hS)).sub (by (repeat (first | exact Sub.same _ | refine Sub.t2 ?_ | refine Sub.t0 ?_ | refine Sub.t1 ?_)); first | done | fail))⟩)
theorem hlen_c (v : Val) (hS : St cx w L) (hi : nth L i = some (Q1D N h s)) : Rets Try.prog Q3j [h, v.v] w fun u w' => u = .tuple #[.int .i64 (s.len v).1, .int .i64 (s.len v).2] ∧ St cx w' L := by
  obtain ⟨hok, b, rfl⟩ := Q2M hS hi
  obtain ⟨lv, rv, ho, hS⟩ := Q9s hS hi
  all_goals refine Qd6 ?_
  all_goals (unfold heap_Heap_Len_lc; refine Q0 ?_; refine Q1 ?_; refine Q2c hS vw (by rfl) ?_; intro b6 w1 hS; refine zm ?_; refine zm ?_; refine zn ?_; refine Q0 ?_; refine Q1 ?_; refine zm ?_; refine zv hS ?_)
  all_goals (refine zR2 (c := hat_c v ho (St.rot1 hS)) (h := ?_); rintro v1 w1 ⟨hS, (⟨e0, rfl⟩ | ⟨k, t, th, e0, r, b7, o7, hr, hth, rfl, hel⟩)⟩)
  all_goals (refine zm ?_; refine zn ?_; refine Q0 ?_; refine Q0 ?_; refine Q1 ?_; refine zm ?_; (first | refine Qhs (e := 142) (by kernel_rfl) rfl rfl ?_ | refine Qht (e := 142) (by kernel_rfl) rfl rfl ?_); refine zn ?_)
  all_goals
    first
    | (refine zct ?_ -- Q3j c0
       all_goals (refine Q0 ?_; refine Q1 ?_; refine zm ?_; refine zm ?_; refine zn ?_; refine zr ?_; refine zf2 ?_)
       all_goals ((first | exact ⟨_, rfl, by unfold HpS.len; rw [e0]; simp only [ho.thg hr hth]; rfl, (Qm ho (L := L.eraseIdx i) hS.sp).back0 hi⟩ | exact ⟨_, rfl, by unfold HpS.len; rw [e0], (Qm ho (L := L.eraseIdx i) hS.sp).back0 hi⟩)))
    | (refine zcf ?_ -- Q3j c0
       all_goals refine zsk ?_)
  all_goals (refine Q0 ?_; refine Q1 ?_; refine zm ?_; refine znc ?_; (first | refine zf0 ?_ | refine zfd ?_); refine Q5 (QH (H := H0) hS hr) hel rfl nth0 (List.length_map _) (Q4z hth) rfl ?_; refine Q2h (QaP (H := H0) (QH (H := H0) hS hr) hth) vw nth0 (by exact List.length_map _) ?_; refine zm ?_; refine zm ?_; refine zn ?_; refine zr ?_; refine zf2 ?_; exact ⟨_, rfl, by unfold HpS.len; rw [e0]; simp only [ho.thg hr hth]; rfl, (Qm ho (L := L.eraseIdx i) hS.sp).back0 hi⟩)
theorem QeK (v : Val) (k : Int) (hS : St cx w L) (hi : nth L i = some (Q1D N h s)) : Rets Try.prog Q1X [h, v.v, .int .i64 k] w fun u w' => u = .tuple #[(s.get v k).1.v, .int .i64 (s.get v k).2] ∧ St cx w' L := by
  obtain ⟨hok, b, rfl⟩ := Q2M hS hi
  obtain ⟨lv, rv, ho, hS⟩ := Q9s hS hi
  all_goals refine Qde ?_
  all_goals (unfold heap_Heap_Get_lc; refine Q0 ?_; refine Q1 ?_; refine Q2c hS vw (by rfl) ?_; intro b6 w1 hS; refine Q8 hS ?_; intro b8 w1 hS; refine zm ?_; refine zn ?_; refine Q0 ?_; refine Q1 ?_; refine zm ?_; refine zv hS ?_)
  all_goals (refine zR2 (c := hat_c v ho (St.rot2 hS)) (h := ?_); rintro v1 w1 ⟨hS, (⟨e0, rfl⟩ | ⟨kr, t, th, e0, r, b7, o7, hr, hth, rfl, hel⟩)⟩)
  all_goals (refine zm ?_; refine zn ?_; refine Q0 ?_; refine Q0 ?_; refine Q1 ?_; refine zm ?_; (first | refine Qhs (e := 142) (by kernel_rfl) rfl rfl ?_ | refine Qht (e := 142) (by kernel_rfl) rfl rfl ?_); refine zn ?_)
  all_goals
    first
    | (refine zct ?_ -- Q1X c0
       all_goals (refine Q0 ?_; refine Q1 ?_; refine zb0 [_, _, _, _] ?_; refine zsn hS ?_; intro w1 hS; have hS := hS.ns; refine zm ?_; refine zn ?_; refine zr ?_; refine Q36 vw (Qg (n := 4) (by kernel_rfl) (by kernel_rfl) (hS.blkAt fd) (by rfl) (by rfl)) vw ?_)
       all_goals (have hge : s.get v k = (Val.zero, 20) := (by unfold HpS.get; rw [e0]); rw [hge]; exact ⟨_, rfl, rfl, (Qm ho (L := L.eraseIdx i) hS.sp).back0 hi⟩))
    | (refine zcf ?_ -- Q1X c0
       all_goals refine zsk ?_)
  all_goals (refine Q0 ?_; refine Q0 ?_; have hge : s.get v k = if 0 ≤ k ∧ k < th.l.length then (th.l.getD k.toNat Val.zero, 0) else (Val.zero, 1) := (by unfold HpS.get; rw [e0]; simp only [ho.thg hr hth]; rfl); refine Q1 ?_; refine zm ?_)
  all_goals (first | (refine Q1G ?_) | (refine Q1N ?_) | (refine QJ rfl rfl (fun hc => ?_) (fun hc => ?_)))
  all_goals (refine zm ?_; (first | refine zgn ?_ | (refine zgy ?_; refine zm ?_)); (first | refine zgn ?_ | (refine zgy ?_; refine zm ?_)); (first | refine zgn ?_ | (refine zgy ?_; refine znc ?_)); (first | refine zgn ?_ | (refine zgy ?_; (first | refine zf0 ?_ | refine zfd ?_))); (first | refine zgn ?_ | (refine zgy ?_; refine Q5 (QH (H := H0) hS hr) hel rfl nth0 (List.length_map _) (Q4z hth) rfl ?_)); (first | (refine zgn ?_) | (refine zgy ?_; refine Q2h (QaP (H := H0) (QH (H := H0) hS hr) hth) vw nth0 (by exact List.length_map _) ?_)))
  all_goals (first | refine zgn ?_ | (refine zgy ?_; (first | (refine Q7T ?_) | (refine QaN ?_) | (refine Q34 rfl rfl (fun hc => ?_) (fun hc => ?_)))))
  all_goals ((first | (refine zpt ?_) | (refine zpf ?_)); refine zn ?_)
  all_goals
    first
    | (refine zct ?_ -- Q1X c1
       all_goals (refine Q0 ?_; refine Q1 ?_; refine zb0 [_, _, _, _] ?_; refine zsn hS ?_; intro w1 hS; have hS := hS.ns; refine zm ?_; refine zn ?_; refine zr ?_; refine Q36 vw (Qg (n := 4) (by kernel_rfl) (by kernel_rfl) (hS.blkAt fd) (by rfl) (by rfl)) vw ?_)
       all_goals ((first | (have hge : s.get v k = (Val.zero, 20) := (by unfold HpS.get; rw [e0]); rw [hge]; exact ⟨_, rfl, rfl, (Qm ho (L := L.eraseIdx i) hS.sp).back0 hi⟩) | (rw [if_neg (by omega)] at hge; rw [hge]; exact ⟨_, rfl, rfl, (Qm ho (L := L.eraseIdx i) hS.sp).back0 hi⟩))))
    | (refine zcf ?_ -- Q1X c1
       all_goals refine zsk ?_)
  all_goals (refine Q0 ?_; refine Q1 ?_; refine zm ?_; refine znc ?_; (first | refine zf0 ?_ | refine zfd ?_); refine Q5 (QH (H := H0) hS hr) hel rfl nth0 (List.length_map _) (Q4z hth) rfl ?_; refine zm ?_; refine Qhv (QaP (H := H0) (QH (H := H0) hS hr) hth) vw rfl nth0 (by omega) (by first | omega | (simp only [List.length_map, List.length_append, List.length_cons, List.length_nil, List.length_set, List.length_replicate]; omega)) ?_; rw [List.length_map]; intro b9 o9 hel9; refine Qhu (QaP (H := H0) (QH (H := H0) hS hr) hth) hel9 rfl nth0 (List.length_map _) (vcget (by omega)) ?_; refine Q3u hS rfl rfl (by rfl) fd (by simp) (by simp [Val.cells, oneC]) (by rfl) ?_; intro w1 hS; have hS := hS.ns; refine zm ?_; refine zn ?_; refine zr ?_; refine Q36 vw (Qg (n := 4) (by kernel_rfl) (by kernel_rfl) (hS.blkAt fd) (by rfl) (by rfl)) vw ?_; (first | (have hge : s.get v k = (Val.zero, 20) := (by unfold HpS.get; rw [e0]); rw [hge]; exact ⟨_, rfl, rfl, (Qm ho (L := L.eraseIdx i) hS.sp).back0 hi⟩) | (rw [if_neg (by omega)] at hge; rw [hge]; exact ⟨_, rfl, rfl, (Qm ho (L := L.eraseIdx i) hS.sp).back0 hi⟩) | (rw [if_pos (by omega)] at hge; rw [hge]; exact ⟨_, rfl, rfl, (Qm ho (L := L.eraseIdx i) hS.sp).back0 hi⟩)))
theorem Q3d (v : Val) : ∀ u ∈ v.cells, oneC u = true := by simp [Val.cells, oneC]
theorem vcset {l : List Val} {k : Nat} {x : Val} : (l.map Val.cells).set k x.cells = (l.set k x).map Val.cells := List.map_set.symm
theorem Q9P {s : HpS} {v : Val} {k : Int} {x : Val} (h : s.setC v k x ≠ 0) : s.set v k x = s := by
  unfold HpS.set
  split
  · rfl
  · rw [if_neg h]
def upd2 (r : RgnV) (t : Nat) (th : ThgV) (k : Nat) (x : Val) : RgnV := ⟨r.there, r.lv, r.l.set t ⟨th.array, th.lv, th.l.set k x⟩, r.pages, r.used⟩
theorem upd2_abs {r : RgnV} {t k : Nat} {th : ThgV} {x : Val} : (upd2 r t th k x).abs = r.abs.upd t (th.abs.upd k x) := by simp [upd2, RgnV.abs, Rgn.upd, List.map_set]; rfl
theorem set_yes {s : HpS} {v : Val} {k : Int} {x : Val} {kr t : Nat} {r : RgnV} {th : ThgV} {rv : List RgnV} (ho : HpO N s rv) (hr : rv[kr]? = some r) (hth : r.l[t]? = some th) (e0 : s.at_ v = some (kr, t)) (hc : s.setC v k x = 0) (hk : k.toNat < th.l.length) :
    s.set v k x = ⟨s.l.set kr (r.abs.upd t (th.abs.upd k.toNat x)), s.left⟩ ∧ (s.set v k x).live = s.live ∧ HpO N (s.set v k x) (rv.set kr (upd2 r t th k.toNat x)) := by
  obtain ⟨r', h1, h2, h3⟩ := ho.at_ (List.getElem?_eq_some_iff.1 hr).1
  rw [hr] at h1; cases h1
  have e : s.set v k x = ⟨s.l.set kr (r.abs.upd t (th.abs.upd k.toNat x)), s.left⟩ := by
    unfold HpS.set; rw [e0]; simp only [hc, if_true, h2, ho.thg hr hth]
  have hl := Qe2 (r' := r.abs.upd t (th.abs.upd k.toNat x)) h3
  have hth2 : (r.abs.upd t (th.abs.upd k.toNat x)).there = r.abs.there := rfl
  rw [hth2] at hl
  have hlive : (s.set v k x).live = s.live := by
    rw [e]; show (s.l.set kr _).countP (fun r => r.there) = s.l.countP fun r => r.there; omega
  obtain ⟨g1, g2, g3, g4, g5, g6⟩ := ho.rng hr
  refine ⟨e, hlive, ⟨by rw [List.map_set, upd2_abs, ho.hr, e], ?_⟩⟩
  rw [e]
  have hok := ho.ok
  have hth3 : r.there = true := by
    cases hx : r.there with
    | true => rfl
    | false =>
      have := (g6 hx).1
      have := (List.getElem?_eq_some_iff.1 hth).1
      omega
  refine HpS.ok_set hok h3 (Nat.le_refl _) hok.left rfl (by show s.live + _ ≤ _; have := hok.live; rw [hth2]; omega) ⟨by simp [Rgn.upd, RgnV.abs]; exact g1, fun y hy => ?_, g3, g4, g5, fun hf => by simp [Rgn.upd, RgnV.abs, hth3] at hf⟩
  rcases mem_set_or hy with rfl | hy
  · simp only [Thg.upd, List.length_set]; exact g2 th (List.mem_of_getElem? hth)
  · obtain ⟨z, hz, rfl⟩ := List.mem_map.1 hy; exact g2 z hz
theorem hset_c (v : Val) (k : Int) (x : Val) (hS : St cx w L) (hi : nth L i = some (Q1D N h s)) : Rets Try.prog Q1W [h, v.v, .int .i64 k, x.v] w fun u w' => u = .int .i64 (s.setC v k x) ∧ St cx w' (L.set i (Q1D N h (s.set v k x))) := by
  obtain ⟨hok, b, rfl⟩ := Q2M hS hi
  obtain ⟨lv, rv, ho, hS⟩ := Q9s hS hi
  all_goals refine QcZ ?_
  all_goals (unfold heap_Heap_Set_lc; refine Q0 ?_; refine Q1 ?_; refine Q2c hS vw (by rfl) ?_; intro b6 w1 hS; refine Q2c hS vw (by rfl) ?_; intro b8 w1 hS; simp only [Val.cells] at hS; refine zm ?_; refine zn ?_; refine Q0 ?_; refine Q1 ?_; refine zm ?_; refine zv hS ?_)
  all_goals (refine zR2 (c := hat_c v ho (St.rot2 hS)) (h := ?_); rintro v1 w1 ⟨hS, (⟨e0, rfl⟩ | ⟨kr, t, th, e0, r, b7, o7, hr, hth, rfl, hel⟩)⟩)
  all_goals (refine zm ?_; refine zn ?_; refine Q0 ?_; refine Q0 ?_; refine Q1 ?_; refine zm ?_; (first | refine Qhs (e := 142) (by kernel_rfl) rfl rfl ?_ | refine Qht (e := 142) (by kernel_rfl) rfl rfl ?_); refine zm ?_; (first | refine zgn ?_ | (refine zgy ?_; refine zm ?_)); (first | refine zgn ?_ | (refine zgy ?_; refine znc ?_)); (first | refine zgn ?_ | (refine zgy ?_; (first | refine zf0 ?_ | refine zfd ?_))))
  all_goals (first | (refine zgn ?_) | (have hge : s.setC v k x = (if th.array = true ∧ x.kind ≠ 1 then 20 else if 0 ≤ k ∧ k < th.l.length then 0 else 1) := (by unfold HpS.setC; rw [e0]; simp only [ho.thg hr hth]; rfl); refine zgy ?_; refine Q5 (j := 0) (u := .bool th.array) (QH (H := H0) hS hr) hel rfl nth0 (List.length_map _) (Q4z hth) rfl ?_; cases hta : th.array <;> by_cases hx1 : x.kind = 1))
  all_goals ((first | refine zgn ?_ | (refine zgy ?_; refine zm ?_)); (first | refine zgn ?_ | (refine zgy ?_; refine zf0 ?_)); (first | refine zgn ?_ | (refine zgy ?_; (first | (refine Q5 (QH (H := H0) hS hr) hel rfl nth0 (List.length_map _) (Q4z hth) rfl ?_) | (refine zl hS ?_)))))
  all_goals (first | refine zgn ?_ | (refine zgy ?_; (first | (refine Q1o ?_) | (refine Q1B ?_))))
  all_goals ((first | refine zgn ?_ | (refine zgy ?_; (first | (refine zpt ?_) | (refine zpf ?_)))); (first | (refine zpt ?_) | (refine zpf ?_)); refine zn ?_)
  all_goals
    first
    | (refine zct ?_ -- Q1W c0
       all_goals (refine Q0 ?_; refine Q1 ?_; refine zm ?_; refine zn ?_; refine zr ?_; refine zf ?_)
       all_goals ((first | (have hc1 : s.setC v k x = 20 := (by unfold HpS.setC; rw [e0]; first | done | fail); rw [Q9P (by omega), hc1]; exact ⟨_, rfl, rfl, (Qm ho (L := L.eraseIdx i) hS.sp).back hi⟩) | (have hc1 : s.setC v k x = 20 := (by rw [hge, if_pos ⟨hta, hx1⟩]); rw [Q9P (by omega), hc1]; exact ⟨_, rfl, rfl, (Qm ho (L := L.eraseIdx i) hS.sp).back hi⟩))))
    | (refine zcf ?_ -- Q1W c0
       all_goals refine zsk ?_)
  all_goals (refine Q0 ?_; refine Q0 ?_; refine Q1 ?_; refine zm ?_)
  all_goals (first | (refine Q1G ?_) | (refine Q1N ?_) | (refine QJ rfl rfl (fun hc => ?_) (fun hc => ?_)))
  all_goals (refine zm ?_; (first | refine zgn ?_ | (refine zgy ?_; refine zm ?_)); (first | refine zgn ?_ | (refine zgy ?_; refine zm ?_)); (first | refine zgn ?_ | (refine zgy ?_; refine znc ?_)); (first | refine zgn ?_ | (refine zgy ?_; (first | refine zf0 ?_ | refine zfd ?_))); (first | refine zgn ?_ | (refine zgy ?_; refine Q5 (QH (H := H0) hS hr) hel rfl nth0 (List.length_map _) (Q4z hth) rfl ?_)); (first | refine zgn ?_ | (refine zgy ?_; refine Q2h (QaP (H := H0) (QH (H := H0) hS hr) hth) vw nth0 (by exact List.length_map _) ?_)))
  all_goals (first | refine zgn ?_ | (refine zgy ?_; (first | (refine Q7T ?_) | (refine QaN ?_) | (refine Q34 rfl rfl (fun hc => ?_) (fun hc => ?_)))))
  all_goals ((first | (refine zpt ?_) | (refine zpf ?_)); refine zn ?_)
  all_goals
    first
    | (refine zct ?_ -- Q1W c1
       all_goals (refine Q0 ?_; refine Q1 ?_; refine zm ?_; refine zn ?_; refine zr ?_; refine zf ?_)
       all_goals ((first | (have hc1 : s.setC v k x = 20 := (by unfold HpS.setC; rw [e0]; first | done | fail); rw [Q9P (by omega), hc1]; exact ⟨_, rfl, rfl, (Qm ho (L := L.eraseIdx i) hS.sp).back hi⟩) | (have hc1 : s.setC v k x = 20 := (by rw [hge, if_pos ⟨hta, hx1⟩]); rw [Q9P (by omega), hc1]; exact ⟨_, rfl, rfl, (Qm ho (L := L.eraseIdx i) hS.sp).back hi⟩) | (have hc1 : s.setC v k x = 1 := (by rw [hge, if_neg (by simp [hta, hx1]), if_neg (by omega)]); rw [Q9P (by omega), hc1]; exact ⟨_, rfl, rfl, (Qm ho (L := L.eraseIdx i) hS.sp).back hi⟩))))
    | (refine zcf ?_ -- Q1W c1
       all_goals refine zsk ?_)
  all_goals (refine Q0 ?_; have hS := QaP (H := H0) (QH (H := H0) hS hr) hth; refine zD [(0, none), (1, none), (2, none), (3, none), (4, none), (5, none), (6, none), (7, some none)] ?_; have hS := hS.drew; refine zm ?_; refine znc ?_; (first | refine zf0 ?_ | refine zfd ?_); refine Q5 hS hel rfl fd (List.length_map _) (Q4z hth) rfl ?_; refine zm ?_; refine zv hS ?_; refine Qhv hS vw rfl nth0 (by omega) (by first | omega | (simp only [List.length_map, List.length_append, List.length_cons, List.length_nil, List.length_set, List.length_replicate]; omega)) ?_; rw [List.length_map]; intro b9 o9 hel9; refine QaR hS hel9 rfl rfl (by rfl) nth0 (List.length_map _) (vcget (by omega)) rfl (Q3d x) vcset ?_; intro w8 hS; have hS := hS.ns; have hS := thg_in (H := H0) (l := r.l) (k := t) (t := ⟨th.array, th.lv, th.l.set k.toNat x⟩) (List.getElem?_eq_some_iff.1 hth).1 hS; refine zn ?_; refine Q0 ?_; refine Q1 ?_; refine zm ?_; refine zn ?_; refine zr ?_; refine zf ?_; (first | (have hc1 : s.setC v k x = 20 := (by unfold HpS.setC; rw [e0]; first | done | fail); rw [Q9P (by omega), hc1]; exact ⟨_, rfl, rfl, (Qm ho (L := L.eraseIdx i) hS.sp).back hi⟩) | (have hc1 : s.setC v k x = 20 := (by rw [hge, if_pos ⟨hta, hx1⟩]); rw [Q9P (by omega), hc1]; exact ⟨_, rfl, rfl, (Qm ho (L := L.eraseIdx i) hS.sp).back hi⟩) | (have hc1 : s.setC v k x = 1 := (by rw [hge, if_neg (by simp [hta, hx1]), if_neg (by omega)]); rw [Q9P (by omega), hc1]; exact ⟨_, rfl, rfl, (Qm ho (L := L.eraseIdx i) hS.sp).back hi⟩) | (have hc1 : s.setC v k x = 0 := (by rw [hge, if_neg (by simp [hta, hx1]), if_pos (by omega)]); obtain ⟨e1, e2, ho2⟩ := set_yes ho hr hth e0 hc1 (by omega); rw [hc1]; have htc : ((r.l.set t ⟨th.array, th.lv, th.l.set k.toNat x⟩).map ThgV.cells) = r.l.map ThgV.cells := (by rw [List.map_set]; exact Qhq (by rw [List.getElem?_map, hth]; rfl)); rw [← htc] at hS; have hS := QmE (H := H0) (rv := rv) (k := kr) (r := upd2 r t th k.toNat x) (List.getElem?_eq_some_iff.1 hr).1 (L := L.eraseIdx i) (by unfold upd2; exact hS.sp); refine ⟨_, rfl, rfl, (Qm (lv := lv) ho2 (L := L.eraseIdx i) ?_).back hi⟩; have hbc : ((rv.set kr (upd2 r t th k.toNat x)).map RgnV.cells) = rv.map RgnV.cells := (by rw [List.map_set]; exact Qhq (by rw [List.getElem?_map, hr]; rfl)); rw [e2]; unfold Qah; rw [hbc, e1]; exact hS)))
theorem QmT (l : List Val) : max (l.length : Int) 1 = Q4x l := by unfold Q4x; split <;> omega
theorem Qm5 {l : List Val} (h : l.length ≤ 1000) : 1 ≤ Q4x l ∧ Q4x l ≤ 1000 := by unfold Q4x; split <;> omega
theorem htuple_c (v : Val) (vl : Value) (l : List Val) {j : Nat} (hN : N ≤ 100000) (hl : l.length ≤ 1000) (hS : St cx w L) (hi : nth L i = some (Q1D N h s)) (hj : nth L j = some (sl H0.Tv 4 vl (l.map Val.cells))) :
    Rets Try.prog Q7y [h, v.v, vl] w fun u w' => u = .tuple #[(s.putV v 3 (Q4x l)).v, .int .i64 (s.code v (Q4x l))] ∧ St cx w' (L.set i (Q1D (N + 1) h (s.tuple v l))) := by
  have hlen : (l.map Val.cells).length = l.length := List.length_map _
  all_goals refine Qa4 ?_
  all_goals (unfold heap_Heap_Tuple_lc; refine Q0 ?_; refine Q1 ?_; refine Q2c hS vw (by rfl) ?_; intro b4 w1 hS; simp only [Val.cells] at hS; refine Q8 hS ?_; intro b6 w1 hS; refine zm ?_; refine zn ?_; refine Q0 ?_; refine zC [(0, none), (1, none), (2, none), (3, none), (4, none), (5, none), (6, some (some [1])), (7, none), (8, some none), (9, none), (10, none), (11, some none), (12, some none)] ?_; have hS := hS.drew; refine s_cq ?_; refine zm ?_; refine zt ?_; refine s_cq ?_; refine zv hS ?_; refine zt ?_; refine s_cq ?_; refine zm ?_; refine zt ?_; refine s_cq ?_; refine Q2h hS vw (show nth (_ :: _ :: L) (j + 2) = _ from hj) hlen ?_; refine zt ?_; refine s_cq ?_; refine s_max rfl rfl ?_; rw [QmT]; refine zt ?_; refine s_cq ?_; refine zm ?_; refine zt ?_; refine Qi ?_; refine zR1 (c := hclone_c hS (show nth (_ :: _ :: L) (j + 2) = _ from hj) (by omega)) (h := ?_); rintro v1 w1 ⟨hS, hone⟩; obtain ⟨a_, c_, rfl⟩ := hS.shape nth0; refine zt ?_; refine zy ?_; refine s_cq ?_; refine zb1 [_, _] ?_; refine zt ?_; refine s_cf ?_; refine Qlc vw vw vw vw vw (hput_c v 3 (Q4x l) false _ l (Qm5 hl) hN hl hone hS (show nth (_ :: _ :: L) (i + 2) = _ from hi)) ?_; rintro v2 w2 ⟨rfl, hS⟩; have hS := hS.ns)
  all_goals (refine zt ?_; refine s_cq ?_; refine zxt ?_; refine zt ?_; refine s_cq ?_; refine zxt ?_; refine zt ?_; refine s_cf ?_; refine Q3u hS rfl rfl (by rfl) fd (by simp) (Q3d _) (by rfl) ?_; intro w1 hS; have hS := hS.ns; refine zt ?_; refine s_cf ?_; refine zm ?_; refine zt ?_; refine zcn ?_; refine zr ?_; refine Q36 vw (Qg (n := 4) (by kernel_rfl) (by kernel_rfl) (hS.blkAt fd) (by rfl) (by rfl)) vw ?_; exact ⟨_, rfl, rfl, hS.drop.drop⟩)
theorem QiE {j : Nat} : (Q4H ((j : Int) + 1)) = Q4H j ++ [⟨1, 0, 0, 0⟩] := by
  unfold Q4H; rw [show ((j : Int) + 1).toNat = j + 1 by omega, Int.toNat_natCast, List.replicate_succ']
theorem Qkg {n : Nat} : (Q4H n).length = n := by simp [Q4H]
theorem QhM (v : Val) (n : Int) (hN : N ≤ 100000) (hS : St cx w L) (hi : nth L i = some (Q1D N h s)) :
    Rets Try.prog Q7z [h, v.v, .int .i64 n] w fun u w' => u = .tuple #[(s.arrV v n).v, .int .i64 (s.arrC v n)] ∧ St cx w' (L.set i (Q1D (N + 1) h (s.arr v n))) := by
  by_cases hn : n < 0 ∨ 15 < n
  · have e1 : s.arr v n = s := by unfold HpS.arr; rw [if_pos hn]
    have e2 : s.arrV v n = Val.zero := by unfold HpS.arrV; rw [if_pos hn]
    have e3 : s.arrC v n = 1 := by unfold HpS.arrC; rw [if_pos hn]
    rw [e1, e2, e3]
    obtain ⟨hok, b, rfl⟩ := Q2M hS hi
    all_goals refine Q3R ?_
    all_goals (unfold heap_Heap_Array_lc; refine Q0 ?_; refine Q1 ?_; refine Q2c hS vw (by rfl) ?_; intro b4 w1 hS; simp only [Val.cells] at hS; refine Q8 hS ?_; intro b6 w1 hS; refine zm ?_; refine zn ?_; refine Q0 ?_; refine Q0 ?_; refine Q1 ?_; refine zm ?_)
    all_goals (first | (refine Q1G ?_) | (refine Q1N ?_) | (refine QJ rfl rfl (fun hc => ?_) (fun hc => ?_)))
    all_goals (refine zm ?_; (first | refine zgn ?_ | (refine zgy ?_; refine zm ?_)))
    all_goals (first | refine zgn ?_ | (refine zgy ?_; refine QQ ?_))
    all_goals ((first | (refine zpt ?_) | (refine zpf ?_)); refine zn ?_)
    all_goals refine zct ?_
    all_goals (refine Q0 ?_; refine Q1 ?_; refine zb0 [_, _, _, _] ?_; refine zsn hS ?_; intro w1 hS; have hS := hS.ns; refine zm ?_; refine zn ?_; refine zr ?_; refine Q36 vw (Qg (n := 4) (by kernel_rfl) (by kernel_rfl) (hS.blkAt fd) (by rfl) (by rfl)) vw ?_; refine ⟨_, rfl, rfl, ?_⟩; obtain ⟨lv, rv, ho, hS⟩ := Q9s hS.drop.drop hi; exact (Qm (⟨ho.hr, hok.mono (by omega)⟩ : HpO (N + 1) s rv) hS).back hi)
  · obtain ⟨m, rfl⟩ := Int.eq_ofNat_of_zero_le (show 0 ≤ n by omega)
    have e1 : s.arr v m = s.put v (1 + m) ⟨true, Q4H m⟩ := by unfold HpS.arr; rw [if_neg hn, Int.add_comm]
    have e2 : s.arrV v m = s.putV v 4 (1 + m) := by unfold HpS.arrV; rw [if_neg hn, Int.add_comm]
    have e3 : s.arrC v m = s.code v (1 + m) := by unfold HpS.arrC; rw [if_neg hn, Int.add_comm]
    rw [e1, e2, e3]
    all_goals refine Q3R ?_
    all_goals (unfold heap_Heap_Array_lc; refine Q0 ?_; refine Q1 ?_; refine Q2c hS vw (by rfl) ?_; intro b4 w1 hS; simp only [Val.cells] at hS; refine Q8 hS ?_; intro b6 w1 hS; refine zm ?_; refine zn ?_; refine Q0 ?_; refine Q0 ?_; refine Q1 ?_; refine zm ?_)
    all_goals (first | (refine Q1G ?_) | (refine Q1N ?_))
    all_goals (refine zm ?_; (first | refine zgn ?_ | (refine zgy ?_; refine zm ?_)))
    all_goals (first | refine zgn ?_ | (refine zgy ?_; (first | (refine QQ ?_) | (refine Q1c ?_))))
    all_goals ((first | (refine zpt ?_) | (refine zpf ?_)); refine zn ?_)
    all_goals refine zcf ?_
    all_goals (refine zsk ?_; refine Q0 ?_; refine Q1 ?_; refine zb1 [_, _] ?_; refine Q8 hS ?_; intro b8 w1 hS; refine Q3u hS rfl rfl (by rfl) fd (by simp) (by first | exact Q3d _ | exact one2 rfl rfl) (by rfl) ?_; intro w1 hS; have hS := hS.ns; refine zn ?_; refine Q0 ?_; refine Q0 ?_; refine Q1 ?_; refine zm ?_; refine zm ?_; refine zn ?_; refine Qh ?_; have hS := hS.nil (T := H0.Tv) (es := 4))
    refine zo [] (fun A ρ' w' => ∃ (j : Nat) (va : Value), Has ρ' A ∧ Has ρ' [(0, h), (2, .int .i64 m), (4, .pointer (some ⟨b4, 0, none⟩)), (6, .pointer (some ⟨b6, 0, none⟩)), (8, .pointer (some ⟨b8, 0, none⟩)), (17, .int .i64 m), (18, .int .i64 j)] ∧ (j ≤ m) ∧ St cx w' (sl H0.Tv 4 va ((Q4H j).map Val.cells) :: blk b8 142 [.bool true, va] :: blk b6 108 [.int .i64 0, .int .i64 0, .int .i64 0, .int .i64 0] :: blk b4 108 [.int .i64 v.kind, .int .i64 v.region, .int .i64 v.thing, .int .i64 v.n] :: L)) (fun ρ' _ => (m - iv (ρ' 18)).toNat) ?_ ?_
    · exact ⟨0, .slice none 0 0, zh, zh, (by omega), hS.sp⟩
    rintro ρ w1 ⟨j, va, hA, hρ, hj, hS⟩; obtain ⟨ρ, rfl⟩ := env2 hA hρ; have hnl := Qkg (n := j)
    unfold Q3S
    all_goals (refine Q0 ?_; refine Q1 ?_; refine Q1h rfl rfl ?_; refine zn ?_; refine Q0 ?_)
    refine Q1g rfl (fun hc => ?_) (fun hc => ?_)
    · skip
      all_goals (refine zsk ?_; refine Q0 ?_; refine Qh ?_; refine Q1 ?_; refine zf0 ?_; refine zl hS ?_; refine zb1 [_, _, _, _] ?_; refine zB1 hS [_, _, _, _] ?_; intro b1 w1 hS; refine Q3w Qf1 (.inl Qh5) hS vw vw fd (hS.srcB fd (by rfl) (by simp [oneC])) (by first | omega | (simp only [List.length_map, List.length_append, List.length_cons, List.length_nil, List.length_set, List.length_replicate]; omega)) ?_; intro v7 w7 hS; have hS := hS.ns; refine zf0 ?_; refine zst hS ?_; intro w1 hS; have hS := hS.ns; refine zn ?_; refine Q1 ?_; refine zad ?_; refine zm ?_; refine zn ?_; exact ⟨⟨j + 1, _, zh, zh, (by omega), by rw [show ((j + 1 : Nat) : Int) = (j : Int) + 1 by omega, QiE, List.map_append]; exact hS.sp⟩, Q1j (by omega)⟩)
    · skip
      all_goals (refine zex ?_; obtain rfl : j = m := (by omega); have hone := hS.oneC nth0; refine Q0 ?_; refine Q1 ?_; refine zm ?_; refine zv hS ?_; refine zm ?_; refine zad ?_; refine zv hS ?_; refine Qlc vw vw vw vw vw (hput_c v 4 (1 + j) true va (Q4H j) (by omega) hN (by omega) hone hS (show nth (_ :: _ :: _ :: L) (i + 3) = _ from hi)) ?_; rintro v2 w2 ⟨rfl, hS⟩; have hS := hS.ns; refine zxt ?_; refine zxt ?_; refine Q3u hS rfl rfl (by rfl) fd (by simp) (by exact Q3d _) (by rfl) ?_; intro w1 hS; have hS := hS.ns; refine zm ?_; refine zn ?_; refine zr ?_; refine Q36 vw (Qg (n := 4) (by kernel_rfl) (by kernel_rfl) (hS.blkAt fd) (by rfl) (by rfl)) vw ?_; exact ⟨_, rfl, rfl, hS.drop.drop.drop⟩)
end Go.Proofs.Yteflkifmgnpbhaa
namespace Go.Lir
abbrev wr (n : Int) : Int := IntKind.i64.wrap n
def divF (a b : Int) : Int × Bool := if b = 0 then (0, false) else if b = -1 then (wr (0 - a), true) else (wr (a.tdiv b), true)
def opF (k a b : Int) : Int × Bool :=
  if k = 1 then (wr (a + b), true) else if k = 2 then (wr (a - b), true) else if k = 3 then (wr (a * b), true)
  else if k = 4 then divF a b else if k = 5 then (if (divF a b).2 then (wr (a - wr ((divF a b).1 * b)), true) else (0, false))
  else if k = 6 then (if a < b then 1 else 0, true) else if k = 7 then (if a = b then 1 else 0, true) else if k = 8 then (bitI .and .i64 a b, true) else if k = 9 then (bitI .xor .i64 a b, true) else (0, false)
end Go.Lir
namespace Go.Proofs.Yteflkifmgnpbhaa
open Go.Lir
set_option maxHeartbeats 1000000
attribute [local irreducible] LC.wp Q2 Qy QD retQ Q1n LO.wp Ql Calls
set_option linter.unusedSimpArgs false
set_option linter.unusedVariables false
theorem Qmc (b : Bool) (w : World) : Rets Try.prog Q4Y [.bool b] w fun v w' => v = .int .i64 (if b then 1 else 0) ∧ w' = w := by
  cases b
  all_goals
    all_goals refine Qgx ?_
    all_goals (unfold arith_truth_lc; refine Q0 ?_; refine Q1 ?_; refine Qu (by (conv => lhs; whnf); first | done | exact rfl) ?_; refine Q1l ?_; (repeat (first | refine Qt ?_ | refine Qk ?_)); refine Q0 ?_; refine Q0 ?_; refine Q1 ?_; refine Qu (by (conv => lhs; whnf); first | done | exact rfl) ?_; refine Q1l ?_; (repeat (first | refine Qt ?_ | refine Qk ?_)))
    all_goals
      first
      | (refine Q1E rfl ?_ -- Q4Y c0
         all_goals (refine Q0 ?_; refine Q1 ?_; refine Qu (by (conv => lhs; whnf); first | done | exact rfl) ?_; refine Q1l ?_; (repeat (first | refine Qt ?_ | refine Qk ?_)); refine Q5z ?_; (repeat (first | refine Q2U ?_ | refine Q2V ?_)); refine QmJ (by (conv => lhs; whnf); first | done | exact rfl) ?_)
         all_goals (exact ⟨_, rfl, rfl, rfl⟩))
      | (refine Q1F rfl ?_ -- Q4Y c0
         all_goals (refine Qix ?_; (repeat (first | refine Qt ?_ | refine Qk ?_))))
    all_goals (refine Q0 ?_; refine Q1 ?_; refine Qu (by (conv => lhs; whnf); first | done | exact rfl) ?_; refine Q1l ?_; (repeat (first | refine Qt ?_ | refine Qk ?_)); refine Q5z ?_; (repeat (first | refine Q2U ?_ | refine Q2V ?_)); refine QmJ (by (conv => lhs; whnf); first | done | exact rfl) ?_; exact ⟨_, rfl, rfl, rfl⟩)
theorem Qlv (a b : Int) (w : World) : Rets Try.prog Q2o [.int .i64 a, .int .i64 b] w fun v w' => v = .tuple #[.int .i64 (divF a b).1, .bool (divF a b).2] ∧ w' = w := by
  all_goals refine Qfv ?_
  all_goals (unfold arith_divide_lc; refine Q0 ?_; refine Q1 ?_; refine Qu (by (conv => lhs; whnf); first | done | exact rfl) ?_; refine Qu (by (conv => lhs; whnf); first | done | exact rfl) ?_; refine Q1l ?_; (repeat (first | refine Qt ?_ | refine Qk ?_)); refine Q0 ?_; refine Q0 ?_; refine Q1 ?_; refine Qu (by (conv => lhs; whnf); first | done | exact rfl) ?_; refine Q1l ?_; (repeat (first | refine Qt ?_ | refine Qk ?_)); refine Qh ?_; refine Q0 ?_; refine Q1 ?_)
  all_goals (first | (refine Q2w rfl rfl (by omega) ?_) | (refine Q2x rfl rfl (by omega) ?_) | (refine Qb rfl rfl (fun hc => ?_) (fun hc => ?_)))
  all_goals (refine Qu (by (conv => lhs; whnf); first | done | exact rfl) ?_; refine Q1l ?_; (repeat (first | refine Qt ?_ | refine Qk ?_)))
  all_goals
    first
    | (refine Q1E rfl ?_ -- Q2o c0
       all_goals (refine Q0 ?_; refine Q1 ?_; refine Qu (by (conv => lhs; whnf); first | done | exact rfl) ?_; refine Qu (by (conv => lhs; whnf); first | done | exact rfl) ?_; refine Q1l ?_; (repeat (first | refine Qt ?_ | refine Qk ?_)); refine Q5z ?_; (repeat (first | refine Q2U ?_ | refine Q2V ?_)); refine Q3y (by (conv => lhs; whnf); first | done | exact rfl) (by (conv => lhs; whnf); first | done | exact rfl) ?_)
       all_goals (exact ⟨_, rfl, by simp [divF, *], rfl⟩))
    | (refine Q1F rfl ?_ -- Q2o c0
       all_goals (refine Q0 ?_; refine Q1 ?_)
       all_goals (first | (refine Q2w rfl rfl (by omega) ?_) | (refine Q2x rfl rfl (by omega) ?_) | (refine Qb rfl rfl (fun hc => ?_) (fun hc => ?_)))
       all_goals (refine Qu (by (conv => lhs; whnf); first | done | exact rfl) ?_; refine Q1l ?_; (repeat (first | refine Qt ?_ | refine Qk ?_)))
       all_goals
         first
         | (refine Q1E rfl ?_ -- Q2o c1
            all_goals (refine Q0 ?_; refine Q1 ?_; refine Qu (by (conv => lhs; whnf); first | done | exact rfl) ?_; refine s_neg rfl ?_; refine Qu (by (conv => lhs; whnf); first | done | exact rfl) ?_; refine Qu (by (conv => lhs; whnf); first | done | exact rfl) ?_; refine Q1l ?_; (repeat (first | refine Qt ?_ | refine Qk ?_)); refine Q5z ?_; (repeat (first | refine Q2U ?_ | refine Q2V ?_)); refine Q3y (by (conv => lhs; whnf); first | done | exact rfl) (by (conv => lhs; whnf); first | done | exact rfl) ?_)
            all_goals (exact ⟨_, rfl, by simp [divF, *], rfl⟩))
         | (refine Q1F rfl ?_ -- Q2o c1
            all_goals (refine Qix ?_; (repeat (first | refine Qt ?_ | refine Qk ?_)))))
  all_goals (refine Q0 ?_; refine Q1 ?_; refine Qu (by (conv => lhs; whnf); first | done | exact rfl) ?_; refine Qu (by (conv => lhs; whnf); first | done | exact rfl) ?_; refine s_quo rfl rfl (by omega) ?_; refine Qu (by (conv => lhs; whnf); first | done | exact rfl) ?_; refine Qu (by (conv => lhs; whnf); first | done | exact rfl) ?_; refine Q1l ?_; (repeat (first | refine Qt ?_ | refine Qk ?_)); refine Q5z ?_; (repeat (first | refine Q2U ?_ | refine Q2V ?_)); refine Q3y (by (conv => lhs; whnf); first | done | exact rfl) (by (conv => lhs; whnf); first | done | exact rfl) ?_; exact ⟨_, rfl, by simp [divF, *], rfl⟩)
set_option maxHeartbeats 1000000 in
theorem op_c (k a b : Int) (w : World) : Rets Try.prog QM [.int .i64 k, .int .i64 a, .int .i64 b] w fun v w' => v = .tuple #[.int .i64 (opF k a b).1, .bool (opF k a b).2] ∧ w' = w := by
  cases hd : (divF a b).2
  all_goals
    all_goals refine QkW ?_
    all_goals (unfold arith_Op_lc; refine Q0 ?_; refine Q1 ?_; refine Qu (by (conv => lhs; whnf); first | done | exact rfl) ?_; refine Qu (by (conv => lhs; whnf); first | done | exact rfl) ?_; refine Q1l ?_; (repeat (first | refine Qt ?_ | refine Qk ?_)); refine Q0 ?_; refine Q0 ?_; refine Q1 ?_; refine Qu (by (conv => lhs; whnf); first | done | exact rfl) ?_; refine Q1l ?_; (repeat (first | refine Qt ?_ | refine Qk ?_)); refine Qh ?_; refine Q0 ?_; refine Q1 ?_)
    all_goals (first | (refine Q2w rfl rfl (by omega) ?_) | (refine Q2x rfl rfl (by omega) ?_) | (refine Qb rfl rfl (fun hc => ?_) (fun hc => ?_)))
    all_goals (refine Qu (by (conv => lhs; whnf); first | done | exact rfl) ?_; refine Q1l ?_; (repeat (first | refine Qt ?_ | refine Qk ?_)))
    all_goals
      first
      | (refine Q1E rfl ?_ -- QM c0
         all_goals (refine Q0 ?_; refine Q1 ?_; refine Qu (by (conv => lhs; whnf); first | done | exact rfl) ?_; refine Qu (by (conv => lhs; whnf); first | done | exact rfl) ?_; refine Qiz rfl rfl ?_; refine Qu (by (conv => lhs; whnf); first | done | exact rfl) ?_; refine Qu (by (conv => lhs; whnf); first | done | exact rfl) ?_; refine Q1l ?_; (repeat (first | refine Qt ?_ | refine Qk ?_)); refine Q5z ?_; (repeat (first | refine Q2U ?_ | refine Q2V ?_)); refine Q3y (by (conv => lhs; whnf); first | done | exact rfl) (by (conv => lhs; whnf); first | done | exact rfl) ?_)
         all_goals (exact ⟨_, rfl, by simp [opF, *], rfl⟩))
      | (refine Q1F rfl ?_ -- QM c0
         all_goals (refine Q0 ?_; refine Q1 ?_)
         all_goals (first | (refine Q2w rfl rfl (by omega) ?_) | (refine Q2x rfl rfl (by omega) ?_) | (refine Qb rfl rfl (fun hc => ?_) (fun hc => ?_)))
         all_goals (refine Qu (by (conv => lhs; whnf); first | done | exact rfl) ?_; refine Q1l ?_; (repeat (first | refine Qt ?_ | refine Qk ?_)))
         all_goals
           first
           | (refine Q1E rfl ?_ -- QM c1
              all_goals (refine Q0 ?_; refine Q1 ?_; refine Qu (by (conv => lhs; whnf); first | done | exact rfl) ?_; refine Qu (by (conv => lhs; whnf); first | done | exact rfl) ?_; (first | (refine Qiz rfl rfl ?_) | (refine Qhr rfl rfl ?_)); refine Qu (by (conv => lhs; whnf); first | done | exact rfl) ?_; refine Qu (by (conv => lhs; whnf); first | done | exact rfl) ?_; refine Q1l ?_; (repeat (first | refine Qt ?_ | refine Qk ?_)); refine Q5z ?_; (repeat (first | refine Q2U ?_ | refine Q2V ?_)); refine Q3y (by (conv => lhs; whnf); first | done | exact rfl) (by (conv => lhs; whnf); first | done | exact rfl) ?_)
              all_goals (exact ⟨_, rfl, by simp [opF, *], rfl⟩))
           | (refine Q1F rfl ?_ -- QM c1
              all_goals (refine Q0 ?_; refine Q1 ?_)
              all_goals (first | (refine Q2w rfl rfl (by omega) ?_) | (refine Q2x rfl rfl (by omega) ?_) | (refine Qb rfl rfl (fun hc => ?_) (fun hc => ?_)))
              all_goals (refine Qu (by (conv => lhs; whnf); first | done | exact rfl) ?_; refine Q1l ?_; (repeat (first | refine Qt ?_ | refine Qk ?_)))
              all_goals
                first
                | (refine Q1E rfl ?_ -- QM c2
                   all_goals (refine Q0 ?_; refine Q1 ?_; refine Qu (by (conv => lhs; whnf); first | done | exact rfl) ?_; refine Qu (by (conv => lhs; whnf); first | done | exact rfl) ?_; (first | (refine Qiz rfl rfl ?_) | (refine Qhr rfl rfl ?_) | (refine s_mulw rfl rfl ?_)); refine Qu (by (conv => lhs; whnf); first | done | exact rfl) ?_; refine Qu (by (conv => lhs; whnf); first | done | exact rfl) ?_; refine Q1l ?_; (repeat (first | refine Qt ?_ | refine Qk ?_)); refine Q5z ?_; (repeat (first | refine Q2U ?_ | refine Q2V ?_)); refine Q3y (by (conv => lhs; whnf); first | done | exact rfl) (by (conv => lhs; whnf); first | done | exact rfl) ?_)
                   all_goals (exact ⟨_, rfl, by simp [opF, *], rfl⟩))
                | (refine Q1F rfl ?_ -- QM c2
                   all_goals (refine Q0 ?_; refine Q1 ?_)
                   all_goals (first | (refine Q2w rfl rfl (by omega) ?_) | (refine Q2x rfl rfl (by omega) ?_) | (refine Qb rfl rfl (fun hc => ?_) (fun hc => ?_)))
                   all_goals (refine Qu (by (conv => lhs; whnf); first | done | exact rfl) ?_; refine Q1l ?_; (repeat (first | refine Qt ?_ | refine Qk ?_)))
                   all_goals
                     first
                     | (refine Q1E rfl ?_ -- QM c3
                        all_goals (refine Q0 ?_; refine Q1 ?_; refine Qu (by (conv => lhs; whnf); first | done | exact rfl) ?_; refine Qu (by (conv => lhs; whnf); first | done | exact rfl) ?_; refine Q92 rfl (Qlv _ _ _) ?_; rw [hd]; rintro _ _ ⟨rfl, rfl⟩; refine Qmw rfl rfl ?_; refine Qmw rfl rfl ?_; refine Qu (by (conv => lhs; whnf); first | done | exact rfl) ?_; refine Qu (by (conv => lhs; whnf); first | done | exact rfl) ?_; refine Q1l ?_; (repeat (first | refine Qt ?_ | refine Qk ?_)); refine Q5z ?_; (repeat (first | refine Q2U ?_ | refine Q2V ?_)); refine Q3y (by (conv => lhs; whnf); first | done | exact rfl) (by (conv => lhs; whnf); first | done | exact rfl) ?_)
                        all_goals (exact ⟨_, rfl, by simp [opF, *], rfl⟩))
                     | (refine Q1F rfl ?_ -- QM c3
                        all_goals (refine Q0 ?_; refine Q1 ?_)
                        all_goals (first | (refine Q2w rfl rfl (by omega) ?_) | (refine Q2x rfl rfl (by omega) ?_) | (refine Qb rfl rfl (fun hc => ?_) (fun hc => ?_)))
                        all_goals (refine Qu (by (conv => lhs; whnf); first | done | exact rfl) ?_; refine Q1l ?_; (repeat (first | refine Qt ?_ | refine Qk ?_)))
                        all_goals
                          first
                          | (refine Q1E rfl ?_ -- QM c4
                             all_goals (refine Q0 ?_; refine Q1 ?_; refine Qu (by (conv => lhs; whnf); first | done | exact rfl) ?_; refine Qu (by (conv => lhs; whnf); first | done | exact rfl) ?_; refine Q92 rfl (Qlv _ _ _) ?_; rw [hd]; rintro _ _ ⟨rfl, rfl⟩; refine Qu (by (conv => lhs; whnf); first | done | exact rfl) ?_; refine Qmw rfl rfl ?_; refine Qmw rfl rfl ?_; refine Qu (by (conv => lhs; whnf); first | done | exact rfl) ?_; refine Qu (by (conv => lhs; whnf); first | done | exact rfl) ?_; refine Q1l ?_; (repeat (first | refine Qt ?_ | refine Qk ?_)); refine Q0 ?_; refine Q0 ?_; refine Q1 ?_; refine Qu (by (conv => lhs; whnf); first | done | exact rfl) ?_; refine s_not rfl ?_; refine Q1l ?_; (repeat (first | refine Qt ?_ | refine Qk ?_)))
                             all_goals
                               first
                               | (refine Q1E rfl ?_ -- QM c5
                                  all_goals (refine Q0 ?_; refine Q1 ?_; refine Qu (by (conv => lhs; whnf); first | done | exact rfl) ?_; refine Qu (by (conv => lhs; whnf); first | done | exact rfl) ?_; refine Q1l ?_; (repeat (first | refine Qt ?_ | refine Qk ?_)); refine Q5z ?_; (repeat (first | refine Q2U ?_ | refine Q2V ?_)); refine Q3y (by (conv => lhs; whnf); first | done | exact rfl) (by (conv => lhs; whnf); first | done | exact rfl) ?_)
                                  all_goals (exact ⟨_, rfl, by simp [opF, *], rfl⟩))
                               | (refine Q1F rfl ?_ -- QM c5
                                  all_goals (refine Qix ?_; (repeat (first | refine Qt ?_ | refine Qk ?_))))
                             all_goals (refine Q0 ?_; refine Q1 ?_; refine Qu (by (conv => lhs; whnf); first | done | exact rfl) ?_; refine Qu (by (conv => lhs; whnf); first | done | exact rfl) ?_; refine Qu (by (conv => lhs; whnf); first | done | exact rfl) ?_; (first | (refine Qiz rfl rfl ?_) | (refine Qhr rfl rfl ?_) | (refine s_mulw rfl rfl ?_)); (first | (refine Qiz rfl rfl ?_) | (refine Qhr rfl rfl ?_)); refine Qu (by (conv => lhs; whnf); first | done | exact rfl) ?_; refine Qu (by (conv => lhs; whnf); first | done | exact rfl) ?_; refine Q1l ?_; (repeat (first | refine Qt ?_ | refine Qk ?_)); refine Q5z ?_; (repeat (first | refine Q2U ?_ | refine Q2V ?_)); refine Q3y (by (conv => lhs; whnf); first | done | exact rfl) (by (conv => lhs; whnf); first | done | exact rfl) ?_)
                             all_goals (exact ⟨_, rfl, by simp [opF, *], rfl⟩))
                          | (refine Q1F rfl ?_ -- QM c4
                             all_goals (refine Q0 ?_; refine Q1 ?_)
                             all_goals (first | (refine Q2w rfl rfl (by omega) ?_) | (refine Q2x rfl rfl (by omega) ?_) | (refine Qb rfl rfl (fun hc => ?_) (fun hc => ?_)))
                             all_goals (refine Qu (by (conv => lhs; whnf); first | done | exact rfl) ?_; refine Q1l ?_; (repeat (first | refine Qt ?_ | refine Qk ?_)))
                             all_goals
                               first
                               | (refine Q1E rfl ?_ -- QM c6
                                  all_goals (refine Q0 ?_; refine Q1 ?_; refine Qu (by (conv => lhs; whnf); first | done | exact rfl) ?_; refine Qu (by (conv => lhs; whnf); first | done | exact rfl) ?_)
                                  all_goals (first | (refine Qms rfl rfl (by omega) ?_) | (refine Qmt rfl rfl (by omega) ?_) | (refine QJ rfl rfl (fun hc => ?_) (fun hc => ?_)))
                                  all_goals (refine Q92 rfl (Qmc _ _) ?_; rintro _ _ ⟨rfl, rfl⟩; refine Qu (by (conv => lhs; whnf); first | done | exact rfl) ?_; refine Qu (by (conv => lhs; whnf); first | done | exact rfl) ?_; refine Q1l ?_; (repeat (first | refine Qt ?_ | refine Qk ?_)); refine Q5z ?_; (repeat (first | refine Q2U ?_ | refine Q2V ?_)); refine Q3y (by (conv => lhs; whnf); first | done | exact rfl) (by (conv => lhs; whnf); first | done | exact rfl) ?_)
                                  all_goals (exact ⟨_, rfl, by simp [opF, *], rfl⟩))
                               | (refine Q1F rfl ?_ -- QM c6
                                  all_goals (refine Q0 ?_; refine Q1 ?_)
                                  all_goals (first | (refine Q2w rfl rfl (by omega) ?_) | (refine Q2x rfl rfl (by omega) ?_) | (refine Qb rfl rfl (fun hc => ?_) (fun hc => ?_)))
                                  all_goals (refine Qu (by (conv => lhs; whnf); first | done | exact rfl) ?_; refine Q1l ?_; (repeat (first | refine Qt ?_ | refine Qk ?_)))
                                  all_goals
                                    first
                                    | (refine Q1E rfl ?_ -- QM c7
                                       all_goals (refine Q0 ?_; refine Q1 ?_; refine Qu (by (conv => lhs; whnf); first | done | exact rfl) ?_; refine Qu (by (conv => lhs; whnf); first | done | exact rfl) ?_)
                                       all_goals (first | (refine Q2w rfl rfl (by omega) ?_) | (refine Q2x rfl rfl (by omega) ?_) | (refine Qb rfl rfl (fun hc => ?_) (fun hc => ?_)))
                                       all_goals (refine Q92 rfl (Qmc _ _) ?_; rintro _ _ ⟨rfl, rfl⟩; refine Qu (by (conv => lhs; whnf); first | done | exact rfl) ?_; refine Qu (by (conv => lhs; whnf); first | done | exact rfl) ?_; refine Q1l ?_; (repeat (first | refine Qt ?_ | refine Qk ?_)); refine Q5z ?_; (repeat (first | refine Q2U ?_ | refine Q2V ?_)); refine Q3y (by (conv => lhs; whnf); first | done | exact rfl) (by (conv => lhs; whnf); first | done | exact rfl) ?_)
                                       all_goals (exact ⟨_, rfl, by simp [opF, *], rfl⟩))
                                    | (refine Q1F rfl ?_ -- QM c7
                                       all_goals (refine Q0 ?_; refine Q1 ?_)
                                       all_goals (first | (refine Q2w rfl rfl (by omega) ?_) | (refine Q2x rfl rfl (by omega) ?_) | (refine Qb rfl rfl (fun hc => ?_) (fun hc => ?_)))
                                       all_goals (refine Qu (by (conv => lhs; whnf); first | done | exact rfl) ?_; refine Q1l ?_; (repeat (first | refine Qt ?_ | refine Qk ?_)))
                                       all_goals
                                         first
                                         | (refine Q1E rfl ?_ -- QM c8
                                            all_goals (refine Q0 ?_; refine Q1 ?_; refine Qu (by (conv => lhs; whnf); first | done | exact rfl) ?_; refine Qu (by (conv => lhs; whnf); first | done | exact rfl) ?_; refine s_and rfl rfl ?_; refine Qu (by (conv => lhs; whnf); first | done | exact rfl) ?_; refine Qu (by (conv => lhs; whnf); first | done | exact rfl) ?_; refine Q1l ?_; (repeat (first | refine Qt ?_ | refine Qk ?_)); refine Q5z ?_; (repeat (first | refine Q2U ?_ | refine Q2V ?_)); refine Q3y (by (conv => lhs; whnf); first | done | exact rfl) (by (conv => lhs; whnf); first | done | exact rfl) ?_)
                                            all_goals (exact ⟨_, rfl, by simp [opF, *], rfl⟩))
                                         | (refine Q1F rfl ?_ -- QM c8
                                            all_goals (refine Q0 ?_; refine Q1 ?_)
                                            all_goals (first | (refine Q2w rfl rfl (by omega) ?_) | (refine Q2x rfl rfl (by omega) ?_) | (refine Qb rfl rfl (fun hc => ?_) (fun hc => ?_)))
                                            all_goals (refine Qu (by (conv => lhs; whnf); first | done | exact rfl) ?_; refine Q1l ?_; (repeat (first | refine Qt ?_ | refine Qk ?_)))
                                            all_goals
                                              first
                                              | (refine Q1E rfl ?_ -- QM c9
                                                 all_goals (refine Q0 ?_; refine Q1 ?_; refine Qu (by (conv => lhs; whnf); first | done | exact rfl) ?_; refine Qu (by (conv => lhs; whnf); first | done | exact rfl) ?_; refine s_xor rfl rfl ?_; refine Qu (by (conv => lhs; whnf); first | done | exact rfl) ?_; refine Qu (by (conv => lhs; whnf); first | done | exact rfl) ?_; refine Q1l ?_; (repeat (first | refine Qt ?_ | refine Qk ?_)); refine Q5z ?_; (repeat (first | refine Q2U ?_ | refine Q2V ?_)); refine Q3y (by (conv => lhs; whnf); first | done | exact rfl) (by (conv => lhs; whnf); first | done | exact rfl) ?_)
                                                 all_goals (exact ⟨_, rfl, by simp [opF, *], rfl⟩))
                                              | (refine Q1F rfl ?_ -- QM c9
                                                 all_goals (refine Qix ?_; (repeat (first | refine Qt ?_ | refine Qk ?_))))))))))))
    all_goals (refine Q0 ?_; refine Q1 ?_; refine Qu (by (conv => lhs; whnf); first | done | exact rfl) ?_; refine Qu (by (conv => lhs; whnf); first | done | exact rfl) ?_; refine Q1l ?_; (repeat (first | refine Qt ?_ | refine Qk ?_)); refine Q5z ?_; (repeat (first | refine Q2U ?_ | refine Q2V ?_)); refine Q3y (by (conv => lhs; whnf); first | done | exact rfl) (by (conv => lhs; whnf); first | done | exact rfl) ?_; exact ⟨_, rfl, by simp [opF, *], rfl⟩)
theorem op_s {cx : Cx} {w : World} {L : List Res} {k a b : Int} (hS : St cx w L) : Rets Try.prog QM [.int .i64 k, .int .i64 a, .int .i64 b] w fun v w' => v = .tuple #[.int .i64 (opF k a b).1, .bool (opF k a b).2] ∧ St cx w' L :=
  (op_c k a b w).mono fun _ _ ⟨h1, h2⟩ => ⟨h1, by rw [h2]; exact hS⟩
end Go.Proofs.Yteflkifmgnpbhaa
namespace Go.Lir
set_option linter.unusedVariables false
/-- A call that is open: where it is, what its block has. -/
structure Frm where
  f : Nat
  b : Nat
  i : Nat
  vals : List Val
  regs : List Int
/-- A machine: its heap, the innermost call, the others (from the inside), what comes in, what went out, steps. -/
structure MS where
  h : HpS
  g : Frm
  st : List Frm
  inp : List Int
  out : List Int
  fuel : Nat
/-- How a step comes out: it goes on; the run ends; it comes to its end with these numbers; no machine can do it. -/
inductive Stp where
  | go (s : MS)
  | halt (e : Int)
  | done (l : List Int)
  | lost
def QZ {α : Type} (x : Option α) (f : α → Stp) : Stp := match x with
  | none => .lost
  | some a => f a
theorem QF {α : Type} {x : Option α} {f : α → Stp} (h : x = none) : QZ x f = .lost := by rw [h]; rfl
theorem Q4 {α : Type} {x : Option α} {f : α → Stp} {a : α} (h : x = some a) : QZ x f = f a := by rw [h]; rfl
abbrev intV (n : Int) : Val := ⟨1, 0, 0, n⟩
def Frm.val (g : Frm) (k : Int) : Option Val := if k < 0 then none else g.vals[k.toNat]?
def Frm.num (g : Frm) (k : Int) : Option Int := match g.val k with
  | none => none
  | some v => if v.kind = 1 then some v.n else none
def Frm.args (g : Frm) : List Int → Option (List Val)
  | [] => some []
  | k :: l => match g.val k, g.args l with
    | some v, some vs => some (v :: vs)
    | _, _ => none
def Frm.reg (g : Frm) (k : Int) : Option Int := if k < 0 then none else g.regs[k.toNat]?
def Frm.rgs (g : Frm) : List Int → Option (List Int)
  | [] => some []
  | k :: l => match g.reg k, g.rgs l with
    | some v, some vs => some (v :: vs)
    | _, _ => none
def MS.put (s : MS) (vs : List Val) : MS := ⟨s.h, ⟨s.g.f, s.g.b, s.g.i, s.g.vals ++ vs, s.g.regs⟩, s.st, s.inp, s.out, s.fuel⟩
def MS.hp (s : MS) (h : HpS) : MS := ⟨h, s.g, s.st, s.inp, s.out, s.fuel⟩
def MS.fr (s : MS) (g : Frm) : MS := ⟨s.h, g, s.st, s.inp, s.out, s.fuel⟩
def MS.made (s : MS) (e : Int) (h : HpS) (v : Val) : Stp := if e = 14 then .halt 6 else if e ≠ 0 then .lost else .go ((s.hp h).put [v])
def Q55 (v : Val) (e : Int) (k : Stp) : Stp := if v.kind ≠ 4 then .lost else if e = 1 then .halt 2 else if e ≠ 0 then .lost else k
def MS.newR (s : MS) : Stp := if s.h.full = true then .halt 6 else .go ((⟨s.h.open, ⟨s.g.f, s.g.b, s.g.i, s.g.vals, s.g.regs ++ [s.h.openV.region]⟩, s.st, s.inp, s.out, s.fuel⟩ : MS).put [s.h.openV])
def MS.inS (s : MS) : Stp := match s.inp with
  | [] => .halt 4
  | n :: r => .go ((⟨s.h, s.g, s.st, r, s.out, s.fuel⟩ : MS).put [intV n])
def MS.outS (s : MS) (n : Int) : Stp := if s.out.length = 2000 then .halt 8 else .go ⟨s.h, s.g, s.st, s.inp, s.out ++ [n], s.fuel⟩
def MS.call (m : Module) (s : MS) (x : Ins) : Stp := match m.funcs[x.k.toNat]? with
  | none => .lost
  | some g => QZ (s.g.rgs x.regs) fun rs => QZ (s.g.args x.args) fun vs =>
    if (rs.length : Int) ≠ g.regs ∨ vs.length ≠ g.params.length then .lost else if s.st.length + 1 = 40 then .halt 5 else .go ⟨s.h, ⟨x.k.toNat, 0, 0, vs, rs⟩, s.g :: s.st, s.inp, s.out, s.fuel⟩
def MS.ins (m : Module) (s : MS) (x : Ins) : Stp :=
  if x.op = 1 then .go (s.put [intV x.n])
  else if x.op = 2 then QZ (s.g.num x.a) fun a => QZ (s.g.num x.b) fun b => if (opF x.k a b).2 = false then .halt 1 else .go (s.put [intV (opF x.k a b).1])
  else if x.op = 3 then s.newR
  else if x.op = 4 then QZ (s.g.val x.a) fun v => if s.h.can v = false then .lost else .go (s.hp (s.h.shut v))
  else if x.op = 5 then QZ (s.g.val x.a) fun v => QZ (s.g.args x.args) fun l => s.made (s.h.code v (Q4x l)) (s.h.tuple v l) (s.h.putV v 3 (Q4x l))
  else if x.op = 6 then QZ (s.g.val x.a) fun v => if v.kind ≠ 3 then .lost else if (s.h.get v x.k).2 ≠ 0 then .lost else .go (s.put [(s.h.get v x.k).1])
  else if x.op = 7 then QZ (s.g.val x.a) fun v => if v.kind ≠ 3 then .lost else QZ (s.g.val x.b) fun y => if s.h.setC v x.k y ≠ 0 then .lost else .go (s.hp (s.h.set v x.k y))
  else if x.op = 8 then QZ (s.g.val x.a) fun v => QZ (s.g.num x.b) fun n => if n < 0 ∨ 15 < n then .halt 3 else s.made (s.h.arrC v n) (s.h.arr v n) (s.h.arrV v n)
  else if x.op = 9 then QZ (s.g.val x.a) fun v => QZ (s.g.num x.b) fun n => Q55 v (s.h.get v n).2 (.go (s.put [(s.h.get v n).1]))
  else if x.op = 10 then QZ (s.g.val x.a) fun v => QZ (s.g.num x.b) fun n => QZ (s.g.num x.c) fun c => Q55 v (s.h.setC v n (intV c)) (.go (s.hp (s.h.set v n (intV c))))
  else if x.op = 11 then QZ (s.g.val x.a) fun v => Q55 v (s.h.len v).2 (.go (s.put [intV (s.h.len v).1]))
  else if x.op = 12 then s.inS
  else if x.op = 13 then QZ (s.g.num x.a) fun n => s.outS n
  else s.call m x
def MS.to (f : Fun) (s : MS) (t : To) : Stp := match f.blocks[t.block.toNat]? with
  | none => .lost
  | some b => QZ (s.g.rgs t.regs) fun rs => QZ (s.g.args t.args) fun vs =>
    if (rs.length : Int) ≠ b.regs ∨ vs.length ≠ b.params.length then .lost else .go (s.fr ⟨s.g.f, t.block.toNat, 0, vs, rs⟩)
def intsV : List Val → Option (List Int)
  | [] => some []
  | v :: l => match intsV l with
    | none => none
    | some ns => if v.kind = 1 then some (v.n :: ns) else none
def MS.ret (f : Fun) (s : MS) (e : Tail) : Stp := QZ (s.g.args e.args) fun vs => if vs.length ≠ f.results.length then .lost else match s.st with
  | c :: st => .go ((⟨s.h, c, st, s.inp, s.out, s.fuel⟩ : MS).put vs)
  | [] => match intsV vs with
    | none => .lost
    | some ns => .done ns
def MS.fin (f : Fun) (s : MS) (e : Tail) : Stp :=
  if e.op = 1 then s.to f e.yes
  else if e.op = 2 then QZ (s.g.num e.a) fun n => if n ≠ 0 then s.to f e.yes else s.to f e.no
  else s.ret f e
def MS.next (s : MS) : MS := s.fr ⟨s.g.f, s.g.b, s.g.i + 1, s.g.vals, s.g.regs⟩
def MS.one (m : Module) (s : MS) : Stp := match m.funcs[s.g.f]? with
  | none => .lost
  | some f => match f.blocks[s.g.b]? with
    | none => .lost
    | some b => match b.code[s.g.i]? with
      | some x => s.next.ins m x
      | none => s.fin f b.fin
def MS.place (m : Module) (s : MS) : Int := match m.funcs[s.g.f]? with
  | none => 0
  | some f => match f.blocks[s.g.b]? with
    | none => 0
    | some b => if s.g.i < b.code.length then Qjz s.g.f s.g.b s.g.i else Qgs s.g.f s.g.b
def MS.tick (s : MS) : MS := ⟨s.h, s.g, s.st, s.inp, s.out, s.fuel + 1⟩
/-- A run: it goes on; it ended so, with these numbers; it is stuck. -/
inductive Run where
  | on (s : MS)
  | over (s : MS) (e : Int) (back : List Int)
  | stuck (f : Flt)
def Run.of (m : Module) (s : MS) : Stp → Run
  | .go s' => .on s'
  | .halt e => .over s.tick e []
  | .done l => .over s.tick 0 l
  | .lost => .stuck (20, s.place m)
def Run.step (m : Module) (most : Nat) : Run → Run
  | .on s => if s.fuel = most then .over s 7 [] else .of m s (s.tick.one m)
  | r => r
def Run.steps (m : Module) (most : Nat) : Nat → Run → Run
  | 0, r => r
  | k + 1, r => Run.steps m most k (r.step m most)
def MS.start (inp : List Int) (pages : Int) : MS := ⟨⟨[], pages⟩, ⟨0, 0, 0, [], []⟩, [], inp, [], 0⟩
/-- Outcome. -/
structure Oc where
  e : Int
  back : List Int
  out : List Int
  fuel : Int
def Run.oc : Run → Oc
  | .on s => ⟨0, [], s.out, s.fuel⟩
  | .over s e back => ⟨e, back, s.out, s.fuel⟩
  | .stuck _ => ⟨0, [], [], 0⟩
def Run.flt : Run → Flt
  | .stuck f => f
  | _ => (0, 0)
def Run.all (m : Module) (inp : List Int) (most : Nat) (pages : Int) : Run := Run.steps m most (most + 1) (.on (MS.start inp pages))
end Go.Lir
