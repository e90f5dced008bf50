/- Lemmas of the proof, part 3: what the functions of the program do (contracts), and what follows. -/
import Derived.Test.YtanlkfeogoganaaProg
import Derived.Test.YtanlkfeogoganaaZ1
import Derived.Test.YtanlkfeogoganaaZ2
namespace Go.Proofs.Ytanlkfeogoganaa
open Go.Lir
set_option maxRecDepth 100000

/- 3 -/
/- 4 -/
/- 10 -/
/- 11 -/
def Qdw : List GO := [qb 1 24 0, qk 2 (.bool false)]
def Qdv : List GO := [qf 8 1 0, ql 9 8, qL 10 9, qj 11 .gtr 3 10 20]
def Qdu : List GO := [qk 2 (.bool true)]
def Qdt : List GO := [qk 3 (vi 0)]
def Qds : List GO := [qm 12 3, qf 13 1 0, ql 14 13, qL 15 14, qt 16 .lss 3 12 15]
def Qdr : List GO := [qf 19 1 0, ql 20 19, qm 21 3, qi 22 4 20 21, qV 23 4 22, ⟨none, .alloc 4 31 [(vi 0), vn, vn, vn]⟩, qw 4 4 23]
def Qdq : List GO := [qf 24 4 3, ql 25 24, qL 26 25, qj 27 .gtr 3 26 30, qm 28 27, qg 28 false (qf 29 4 1), qg 28 false (ql 30 29), ⟨some (28, false), .call (some 31) 46 [(.tmp 30)]⟩, ⟨none, .pick 32 (.tmp 28) (.const (.bool true)) (.tmp 31)⟩, qm 33 32, qg 33 false (qf 34 4 2), qg 33 false (ql 35 34), ⟨some (33, false), .call (some 36) 46 [(.tmp 35)]⟩, ⟨none, .pick 37 (.tmp 33) (.const (.bool true)) (.tmp 36)⟩]
def Qdp : List GO := [qk 2 (.bool true)]
def Qdo : List GO := [qk 5 (vi 0)]
def Qdn : List GO := [qm 38 5, qf 39 4 3, ql 40 39, qL 41 40, qt 42 .lss 3 38 41]
def Qc1 : List GO := [qf 45 4 3, ql 46 45, qm 47 5, qi 48 12 46 47, qV 49 12 48, ⟨none, .alloc 6 77 [(vi 0), vn, vn, (vi 0), (vi 0), (vi 0), vn, vn, (vi 0), vn, vn, vn]⟩, qw 12 6 49]
def Qc0 : List GO := [qf 50 6 2, ql 51 50, qL 52 51, qj 53 .gtr 3 52 200, qm 54 53, qg 54 false (qf 55 6 1), qg 54 false (ql 56 55), ⟨some (54, false), .call (some 57) 46 [(.tmp 56)]⟩, ⟨none, .pick 58 (.tmp 54) (.const (.bool true)) (.tmp 57)⟩, qm 59 58, qg 59 false (qf 60 6 3), qg 59 false (qf 61 60 8), qg 59 false (ql 62 61), qg 59 false (qL 63 62), qg 59 false (qj 64 .gtr 3 63 300), ⟨none, .pick 65 (.tmp 59) (.const (.bool true)) (.tmp 64)⟩, qm 66 65, qg 66 false (qf 67 6 3), qg 66 false (qf 68 67 2), qg 66 false (qf 69 68 1), qg 66 false (ql 70 69), qg 66 false (qL 71 70), qg 66 false (qj 72 .gtr 3 71 300), ⟨none, .pick 73 (.tmp 66) (.const (.bool true)) (.tmp 72)⟩, qm 74 73, qg 74 false (qf 75 6 3), qg 74 false (qf 76 75 2), qg 74 false (qf 77 76 2), qg 74 false (ql 78 77), qg 74 false (qL 79 78), qg 74 false (qj 80 .gtr 3 79 300), ⟨none, .pick 81 (.tmp 74) (.const (.bool true)) (.tmp 80)⟩, qm 82 81, qg 82 false (qf 83 6 3), qg 82 false (qf 84 83 5), qg 82 false (qf 85 84 1), qg 82 false (ql 86 85), qg 82 false (qL 87 86), qg 82 false (qj 88 .gtr 3 87 300), ⟨none, .pick 89 (.tmp 82) (.const (.bool true)) (.tmp 88)⟩, qm 90 89, qg 90 false (qf 91 6 3), qg 90 false (qf 92 91 5), qg 90 false (qf 93 92 2), qg 90 false (ql 94 93), qg 90 false (qL 95 94), qg 90 false (qj 96 .gtr 3 95 300), ⟨none, .pick 97 (.tmp 90) (.const (.bool true)) (.tmp 96)⟩]
def QbZ : List GO := [qk 2 (.bool true)]
def QbY : List GO := [qk 7 (vi 0)]
def QbX : List GO := [qm 98 7, qf 99 6 2, ql 100 99, qL 101 100, qt 102 .lss 3 98 101]
def QbW : List GO := [qf 105 6 2, ql 106 105, qm 107 7, qi 108 8 106 107, qf 109 108 6, ql 110 109, qL 111 110, qj 112 .gtr 3 111 300, qm 113 112, qg 113 false (qf 114 6 2), qg 113 false (ql 115 114), qg 113 false (qm 116 7), qg 113 false (qi 117 8 115 116), qg 113 false (qf 118 117 7), qg 113 false (ql 119 118), qg 113 false (qL 120 119), qg 113 false (qj 121 .gtr 3 120 300), ⟨none, .pick 122 (.tmp 113) (.const (.bool true)) (.tmp 121)⟩]
def QbV : List GO := [qk 2 (.bool true)]
def QbU : List GO := [qm 103 7, qj 104 .add 3 103 1, qm 7 104]
def Q4n : LC := (.seq (.seq (.ops QbX) (.cond (.tmp 102) .skip (.exit 4))) (.seq (.block 5 (.seq (.ops QbW) (.cond (.tmp 122) (.seq (.ops QbV) .ret) .skip))) (.ops QbU)))
def QbT : List GO := [qm 43 5, qj 44 .add 3 43 1, qm 5 44]
def Q51 : LC := (.seq (.seq (.ops Qdn) (.cond (.tmp 42) .skip (.exit 2))) (.seq (.block 3 (.seq (.ops Qc1) (.seq (.seq (.ops Qc0) (.cond (.tmp 97) (.seq (.ops QbZ) .ret) .skip)) (.seq (.ops QbY) (.block 4 (.loop Q4n)))))) (.ops QbT)))
def QbS : List GO := [qm 17 3, qj 18 .add 3 17 1, qm 3 18]
def Q52 : LC := (.seq (.seq (.ops Qds) (.cond (.tmp 16) .skip (.exit 0))) (.seq (.block 1 (.seq (.ops Qdr) (.seq (.seq (.ops Qdq) (.cond (.tmp 37) (.seq (.ops Qdp) .ret) .skip)) (.seq (.ops Qdo) (.block 2 (.loop Q51)))))) (.ops QbS)))
def QbR : List GO := [qk 2 (.bool false)]
def R_GreatModule_lc : LC := (.seq (.ops Qdw) (.seq (.seq (.ops Qdv) (.cond (.tmp 11) (.seq (.ops Qdu) .ret) .skip)) (.seq (.seq (.ops Qdt) (.block 0 (.loop Q52))) (.seq (.ops QbR) .ret))))
@[reducible] def Q1a : FuncId := 11
theorem Qc2 : lowF Try.prog Try.f11 = some R_GreatModule_lc := by kernel_rfl
theorem Qdx {a0 : Value} {w : World} {R : Ending → World → Prop} (h : R_GreatModule_lc.wp Try.prog (retQ Try.prog [.tmp 2] R) (Qh [a0]) w) : Calls Try.prog Q1a ⟨[a0]⟩ w R :=
  Q4 Try.func11 Qc2 (by kernel_rfl) (by kernel_rfl) h

/- 12 -/
def QnC : List GO := [qb 2 24 0, qb 3 27 1, qk 4 (vi 0)]
def QnB : List GO := [qV 6 1 2, ⟨none, .build 7 [vn, (vi 0), (vi 0), (vi 0)] [(0, (1, (.tmp 6)))]⟩, qb 8 83 7, qm 5 8]
def QnA : List GO := [qm 9 5, qV 10 8 3, ⟨none, .call (some 11) 47 [(.tmp 9), (.tmp 10)]⟩]
def Qnz : List GO := [qm 12 5, qn 13 12, qf 14 13 1, qf 15 14 0, ql 16 15, qm 4 16]
def code_Ins_lc : LC := (.seq (.ops QnC) (.seq (.ops QnB) (.seq (.ops QnA) (.seq (.ops Qnz) .ret))))
@[reducible] def QoT : FuncId := 12
theorem QlQ : lowF Try.prog Try.f12 = some code_Ins_lc := by kernel_rfl
theorem QnD {a0 a1 : Value} {w : World} {R : Ending → World → Prop} (h : code_Ins_lc.wp Try.prog (retQ Try.prog [.tmp 4] R) (Qh [a0, a1]) w) : Calls Try.prog QoT ⟨[a0, a1]⟩ w R :=
  Q4 Try.func12 QlQ (by kernel_rfl) (by kernel_rfl) h

/- 13 -/
def Qmf : List GO := [qb 2 24 0, qb 3 27 1, qk 4 (vi 0)]
def Qme : List GO := [qf 8 3 0, ql 9 8, ⟨none, .call (some 10) 48 [(.tmp 9)]⟩, qm 7 10, qx 11 7 0, qx 12 7 1, ⟨none, .alloc 5 86 [(.bool false), (.bool false), (.bool false), (.bool false), (.bool false), (.bool false), (.bool false)]⟩, qw 7 5 11, qm 6 12]
def Qmd : List GO := [qm 13 6, ⟨none, .un 14 .not (.tmp 13)⟩]
def Qmc : List GO := [qk 4 (vi 3)]
def Qmb : List GO := [qf 15 5 0, ql 16 15, ⟨none, .un 17 .not (.tmp 16)⟩, qm 18 17, qg 18 true (qf 19 3 1), qg 18 true (ql 20 19), qg 18 true (qj 21 .neq 3 20 0), ⟨none, .pick 22 (.tmp 18) (.tmp 21) (.const (.bool false))⟩, qm 23 22, qg 23 false (qf 24 5 1), qg 23 false (ql 25 24), ⟨some (23, false), .un 26 .not (.tmp 25)⟩, qg 23 false (qm 27 26), qg 27 true (qf 28 3 2), qg 27 true (ql 29 28), qg 27 true (qj 30 .neq 3 29 0), ⟨some (23, false), .pick 31 (.tmp 27) (.tmp 30) (.const (.bool false))⟩, ⟨none, .pick 32 (.tmp 23) (.const (.bool true)) (.tmp 31)⟩, qm 33 32, qg 33 false (qf 34 5 2), qg 33 false (ql 35 34), ⟨some (33, false), .un 36 .not (.tmp 35)⟩, qg 33 false (qm 37 36), qg 37 true (qf 38 3 3), qg 37 true (ql 39 38), qg 37 true (qj 40 .neq 3 39 0), ⟨some (33, false), .pick 41 (.tmp 37) (.tmp 40) (.const (.bool false))⟩, ⟨none, .pick 42 (.tmp 33) (.const (.bool true)) (.tmp 41)⟩, qm 43 42, qg 43 false (qf 44 5 3), qg 43 false (ql 45 44), ⟨some (43, false), .un 46 .not (.tmp 45)⟩, qg 43 false (qm 47 46), qg 47 true (qf 48 3 4), qg 47 true (ql 49 48), qg 47 true (qj 50 .neq 3 49 0), ⟨some (43, false), .pick 51 (.tmp 47) (.tmp 50) (.const (.bool false))⟩, ⟨none, .pick 52 (.tmp 43) (.const (.bool true)) (.tmp 51)⟩, qm 53 52, qg 53 false (qf 54 5 4), qg 53 false (ql 55 54), ⟨some (53, false), .un 56 .not (.tmp 55)⟩, qg 53 false (qm 57 56), qg 57 true (qf 58 3 5), qg 57 true (ql 59 58), qg 57 true (qj 60 .neq 2 59 0), ⟨some (53, false), .pick 61 (.tmp 57) (.tmp 60) (.const (.bool false))⟩, ⟨none, .pick 62 (.tmp 53) (.const (.bool true)) (.tmp 61)⟩, qm 63 62, qg 63 false (qf 64 5 5), qg 63 false (ql 65 64), ⟨some (63, false), .un 66 .not (.tmp 65)⟩, qg 63 false (qm 67 66), qg 67 true (qf 68 3 6), qg 67 true (ql 69 68), qg 67 true (qL 70 69), qg 67 true (qj 71 .gtr 3 70 0), ⟨some (63, false), .pick 72 (.tmp 67) (.tmp 71) (.const (.bool false))⟩, ⟨none, .pick 73 (.tmp 63) (.const (.bool true)) (.tmp 72)⟩, qm 74 73, qg 74 false (qf 75 5 6), qg 74 false (ql 76 75), ⟨some (74, false), .un 77 .not (.tmp 76)⟩, qg 74 false (qm 78 77), qg 78 true (qf 79 3 7), qg 78 true (ql 80 79), qg 78 true (qL 81 80), qg 78 true (qj 82 .gtr 3 81 0), ⟨some (74, false), .pick 83 (.tmp 78) (.tmp 82) (.const (.bool false))⟩, ⟨none, .pick 84 (.tmp 74) (.const (.bool true)) (.tmp 83)⟩]
def Qma : List GO := [qk 4 (vi 4)]
def Qm9 : List GO := [qf 85 3 0, ql 86 85]
def Qm8 : List GO := [qj 88 .eql 3 86 2, qm 87 88]
def Qm7 : List GO := [qf 89 3 4, ql 90 89, qj 91 .lss 3 90 1, qm 92 91, qg 92 false (qf 93 3 4), qg 92 false (ql 94 93), qg 92 false (qj 95 .gtr 3 94 9), ⟨none, .pick 96 (.tmp 92) (.const (.bool true)) (.tmp 95)⟩]
def Qm6 : List GO := [qk 4 (vi 1)]
def Qkv : List GO := [qj 98 .eql 3 86 5, qm 97 98]
def Qku : List GO := [qf 99 3 7, ql 100 99, qL 101 100, qj 102 .gtr 3 101 8]
def Qkt : List GO := [qk 4 (vi 2)]
def Qks : List GO := [qj 104 .eql 3 86 6, qm 103 104]
def Qkr : List GO := [qj 105 .eql 3 86 7, qm 103 105]
def Qkq : List GO := [qf 106 3 4, ql 107 106, qj 108 .lss 3 107 0, qm 109 108, qg 109 false (qf 110 3 4), qg 109 false (ql 111 110), qg 109 false (qj 112 .gtr 3 111 7), ⟨none, .pick 113 (.tmp 109) (.const (.bool true)) (.tmp 112)⟩]
def Qkp : List GO := [qk 4 (vi 1)]
def Qko : List GO := [qj 115 .eql 3 86 14, qm 114 115]
def Qkn : List GO := [qf 116 3 4, ql 117 116, qj 118 .lss 3 117 0, qm 119 118, qg 119 false (qf 120 3 4), qg 119 false (ql 121 120), qg 119 false (qf 122 2 0), qg 119 false (ql 123 122), qg 119 false (qL 124 123), qg 119 false (qt 125 .geq 3 121 124), ⟨none, .pick 126 (.tmp 119) (.const (.bool true)) (.tmp 125)⟩]
def Qkm : List GO := [qk 4 (vi 1)]
def Qkl : List GO := [qf 127 3 6, ql 128 127, qL 129 128, qj 130 .gtr 3 129 6, qm 131 130, qg 131 false (qf 132 3 7), qg 131 false (ql 133 132), qg 131 false (qL 134 133), qg 131 false (qj 135 .gtr 3 134 8), ⟨none, .pick 136 (.tmp 131) (.const (.bool true)) (.tmp 135)⟩]
def Qkk : List GO := [qk 4 (vi 2)]
def Qkj : List GO := [qk 4 (vi 0)]
def R_InsForm_lc : LC := (.seq (.ops Qmf) (.seq (.ops Qme) (.seq (.seq (.ops Qmd) (.cond (.tmp 14) (.seq (.ops Qmc) .ret) .skip)) (.seq (.seq (.ops Qmb) (.cond (.tmp 84) (.seq (.ops Qma) .ret) .skip)) (.seq (.seq (.ops Qm9) (.block 0 (.seq (.ops Qm8) (.cond (.tmp 87) (.seq (.ops Qm7) (.cond (.tmp 96) (.seq (.ops Qm6) .ret) .skip)) (.seq (.ops Qkv) (.cond (.tmp 97) (.seq (.ops Qku) (.cond (.tmp 102) (.seq (.ops Qkt) .ret) .skip)) (.seq (.seq (.ops Qks) (.cond (.tmp 103) .skip (.ops Qkr))) (.cond (.tmp 103) (.seq (.ops Qkq) (.cond (.tmp 113) (.seq (.ops Qkp) .ret) .skip)) (.seq (.ops Qko) (.cond (.tmp 114) (.seq (.seq (.ops Qkn) (.cond (.tmp 126) (.seq (.ops Qkm) .ret) .skip)) (.seq (.ops Qkl) (.cond (.tmp 136) (.seq (.ops Qkk) .ret) .skip))) .skip)))))))))) (.seq (.ops Qkj) .ret))))))
@[reducible] def QJ : FuncId := 13
theorem Qkw : lowF Try.prog Try.f13 = some R_InsForm_lc := by kernel_rfl
theorem Qmg {a0 a1 : Value} {w : World} {R : Ending → World → Prop} (h : R_InsForm_lc.wp Try.prog (retQ Try.prog [.tmp 4] R) (Qh [a0, a1]) w) : Calls Try.prog QJ ⟨[a0, a1]⟩ w R :=
  Q4 Try.func13 Qkw (by kernel_rfl) (by kernel_rfl) h

/- 14 -/
def QnH : List GO := [qb 2 31 0, qb 3 35 1, qk 4 (vi 0)]
def QnG : List GO := [⟨none, .build 6 [vn, (vi 0), (vi 0), (vi 0)] []⟩, qb 7 83 6, qm 5 7]
def QnF : List GO := [qm 8 5, qV 9 4 2, qV 10 9 3, ⟨none, .call (some 11) 49 [(.tmp 8), (.tmp 9), (.tmp 10)]⟩]
def QnE : List GO := [qm 12 5, qn 13 12, qf 14 13 1, qf 15 14 0, ql 16 15, qm 4 16]
def code_End_lc : LC := (.seq (.ops QnH) (.seq (.ops QnG) (.seq (.ops QnF) (.seq (.ops QnE) .ret))))
@[reducible] def QoU : FuncId := 14
theorem QlR : lowF Try.prog Try.f14 = some code_End_lc := by kernel_rfl
theorem QnI {a0 a1 : Value} {w : World} {R : Ending → World → Prop} (h : code_End_lc.wp Try.prog (retQ Try.prog [.tmp 4] R) (Qh [a0, a1]) w) : Calls Try.prog QoU ⟨[a0, a1]⟩ w R :=
  Q4 Try.func14 QlR (by kernel_rfl) (by kernel_rfl) h

/- 15 -/
def Qmq : List GO := [qb 2 31 0, qb 3 35 1, qk 4 (vi 0)]
def Qmp : List GO := [qf 6 3 0, ql 7 6, qj 8 .lss 3 7 1, qm 9 8, qg 9 false (qf 10 3 0), qg 9 false (ql 11 10), qg 9 false (qj 12 .gtr 3 11 3), ⟨none, .pick 13 (.tmp 9) (.const (.bool true)) (.tmp 12)⟩]
def Qmo : List GO := [qk 4 (vi 3)]
def Qmn : List GO := [qf 14 3 1, ql 15 14, qj 16 .neq 3 15 0, qm 17 16, qg 17 true (qf 18 3 0), qg 17 true (ql 19 18), qg 17 true (qj 20 .neq 3 19 2), ⟨none, .pick 21 (.tmp 17) (.tmp 20) (.const (.bool false))⟩, qm 22 21, qg 22 false (qf 23 3 8), qg 22 false (ql 24 23), qg 22 false (qL 25 24), qg 22 false (qj 26 .gtr 3 25 0), qg 22 false (qm 27 26), qg 27 true (qf 28 3 0), qg 27 true (ql 29 28), qg 27 true (qj 30 .neq 3 29 3), ⟨some (22, false), .pick 31 (.tmp 27) (.tmp 30) (.const (.bool false))⟩, ⟨none, .pick 32 (.tmp 22) (.const (.bool true)) (.tmp 31)⟩]
def Qmm : List GO := [qk 4 (vi 4)]
def Qml : List GO := [qf 33 3 8, ql 34 33, qL 35 34, qj 36 .gtr 3 35 8]
def Qmk : List GO := [qk 4 (vi 2)]
def Qmj : List GO := [qV 37 4 2, qf 38 3 2, qV 39 3 38, qf 40 3 0, ql 41 40, qj 42 .neq 3 41 3, ⟨none, .call (some 43) 50 [(.tmp 37), (.tmp 39), (.tmp 42)]⟩, qm 5 43]
def Qmi : List GO := [qm 44 5, qj 45 .neq 3 44 0]
def Qmh : List GO := [qm 46 5, qm 4 46]
def QkH : List GO := [qV 47 4 2, qf 48 3 5, qV 49 3 48, qf 50 3 0, ql 51 50, qj 52 .eql 3 51 2, ⟨none, .call (some 53) 50 [(.tmp 47), (.tmp 49), (.tmp 52)]⟩, qm 4 53]
def R_EndForm_lc : LC := (.seq (.ops Qmq) (.seq (.seq (.ops Qmp) (.cond (.tmp 13) (.seq (.ops Qmo) .ret) .skip)) (.seq (.seq (.ops Qmn) (.cond (.tmp 32) (.seq (.ops Qmm) .ret) .skip)) (.seq (.seq (.ops Qml) (.cond (.tmp 36) (.seq (.ops Qmk) .ret) .skip)) (.seq (.seq (.ops Qmj) (.seq (.ops Qmi) (.cond (.tmp 45) (.seq (.ops Qmh) .ret) .skip))) (.seq (.ops QkH) .ret))))))
@[reducible] def Q2s : FuncId := 15
theorem QkI : lowF Try.prog Try.f15 = some R_EndForm_lc := by kernel_rfl
theorem Qmr {a0 a1 : Value} {w : World} {R : Ending → World → Prop} (h : R_EndForm_lc.wp Try.prog (retQ Try.prog [.tmp 4] R) (Qh [a0, a1]) w) : Calls Try.prog Q2s ⟨[a0, a1]⟩ w R :=
  Q4 Try.func15 QkI (by kernel_rfl) (by kernel_rfl) h

/- 16 -/
def QgW : List GO := [qk 2 (vi 0)]
def QgV : List GO := [qm 3 0, qj 4 .mul 3 3 10000, qj 5 .add 3 4 9999, qm 2 5]
def code_FuncAt_lc : LC := (.seq (.ops QgW) (.seq (.ops QgV) .ret))
@[reducible] def Qf9 : FuncId := 16
theorem Qf8 : lowF Try.prog Try.f16 = some code_FuncAt_lc := by kernel_rfl
theorem QgX {a0 : Value} {w : World} {R : Ending → World → Prop} (h : code_FuncAt_lc.wp Try.prog (retQ Try.prog [.tmp 2] R) (Qh [a0]) w) : Calls Try.prog Qf9 ⟨[a0]⟩ w R :=
  Q4 Try.func16 Qf8 (by kernel_rfl) (by kernel_rfl) h

/- 17 -/
def Qo9 : List GO := [qk 2 (vi 0)]
def Qo8 : List GO := [qm 3 0, ⟨none, .bin 4 .mul 3 (.const (vi 10000)) (.tmp 3)⟩, qj 5 .add 3 4 9999, qm 2 5]
def R_AtFunc_lc : LC := (.seq (.ops Qo9) (.seq (.ops Qo8) .ret))
@[reducible] def QoY : FuncId := 17
theorem Qmu : lowF Try.prog Try.f17 = some R_AtFunc_lc := by kernel_rfl
theorem Qoa {a0 : Value} {w : World} {R : Ending → World → Prop} (h : R_AtFunc_lc.wp Try.prog (retQ Try.prog [.tmp 2] R) (Qh [a0]) w) : Calls Try.prog QoY ⟨[a0]⟩ w R :=
  Q4 Try.func17 Qmu (by kernel_rfl) (by kernel_rfl) h

/- 18 -/
def Qfe : List GO := [qk 4 (vi 0)]
def Qfd : List GO := [qm 5 0, qj 6 .mul 3 5 10000, qm 7 1, qj 8 .mul 3 7 100, qt 9 .add 3 6 8, qj 10 .add 3 9 90, qm 4 10]
def code_BlockAt_lc : LC := (.seq (.ops Qfe) (.seq (.ops Qfd) .ret))
@[reducible] def Qcn : FuncId := 18
theorem Qd6 : lowF Try.prog Try.f18 = some code_BlockAt_lc := by kernel_rfl
theorem Qff {a0 a1 : Value} {w : World} {R : Ending → World → Prop} (h : code_BlockAt_lc.wp Try.prog (retQ Try.prog [.tmp 4] R) (Qh [a0, a1]) w) : Calls Try.prog Qcn ⟨[a0, a1]⟩ w R :=
  Q4 Try.func18 Qd6 (by kernel_rfl) (by kernel_rfl) h

/- 19 -/
def Qmw : List GO := [qk 4 (vi 0)]
def Qmv : List GO := [qm 5 0, ⟨none, .bin 6 .mul 3 (.const (vi 10000)) (.tmp 5)⟩, qm 7 1, ⟨none, .bin 8 .mul 3 (.const (vi 100)) (.tmp 7)⟩, qt 9 .add 3 6 8, qj 10 .add 3 9 90, qm 4 10]
def R_AtBlock_lc : LC := (.seq (.ops Qmw) (.seq (.ops Qmv) .ret))
@[reducible] def Qmy : FuncId := 19
theorem QkJ : lowF Try.prog Try.f19 = some R_AtBlock_lc := by kernel_rfl
theorem Qmx {a0 a1 : Value} {w : World} {R : Ending → World → Prop} (h : R_AtBlock_lc.wp Try.prog (retQ Try.prog [.tmp 4] R) (Qh [a0, a1]) w) : Calls Try.prog Qmy ⟨[a0, a1]⟩ w R :=
  Q4 Try.func19 QkJ (by kernel_rfl) (by kernel_rfl) h

/- 20 -/
def Qjy : List GO := [qk 4 (vi 0)]
def Qjx : List GO := [qm 5 0, qj 6 .mul 3 5 10000, qm 7 1, qj 8 .mul 3 7 100, qt 9 .add 3 6 8, qj 10 .add 3 9 91, qm 4 10]
def code_EndAt_lc : LC := (.seq (.ops Qjy) (.seq (.ops Qjx) .ret))
@[reducible] def QiE : FuncId := 20
theorem QgY : lowF Try.prog Try.f20 = some code_EndAt_lc := by kernel_rfl
theorem Qjz {a0 a1 : Value} {w : World} {R : Ending → World → Prop} (h : code_EndAt_lc.wp Try.prog (retQ Try.prog [.tmp 4] R) (Qh [a0, a1]) w) : Calls Try.prog QiE ⟨[a0, a1]⟩ w R :=
  Q4 Try.func20 QgY (by kernel_rfl) (by kernel_rfl) h

/- 21 -/
def Qpw : List GO := [qk 4 (vi 0)]
def Qpv : List GO := [qm 5 0, ⟨none, .bin 6 .mul 3 (.const (vi 10000)) (.tmp 5)⟩, qm 7 1, ⟨none, .bin 8 .mul 3 (.const (vi 100)) (.tmp 7)⟩, qt 9 .add 3 6 8, qj 10 .add 3 9 91, qm 4 10]
def R_AtEnd_lc : LC := (.seq (.ops Qpw) (.seq (.ops Qpv) .ret))
@[reducible] def QqW : FuncId := 21
theorem Qob : lowF Try.prog Try.f21 = some R_AtEnd_lc := by kernel_rfl
theorem Qpx {a0 a1 : Value} {w : World} {R : Ending → World → Prop} (h : R_AtEnd_lc.wp Try.prog (retQ Try.prog [.tmp 4] R) (Qh [a0, a1]) w) : Calls Try.prog QqW ⟨[a0, a1]⟩ w R :=
  Q4 Try.func21 Qob (by kernel_rfl) (by kernel_rfl) h

/- 22 -/
def Qjv : List GO := [qk 6 (vi 0)]
def Qju : List GO := [qm 7 0, qj 8 .mul 3 7 10000, qm 9 1, qj 10 .mul 3 9 100, qt 11 .add 3 8 10, qm 12 2, qt 13 .add 3 11 12, qm 6 13]
def code_InsAt_lc : LC := (.seq (.ops Qjv) (.seq (.ops Qju) .ret))
@[reducible] def QiD : FuncId := 22
theorem QgU : lowF Try.prog Try.f22 = some code_InsAt_lc := by kernel_rfl
theorem Qjw {a0 a1 a2 : Value} {w : World} {R : Ending → World → Prop} (h : code_InsAt_lc.wp Try.prog (retQ Try.prog [.tmp 6] R) (Qh [a0, a1, a2]) w) : Calls Try.prog QiD ⟨[a0, a1, a2]⟩ w R :=
  Q4 Try.func22 QgU (by kernel_rfl) (by kernel_rfl) h

/- 23 -/
def Qpt : List GO := [qk 6 (vi 0)]
def Qps : List GO := [qm 7 0, ⟨none, .bin 8 .mul 3 (.const (vi 10000)) (.tmp 7)⟩, qm 9 1, ⟨none, .bin 10 .mul 3 (.const (vi 100)) (.tmp 9)⟩, qt 11 .add 3 8 10, qm 12 2, qt 13 .add 3 11 12, qm 6 13]
def R_AtIns_lc : LC := (.seq (.ops Qpt) (.seq (.ops Qps) .ret))
@[reducible] def QqV : FuncId := 23
theorem Qo7 : lowF Try.prog Try.f23 = some R_AtIns_lc := by kernel_rfl
theorem Qpu {a0 a1 a2 : Value} {w : World} {R : Ending → World → Prop} (h : R_AtIns_lc.wp Try.prog (retQ Try.prog [.tmp 6] R) (Qh [a0, a1, a2]) w) : Calls Try.prog QqV ⟨[a0, a1, a2]⟩ w R :=
  Q4 Try.func23 Qo7 (by kernel_rfl) (by kernel_rfl) h

/- 24 -/
def QhQ : List GO := [qb 1 24 0, ⟨none, .alloc 2 24 [vn]⟩]
def QhP : List GO := [⟨none, .alloc 3 24 [vn]⟩]
def QhO : List GO := [qk 4 (vi 0)]
def QhN : List GO := [qm 12 4, qf 13 1 0, ql 14 13, qL 15 14, qt 16 .lss 3 12 15]
def QhM : List GO := [qf 19 1 0, ql 20 19, qm 21 4, qi 22 4 20 21, qV 23 4 22, ⟨none, .alloc 5 31 [(vi 0), vn, vn, vn]⟩, qw 4 5 23]
def QhL : List GO := [qf 24 5 0, ql 25 24, qf 26 5 1, ql 27 26, ⟨none, .call (some 28) 51 [(.tmp 27)]⟩, qf 29 5 2, ql 30 29, ⟨none, .call (some 31) 51 [(.tmp 30)]⟩, ⟨none, .build 32 [(vi 0), vn, vn, vn] [(0, (1, (.tmp 25))), (1, (1, (.tmp 28))), (2, (1, (.tmp 31)))]⟩, ⟨none, .alloc 6 31 [(vi 0), vn, vn, vn]⟩, qw 4 6 32]
def QhT : List (List Nat) := [[],[0],[],[2],[3],[],[5],[6,4],[1,4,7],[],[9,8,7,0,1,2,3,4,5,6,7,8,9]]
def QhK : List GO := [qk 7 (vi 0)]
def QhJ : List GO := [qm 33 7, qf 34 5 3, ql 35 34, qL 36 35, qt 37 .lss 3 33 36]
def QhI : List GO := [qf 40 5 3, ql 41 40, qm 42 7, qi 43 12 41 42, qV 44 12 43, ⟨none, .alloc 8 77 [(vi 0), vn, vn, (vi 0), (vi 0), (vi 0), vn, vn, (vi 0), vn, vn, vn]⟩, qw 12 8 44]
def QhH : List GO := [qf 45 8 0, ql 46 45, qf 47 8 1, ql 48 47, ⟨none, .call (some 49) 51 [(.tmp 48)]⟩, ⟨none, .build 50 [(vi 0), vn, vn, (vi 0), (vi 0), (vi 0), vn, vn, (vi 0), vn, vn, vn] [(0, (1, (.tmp 46))), (1, (1, (.tmp 49)))]⟩, ⟨none, .alloc 9 77 [(vi 0), vn, vn, (vi 0), (vi 0), (vi 0), vn, vn, (vi 0), vn, vn, vn]⟩, qw 12 9 50]
def QhS : List (List Nat) := [[],[0],[],[2],[3],[1,4],[],[6,5,4,0,1,2,3,4,5,6]]
def QfZ : List GO := [qk 10 (vi 0)]
def QfY : List GO := [qm 51 10, qf 52 8 2, ql 53 52, qL 54 53, qt 55 .lss 3 51 54]
def QfX : List GO := [qf 58 8 2, ql 59 58, qm 60 10, qi 61 8 59 60, qV 62 8 61, ⟨none, .alloc 11 27 [(vi 0), (vi 0), (vi 0), (vi 0), (vi 0), (vi 0), vn, vn]⟩, qw 8 11 62]
def QfW : List GO := [qf 63 11 6, ql 64 63, ⟨none, .call (some 65) 52 [(.tmp 64)]⟩, qf 66 11 7, ql 67 66, ⟨none, .call (some 68) 52 [(.tmp 67)]⟩, qf 69 11 6, qs 69 65, qf 70 11 7, qs 70 68]
def Qg2 : List (List Nat) := [[],[0],[1],[],[3],[4,2],[0,1,2,3,4],[6,2,5,0,1,2,3,4],[0,1,2,3,4,5,6,7],[8,5,7,0,1,2,3,4,5,6,7]]
def QfV : List GO := [qf 71 9 2, ql 72 71, qV 73 8 11, ⟨none, .buildS 74 27 1 [(vi 0), (vi 0), (vi 0), (vi 0), (vi 0), (vi 0), vn, vn] [(0, (8, (.tmp 73)))]⟩, ⟨none, .raw ⟨(some 75), (.call ⟨(.builtin .append), #[(.tmp 72), (.tmp 74)], #[58, 58]⟩), 58, "", #[], none⟩⟩, qf 76 9 2, qs 76 75]
def QfU : List GO := [qm 56 10, qj 57 .add 3 56 1, qm 10 57]
def Q5J : LC := (.seq (.seq (.ops QfY) (.cond (.tmp 55) .skip (.exit 4))) (.seq (.block 5 (.seq (.ops QfX) (.seq (.draw QfW Qg2) (.ops QfV)))) (.ops QfU)))
def QfT : List GO := [qf 77 8 3, qf 78 77 0, ql 79 78, qf 80 8 3, qf 81 80 1, ql 82 81, qf 83 8 3, qf 84 83 2, qV 85 3 84, ⟨none, .call (some 86) 53 [(.tmp 85)]⟩, qf 87 8 3, qf 88 87 5, qV 89 3 88, ⟨none, .call (some 90) 53 [(.tmp 89)]⟩, qf 91 8 3, qf 92 91 8, ql 93 92, ⟨none, .call (some 94) 52 [(.tmp 93)]⟩, ⟨none, .build 95 [(vi 0), (vi 0), (vi 0), vn, vn, (vi 0), vn, vn, vn] [(0, (1, (.tmp 79))), (1, (1, (.tmp 82))), (2, (3, (.tmp 86))), (5, (3, (.tmp 90))), (8, (1, (.tmp 94)))]⟩, qf 96 9 3, qw 9 96 95]
def Qg1 : List (List Nat) := [[],[0],[1],[],[3],[4],[],[6],[7],[8],[],[10],[11],[12,9],[],[14],[15],[16,13],[2,5,9,13,17],[0,1,2,3,4,5,6,7,8,9,10,11,12,13,14,15,16,17,18],[19,18,17,0,1,2,3,4,5,6,7,8,9,10,11,12,13,14,15,16,17,18]]
def QfS : List GO := [qf 97 6 3, ql 98 97, qV 99 12 9, ⟨none, .buildS 100 77 1 [(vi 0), vn, vn, (vi 0), (vi 0), (vi 0), vn, vn, (vi 0), vn, vn, vn] [(0, (12, (.tmp 99)))]⟩, ⟨none, .raw ⟨(some 101), (.call ⟨(.builtin .append), #[(.tmp 98), (.tmp 100)], #[29, 29]⟩), 29, "", #[], none⟩⟩, qf 102 6 3, qs 102 101]
def QfR : List GO := [qm 38 7, qj 39 .add 3 38 1, qm 7 39]
def Q6Q : LC := (.seq (.seq (.ops QhJ) (.cond (.tmp 37) .skip (.exit 2))) (.seq (.block 3 (.seq (.ops QhI) (.seq (.draw QhH QhS) (.seq (.seq (.ops QfZ) (.block 4 (.loop Q5J))) (.seq (.draw QfT Qg1) (.ops QfS)))))) (.ops QfR)))
def QfQ : List GO := [qf 103 3 0, ql 104 103, qV 105 4 6, ⟨none, .buildS 106 31 1 [(vi 0), vn, vn, vn] [(0, (4, (.tmp 105)))]⟩, ⟨none, .raw ⟨(some 107), (.call ⟨(.builtin .append), #[(.tmp 104), (.tmp 106)], #[22, 22]⟩), 22, "", #[], none⟩⟩, qf 108 3 0, qs 108 107]
def QfP : List GO := [qm 17 4, qj 18 .add 3 17 1, qm 4 18]
def Q6R : LC := (.seq (.seq (.ops QhN) (.cond (.tmp 16) .skip (.exit 0))) (.seq (.block 1 (.seq (.ops QhM) (.seq (.draw QhL QhT) (.seq (.seq (.ops QhK) (.block 2 (.loop Q6Q))) (.ops QfQ))))) (.ops QfP)))
def QfO : List GO := [qV 109 1 3, qw 1 2 109]
def R_OwnModule_lc : LC := (.seq (.ops QhQ) (.seq (.ops QhP) (.seq (.seq (.ops QhO) (.block 0 (.loop Q6R))) (.seq (.ops QfO) .ret))))
@[reducible] def Qg3 : FuncId := 24
theorem Qg0 : lowF Try.prog Try.f24 = some R_OwnModule_lc := by kernel_rfl
theorem QhR {a0 : Value} {w : World} {R : Ending → World → Prop} (h : R_OwnModule_lc.wp Try.prog (retQ Try.prog [.cell 2 24] R) (Qh [a0]) w) : Calls Try.prog Qg3 ⟨[a0]⟩ w R :=
  Q4 Try.func24 Qg0 (by kernel_rfl) (by kernel_rfl) h

/- 25 -/
def QjJ : List GO := [qb 1 24 0, ⟨none, .alloc 2 47 [(vi 0), (vi 0)]⟩]
def QjI : List GO := [qV 7 1 1, ⟨none, .build 8 [vn, (vi 0), (vi 0), (vi 0)] [(0, (1, (.tmp 7))), (3, (1, (.const (vi (-1)))))]⟩, qb 9 83 8, qm 3 9]
def QjH : List GO := [qm 10 3, qf 11 1 0, ql 12 11, qL 13 12, qj 14 .eql 3 13 0, qm 15 14, qg 15 false (qf 16 1 0), qg 15 false (ql 17 16), qg 15 false (qL 18 17), qg 15 false (qj 19 .gtr 3 18 8), ⟨none, .pick 20 (.tmp 15) (.const (.bool true)) (.tmp 19)⟩, ⟨none, .call (some 21) 54 [(.tmp 10), (.tmp 20), (.const (vi 2))]⟩]
def QjG : List GO := [qk 4 (vi 0)]
def QjF : List GO := [qm 22 4, qf 23 1 0, ql 24 23, qL 25 24, qt 26 .lss 3 22 25, qm 27 26, qg 27 true (qm 28 3), qg 27 true (qn 29 28), qg 27 true (qf 30 29 1), qg 27 true (qf 31 30 0), qg 27 true (ql 32 31), qg 27 true (qj 33 .eql 3 32 0), ⟨none, .pick 34 (.tmp 27) (.tmp 33) (.const (.bool false))⟩]
def QjE : List GO := [qf 37 1 0, ql 38 37, qm 39 4, qi 40 4 38 39, qV 41 4 40, ⟨none, .alloc 5 31 [(vi 0), vn, vn, vn]⟩, qw 4 5 41]
def QjD : List GO := [qm 42 3, qm 43 4, ⟨none, .call (some 44) 16 [(.tmp 43)]⟩, qn 45 42, qf 46 45 3, qs 46 44]
def QjC : List GO := [qm 47 3, qf 48 5 0, ql 49 48, qj 50 .lss 3 49 0, qm 51 50, qg 51 false (qf 52 5 0), qg 51 false (ql 53 52), qg 51 false (qj 54 .gtr 3 53 6), ⟨none, .pick 55 (.tmp 51) (.const (.bool true)) (.tmp 54)⟩, ⟨none, .call (some 56) 54 [(.tmp 47), (.tmp 55), (.const (vi 1))]⟩]
def QjB : List GO := [qm 57 3, qf 58 5 1, ql 59 58, qf 60 5 0, ql 61 60, ⟨none, .call (some 62) 55 [(.tmp 57), (.tmp 59), (.tmp 61)]⟩]
def QjA : List GO := [qm 63 3, qf 64 5 2, ql 65 64, qf 66 5 0, ql 67 66, ⟨none, .call (some 68) 55 [(.tmp 63), (.tmp 65), (.tmp 67)]⟩]
def Qh6 : List GO := [qm 69 3, qf 70 5 3, ql 71 70, qL 72 71, qj 73 .eql 3 72 0, qm 74 73, qg 74 false (qf 75 5 3), qg 74 false (ql 76 75), qg 74 false (qL 77 76), qg 74 false (qj 78 .gtr 3 77 12), ⟨none, .pick 79 (.tmp 74) (.const (.bool true)) (.tmp 78)⟩, ⟨none, .call (some 80) 54 [(.tmp 69), (.tmp 79), (.const (vi 2))]⟩]
def Qh5 : List GO := [qm 81 3, qm 82 4, qj 83 .eql 3 82 0, qm 84 83, qg 84 true (qf 85 5 0), qg 84 true (ql 86 85), qg 84 true (qj 87 .gtr 3 86 0), qg 84 true (qm 88 87), qg 88 false (qf 89 5 1), qg 88 false (ql 90 89), qg 88 false (qL 91 90), qg 88 false (qj 92 .gtr 3 91 0), ⟨some (84, true), .pick 93 (.tmp 88) (.const (.bool true)) (.tmp 92)⟩, qg 84 true (qm 94 93), qg 94 false (qf 95 5 2), qg 94 false (ql 96 95), ⟨some (94, false), .call (some 97) 56 [(.tmp 96), (.func 57)]⟩, ⟨some (84, true), .pick 98 (.tmp 94) (.const (.bool true)) (.tmp 97)⟩, ⟨none, .pick 99 (.tmp 84) (.tmp 98) (.const (.bool false))⟩, ⟨none, .call (some 100) 54 [(.tmp 81), (.tmp 99), (.const (vi 18))]⟩]
def Qh4 : List GO := [qk 6 (vi 0)]
def Qh3 : List GO := [qm 101 6, qf 102 5 3, ql 103 102, qL 104 103, qt 105 .lss 3 101 104, qm 106 105, qg 106 true (qm 107 3), qg 106 true (qn 108 107), qg 106 true (qf 109 108 1), qg 106 true (qf 110 109 0), qg 106 true (ql 111 110), qg 106 true (qj 112 .eql 3 111 0), ⟨none, .pick 113 (.tmp 106) (.tmp 112) (.const (.bool false))⟩]
def Qh2 : List GO := [qm 116 3, qm 117 4, qm 118 6, ⟨none, .call (some 119) 58 [(.tmp 116), (.tmp 117), (.tmp 118)]⟩]
def Qh1 : List GO := [qm 114 6, qj 115 .add 3 114 1, qm 6 115]
def Q6O : LC := (.seq (.seq (.ops Qh3) (.cond (.tmp 113) .skip (.exit 2))) (.seq (.block 3 (.ops Qh2)) (.ops Qh1)))
def Qh0 : List GO := [qm 35 4, qj 36 .add 3 35 1, qm 4 36]
def Q9S : LC := (.seq (.seq (.ops QjF) (.cond (.tmp 34) .skip (.exit 0))) (.seq (.block 1 (.seq (.ops QjE) (.seq (.ops QjD) (.seq (.ops QjC) (.seq (.ops QjB) (.seq (.ops QjA) (.seq (.ops Qh6) (.seq (.ops Qh5) (.seq (.ops Qh4) (.block 2 (.loop Q6O))))))))))) (.ops Qh0)))
def QgZ : List GO := [qm 120 3, qn 121 120, qf 122 121 1, qV 123 2 122, qw 2 2 123]
def code_Check_lc : LC := (.seq (.ops QjJ) (.seq (.ops QjI) (.seq (.ops QjH) (.seq (.seq (.ops QjG) (.block 0 (.loop Q9S))) (.seq (.ops QgZ) .ret)))))
@[reducible] def Q3h : FuncId := 25
theorem Qh7 : lowF Try.prog Try.f25 = some code_Check_lc := by kernel_rfl
theorem QjK {a0 : Value} {w : World} {R : Ending → World → Prop} (h : code_Check_lc.wp Try.prog (retQ Try.prog [.cell 2 47] R) (Qh [a0]) w) : Calls Try.prog Q3h ⟨[a0]⟩ w R :=
  Q4 Try.func25 Qh7 (by kernel_rfl) (by kernel_rfl) h

/- 26 -/
def Qin : List GO := [qb 1 24 0, ⟨none, .alloc 2 47 [(vi 0), (vi 0)]⟩]
def Qim : List GO := [qf 11 1 0, ql 12 11, qL 13 12, qj 14 .lss 3 13 1, qm 15 14, qg 15 false (qf 16 1 0), qg 15 false (ql 17 16), qg 15 false (qL 18 17), qg 15 false (qj 19 .gtr 3 18 8), ⟨none, .pick 20 (.tmp 15) (.const (.bool true)) (.tmp 19)⟩]
def Qil : List GO := [⟨none, .call (some 21) 59 [(.const (vi 2)), (.const (vi (-1)))]⟩, qw 2 2 21]
def Qik : List GO := [qk 3 (vi 0)]
def Qij : List GO := [qm 22 3, qf 23 1 0, ql 24 23, qL 25 24, qt 26 .lss 3 22 25]
def Qii : List GO := [qf 29 1 0, ql 30 29, qm 31 3, qi 32 4 30 31, qV 33 4 32, ⟨none, .alloc 4 31 [(vi 0), vn, vn, vn]⟩, qw 4 4 33]
def Qih : List GO := [qf 34 4 0, ql 35 34, qj 36 .lss 3 35 0, qm 37 36, qg 37 false (qf 38 4 0), qg 37 false (ql 39 38), qg 37 false (qj 40 .gtr 3 39 6), ⟨none, .pick 41 (.tmp 37) (.const (.bool true)) (.tmp 40)⟩]
def Qig : List GO := [qm 42 3, ⟨none, .call (some 43) 17 [(.tmp 42)]⟩, ⟨none, .call (some 44) 59 [(.const (vi 1)), (.tmp 43)]⟩, qw 2 2 44]
def Qif : List GO := [qf 45 4 1, ql 46 45, qf 47 4 0, ql 48 47, ⟨none, .call (some 49) 60 [(.tmp 46), (.tmp 48)]⟩, qm 5 49]
def Qie : List GO := [qm 50 5, qj 51 .neq 3 50 0]
def Qgs : List GO := [qm 52 5, qm 53 3, ⟨none, .call (some 54) 17 [(.tmp 53)]⟩, ⟨none, .call (some 55) 59 [(.tmp 52), (.tmp 54)]⟩, qw 2 2 55]
def Qgr : List GO := [qf 56 4 2, ql 57 56, qf 58 4 0, ql 59 58, ⟨none, .call (some 60) 60 [(.tmp 57), (.tmp 59)]⟩, qm 6 60]
def Qgq : List GO := [qm 61 6, qj 62 .neq 3 61 0]
def Qgp : List GO := [qm 63 6, qm 64 3, ⟨none, .call (some 65) 17 [(.tmp 64)]⟩, ⟨none, .call (some 66) 59 [(.tmp 63), (.tmp 65)]⟩, qw 2 2 66]
def Qgo : List GO := [qf 67 4 3, ql 68 67, qL 69 68, qj 70 .lss 3 69 1, qm 71 70, qg 71 false (qf 72 4 3), qg 71 false (ql 73 72), qg 71 false (qL 74 73), qg 71 false (qj 75 .gtr 3 74 12), ⟨none, .pick 76 (.tmp 71) (.const (.bool true)) (.tmp 75)⟩]
def Qgn : List GO := [qm 77 3, ⟨none, .call (some 78) 17 [(.tmp 77)]⟩, ⟨none, .call (some 79) 59 [(.const (vi 2)), (.tmp 78)]⟩, qw 2 2 79]
def Qgm : List GO := [qm 80 3, qj 81 .eql 3 80 0]
def Qgl : List GO := [qf 82 4 0, ql 83 82, qj 84 .eql 3 83 0, qm 85 84, qg 85 true (qf 86 4 1), qg 85 true (ql 87 86), qg 85 true (qL 88 87), qg 85 true (qj 89 .eql 3 88 0), ⟨none, .pick 90 (.tmp 85) (.tmp 89) (.const (.bool false))⟩, qm 7 90]
def Qgk : List GO := [qk 8 (vi 0)]
def Qgj : List GO := [qm 91 8, qf 92 4 2, ql 93 92, qL 94 93, qt 95 .lss 3 91 94]
def Qgi : List GO := [qm 98 7, qm 99 98, qg 99 true (qf 100 4 2), qg 99 true (ql 101 100), qg 99 true (qm 102 8), qg 99 true (qi 103 3 101 102), qg 99 true (qf 104 103 0), qg 99 true (ql 105 104), qg 99 true (qj 106 .eql 3 105 1), ⟨none, .pick 107 (.tmp 99) (.tmp 106) (.const (.bool false))⟩, qm 7 107]
def Qgh : List GO := [qm 96 8, qj 97 .add 3 96 1, qm 8 97]
def Q5L : LC := (.seq (.seq (.ops Qgj) (.cond (.tmp 95) .skip (.exit 2))) (.seq (.block 3 (.ops Qgi)) (.ops Qgh)))
def Qgg : List GO := [qm 108 7, ⟨none, .un 109 .not (.tmp 108)⟩]
def Qgf : List GO := [qm 110 3, ⟨none, .call (some 111) 17 [(.tmp 110)]⟩, ⟨none, .call (some 112) 59 [(.const (vi 18)), (.tmp 111)]⟩, qw 2 2 112]
def Qge : List GO := [qk 9 (vi 0)]
def Qgd : List GO := [qm 113 9, qf 114 4 3, ql 115 114, qL 116 115, qt 117 .lss 3 113 116]
def Qgc : List GO := [qV 120 1 1, qm 121 3, qm 122 9, ⟨none, .call (some 123) 61 [(.tmp 120), (.tmp 121), (.tmp 122)]⟩, ⟨none, .alloc 10 47 [(vi 0), (vi 0)]⟩, qw 2 10 123]
def Qgb : List GO := [qf 124 10 0, ql 125 124, qj 126 .neq 3 125 0]
def Qga : List GO := [qV 127 2 10, qw 2 2 127]
def Qg9 : List GO := [qm 118 9, qj 119 .add 3 118 1, qm 9 119]
def Q5K : LC := (.seq (.seq (.ops Qgd) (.cond (.tmp 117) .skip (.exit 4))) (.seq (.block 5 (.seq (.ops Qgc) (.seq (.ops Qgb) (.cond (.tmp 126) (.seq (.ops Qga) .ret) .skip)))) (.ops Qg9)))
def Qg8 : List GO := [qm 27 3, qj 28 .add 3 27 1, qm 3 28]
def Q6S : LC := (.seq (.seq (.ops Qij) (.cond (.tmp 26) .skip (.exit 0))) (.seq (.block 1 (.seq (.ops Qii) (.seq (.seq (.ops Qih) (.cond (.tmp 41) (.seq (.ops Qig) .ret) .skip)) (.seq (.seq (.ops Qif) (.seq (.ops Qie) (.cond (.tmp 51) (.seq (.ops Qgs) .ret) .skip))) (.seq (.seq (.ops Qgr) (.seq (.ops Qgq) (.cond (.tmp 62) (.seq (.ops Qgp) .ret) .skip))) (.seq (.seq (.ops Qgo) (.cond (.tmp 76) (.seq (.ops Qgn) .ret) .skip)) (.seq (.seq (.ops Qgm) (.cond (.tmp 81) (.seq (.ops Qgl) (.seq (.seq (.ops Qgk) (.block 2 (.loop Q5L))) (.seq (.ops Qgg) (.cond (.tmp 109) (.seq (.ops Qgf) .ret) .skip)))) .skip)) (.seq (.ops Qge) (.block 4 (.loop Q5K)))))))))) (.ops Qg8)))
def Qg7 : List GO := [⟨none, .build 128 [(vi 0), (vi 0)] []⟩, qw 2 2 128]
def R_CodeFault_lc : LC := (.seq (.ops Qin) (.seq (.seq (.ops Qim) (.cond (.tmp 20) (.seq (.ops Qil) .ret) .skip)) (.seq (.seq (.ops Qik) (.block 0 (.loop Q6S))) (.seq (.ops Qg7) .ret))))
@[reducible] def QN : FuncId := 26
theorem Qgt : lowF Try.prog Try.f26 = some R_CodeFault_lc := by kernel_rfl
theorem Qio {a0 : Value} {w : World} {R : Ending → World → Prop} (h : R_CodeFault_lc.wp Try.prog (retQ Try.prog [.cell 2 47] R) (Qh [a0]) w) : Calls Try.prog QN ⟨[a0]⟩ w R :=
  Q4 Try.func26 Qgt (by kernel_rfl) (by kernel_rfl) h

/- 27 -/
/- 28 -/
def Qnv : List GO := [qb 1 24 0, ⟨none, .alloc 2 24 [vn]⟩]
def Qnu : List GO := [⟨none, .alloc 3 24 [vn]⟩]
def Qnt : List GO := [qf 12 1 0, ql 13 12, qL 14 13, qk 15 (vi 0)]
def Qns : List GO := [qt 16 .lss 3 15 14]
def Qnr : List GO := [qi 17 4 13 15, qV 18 4 17, ⟨none, .alloc 5 31 [(vi 0), vn, vn, vn]⟩, qw 4 5 18]
def Qnq : List GO := [qf 19 5 0, ql 20 19, qf 21 5 1, ql 22 21, ⟨none, .call (some 23) 63 [(.tmp 22)]⟩, qf 24 5 2, ql 25 24, ⟨none, .call (some 26) 63 [(.tmp 25)]⟩, ⟨none, .build 27 [(vi 0), vn, vn, vn] [(0, (1, (.tmp 20))), (1, (1, (.tmp 23))), (2, (1, (.tmp 26)))]⟩, ⟨none, .alloc 6 31 [(vi 0), vn, vn, vn]⟩, qw 4 6 27]
def Qny : List (List Nat) := [[],[0],[],[2],[3],[],[5],[6,4],[1,4,7],[],[9,8,7,0,1,2,3,4,5,6,7,8,9]]
def Qnp : List GO := [qf 28 5 3, ql 29 28, qL 30 29, qk 31 (vi 0)]
def Qno : List GO := [qt 32 .lss 3 31 30]
def Qnn : List GO := [qi 33 12 29 31, qV 34 12 33, ⟨none, .alloc 8 77 [(vi 0), vn, vn, (vi 0), (vi 0), (vi 0), vn, vn, (vi 0), vn, vn, vn]⟩, qw 12 8 34]
def Qnm : List GO := [qf 35 8 0, ql 36 35, qf 37 8 1, ql 38 37, ⟨none, .call (some 39) 63 [(.tmp 38)]⟩, qf 40 8 3, qV 41 9 40, ⟨none, .build 42 [(vi 0), vn, vn, (vi 0), (vi 0), (vi 0), vn, vn, (vi 0), vn, vn, vn] [(0, (1, (.tmp 36))), (1, (1, (.tmp 39))), (3, (9, (.tmp 41)))]⟩, ⟨none, .alloc 9 77 [(vi 0), vn, vn, (vi 0), (vi 0), (vi 0), vn, vn, (vi 0), vn, vn, vn]⟩, qw 12 9 42]
def Qnx : List (List Nat) := [[],[0],[],[2],[3],[],[5],[1,4,6],[],[8,7,4,0,1,2,3,4,5,6,7,8]]
def QlM : List GO := [qf 43 8 3, qf 44 43 2, qV 45 3 44, ⟨none, .call (some 46) 64 [(.tmp 45)]⟩, qf 47 8 3, qf 48 47 5, qV 49 3 48, ⟨none, .call (some 50) 64 [(.tmp 49)]⟩, qf 51 8 3, qf 52 51 8, ql 53 52, ⟨none, .call (some 54) 65 [(.tmp 53)]⟩, qf 55 9 3, qf 56 55 2, qw 3 56 46, qf 57 9 3, qf 58 57 5, qw 3 58 50, qf 59 9 3, qf 60 59 8, qs 60 54]
def QlP : List (List Nat) := [[],[0],[1],[2],[],[4],[5],[6,3],[],[8],[9],[10,7],[0,1,2,3],[12,0,1,2,3],[13,3,11,0,1,2,3],[0,1,2,3,4,5,6,7,12,13,14],[15,0,1,2,3,4,5,6,7,12,13,14],[16,7,14,0,1,2,3,4,5,6,7,12,13,14],[0,1,2,3,4,5,6,7,8,9,10,11,12,13,14,15,16,17],[18,0,1,2,3,4,5,6,7,8,9,10,11,12,13,14,15,16,17],[19,11,17,0,1,2,3,4,5,6,7,8,9,10,11,12,13,14,15,16,17]]
def QlL : List GO := [qf 61 8 2, ql 62 61, qL 63 62, qk 64 (vi 0)]
def QlK : List GO := [qt 65 .lss 3 64 63]
def QlJ : List GO := [qi 66 8 62 64, qV 67 8 66, ⟨none, .alloc 11 27 [(vi 0), (vi 0), (vi 0), (vi 0), (vi 0), (vi 0), vn, vn]⟩, qw 8 11 67]
def QlI : List GO := [qf 68 11 6, ql 69 68, ⟨none, .call (some 70) 65 [(.tmp 69)]⟩, qf 71 11 7, ql 72 71, ⟨none, .call (some 73) 65 [(.tmp 72)]⟩, qf 74 11 6, qs 74 70, qf 75 11 7, qs 75 73]
def QlO : List (List Nat) := [[],[0],[1],[],[3],[4,2],[0,1,2,3,4],[6,2,5,0,1,2,3,4],[0,1,2,3,4,5,6,7],[8,5,7,0,1,2,3,4,5,6,7]]
def QlH : List GO := [qf 76 9 2, ql 77 76, qV 78 8 11, ⟨none, .buildS 79 27 1 [(vi 0), (vi 0), (vi 0), (vi 0), (vi 0), (vi 0), vn, vn] [(0, (8, (.tmp 78)))]⟩, ⟨none, .raw ⟨(some 80), (.call ⟨(.builtin .append), #[(.tmp 77), (.tmp 79)], #[58, 58]⟩), 58, "", #[], none⟩⟩, qf 81 9 2, qs 81 80]
def QlG : List GO := [qj 82 .add 3 64 1, qm 64 82]
def Qcm : LC := (.seq (.ops QlK) (.seq (.cond (.tmp 65) .skip (.exit 4)) (.seq (.block 5 (.seq (.ops QlJ) (.seq (.draw QlI QlO) (.ops QlH)))) (.ops QlG))))
def QlF : List GO := [qf 83 6 3, ql 84 83, qV 85 12 9, ⟨none, .buildS 86 77 1 [(vi 0), vn, vn, (vi 0), (vi 0), (vi 0), vn, vn, (vi 0), vn, vn, vn] [(0, (12, (.tmp 85)))]⟩, ⟨none, .raw ⟨(some 87), (.call ⟨(.builtin .append), #[(.tmp 84), (.tmp 86)], #[29, 29]⟩), 29, "", #[], none⟩⟩, qf 88 6 3, qs 88 87]
def QlE : List GO := [qj 89 .add 3 31 1, qm 31 89]
def Qf6 : LC := (.seq (.ops Qno) (.seq (.cond (.tmp 32) .skip (.exit 2)) (.seq (.block 3 (.seq (.ops Qnn) (.seq (.draw Qnm Qnx) (.seq (.draw QlM QlP) (.seq (.seq (.ops QlL) (.block 4 (.loop Qcm))) (.ops QlF)))))) (.ops QlE))))
def QlD : List GO := [qf 90 3 0, ql 91 90, qV 92 4 6, ⟨none, .buildS 93 31 1 [(vi 0), vn, vn, vn] [(0, (4, (.tmp 92)))]⟩, ⟨none, .raw ⟨(some 94), (.call ⟨(.builtin .append), #[(.tmp 91), (.tmp 93)], #[22, 22]⟩), 22, "", #[], none⟩⟩, qf 95 3 0, qs 95 94]
def QlC : List GO := [qj 96 .add 3 15 1, qm 15 96]
def Qf7 : LC := (.seq (.ops Qns) (.seq (.cond (.tmp 16) .skip (.exit 0)) (.seq (.block 1 (.seq (.ops Qnr) (.seq (.draw Qnq Qny) (.seq (.seq (.ops Qnp) (.block 2 (.loop Qf6))) (.ops QlD))))) (.ops QlC))))
def QlB : List GO := [qV 97 1 3, qw 1 2 97]
def code_Own_lc : LC := (.seq (.ops Qnv) (.seq (.ops Qnu) (.seq (.seq (.ops Qnt) (.block 0 (.loop Qf7))) (.seq (.ops QlB) .ret))))
@[reducible] def QoS : FuncId := 28
theorem QlN : lowF Try.prog Try.f28 = some code_Own_lc := by kernel_rfl
theorem Qnw {a0 : Value} {w : World} {R : Ending → World → Prop} (h : code_Own_lc.wp Try.prog (retQ Try.prog [.cell 2 24] R) (Qh [a0]) w) : Calls Try.prog QoS ⟨[a0]⟩ w R :=
  Q4 Try.func28 QlN (by kernel_rfl) (by kernel_rfl) h

/- 29 -/
/- 41 -/
def QhC : List GO := [qk 4 (.bool false)]
def QhB : List GO := [qm 6 0, qL 7 6, qm 8 1, qL 9 8, qt 10 .neq 3 7 9]
def QhA : List GO := [qk 4 (.bool false)]
def Qhz : List GO := [qk 5 (vi 0)]
def Qhy : List GO := [qm 11 5, qm 12 0, qL 13 12, qt 14 .lss 3 11 13]
def Qhx : List GO := [qm 17 0, qm 18 5, qi 19 3 17 18, qV 20 3 19, qm 21 1, qm 22 5, qi 23 3 21 22, qV 24 3 23, ⟨none, .call (some 25) 87 [(.tmp 20), (.tmp 24)]⟩, ⟨none, .un 26 .not (.tmp 25)⟩]
def QhE : List (List Nat) := [[],[],[0,1],[2],[],[],[4,5],[6],[3,7],[8]]
def Qhw : List GO := [qk 4 (.bool false)]
def Qhv : List GO := [qm 15 5, qj 16 .add 3 15 1, qm 5 16]
def Q6P : LC := (.seq (.seq (.ops Qhy) (.cond (.tmp 14) .skip (.exit 0))) (.seq (.block 1 (.seq (.draw Qhx QhE) (.cond (.tmp 26) (.seq (.ops Qhw) .ret) .skip))) (.ops Qhv)))
def Qhu : List GO := [qk 4 (.bool true)]
def R_SameTypes_lc : LC := (.seq (.ops QhC) (.seq (.seq (.ops QhB) (.cond (.tmp 10) (.seq (.ops QhA) .ret) .skip)) (.seq (.seq (.ops Qhz) (.block 0 (.loop Q6P))) (.seq (.ops Qhu) .ret))))
@[reducible] def Q2y : FuncId := 41
theorem QfM : lowF Try.prog Try.f41 = some R_SameTypes_lc := by kernel_rfl
theorem QhD {a0 a1 : Value} {w : World} {R : Ending → World → Prop} (h : R_SameTypes_lc.wp Try.prog (retQ Try.prog [.tmp 4] R) (Qh [a0, a1]) w) : Calls Try.prog Q2y ⟨[a0, a1]⟩ w R :=
  Q4 Try.func41 QfM (by kernel_rfl) (by kernel_rfl) h

/- 42 -/
/- 45 -/
def QmA : List GO := [⟨none, .alloc 0 24 [vn]⟩]
def Qmz : List GO := [⟨none, .build 1 [(vi 0), (vi 0), (vi 0), vn, vn, (vi 0), vn, vn, vn] [(0, (1, (.const (vi 3))))]⟩, ⟨none, .build 2 [(vi 0), vn, vn, (vi 0), (vi 0), (vi 0), vn, vn, (vi 0), vn, vn, vn] [(3, (9, (.tmp 1)))]⟩, ⟨none, .buildS 3 77 1 [(vi 0), vn, vn, (vi 0), (vi 0), (vi 0), vn, vn, (vi 0), vn, vn, vn] [(0, (12, (.tmp 2)))]⟩, ⟨none, .build 4 [(vi 0), vn, vn, vn] [(3, (1, (.tmp 3)))]⟩, ⟨none, .buildS 5 31 1 [(vi 0), vn, vn, vn] [(0, (4, (.tmp 4)))]⟩, ⟨none, .build 6 [vn] [(0, (1, (.tmp 5)))]⟩, qw 1 0 6]
def Law_least_lc : LC := (.seq (.ops QmA) (.seq (.ops Qmz) .ret))
@[reducible] def QmC : FuncId := 45
theorem QkK : lowF Try.prog Try.f45 = some Law_least_lc := by kernel_rfl
theorem QmB {w : World} {R : Ending → World → Prop} (h : Law_least_lc.wp Try.prog (retQ Try.prog [.cell 0 24] R) (Qh []) w) : Calls Try.prog QmC ⟨[]⟩ w R :=
  Q4 Try.func45 QkK (by kernel_rfl) (by kernel_rfl) h

/- 46 -/
def Qfy : List GO := [qk 2 (.bool false)]
def Qfx : List GO := [qm 4 0, qL 5 4, qj 6 .gtr 3 5 200]
def Qfw : List GO := [qk 2 (.bool true)]
def Qfv : List GO := [qk 3 (vi 0)]
def Qfu : List GO := [qm 7 3, qm 8 0, qL 9 8, qt 10 .lss 3 7 9]
def Qft : List GO := [qm 13 0, qm 14 3, qi 15 3 13 14, qV 16 3 15, ⟨none, .call (some 17) 89 [(.tmp 16)]⟩]
def Qfs : List GO := [qk 2 (.bool true)]
def Qfr : List GO := [qm 11 3, qj 12 .add 3 11 1, qm 3 12]
def Q5I : LC := (.seq (.seq (.ops Qfu) (.cond (.tmp 10) .skip (.exit 0))) (.seq (.block 1 (.seq (.ops Qft) (.cond (.tmp 17) (.seq (.ops Qfs) .ret) .skip))) (.ops Qfr)))
def Qfq : List GO := [qk 2 (.bool false)]
def R_greatTypes_lc : LC := (.seq (.ops Qfy) (.seq (.seq (.ops Qfx) (.cond (.tmp 6) (.seq (.ops Qfw) .ret) .skip)) (.seq (.seq (.ops Qfv) (.block 0 (.loop Q5I))) (.seq (.ops Qfq) .ret))))
@[reducible] def Q2D : FuncId := 46
theorem Qd8 : lowF Try.prog Try.f46 = some R_greatTypes_lc := by kernel_rfl
theorem Qfz {a0 : Value} {w : World} {R : Ending → World → Prop} (h : R_greatTypes_lc.wp Try.prog (retQ Try.prog [.tmp 2] R) (Qh [a0]) w) : Calls Try.prog Q2D ⟨[a0]⟩ w R :=
  Q4 Try.func46 Qd8 (by kernel_rfl) (by kernel_rfl) h

/- 47 -/
def QbF : List GO := [qb 3 27 1]
def QbE : List GO := [qm 5 0, qf 6 3 0, ql 7 6, qj 8 .lss 3 7 1, qm 9 8, qg 9 false (qf 10 3 0), qg 9 false (ql 11 10), qg 9 false (qj 12 .gtr 3 11 14), ⟨none, .pick 13 (.tmp 9) (.const (.bool true)) (.tmp 12)⟩, ⟨none, .call (some 14) 54 [(.tmp 5), (.tmp 13), (.const (vi 3))]⟩]
def QbD : List GO := [qf 15 3 0, ql 16 15, ⟨none, .call (some 17) 90 [(.tmp 16)]⟩, qm 4 17]
def QbC : List GO := [qm 18 0, qm 19 4, ⟨none, .call (some 20) 91 [(.tmp 19), (.const (.int .u8 97))]⟩, ⟨none, .un 21 .not (.tmp 20)⟩, qm 22 21, qg 22 true (qf 23 3 1), qg 22 true (ql 24 23), qg 22 true (qj 25 .neq 3 24 0), ⟨none, .pick 26 (.tmp 22) (.tmp 25) (.const (.bool false))⟩, qm 27 26, qg 27 false (qm 28 4), ⟨some (27, false), .call (some 29) 91 [(.tmp 28), (.const (.int .u8 98))]⟩, ⟨some (27, false), .un 30 .not (.tmp 29)⟩, qg 27 false (qm 31 30), qg 31 true (qf 32 3 2), qg 31 true (ql 33 32), qg 31 true (qj 34 .neq 3 33 0), ⟨some (27, false), .pick 35 (.tmp 31) (.tmp 34) (.const (.bool false))⟩, ⟨none, .pick 36 (.tmp 27) (.const (.bool true)) (.tmp 35)⟩, qm 37 36, qg 37 false (qm 38 4), ⟨some (37, false), .call (some 39) 91 [(.tmp 38), (.const (.int .u8 99))]⟩, ⟨some (37, false), .un 40 .not (.tmp 39)⟩, qg 37 false (qm 41 40), qg 41 true (qf 42 3 3), qg 41 true (ql 43 42), qg 41 true (qj 44 .neq 3 43 0), ⟨some (37, false), .pick 45 (.tmp 41) (.tmp 44) (.const (.bool false))⟩, ⟨none, .pick 46 (.tmp 37) (.const (.bool true)) (.tmp 45)⟩, qm 47 46, qg 47 false (qm 48 4), ⟨some (47, false), .call (some 49) 91 [(.tmp 48), (.const (.int .u8 107))]⟩, ⟨some (47, false), .un 50 .not (.tmp 49)⟩, qg 47 false (qm 51 50), qg 51 true (qf 52 3 4), qg 51 true (ql 53 52), qg 51 true (qj 54 .neq 3 53 0), ⟨some (47, false), .pick 55 (.tmp 51) (.tmp 54) (.const (.bool false))⟩, ⟨none, .pick 56 (.tmp 47) (.const (.bool true)) (.tmp 55)⟩, qm 57 56, qg 57 false (qm 58 4), ⟨some (57, false), .call (some 59) 91 [(.tmp 58), (.const (.int .u8 110))]⟩, ⟨some (57, false), .un 60 .not (.tmp 59)⟩, qg 57 false (qm 61 60), qg 61 true (qf 62 3 5), qg 61 true (ql 63 62), qg 61 true (qj 64 .neq 2 63 0), ⟨some (57, false), .pick 65 (.tmp 61) (.tmp 64) (.const (.bool false))⟩, ⟨none, .pick 66 (.tmp 57) (.const (.bool true)) (.tmp 65)⟩, qm 67 66, qg 67 false (qm 68 4), ⟨some (67, false), .call (some 69) 91 [(.tmp 68), (.const (.int .u8 103))]⟩, ⟨some (67, false), .un 70 .not (.tmp 69)⟩, qg 67 false (qm 71 70), qg 71 true (qf 72 3 6), qg 71 true (ql 73 72), qg 71 true (qL 74 73), qg 71 true (qj 75 .gtr 3 74 0), ⟨some (67, false), .pick 76 (.tmp 71) (.tmp 75) (.const (.bool false))⟩, ⟨none, .pick 77 (.tmp 67) (.const (.bool true)) (.tmp 76)⟩, qm 78 77, qg 78 false (qm 79 4), ⟨some (78, false), .call (some 80) 91 [(.tmp 79), (.const (.int .u8 114))]⟩, ⟨some (78, false), .un 81 .not (.tmp 80)⟩, qg 78 false (qm 82 81), qg 82 true (qf 83 3 7), qg 82 true (ql 84 83), qg 82 true (qL 85 84), qg 82 true (qj 86 .gtr 3 85 0), ⟨some (78, false), .pick 87 (.tmp 82) (.tmp 86) (.const (.bool false))⟩, ⟨none, .pick 88 (.tmp 78) (.const (.bool true)) (.tmp 87)⟩, ⟨none, .call (some 89) 54 [(.tmp 18), (.tmp 88), (.const (vi 4))]⟩]
def QbB : List GO := [qf 90 3 0, ql 91 90]
def QbA : List GO := [qj 93 .eql 3 91 2, qm 92 93]
def Qbz : List GO := [qm 94 0, qf 95 3 4, ql 96 95, qj 97 .lss 3 96 1, qm 98 97, qg 98 false (qf 99 3 4), qg 98 false (ql 100 99), qg 98 false (qj 101 .gtr 3 100 9), ⟨none, .pick 102 (.tmp 98) (.const (.bool true)) (.tmp 101)⟩, ⟨none, .call (some 103) 54 [(.tmp 94), (.tmp 102), (.const (vi 1))]⟩]
def Qby : List GO := [qj 105 .eql 3 91 5, qm 104 105]
def Qbx : List GO := [qm 106 0, qf 107 3 7, ql 108 107, qL 109 108, qj 110 .gtr 3 109 8, ⟨none, .call (some 111) 54 [(.tmp 106), (.tmp 110), (.const (vi 2))]⟩]
def Qbw : List GO := [qj 113 .eql 3 91 6, qm 112 113]
def Q9M : List GO := [qj 114 .eql 3 91 7, qm 112 114]
def Q9L : List GO := [qm 115 0, qf 116 3 4, ql 117 116, qj 118 .lss 3 117 0, qm 119 118, qg 119 false (qf 120 3 4), qg 119 false (ql 121 120), qg 119 false (qj 122 .geq 3 121 8), ⟨none, .pick 123 (.tmp 119) (.const (.bool true)) (.tmp 122)⟩, ⟨none, .call (some 124) 54 [(.tmp 115), (.tmp 123), (.const (vi 1))]⟩]
def Q9K : List GO := [qj 126 .eql 3 91 14, qm 125 126]
def Q9J : List GO := [qm 127 0, qf 128 3 4, ql 129 128, qj 130 .lss 3 129 0, qm 131 130, qg 131 false (qf 132 3 4), qg 131 false (ql 133 132), qg 131 false (qm 134 0), qg 131 false (qn 135 134), qg 131 false (qf 136 135 0), qg 131 false (qf 137 136 0), qg 131 false (ql 138 137), qg 131 false (qL 139 138), qg 131 false (qt 140 .geq 3 133 139), ⟨none, .pick 141 (.tmp 131) (.const (.bool true)) (.tmp 140)⟩, ⟨none, .call (some 142) 54 [(.tmp 127), (.tmp 141), (.const (vi 1))]⟩]
def Q9O : List (List Nat) := [[],[],[1],[2],[3],[4],[5,4],[4],[7,4],[8,4],[9,4],[10,4],[11,4],[6,12,4],[4,13],[0,14,4]]
def Q9I : List GO := [qm 143 0, qf 144 3 6, ql 145 144, qL 146 145, qj 147 .gtr 3 146 6, qm 148 147, qg 148 false (qf 149 3 7), qg 148 false (ql 150 149), qg 148 false (qL 151 150), qg 148 false (qj 152 .gtr 3 151 8), ⟨none, .pick 153 (.tmp 148) (.const (.bool true)) (.tmp 152)⟩, ⟨none, .call (some 154) 54 [(.tmp 143), (.tmp 153), (.const (vi 2))]⟩]
def code_judge_ins_lc : LC := (.seq (.ops QbF) (.seq (.ops QbE) (.seq (.ops QbD) (.seq (.ops QbC) (.seq (.ops QbB) (.block 0 (.seq (.ops QbA) (.cond (.tmp 92) (.ops Qbz) (.seq (.ops Qby) (.cond (.tmp 104) (.ops Qbx) (.seq (.seq (.ops Qbw) (.cond (.tmp 112) .skip (.ops Q9M))) (.cond (.tmp 112) (.ops Q9L) (.seq (.ops Q9K) (.cond (.tmp 125) (.seq (.draw Q9J Q9O) (.ops Q9I)) .skip))))))))))))))
@[reducible] def QU : FuncId := 47
theorem Q9N : lowF Try.prog Try.f47 = some code_judge_ins_lc := by kernel_rfl
theorem QbG {a0 a1 : Value} {w : World} {R : Ending → World → Prop} (h : code_judge_ins_lc.wp Try.prog (retQ Try.prog [] R) (Qh [a0, a1]) w) : Calls Try.prog QU ⟨[a0, a1]⟩ w R :=
  Q4 Try.func47 Q9N (by kernel_rfl) (by kernel_rfl) h

/- 48 -/
def QkG : List GO := [⟨none, .alloc 2 86 [(.bool false), (.bool false), (.bool false), (.bool false), (.bool false), (.bool false), (.bool false)]⟩, qk 3 (.bool false)]
def QkF : List GO := [qm 4 0]
def QkE : List GO := [qj 6 .eql 3 4 1, qm 5 6]
def QkD : List GO := [⟨none, .build 7 [(.bool false), (.bool false), (.bool false), (.bool false), (.bool false), (.bool false), (.bool false)] [(4, (1, (.const (.bool true))))]⟩, qw 7 2 7, qk 3 (.bool true)]
def QkC : List GO := [qj 9 .eql 3 4 2, qm 8 9]
def QkB : List GO := [qj 10 .eql 3 4 7, qm 8 10]
def QkA : List GO := [⟨none, .build 11 [(.bool false), (.bool false), (.bool false), (.bool false), (.bool false), (.bool false), (.bool false)] [(0, (1, (.const (.bool true)))), (1, (1, (.const (.bool true)))), (3, (1, (.const (.bool true))))]⟩, qw 7 2 11, qk 3 (.bool true)]
def Qkz : List GO := [qj 13 .eql 3 4 3, qm 12 13]
def Qky : List GO := [qj 14 .eql 3 4 12, qm 12 14]
def Qkx : List GO := [⟨none, .build 15 [(.bool false), (.bool false), (.bool false), (.bool false), (.bool false), (.bool false), (.bool false)] []⟩, qw 7 2 15, qk 3 (.bool true)]
def Qic : List GO := [qj 17 .eql 3 4 4, qm 16 17]
def Qib : List GO := [qj 18 .eql 3 4 11, qm 16 18]
def Qia : List GO := [qj 19 .eql 3 4 13, qm 16 19]
def Qi9 : List GO := [⟨none, .build 20 [(.bool false), (.bool false), (.bool false), (.bool false), (.bool false), (.bool false), (.bool false)] [(0, (1, (.const (.bool true))))]⟩, qw 7 2 20, qk 3 (.bool true)]
def Qi8 : List GO := [qj 22 .eql 3 4 5, qm 21 22]
def Qi7 : List GO := [⟨none, .build 23 [(.bool false), (.bool false), (.bool false), (.bool false), (.bool false), (.bool false), (.bool false)] [(0, (1, (.const (.bool true)))), (6, (1, (.const (.bool true))))]⟩, qw 7 2 23, qk 3 (.bool true)]
def Qi6 : List GO := [qj 25 .eql 3 4 6, qm 24 25]
def Qi5 : List GO := [⟨none, .build 26 [(.bool false), (.bool false), (.bool false), (.bool false), (.bool false), (.bool false), (.bool false)] [(0, (1, (.const (.bool true)))), (3, (1, (.const (.bool true))))]⟩, qw 7 2 26, qk 3 (.bool true)]
def Qi4 : List GO := [qj 28 .eql 3 4 8, qm 27 28]
def Qi3 : List GO := [qj 29 .eql 3 4 9, qm 27 29]
def Qi2 : List GO := [⟨none, .build 30 [(.bool false), (.bool false), (.bool false), (.bool false), (.bool false), (.bool false), (.bool false)] [(0, (1, (.const (.bool true)))), (1, (1, (.const (.bool true))))]⟩, qw 7 2 30, qk 3 (.bool true)]
def Qi1 : List GO := [qj 32 .eql 3 4 10, qm 31 32]
def Qi0 : List GO := [⟨none, .build 33 [(.bool false), (.bool false), (.bool false), (.bool false), (.bool false), (.bool false), (.bool false)] [(0, (1, (.const (.bool true)))), (1, (1, (.const (.bool true)))), (2, (1, (.const (.bool true))))]⟩, qw 7 2 33, qk 3 (.bool true)]
def QhZ : List GO := [qj 35 .eql 3 4 14, qm 34 35]
def QhY : List GO := [⟨none, .build 36 [(.bool false), (.bool false), (.bool false), (.bool false), (.bool false), (.bool false), (.bool false)] [(3, (1, (.const (.bool true)))), (5, (1, (.const (.bool true)))), (6, (1, (.const (.bool true))))]⟩, qw 7 2 36, qk 3 (.bool true)]
def QhX : List GO := [⟨none, .build 37 [(.bool false), (.bool false), (.bool false), (.bool false), (.bool false), (.bool false), (.bool false)] []⟩, qw 7 2 37, qk 3 (.bool false)]
def R_FieldsOf_lc : LC := (.seq (.ops QkG) (.seq (.seq (.ops QkF) (.block 0 (.seq (.ops QkE) (.cond (.tmp 5) (.seq (.ops QkD) .ret) (.seq (.seq (.ops QkC) (.cond (.tmp 8) .skip (.ops QkB))) (.cond (.tmp 8) (.seq (.ops QkA) .ret) (.seq (.seq (.ops Qkz) (.cond (.tmp 12) .skip (.ops Qky))) (.cond (.tmp 12) (.seq (.ops Qkx) .ret) (.seq (.seq (.ops Qic) (.cond (.tmp 16) .skip (.seq (.ops Qib) (.cond (.tmp 16) .skip (.ops Qia))))) (.cond (.tmp 16) (.seq (.ops Qi9) .ret) (.seq (.ops Qi8) (.cond (.tmp 21) (.seq (.ops Qi7) .ret) (.seq (.ops Qi6) (.cond (.tmp 24) (.seq (.ops Qi5) .ret) (.seq (.seq (.ops Qi4) (.cond (.tmp 27) .skip (.ops Qi3))) (.cond (.tmp 27) (.seq (.ops Qi2) .ret) (.seq (.ops Qi1) (.cond (.tmp 31) (.seq (.ops Qi0) .ret) (.seq (.ops QhZ) (.cond (.tmp 34) (.seq (.ops QhY) .ret) .skip)))))))))))))))))))) (.seq (.ops QhX) .ret)))
@[reducible] def Qa : FuncId := 48
theorem Qid : lowF Try.prog Try.f48 = some R_FieldsOf_lc := by kernel_rfl
theorem Qa2 {a0 : Value} {w : World} {R : Ending → World → Prop} (h : R_FieldsOf_lc.wp Try.prog (retQ Try.prog [.cell 2 86, .tmp 3] R) (Qh [a0]) w) : Calls Try.prog Qa ⟨[a0]⟩ w R :=
  Q4 Try.func48 Qid (by kernel_rfl) (by kernel_rfl) h

/- 49 -/
def QbM : List GO := [qb 4 31 1, qb 5 35 2]
def QbL : List GO := [qm 6 0, qf 7 5 0, ql 8 7, qj 9 .lss 3 8 1, qm 10 9, qg 10 false (qf 11 5 0), qg 10 false (ql 12 11), qg 10 false (qj 13 .gtr 3 12 3), ⟨none, .pick 14 (.tmp 10) (.const (.bool true)) (.tmp 13)⟩, ⟨none, .call (some 15) 54 [(.tmp 6), (.tmp 14), (.const (vi 3))]⟩]
def QbK : List GO := [qm 16 0, qf 17 5 0, ql 18 17, qj 19 .neq 3 18 2, qm 20 19, qg 20 true (qf 21 5 1), qg 20 true (ql 22 21), qg 20 true (qj 23 .neq 3 22 0), ⟨none, .pick 24 (.tmp 20) (.tmp 23) (.const (.bool false))⟩, qm 25 24, qg 25 false (qf 26 5 0), qg 25 false (ql 27 26), qg 25 false (qj 28 .neq 3 27 3), qg 25 false (qm 29 28), qg 29 true (qf 30 5 8), qg 29 true (ql 31 30), qg 29 true (qL 32 31), qg 29 true (qj 33 .gtr 3 32 0), ⟨some (25, false), .pick 34 (.tmp 29) (.tmp 33) (.const (.bool false))⟩, ⟨none, .pick 35 (.tmp 25) (.const (.bool true)) (.tmp 34)⟩, ⟨none, .call (some 36) 54 [(.tmp 16), (.tmp 35), (.const (vi 4))]⟩]
def QbJ : List GO := [qm 37 0, qf 38 5 8, ql 39 38, qL 40 39, qj 41 .gtr 3 40 8, ⟨none, .call (some 42) 54 [(.tmp 37), (.tmp 41), (.const (vi 2))]⟩]
def QbI : List GO := [qm 43 0, qV 44 4 4, qf 45 5 2, qV 46 3 45, qf 47 5 0, ql 48 47, qj 49 .neq 3 48 3, ⟨none, .call (some 50) 92 [(.tmp 43), (.tmp 44), (.tmp 46), (.tmp 49)]⟩]
def QbH : List GO := [qm 51 0, qV 52 4 4, qf 53 5 5, qV 54 3 53, qf 55 5 0, ql 56 55, qj 57 .eql 3 56 2, ⟨none, .call (some 58) 92 [(.tmp 51), (.tmp 52), (.tmp 54), (.tmp 57)]⟩]
def code_judge_end_lc : LC := (.seq (.ops QbM) (.seq (.ops QbL) (.seq (.ops QbK) (.seq (.ops QbJ) (.seq (.ops QbI) (.ops QbH))))))
@[reducible] def Q6N : FuncId := 49
theorem Q9R : lowF Try.prog Try.f49 = some code_judge_end_lc := by kernel_rfl
theorem QbN {a0 a1 a2 : Value} {w : World} {R : Ending → World → Prop} (h : code_judge_end_lc.wp Try.prog (retQ Try.prog [] R) (Qh [a0, a1, a2]) w) : Calls Try.prog Q6N ⟨[a0, a1, a2]⟩ w R :=
  Q4 Try.func49 Q9R (by kernel_rfl) (by kernel_rfl) h

/- 50 -/
def QnU : List GO := [qb 3 31 0, qb 4 33 1, qk 6 (vi 0)]
def QnT : List GO := [qm 7 2, ⟨none, .un 8 .not (.tmp 7)⟩]
def QnS : List GO := [qf 9 4 0, ql 10 9, qj 11 .neq 3 10 0, qm 12 11, qg 12 false (qf 13 4 1), qg 12 false (ql 14 13), qg 12 false (qL 15 14), qg 12 false (qf 16 4 2), qg 12 false (ql 17 16), qg 12 false (qL 18 17), qg 12 false (qt 19 .add 3 15 18), qg 12 false (qj 20 .gtr 3 19 0), ⟨none, .pick 21 (.tmp 12) (.const (.bool true)) (.tmp 20)⟩]
def QnR : List GO := [qk 6 (vi 4)]
def QnQ : List GO := [qk 6 (vi 0)]
def QnP : List GO := [qf 22 4 0, ql 23 22, qj 24 .lss 3 23 0, qm 25 24, qg 25 false (qf 26 4 0), qg 25 false (ql 27 26), qg 25 false (qf 28 3 3), qg 25 false (ql 29 28), qg 25 false (qL 30 29), qg 25 false (qt 31 .geq 3 27 30), ⟨none, .pick 32 (.tmp 25) (.const (.bool true)) (.tmp 31)⟩]
def QnO : List GO := [qk 6 (vi 1)]
def QnN : List GO := [qf 33 4 1, ql 34 33, qL 35 34, qj 36 .gtr 3 35 16, qm 37 36, qg 37 false (qf 38 4 2), qg 37 false (ql 39 38), qg 37 false (qL 40 39), qg 37 false (qj 41 .gtr 3 40 8), ⟨none, .pick 42 (.tmp 37) (.const (.bool true)) (.tmp 41)⟩]
def QnM : List GO := [qk 6 (vi 2)]
def QnL : List GO := [qk 6 (vi 0)]
def R_toForm_lc : LC := (.seq (.ops QnU) (.seq (.seq (.ops QnT) (.cond (.tmp 8) (.seq (.seq (.ops QnS) (.cond (.tmp 21) (.seq (.ops QnR) .ret) .skip)) (.seq (.ops QnQ) .ret)) .skip)) (.seq (.seq (.ops QnP) (.cond (.tmp 32) (.seq (.ops QnO) .ret) .skip)) (.seq (.seq (.ops QnN) (.cond (.tmp 42) (.seq (.ops QnM) .ret) .skip)) (.seq (.ops QnL) .ret)))))
@[reducible] def Q3L : FuncId := 50
theorem QlW : lowF Try.prog Try.f50 = some R_toForm_lc := by kernel_rfl
theorem Qfp {a0 a1 a2 : Value} {w : World} {R : Ending → World → Prop} (h : R_toForm_lc.wp Try.prog (retQ Try.prog [.tmp 6] R) (Qh [a0, a1, a2]) w) : Calls Try.prog Q3L ⟨[a0, a1, a2]⟩ w R :=
  Q4 Try.func50 QlW (by kernel_rfl) (by kernel_rfl) h

/- 51 -/
def Qkg : List GO := [qk 2 vn]
def Qkf : List GO := [qk 3 vn]
def Qke : List GO := [qk 4 (vi 0)]
def Qkd : List GO := [qm 5 4, qm 6 0, qL 7 6, qt 8 .lss 3 5 7]
def Qkc : List GO := [qm 11 3, qm 12 0, qm 13 4, qi 14 3 12 13, qV 15 3 14, ⟨none, .call (some 16) 93 [(.tmp 15)]⟩, ⟨none, .buildS 17 65 1 [(vi 0), (vi 0), vn] [(0, (3, (.tmp 16)))]⟩, ⟨none, .raw ⟨(some 18), (.call ⟨(.builtin .append), #[(.tmp 11), (.tmp 17)], #[28, 28]⟩), 28, "", #[], none⟩⟩, qm 3 18]
def Qkb : List GO := [qm 9 4, qj 10 .add 3 9 1, qm 4 10]
def Qa1 : LC := (.seq (.seq (.ops Qkd) (.cond (.tmp 8) .skip (.exit 0))) (.seq (.block 1 (.ops Qkc)) (.ops Qkb)))
def Qka : List GO := [qm 19 3, qm 2 19]
def R_OwnTypes_lc : LC := (.seq (.ops Qkg) (.seq (.ops Qkf) (.seq (.seq (.ops Qke) (.block 0 (.loop Qa1))) (.seq (.ops Qka) .ret))))
@[reducible] def QbQ : FuncId := 51
theorem QhG : lowF Try.prog Try.f51 = some R_OwnTypes_lc := by kernel_rfl
theorem Qkh {a0 : Value} {w : World} {R : Ending → World → Prop} (h : R_OwnTypes_lc.wp Try.prog (retQ Try.prog [.tmp 2] R) (Qh [a0]) w) : Calls Try.prog QbQ ⟨[a0]⟩ w R :=
  Q4 Try.func51 QhG (by kernel_rfl) (by kernel_rfl) h

/- 52 -/
def QlZ : List GO := [qk 2 vn]
def QlY : List GO := [qk 3 vn]
def QlX : List GO := [qm 4 3, qm 5 0, ⟨none, .raw ⟨(some 6), (.call ⟨(.builtin .append), #[(.tmp 4), (.tmp 5)], #[25, 25]⟩), 25, "", #[], none⟩⟩, qm 2 6]
def R_ownInts_lc : LC := (.seq (.ops QlZ) (.seq (.ops QlY) (.seq (.ops QlX) .ret)))
@[reducible] def Qm1 : FuncId := 52
theorem QjV : lowF Try.prog Try.f52 = some R_ownInts_lc := by kernel_rfl
theorem Qm0 {a0 : Value} {w : World} {R : Ending → World → Prop} (h : R_ownInts_lc.wp Try.prog (retQ Try.prog [.tmp 2] R) (Qh [a0]) w) : Calls Try.prog Qm1 ⟨[a0]⟩ w R :=
  Q4 Try.func52 QjV (by kernel_rfl) (by kernel_rfl) h

/- 53 -/
def Qpp : List GO := [qb 1 33 0, ⟨none, .alloc 2 33 [(vi 0), vn, vn]⟩]
def Qpo : List GO := [qf 3 1 0, ql 4 3, qf 5 1 1, ql 6 5, ⟨none, .call (some 7) 52 [(.tmp 6)]⟩, qf 8 1 2, ql 9 8, ⟨none, .call (some 10) 52 [(.tmp 9)]⟩, ⟨none, .build 11 [(vi 0), vn, vn] [(0, (1, (.tmp 4))), (1, (1, (.tmp 7))), (2, (1, (.tmp 10)))]⟩, qw 3 2 11]
def Qpr : List (List Nat) := [[],[0],[],[2],[3],[],[5],[6,4],[1,4,7],[8,7,0,1,2,3,4,5,6,7,8]]
def R_ownTo_lc : LC := (.seq (.ops Qpp) (.seq (.draw Qpo Qpr) .ret))
@[reducible] def QqU : FuncId := 53
theorem QnV : lowF Try.prog Try.f53 = some R_ownTo_lc := by kernel_rfl
theorem Qpq {a0 : Value} {w : World} {R : Ending → World → Prop} (h : R_ownTo_lc.wp Try.prog (retQ Try.prog [.cell 2 33] R) (Qh [a0]) w) : Calls Try.prog QqU ⟨[a0]⟩ w R :=
  Q4 Try.func53 QnV (by kernel_rfl) (by kernel_rfl) h

/- 54 -/
def Q9Q : List GO := [qm 6 1, qm 7 6, qg 7 true (qm 8 0), qg 7 true (qn 9 8), qg 7 true (qf 10 9 1), qg 7 true (qf 11 10 0), qg 7 true (ql 12 11), qg 7 true (qj 13 .eql 3 12 0), ⟨none, .pick 14 (.tmp 7) (.tmp 13) (.const (.bool false))⟩]
def Q9P : List GO := [qm 15 0, qm 16 2, qm 17 0, qn 18 17, qf 19 18 3, ql 20 19, ⟨none, .build 21 [(vi 0), (vi 0)] [(0, (1, (.tmp 16))), (1, (1, (.tmp 20)))]⟩, qn 22 15, qf 23 22 1, qw 2 23 21]
def code_judge_fail_lc : LC := (.seq (.ops Q9Q) (.cond (.tmp 14) (.ops Q9P) .skip))
@[reducible] def Q2T : FuncId := 54
theorem Q8e : lowF Try.prog Try.f54 = some code_judge_fail_lc := by kernel_rfl
theorem Q2S {a0 a1 a2 : Value} {w : World} {R : Ending → World → Prop} (h : code_judge_fail_lc.wp Try.prog (retQ Try.prog [] R) (Qh [a0, a1, a2]) w) : Calls Try.prog Q2T ⟨[a0, a1, a2]⟩ w R :=
  Q4 Try.func54 Q8e (by kernel_rfl) (by kernel_rfl) h

/- 55 -/
def Q9G : List GO := [qm 9 0, qm 10 1, qL 11 10, qj 12 .gtr 3 11 8, ⟨none, .call (some 13) 54 [(.tmp 9), (.tmp 12), (.const (vi 2))]⟩]
def Q9F : List GO := [qm 14 1, qL 15 14, qk 16 (vi 0)]
def Q9E : List GO := [qt 17 .lss 3 16 15]
def Q9D : List GO := [qi 18 3 14 16, qV 19 3 18, ⟨none, .alloc 7 65 [(vi 0), (vi 0), vn]⟩, qw 3 7 19]
def Q9C : List GO := [qV 20 3 7, qm 21 2, ⟨none, .call (some 22) 94 [(.tmp 20), (.tmp 21)]⟩, qm 8 22]
def Q9B : List GO := [qm 23 0, qm 24 8, qj 25 .neq 3 24 0, qm 26 8, ⟨none, .call (some 27) 54 [(.tmp 23), (.tmp 25), (.tmp 26)]⟩]
def Q9A : List GO := [qj 28 .add 3 16 1, qm 16 28]
def Q3J : LC := (.seq (.ops Q9E) (.seq (.cond (.tmp 17) .skip (.exit 0)) (.seq (.block 1 (.seq (.ops Q9D) (.seq (.ops Q9C) (.ops Q9B)))) (.ops Q9A))))
def code_judge_list_lc : LC := (.seq (.ops Q9G) (.seq (.ops Q9F) (.block 0 (.loop Q3J))))
@[reducible] def Q5D : FuncId := 55
theorem Q8d : lowF Try.prog Try.f55 = some code_judge_list_lc := by kernel_rfl
theorem Q9H {a0 a1 a2 : Value} {w : World} {R : Ending → World → Prop} (h : code_judge_list_lc.wp Try.prog (retQ Try.prog [] R) (Qh [a0, a1, a2]) w) : Calls Try.prog Q5D ⟨[a0, a1, a2]⟩ w R :=
  Q4 Try.func55 Q8d (by kernel_rfl) (by kernel_rfl) h

/- 56 -/
def Q22 : List GO := [qk 4 (.bool false)]
def Q21 : List GO := [qm 5 0, qm 6 1, ⟨none, .call (some 7) 95 [(.tmp 5), (.tmp 6)]⟩, qj 8 .geq 3 7 0, qm 4 8]
def slices_ContainsFunc_api_Type_api_Type_lc : LC := (.seq (.ops Q22) (.seq (.ops Q21) .ret))
@[reducible] def Q1x : FuncId := 56
theorem Q1V : lowF Try.prog Try.f56 = some slices_ContainsFunc_api_Type_api_Type_lc := by kernel_rfl
theorem Q23 {a0 a1 : Value} {w : World} {R : Ending → World → Prop} (h : slices_ContainsFunc_api_Type_api_Type_lc.wp Try.prog (retQ Try.prog [.tmp 4] R) (Qh [a0, a1]) w) : Calls Try.prog Q1x ⟨[a0, a1]⟩ w R :=
  Q4 Try.func56 Q1V (by kernel_rfl) (by kernel_rfl) h

/- 57 -/
def Qfb : List GO := [qb 1 65 0, qk 2 (.bool false)]
def Qfa : List GO := [qf 3 1 0, ql 4 3, qj 5 .neq 3 4 1, qm 2 5]
def code_Check_1_lc : LC := (.seq (.ops Qfb) (.seq (.ops Qfa) .ret))
@[reducible] def Q3K : FuncId := 57
theorem Qd5 : lowF Try.prog Try.f57 = some code_Check_1_lc := by kernel_rfl
theorem Qfc {a0 : Value} {w : World} {R : Ending → World → Prop} (h : code_Check_1_lc.wp Try.prog (retQ Try.prog [.tmp 2] R) (Qh [a0]) w) : Calls Try.prog Q3K ⟨[a0]⟩ w R :=
  Q4 Try.func57 Qd5 (by kernel_rfl) (by kernel_rfl) h

/- 58 -/
def Q8o : List GO := [qm 9 0, qn 10 9, qf 11 10 0, qf 12 11 0, ql 13 12, qm 14 1, qi 15 4 13 14, qV 16 4 15, ⟨none, .alloc 6 31 [(vi 0), vn, vn, vn]⟩, qw 4 6 16]
def Q8n : List GO := [qf 17 6 3, ql 18 17, qm 19 2, qi 20 12 18 19, qV 21 12 20, ⟨none, .alloc 7 77 [(vi 0), vn, vn, (vi 0), (vi 0), (vi 0), vn, vn, (vi 0), vn, vn, vn]⟩, qw 12 7 21]
def Q8m : List GO := [qm 22 0, qm 23 1, qm 24 2, ⟨none, .call (some 25) 18 [(.tmp 23), (.tmp 24)]⟩, qn 26 22, qf 27 26 3, qs 27 25]
def Q8l : List GO := [qm 28 0, qf 29 7 0, ql 30 29, qf 31 6 0, ql 32 31, qt 33 .lss 3 30 32, qm 34 33, qg 34 false (qf 35 7 0), qg 34 false (ql 36 35), qg 34 false (qj 37 .gtr 3 36 16), ⟨none, .pick 38 (.tmp 34) (.const (.bool true)) (.tmp 37)⟩, ⟨none, .call (some 39) 54 [(.tmp 28), (.tmp 38), (.const (vi 1))]⟩]
def Q8k : List GO := [qm 40 0, qf 41 7 1, ql 42 41, qf 43 7 0, ql 44 43, ⟨none, .call (some 45) 55 [(.tmp 40), (.tmp 42), (.tmp 44)]⟩]
def Q8j : List GO := [qm 46 0, qm 47 2, qj 48 .eql 3 47 0, qm 49 48, qg 49 true (qf 50 7 0), qg 49 true (ql 51 50), qg 49 true (qf 52 6 0), qg 49 true (ql 53 52), qg 49 true (qt 54 .neq 3 51 53), qg 49 true (qm 55 54), qg 55 false (qf 56 7 1), qg 55 false (ql 57 56), qg 55 false (qf 58 6 1), qg 55 false (ql 59 58), ⟨some (55, false), .call (some 60) 68 [(.tmp 57), (.tmp 59), (.func 69)]⟩, ⟨some (55, false), .un 61 .not (.tmp 60)⟩, ⟨some (49, true), .pick 62 (.tmp 55) (.const (.bool true)) (.tmp 61)⟩, ⟨none, .pick 63 (.tmp 49) (.tmp 62) (.const (.bool false))⟩, ⟨none, .call (some 64) 54 [(.tmp 46), (.tmp 63), (.const (vi 9))]⟩]
def Q8i : List GO := [qm 65 0, qf 66 7 2, ql 67 66, qL 68 67, qj 69 .gtr 3 68 40, ⟨none, .call (some 70) 54 [(.tmp 65), (.tmp 69), (.const (vi 2))]⟩]
def Q8h : List GO := [qk 8 (vi 0)]
def Q8g : List GO := [qm 71 8, qf 72 7 2, ql 73 72, qL 74 73, qt 75 .lss 3 71 74, qm 76 75, qg 76 true (qm 77 0), qg 76 true (qn 78 77), qg 76 true (qf 79 78 1), qg 76 true (qf 80 79 0), qg 76 true (ql 81 80), qg 76 true (qj 82 .eql 3 81 0), ⟨none, .pick 83 (.tmp 76) (.tmp 82) (.const (.bool false))⟩]
def Q8f : List GO := [qm 86 0, qm 87 1, qm 88 2, qm 89 8, ⟨none, .call (some 90) 22 [(.tmp 87), (.tmp 88), (.tmp 89)]⟩, qn 91 86, qf 92 91 3, qs 92 90]
def Q6E : List GO := [qm 93 0, qf 94 7 2, ql 95 94, qm 96 8, qi 97 8 95 96, qV 98 8 97, ⟨none, .call (some 99) 47 [(.tmp 93), (.tmp 98)]⟩]
def Q6D : List GO := [qm 84 8, qj 85 .add 3 84 1, qm 8 85]
def Q3z : LC := (.seq (.seq (.ops Q8g) (.cond (.tmp 83) .skip (.exit 0))) (.seq (.block 1 (.seq (.ops Q8f) (.ops Q6E))) (.ops Q6D)))
def Q6C : List GO := [qm 100 0, qm 101 1, qm 102 2, ⟨none, .call (some 103) 20 [(.tmp 101), (.tmp 102)]⟩, qn 104 100, qf 105 104 3, qs 105 103]
def Q6B : List GO := [qm 106 0, qV 107 4 6, qf 108 7 3, qV 109 9 108, ⟨none, .call (some 110) 49 [(.tmp 106), (.tmp 107), (.tmp 109)]⟩]
def code_judge_block_lc : LC := (.seq (.ops Q8o) (.seq (.ops Q8n) (.seq (.ops Q8m) (.seq (.ops Q8l) (.seq (.ops Q8k) (.seq (.ops Q8j) (.seq (.ops Q8i) (.seq (.seq (.ops Q8h) (.block 0 (.loop Q3z))) (.seq (.ops Q6C) (.ops Q6B))))))))))
@[reducible] def Q2t : FuncId := 58
theorem Q6F : lowF Try.prog Try.f58 = some code_judge_block_lc := by kernel_rfl
theorem Q8p {a0 a1 a2 : Value} {w : World} {R : Ending → World → Prop} (h : code_judge_block_lc.wp Try.prog (retQ Try.prog [] R) (Qh [a0, a1, a2]) w) : Calls Try.prog Q2t ⟨[a0, a1, a2]⟩ w R :=
  Q4 Try.func58 Q6F (by kernel_rfl) (by kernel_rfl) h

/- 59 -/
def R_F_r0 : List GO := [⟨none, .alloc 4 47 [(vi 0), (vi 0)]⟩]
def R_F_r1 : List GO := [qm 5 0, qm 6 1, ⟨none, .build 7 [(vi 0), (vi 0)] [(0, (1, (.tmp 5))), (1, (1, (.tmp 6)))]⟩, qw 2 4 7]
def R_F_lc : LC := (.seq (.ops R_F_r0) (.seq (.ops R_F_r1) .ret))
@[reducible] def R_F : FuncId := 59
theorem R_F_low : lowF Try.prog Try.f59 = some R_F_lc := by kernel_rfl
theorem R_F_in {a0 a1 : Value} {w : World} {R : Ending → World → Prop} (h : R_F_lc.wp Try.prog (retQ Try.prog [.cell 4 47] R) (Qh [a0, a1]) w) : Calls Try.prog R_F ⟨[a0, a1]⟩ w R :=
  Q4 Try.func59 R_F_low (by kernel_rfl) (by kernel_rfl) h

/- 60 -/
def Qk5 : List GO := [qk 4 (vi 0)]
def Qk4 : List GO := [qm 7 0, qL 8 7, qj 9 .gtr 3 8 8]
def Qk3 : List GO := [qk 4 (vi 2)]
def Qk2 : List GO := [qk 5 (vi 0)]
def Qk1 : List GO := [qm 10 5, qm 11 0, qL 12 11, qt 13 .lss 3 10 12]
def Qk0 : List GO := [qm 16 0, qm 17 5, qi 18 3 16 17, qV 19 3 18, qm 20 1, ⟨none, .call (some 21) 96 [(.tmp 19), (.tmp 20)]⟩, qm 6 21]
def QjZ : List GO := [qm 22 6, qj 23 .neq 3 22 0]
def QjY : List GO := [qm 24 6, qm 4 24]
def QjX : List GO := [qm 14 5, qj 15 .add 3 14 1, qm 5 15]
def Qa0 : LC := (.seq (.seq (.ops Qk1) (.cond (.tmp 13) .skip (.exit 0))) (.seq (.block 1 (.seq (.ops Qk0) (.seq (.ops QjZ) (.cond (.tmp 23) (.seq (.ops QjY) .ret) .skip)))) (.ops QjX)))
def QjW : List GO := [qk 4 (vi 0)]
def R_listForm_lc : LC := (.seq (.ops Qk5) (.seq (.seq (.ops Qk4) (.cond (.tmp 9) (.seq (.ops Qk3) .ret) .skip)) (.seq (.seq (.ops Qk2) (.block 0 (.loop Qa0))) (.seq (.ops QjW) .ret))))
@[reducible] def Q3i : FuncId := 60
theorem Qho : lowF Try.prog Try.f60 = some R_listForm_lc := by kernel_rfl
theorem Qk6 {a0 a1 : Value} {w : World} {R : Ending → World → Prop} (h : R_listForm_lc.wp Try.prog (retQ Try.prog [.tmp 4] R) (Qh [a0, a1]) w) : Calls Try.prog Q3i ⟨[a0, a1]⟩ w R :=
  Q4 Try.func60 Qho (by kernel_rfl) (by kernel_rfl) h

/- 61 -/
def QfJ : List GO := [qb 3 24 0, ⟨none, .alloc 6 47 [(vi 0), (vi 0)]⟩]
def QfI : List GO := [qf 13 3 0, ql 14 13, qm 15 1, qi 16 4 14 15, qV 17 4 16, ⟨none, .alloc 7 31 [(vi 0), vn, vn, vn]⟩, qw 4 7 17]
def QfH : List GO := [qf 18 7 3, ql 19 18, qm 20 2, qi 21 12 19 20, qV 22 12 21, ⟨none, .alloc 8 77 [(vi 0), vn, vn, (vi 0), (vi 0), (vi 0), vn, vn, (vi 0), vn, vn, vn]⟩, qw 12 8 22]
def QfG : List GO := [qf 23 8 0, ql 24 23, qf 25 7 0, ql 26 25, qt 27 .lss 3 24 26, qm 28 27, qg 28 false (qf 29 8 0), qg 28 false (ql 30 29), qg 28 false (qj 31 .gtr 3 30 16), ⟨none, .pick 32 (.tmp 28) (.const (.bool true)) (.tmp 31)⟩]
def QfF : List GO := [qm 33 1, qm 34 2, ⟨none, .call (some 35) 19 [(.tmp 33), (.tmp 34)]⟩, ⟨none, .call (some 36) 59 [(.const (vi 1)), (.tmp 35)]⟩, qw 2 6 36]
def QfE : List GO := [qf 37 8 1, ql 38 37, qf 39 8 0, ql 40 39, ⟨none, .call (some 41) 60 [(.tmp 38), (.tmp 40)]⟩, qm 9 41]
def QfD : List GO := [qm 42 9, qj 43 .neq 3 42 0]
def QfC : List GO := [qm 44 9, qm 45 1, qm 46 2, ⟨none, .call (some 47) 19 [(.tmp 45), (.tmp 46)]⟩, ⟨none, .call (some 48) 59 [(.tmp 44), (.tmp 47)]⟩, qw 2 6 48]
def QfB : List GO := [qm 49 2, qj 50 .eql 3 49 0, qm 51 50, qg 51 true (qf 52 8 0), qg 51 true (ql 53 52), qg 51 true (qf 54 7 0), qg 51 true (ql 55 54), qg 51 true (qt 56 .neq 3 53 55), qg 51 true (qm 57 56), qg 57 false (qf 58 8 1), qg 57 false (ql 59 58), qg 57 false (qf 60 7 1), qg 57 false (ql 61 60), ⟨some (57, false), .call (some 62) 41 [(.tmp 59), (.tmp 61)]⟩, ⟨some (57, false), .un 63 .not (.tmp 62)⟩, ⟨some (51, true), .pick 64 (.tmp 57) (.const (.bool true)) (.tmp 63)⟩, ⟨none, .pick 65 (.tmp 51) (.tmp 64) (.const (.bool false))⟩]
def QfA : List GO := [qm 66 1, qm 67 2, ⟨none, .call (some 68) 19 [(.tmp 66), (.tmp 67)]⟩, ⟨none, .call (some 69) 59 [(.const (vi 9)), (.tmp 68)]⟩, qw 2 6 69]
def Qdk : List GO := [qf 70 8 2, ql 71 70, qL 72 71, qj 73 .gtr 3 72 40]
def Qdj : List GO := [qm 74 1, qm 75 2, ⟨none, .call (some 76) 19 [(.tmp 74), (.tmp 75)]⟩, ⟨none, .call (some 77) 59 [(.const (vi 2)), (.tmp 76)]⟩, qw 2 6 77]
def Qdi : List GO := [qk 10 (vi 0)]
def Qdh : List GO := [qm 78 10, qf 79 8 2, ql 80 79, qL 81 80, qt 82 .lss 3 78 81]
def Qdg : List GO := [qV 85 1 3, qf 86 8 2, ql 87 86, qm 88 10, qi 89 8 87 88, qV 90 8 89, ⟨none, .call (some 91) 13 [(.tmp 85), (.tmp 90)]⟩, qm 11 91]
def Qdm : List (List Nat) := [[],[],[1],[],[2,3],[4],[0,5],[6,6,0,1,2,3,4,5,6]]
def Qdf : List GO := [qm 92 11, qj 93 .neq 3 92 0]
def Qde : List GO := [qm 94 11, qm 95 1, qm 96 2, qm 97 10, ⟨none, .call (some 98) 23 [(.tmp 95), (.tmp 96), (.tmp 97)]⟩, ⟨none, .call (some 99) 59 [(.tmp 94), (.tmp 98)]⟩, qw 2 6 99]
def Qdd : List GO := [qm 83 10, qj 84 .add 3 83 1, qm 10 84]
def Q50 : LC := (.seq (.seq (.ops Qdh) (.cond (.tmp 82) .skip (.exit 0))) (.seq (.block 1 (.seq (.draw Qdg Qdm) (.seq (.ops Qdf) (.cond (.tmp 93) (.seq (.ops Qde) .ret) .skip)))) (.ops Qdd)))
def Qdc : List GO := [qV 100 4 7, qf 101 8 3, qV 102 9 101, ⟨none, .call (some 103) 15 [(.tmp 100), (.tmp 102)]⟩, qm 12 103]
def Qdb : List GO := [qm 104 12, qj 105 .neq 3 104 0]
def Qda : List GO := [qm 106 12, qm 107 1, qm 108 2, ⟨none, .call (some 109) 21 [(.tmp 107), (.tmp 108)]⟩, ⟨none, .call (some 110) 59 [(.tmp 106), (.tmp 109)]⟩, qw 2 6 110]
def Qd9 : List GO := [⟨none, .build 111 [(vi 0), (vi 0)] []⟩, qw 2 6 111]
def R_blockFault_lc : LC := (.seq (.ops QfJ) (.seq (.ops QfI) (.seq (.ops QfH) (.seq (.seq (.ops QfG) (.cond (.tmp 32) (.seq (.ops QfF) .ret) .skip)) (.seq (.seq (.ops QfE) (.seq (.ops QfD) (.cond (.tmp 43) (.seq (.ops QfC) .ret) .skip))) (.seq (.seq (.ops QfB) (.cond (.tmp 65) (.seq (.ops QfA) .ret) .skip)) (.seq (.seq (.ops Qdk) (.cond (.tmp 73) (.seq (.ops Qdj) .ret) .skip)) (.seq (.seq (.ops Qdi) (.block 0 (.loop Q50))) (.seq (.seq (.ops Qdc) (.seq (.ops Qdb) (.cond (.tmp 105) (.seq (.ops Qda) .ret) .skip))) (.seq (.ops Qd9) .ret))))))))))
@[reducible] def QW : FuncId := 61
theorem Qdl : lowF Try.prog Try.f61 = some R_blockFault_lc := by kernel_rfl
theorem QfK {a0 a1 a2 : Value} {w : World} {R : Ending → World → Prop} (h : R_blockFault_lc.wp Try.prog (retQ Try.prog [.cell 6 47] R) (Qh [a0, a1, a2]) w) : Calls Try.prog QW ⟨[a0, a1, a2]⟩ w R :=
  Q4 Try.func61 Qdl (by kernel_rfl) (by kernel_rfl) h

/- 62 -/
/- 63 -/
def QcX : List GO := [qk 2 vn]
def QcW : List GO := [qk 3 vn]
def QcV : List GO := [qm 6 0, qL 7 6, qk 8 (vi 0)]
def QcU : List GO := [qt 9 .lss 3 8 7]
def QcT : List GO := [qi 10 3 6 8, qV 11 3 10, ⟨none, .alloc 5 65 [(vi 0), (vi 0), vn]⟩, qw 3 5 11]
def QcS : List GO := [qm 12 3, qV 13 3 5, ⟨none, .call (some 14) 99 [(.tmp 13)]⟩, ⟨none, .buildS 15 65 1 [(vi 0), (vi 0), vn] [(0, (3, (.tmp 14)))]⟩, ⟨none, .raw ⟨(some 16), (.call ⟨(.builtin .append), #[(.tmp 12), (.tmp 15)], #[28, 28]⟩), 28, "", #[], none⟩⟩, qm 3 16]
def QcR : List GO := [qj 17 .add 3 8 1, qm 8 17]
def Q4X : LC := (.seq (.ops QcU) (.seq (.cond (.tmp 9) .skip (.exit 0)) (.seq (.block 1 (.seq (.ops QcT) (.ops QcS))) (.ops QcR))))
def QcQ : List GO := [qm 18 3, qm 2 18]
def code_ownTypes_lc : LC := (.seq (.ops QcX) (.seq (.ops QcW) (.seq (.seq (.ops QcV) (.block 0 (.loop Q4X))) (.seq (.ops QcQ) .ret))))
@[reducible] def Q4P : FuncId := 63
theorem Qbu : lowF Try.prog Try.f63 = some code_ownTypes_lc := by kernel_rfl
theorem QcY {a0 : Value} {w : World} {R : Ending → World → Prop} (h : code_ownTypes_lc.wp Try.prog (retQ Try.prog [.tmp 2] R) (Qh [a0]) w) : Calls Try.prog Q4P ⟨[a0]⟩ w R :=
  Q4 Try.func63 Qbu (by kernel_rfl) (by kernel_rfl) h

/- 64 -/
def Qjr : List GO := [qb 1 33 0, ⟨none, .alloc 2 33 [(vi 0), vn, vn]⟩]
def Qjq : List GO := [qf 3 1 0, ql 4 3, qf 5 1 1, ql 6 5, ⟨none, .call (some 7) 65 [(.tmp 6)]⟩, qf 8 1 2, ql 9 8, ⟨none, .call (some 10) 65 [(.tmp 9)]⟩, ⟨none, .build 11 [(vi 0), vn, vn] [(0, (1, (.tmp 4))), (1, (1, (.tmp 7))), (2, (1, (.tmp 10)))]⟩, qw 3 2 11]
def Qjt : List (List Nat) := [[],[0],[],[2],[3],[],[5],[6,4],[1,4,7],[8,7,0,1,2,3,4,5,6,7,8]]
def code_ownTo_lc : LC := (.seq (.ops Qjr) (.seq (.draw Qjq Qjt) .ret))
@[reducible] def QiC : FuncId := 64
theorem QgT : lowF Try.prog Try.f64 = some code_ownTo_lc := by kernel_rfl
theorem Qjs {a0 : Value} {w : World} {R : Ending → World → Prop} (h : code_ownTo_lc.wp Try.prog (retQ Try.prog [.cell 2 33] R) (Qh [a0]) w) : Calls Try.prog QiC ⟨[a0]⟩ w R :=
  Q4 Try.func64 QgT (by kernel_rfl) (by kernel_rfl) h

/- 65 -/
def Q4C : List GO := [qk 2 vn]
def Q4B : List GO := [qm 3 0, ⟨none, .bin 4 .eql 25 (.tmp 3) (.const vn)⟩]
def Q4A : List GO := [qk 2 vn]
def Q4z : List GO := [⟨none, .raw ⟨(some 5), (.buildSlice 25 0 #[]), 25, "", #[], none⟩⟩, qm 6 0, ⟨none, .raw ⟨(some 7), (.call ⟨(.builtin .append), #[(.tmp 5), (.tmp 6)], #[25, 25]⟩), 25, "", #[], none⟩⟩, qm 2 7]
def slices_Clone_int_int_lc : LC := (.seq (.ops Q4C) (.seq (.seq (.ops Q4B) (.cond (.tmp 4) (.seq (.ops Q4A) .ret) .skip)) (.seq (.ops Q4z) .ret)))
@[reducible] def Q2m : FuncId := 65
theorem Q46 : lowF Try.prog Try.f65 = some slices_Clone_int_int_lc := by kernel_rfl
theorem Q2H {a0 : Value} {w : World} {R : Ending → World → Prop} (h : slices_Clone_int_int_lc.wp Try.prog (retQ Try.prog [.tmp 2] R) (Qh [a0]) w) : Calls Try.prog Q2m ⟨[a0]⟩ w R :=
  Q4 Try.func65 Q46 (by kernel_rfl) (by kernel_rfl) h

/- 66 -/
/- 67 -/
/- 68 -/
def Q1s : List GO := [qk 6 (.bool false)]
def Q1r : List GO := [qm 10 0, qL 11 10, qm 12 1, qL 13 12, qt 14 .neq 3 11 13]
def Q1q : List GO := [qk 6 (.bool false)]
def Q1p : List GO := [qm 15 0, qL 16 15, qk 17 (vi 0)]
def Q1o : List GO := [qt 18 .lss 3 17 16]
def Q1n : List GO := [qm 19 17, qi 20 3 15 17, qV 21 3 20, ⟨none, .alloc 8 65 [(vi 0), (vi 0), vn]⟩, qm 7 19, qw 3 8 21]
def Q1m : List GO := [qm 22 1, qm 23 7, qi 24 3 22 23, qV 25 3 24, ⟨none, .alloc 9 65 [(vi 0), (vi 0), vn]⟩, qw 3 9 25]
def Q1l : List GO := [qm 26 2, qV 27 3 8, qV 28 3 9, ⟨none, .callv (some 29) (.tmp 26) [(.tmp 27), (.tmp 28)]⟩, ⟨none, .un 30 .not (.tmp 29)⟩]
def Q1k : List GO := [qk 6 (.bool false)]
def Q1j : List GO := [qj 31 .add 3 17 1, qm 17 31]
def QK : LC := (.seq (.ops Q1o) (.seq (.cond (.tmp 18) .skip (.exit 0)) (.seq (.block 1 (.seq (.ops Q1n) (.seq (.ops Q1m) (.seq (.ops Q1l) (.cond (.tmp 30) (.seq (.ops Q1k) .ret) .skip))))) (.ops Q1j))))
def Q1d : List GO := [qk 6 (.bool true)]
def slices_EqualFunc_api_Type_api_Type_api_Type_api_Type_lc : LC := (.seq (.ops Q1s) (.seq (.seq (.ops Q1r) (.cond (.tmp 14) (.seq (.ops Q1q) .ret) .skip)) (.seq (.seq (.ops Q1p) (.block 0 (.loop QK))) (.seq (.ops Q1d) .ret))))
@[reducible] def Qf : FuncId := 68
theorem Q1e : lowF Try.prog Try.f68 = some slices_EqualFunc_api_Type_api_Type_api_Type_api_Type_lc := by kernel_rfl
theorem Q1t {a0 a1 a2 : Value} {w : World} {R : Ending → World → Prop} (h : slices_EqualFunc_api_Type_api_Type_api_Type_api_Type_lc.wp Try.prog (retQ Try.prog [.tmp 6] R) (Qh [a0, a1, a2]) w) : Calls Try.prog Qf ⟨[a0, a1, a2]⟩ w R :=
  Q4 Try.func68 Q1e (by kernel_rfl) (by kernel_rfl) h

/- 69 -/
def QiZ : List GO := [qb 2 65 0, qb 3 65 1, qk 4 (.bool false)]
def QiY : List GO := [qf 5 2 0, ql 6 5, qf 7 3 0, ql 8 7, qt 9 .eql 3 6 8, qm 10 9, qg 10 true (qf 11 2 1), qg 10 true (ql 12 11), qg 10 true (qf 13 3 1), qg 10 true (ql 14 13), qg 10 true (qt 15 .eql 3 12 14), ⟨none, .pick 16 (.tmp 10) (.tmp 15) (.const (.bool false))⟩, qm 17 16, qg 17 true (qf 18 2 2), qg 17 true (ql 19 18), qg 17 true (qf 20 3 2), qg 17 true (ql 21 20), ⟨some (17, true), .call (some 22) 68 [(.tmp 19), (.tmp 21), (.func 69)]⟩, ⟨none, .pick 23 (.tmp 17) (.tmp 22) (.const (.bool false))⟩, qm 4 23]
def types_Same_lc : LC := (.seq (.ops QiZ) (.seq (.ops QiY) .ret))
@[reducible] def Qiq : FuncId := 69
theorem QgH : lowF Try.prog Try.f69 = some types_Same_lc := by kernel_rfl
theorem Qj0 {a0 a1 : Value} {w : World} {R : Ending → World → Prop} (h : types_Same_lc.wp Try.prog (retQ Try.prog [.tmp 4] R) (Qh [a0, a1]) w) : Calls Try.prog Qiq ⟨[a0, a1]⟩ w R :=
  Q4 Try.func69 QgH (by kernel_rfl) (by kernel_rfl) h

/- 70 -/
/- 71 -/
/- 87 -/
def Qk8 : List GO := [qb 2 65 0, qb 3 65 1, qk 4 (.bool false)]
def Qk7 : List GO := [qf 5 2 0, ql 6 5, qf 7 3 0, ql 8 7, qt 9 .eql 3 6 8, qm 10 9, qg 10 true (qf 11 2 1), qg 10 true (ql 12 11), qg 10 true (qf 13 3 1), qg 10 true (ql 14 13), qg 10 true (qt 15 .eql 3 12 14), ⟨none, .pick 16 (.tmp 10) (.tmp 15) (.const (.bool false))⟩, qm 17 16, qg 17 true (qf 18 2 2), qg 17 true (ql 19 18), qg 17 true (qf 20 3 2), qg 17 true (ql 21 20), ⟨some (17, true), .call (some 22) 41 [(.tmp 19), (.tmp 21)]⟩, ⟨none, .pick 23 (.tmp 17) (.tmp 22) (.const (.bool false))⟩, qm 4 23]
def R_SameType_lc : LC := (.seq (.ops Qk8) (.seq (.ops Qk7) .ret))
@[reducible] def QbP : FuncId := 87
theorem QhF : lowF Try.prog Try.f87 = some R_SameType_lc := by kernel_rfl
theorem Qk9 {a0 a1 : Value} {w : World} {R : Ending → World → Prop} (h : R_SameType_lc.wp Try.prog (retQ Try.prog [.tmp 4] R) (Qh [a0, a1]) w) : Calls Try.prog QbP ⟨[a0, a1]⟩ w R :=
  Q4 Try.func87 QhF (by kernel_rfl) (by kernel_rfl) h

/- 89 -/
def QhV : List GO := [qb 1 65 0, qk 2 (.bool false)]
def QhU : List GO := [qV 3 3 1, ⟨none, .call (some 4) 126 [(.tmp 3), (.const (vi 2000))]⟩, qj 5 .lss 3 4 0, qm 2 5]
def R_GreatType_lc : LC := (.seq (.ops QhV) (.seq (.ops QhU) .ret))
@[reducible] def Qg5 : FuncId := 89
theorem Qg4 : lowF Try.prog Try.f89 = some R_GreatType_lc := by kernel_rfl
theorem QhW {a0 : Value} {w : World} {R : Ending → World → Prop} (h : R_GreatType_lc.wp Try.prog (retQ Try.prog [.tmp 2] R) (Qh [a0]) w) : Calls Try.prog Qg5 ⟨[a0]⟩ w R :=
  Q4 Try.func89 Qg4 (by kernel_rfl) (by kernel_rfl) h

/- 90 -/
def Qnl : List GO := [qk 2 (.string ⟨#[]⟩)]
def Qnk : List GO := [qm 3 0, qj 4 .lss 3 3 1, qm 5 4, qg 5 false (qm 6 0), qg 5 false (qj 7 .gtr 3 6 14), ⟨none, .pick 8 (.tmp 5) (.const (.bool true)) (.tmp 7)⟩]
def Qnj : List GO := [qk 2 (.string ⟨#[]⟩)]
def Qni : List GO := [⟨none, .build 9 [(.string ⟨#[]⟩), (.string ⟨#[]⟩), (.string ⟨#[]⟩), (.string ⟨#[]⟩), (.string ⟨#[]⟩), (.string ⟨#[]⟩), (.string ⟨#[]⟩), (.string ⟨#[]⟩), (.string ⟨#[]⟩), (.string ⟨#[]⟩), (.string ⟨#[]⟩), (.string ⟨#[]⟩), (.string ⟨#[]⟩), (.string ⟨#[]⟩), (.string ⟨#[]⟩)] [(0, (1, (.const (.string ⟨#[]⟩)))), (1, (1, (.const (.string ⟨#[110]⟩)))), (2, (1, (.const (.string ⟨#[97, 98, 107]⟩)))), (3, (1, (.const (.string ⟨#[]⟩)))), (4, (1, (.const (.string ⟨#[97]⟩)))), (5, (1, (.const (.string ⟨#[97, 114]⟩)))), (6, (1, (.const (.string ⟨#[97, 107]⟩)))), (7, (1, (.const (.string ⟨#[97, 98, 107]⟩)))), (8, (1, (.const (.string ⟨#[97, 98]⟩)))), (9, (1, (.const (.string ⟨#[97, 98]⟩)))), (10, (1, (.const (.string ⟨#[97, 98, 99]⟩)))), (11, (1, (.const (.string ⟨#[97]⟩)))), (12, (1, (.const (.string ⟨#[]⟩)))), (13, (1, (.const (.string ⟨#[97]⟩)))), (14, (1, (.const (.string ⟨#[107, 103, 114]⟩))))]⟩, qm 10 0, ⟨none, .raw ⟨(some 11), (.index 151 (.tmp 9) (.tmp 10)), 9, "", #[], none⟩⟩, qm 2 11]
def code_has_lc : LC := (.seq (.ops Qnl) (.seq (.seq (.ops Qnk) (.cond (.tmp 8) (.seq (.ops Qnj) .ret) .skip)) (.seq (.ops Qni) .ret)))
@[reducible] def QoR : FuncId := 90
theorem QlA : lowF Try.prog Try.f90 = some code_has_lc := by kernel_rfl
theorem Qf5 {a0 : Value} {w : World} {R : Ending → World → Prop} (h : code_has_lc.wp Try.prog (retQ Try.prog [.tmp 2] R) (Qh [a0]) w) : Calls Try.prog QoR ⟨[a0]⟩ w R :=
  Q4 Try.func90 QlA (by kernel_rfl) (by kernel_rfl) h

/- 91 -/
def Qlw : List GO := [qk 4 (.bool false)]
def Qlv : List GO := [qm 5 0, ⟨none, .raw ⟨(some 6), (.convert 9 50 (.tmp 5)), 50, "", #[], none⟩⟩, qm 7 1, ⟨none, .call (some 8) 127 [(.tmp 6), (.tmp 7)]⟩, qm 4 8]
def code_with_lc : LC := (.seq (.ops Qlw) (.seq (.ops Qlv) .ret))
@[reducible] def Qly : FuncId := 91
theorem Qjp : lowF Try.prog Try.f91 = some code_with_lc := by kernel_rfl
theorem Qlx {a0 a1 : Value} {w : World} {R : Ending → World → Prop} (h : code_with_lc.wp Try.prog (retQ Try.prog [.tmp 4] R) (Qh [a0, a1]) w) : Calls Try.prog Qly ⟨[a0, a1]⟩ w R :=
  Q4 Try.func91 Qjp (by kernel_rfl) (by kernel_rfl) h

/- 92 -/
def Qd4 : List GO := [qb 5 31 1, qb 6 33 2]
def Qd3 : List GO := [qm 8 3, ⟨none, .un 9 .not (.tmp 8)⟩]
def Qd2 : List GO := [qm 10 0, qf 11 6 0, ql 12 11, qj 13 .neq 3 12 0, qm 14 13, qg 14 false (qf 15 6 1), qg 14 false (ql 16 15), qg 14 false (qL 17 16), qg 14 false (qj 18 .gtr 3 17 0), ⟨none, .pick 19 (.tmp 14) (.const (.bool true)) (.tmp 18)⟩, qm 20 19, qg 20 false (qf 21 6 2), qg 20 false (ql 22 21), qg 20 false (qL 23 22), qg 20 false (qj 24 .gtr 3 23 0), ⟨none, .pick 25 (.tmp 20) (.const (.bool true)) (.tmp 24)⟩, ⟨none, .call (some 26) 54 [(.tmp 10), (.tmp 25), (.const (vi 4))]⟩]
def Qd1 : List GO := [qm 27 0, qf 28 6 0, ql 29 28, qj 30 .lss 3 29 0, qm 31 30, qg 31 false (qf 32 6 0), qg 31 false (ql 33 32), qg 31 false (qf 34 5 3), qg 31 false (ql 35 34), qg 31 false (qL 36 35), qg 31 false (qt 37 .geq 3 33 36), ⟨none, .pick 38 (.tmp 31) (.const (.bool true)) (.tmp 37)⟩, ⟨none, .call (some 39) 54 [(.tmp 27), (.tmp 38), (.const (vi 1))]⟩]
def Qd0 : List GO := [qm 40 0, qf 41 6 1, ql 42 41, qL 43 42, qj 44 .gtr 3 43 16, qm 45 44, qg 45 false (qf 46 6 2), qg 45 false (ql 47 46), qg 45 false (qL 48 47), qg 45 false (qj 49 .gtr 3 48 8), ⟨none, .pick 50 (.tmp 45) (.const (.bool true)) (.tmp 49)⟩, ⟨none, .call (some 51) 54 [(.tmp 40), (.tmp 50), (.const (vi 2))]⟩]
def code_judge_to_lc : LC := (.seq (.ops Qd4) (.seq (.seq (.ops Qd3) (.cond (.tmp 9) (.seq (.ops Qd2) .ret) .skip)) (.seq (.ops Qd1) (.ops Qd0))))
@[reducible] def Q9z : FuncId := 92
theorem Qbv : lowF Try.prog Try.f92 = some code_judge_to_lc := by kernel_rfl
theorem Q4Y {a0 a1 a2 a3 : Value} {w : World} {R : Ending → World → Prop} (h : code_judge_to_lc.wp Try.prog (retQ Try.prog [] R) (Qh [a0, a1, a2, a3]) w) : Calls Try.prog Q9z ⟨[a0, a1, a2, a3]⟩ w R :=
  Q4 Try.func92 Qbv (by kernel_rfl) (by kernel_rfl) h

/- 93 -/
def Qm3 : List GO := [qb 1 65 0, ⟨none, .alloc 2 65 [(vi 0), (vi 0), vn]⟩]
def Qm2 : List GO := [qf 3 1 0, ql 4 3, qf 5 1 1, ql 6 5, qf 7 1 2, ql 8 7, ⟨none, .call (some 9) 51 [(.tmp 8)]⟩, ⟨none, .build 10 [(vi 0), (vi 0), vn] [(0, (1, (.tmp 4))), (1, (1, (.tmp 6))), (2, (1, (.tmp 9)))]⟩, qw 3 2 10]
def Qm5 : List (List Nat) := [[],[0],[],[2],[],[4],[5],[1,3,6],[7,6,0,1,2,3,4,5,6,7]]
def R_OwnType_lc : LC := (.seq (.ops Qm3) (.seq (.draw Qm2 Qm5) .ret))
@[reducible] def QfN : FuncId := 93
theorem Qki : lowF Try.prog Try.f93 = some R_OwnType_lc := by kernel_rfl
theorem Qm4 {a0 : Value} {w : World} {R : Ending → World → Prop} (h : R_OwnType_lc.wp Try.prog (retQ Try.prog [.cell 2 65] R) (Qh [a0]) w) : Calls Try.prog QfN ⟨[a0]⟩ w R :=
  Q4 Try.func93 Qki (by kernel_rfl) (by kernel_rfl) h

/- 94 -/
def QgL : List GO := [qb 2 65 0, qk 4 (vi 0)]
def QgK : List GO := [qV 5 3 2, ⟨none, .call (some 6) 128 [(.tmp 5), (.const (vi 4))]⟩, ⟨none, .un 7 .not (.tmp 6)⟩]
def QgJ : List GO := [qk 4 (vi 19)]
def QgI : List GO := [qV 8 3 2, qm 9 1, ⟨none, .call (some 10) 129 [(.tmp 8), (.tmp 9)]⟩, qm 4 10]
def types_Check_lc : LC := (.seq (.ops QgL) (.seq (.seq (.ops QgK) (.cond (.tmp 7) (.seq (.ops QgJ) .ret) .skip)) (.seq (.ops QgI) .ret)))
@[reducible] def Q4o : FuncId := 94
theorem Qeu : lowF Try.prog Try.f94 = some types_Check_lc := by kernel_rfl
theorem QgM {a0 a1 : Value} {w : World} {R : Ending → World → Prop} (h : types_Check_lc.wp Try.prog (retQ Try.prog [.tmp 4] R) (Qh [a0, a1]) w) : Calls Try.prog Q4o ⟨[a0, a1]⟩ w R :=
  Q4 Try.func94 Qeu (by kernel_rfl) (by kernel_rfl) h

/- 95 -/
def Q2k : List GO := [qk 4 (vi 0)]
def Q2j : List GO := [qm 6 0, qL 7 6, qk 8 (vi 0)]
def Q2i : List GO := [qt 9 .lss 3 8 7]
def Q2h : List GO := [qm 10 8, qm 5 10]
def Q2g : List GO := [qm 11 1, qm 12 0, qm 13 5, qi 14 3 12 13, qV 15 3 14, ⟨none, .callv (some 16) (.tmp 11) [(.tmp 15)]⟩]
def Q2f : List GO := [qm 17 5, qm 4 17]
def Q2e : List GO := [qj 18 .add 3 8 1, qm 8 18]
def Q1w : LC := (.seq (.ops Q2i) (.seq (.cond (.tmp 9) .skip (.exit 0)) (.seq (.block 1 (.seq (.ops Q2h) (.seq (.ops Q2g) (.cond (.tmp 16) (.seq (.ops Q2f) .ret) .skip)))) (.ops Q2e))))
def Q2d : List GO := [qk 4 (vi (-1))]
def slices_IndexFunc_api_Type_api_Type_lc : LC := (.seq (.ops Q2k) (.seq (.seq (.ops Q2j) (.block 0 (.loop Q1w))) (.seq (.ops Q2d) .ret)))
@[reducible] def QL : FuncId := 95
theorem Q28 : lowF Try.prog Try.f95 = some slices_IndexFunc_api_Type_api_Type_lc := by kernel_rfl
theorem Q2l {a0 a1 : Value} {w : World} {R : Ending → World → Prop} (h : slices_IndexFunc_api_Type_api_Type_lc.wp Try.prog (retQ Try.prog [.tmp 4] R) (Qh [a0, a1]) w) : Calls Try.prog QL ⟨[a0, a1]⟩ w R :=
  Q4 Try.func95 Q28 (by kernel_rfl) (by kernel_rfl) h

/- 96 -/
def Qhs : List GO := [qb 2 65 0, qk 4 (vi 0)]
def Qhr : List GO := [qV 5 3 2, ⟨none, .call (some 6) 130 [(.tmp 5), (.const (vi 4))]⟩, qj 7 .gtr 3 6 4]
def Qhq : List GO := [qk 4 (vi 19)]
def Qhp : List GO := [qV 8 3 2, qm 9 1, ⟨none, .call (some 10) 131 [(.tmp 8), (.tmp 9)]⟩, qm 4 10]
def R_TypeFault_lc : LC := (.seq (.ops Qhs) (.seq (.seq (.ops Qhr) (.cond (.tmp 7) (.seq (.ops Qhq) .ret) .skip)) (.seq (.ops Qhp) .ret)))
@[reducible] def Q4T : FuncId := 96
theorem QfL : lowF Try.prog Try.f96 = some R_TypeFault_lc := by kernel_rfl
theorem Qht {a0 a1 : Value} {w : World} {R : Ending → World → Prop} (h : R_TypeFault_lc.wp Try.prog (retQ Try.prog [.tmp 4] R) (Qh [a0, a1]) w) : Calls Try.prog Q4T ⟨[a0, a1]⟩ w R :=
  Q4 Try.func96 QfL (by kernel_rfl) (by kernel_rfl) h

/- 97 -/
/- 98 -/
/- 99 -/
def Qf3 : List GO := [qb 1 65 0, ⟨none, .alloc 2 65 [(vi 0), (vi 0), vn]⟩]
def Qf2 : List GO := [qf 4 1 0, ql 5 4, qf 6 1 1, ql 7 6, ⟨none, .build 8 [(vi 0), (vi 0), vn] [(0, (1, (.tmp 5))), (1, (1, (.tmp 7)))]⟩, ⟨none, .alloc 3 65 [(vi 0), (vi 0), vn]⟩, qw 3 3 8]
def Qf1 : List GO := [qf 9 1 2, ql 10 9, ⟨none, .call (some 11) 63 [(.tmp 10)]⟩, qf 12 3 2, qs 12 11]
def Qf0 : List GO := [qV 13 3 3, qw 3 2 13]
def code_ownType_lc : LC := (.seq (.ops Qf3) (.seq (.ops Qf2) (.seq (.ops Qf1) (.seq (.ops Qf0) .ret))))
@[reducible] def Q5C : FuncId := 99
theorem QcZ : lowF Try.prog Try.f99 = some code_ownType_lc := by kernel_rfl
theorem Qf4 {a0 : Value} {w : World} {R : Ending → World → Prop} (h : code_ownType_lc.wp Try.prog (retQ Try.prog [.cell 2 65] R) (Qh [a0]) w) : Calls Try.prog Q5C ⟨[a0]⟩ w R :=
  Q4 Try.func99 QcZ (by kernel_rfl) (by kernel_rfl) h

/- 100 -/
/- 101 -/
/- 102 -/
/- 103 -/
/- 126 -/
def QjT : List GO := [qb 2 65 0, qk 4 (vi 0)]
def QjS : List GO := [qm 6 1, qj 7 .sub 3 6 1, qm 1 7]
def QjR : List GO := [qk 5 (vi 0)]
def QjQ : List GO := [qm 8 5, qf 9 2 2, ql 10 9, qL 11 10, qt 12 .lss 3 8 11, qm 13 12, qg 13 true (qm 14 1), qg 13 true (qj 15 .geq 3 14 0), ⟨none, .pick 16 (.tmp 13) (.tmp 15) (.const (.bool false))⟩]
def QjP : List GO := [qf 19 2 2, ql 20 19, qm 21 5, qi 22 3 20 21, qV 23 3 22, qm 24 1, ⟨none, .call (some 25) 126 [(.tmp 23), (.tmp 24)]⟩, qm 1 25]
def QjO : List GO := [qm 17 5, qj 18 .add 3 17 1, qm 5 18]
def Q9Z : LC := (.seq (.seq (.ops QjQ) (.cond (.tmp 16) .skip (.exit 0))) (.seq (.block 1 (.ops QjP)) (.ops QjO)))
def QjN : List GO := [qm 26 1, qm 4 26]
def R_typeSize_lc : LC := (.seq (.ops QjT) (.seq (.ops QjS) (.seq (.seq (.ops QjR) (.block 0 (.loop Q9Z))) (.seq (.ops QjN) .ret))))
@[reducible] def Q5Z : FuncId := 126
theorem Qhc : lowF Try.prog Try.f126 = some R_typeSize_lc := by kernel_rfl
theorem QjU {a0 a1 : Value} {w : World} {R : Ending → World → Prop} (h : R_typeSize_lc.wp Try.prog (retQ Try.prog [.tmp 4] R) (Qh [a0, a1]) w) : Calls Try.prog Q5Z ⟨[a0, a1]⟩ w R :=
  Q4 Try.func126 Qhc (by kernel_rfl) (by kernel_rfl) h

/- 127 -/
def Q3d : List GO := [qk 4 (.bool false)]
def Q3c : List GO := [qm 5 0, qm 6 1, ⟨none, .call (some 7) 141 [(.tmp 5), (.tmp 6)]⟩, qj 8 .geq 3 7 0, qm 4 8]
def slices_Contains_byte_byte_lc : LC := (.seq (.ops Q3d) (.seq (.ops Q3c) .ret))
@[reducible] def Q2o : FuncId := 127
theorem Q34 : lowF Try.prog Try.f127 = some slices_Contains_byte_byte_lc := by kernel_rfl
theorem Q3e {a0 a1 : Value} {w : World} {R : Ending → World → Prop} (h : slices_Contains_byte_byte_lc.wp Try.prog (retQ Try.prog [.tmp 4] R) (Qh [a0, a1]) w) : Calls Try.prog Q2o ⟨[a0, a1]⟩ w R :=
  Q4 Try.func127 Q34 (by kernel_rfl) (by kernel_rfl) h

/- 128 -/
def QiW : List GO := [qb 2 65 0, qk 4 (.bool false)]
def QiV : List GO := [qm 7 1, qj 8 .lss 3 7 0]
def QiU : List GO := [qk 4 (.bool false)]
def QiT : List GO := [qf 9 2 2, ql 10 9, qL 11 10, qk 12 (vi 0)]
def QiS : List GO := [qt 13 .lss 3 12 11]
def QiR : List GO := [qi 14 3 10 12, qV 15 3 14, ⟨none, .alloc 6 65 [(vi 0), (vi 0), vn]⟩, qw 3 6 15]
def QiQ : List GO := [qV 16 3 6, qm 17 1, qj 18 .sub 3 17 1, ⟨none, .call (some 19) 128 [(.tmp 16), (.tmp 18)]⟩, ⟨none, .un 20 .not (.tmp 19)⟩]
def QiP : List GO := [qk 4 (.bool false)]
def QiO : List GO := [qj 21 .add 3 12 1, qm 12 21]
def Q8u : LC := (.seq (.ops QiS) (.seq (.cond (.tmp 13) .skip (.exit 0)) (.seq (.block 1 (.seq (.ops QiR) (.seq (.ops QiQ) (.cond (.tmp 20) (.seq (.ops QiP) .ret) .skip)))) (.ops QiO))))
def QiN : List GO := [qk 4 (.bool true)]
def types_deep_lc : LC := (.seq (.ops QiW) (.seq (.seq (.ops QiV) (.cond (.tmp 8) (.seq (.ops QiU) .ret) .skip)) (.seq (.seq (.ops QiT) (.block 0 (.loop Q8u))) (.seq (.ops QiN) .ret))))
@[reducible] def Q3g : FuncId := 128
theorem QgG : lowF Try.prog Try.f128 = some types_deep_lc := by kernel_rfl
theorem QiX {a0 a1 : Value} {w : World} {R : Ending → World → Prop} (h : types_deep_lc.wp Try.prog (retQ Try.prog [.tmp 4] R) (Qh [a0, a1]) w) : Calls Try.prog Q3g ⟨[a0, a1]⟩ w R :=
  Q4 Try.func128 QgG (by kernel_rfl) (by kernel_rfl) h

/- 129 -/
def QgE : List GO := [qb 2 65 0, qk 4 (vi 0)]
def QgD : List GO := [qf 8 2 0, ql 9 8]
def QgC : List GO := [qj 11 .eql 3 9 1, qm 10 11]
def QgB : List GO := [qf 12 2 1, ql 13 12, qj 14 .neq 3 13 0, qm 15 14, qg 15 false (qf 16 2 2), qg 15 false (ql 17 16), qg 15 false (qL 18 17), qg 15 false (qj 19 .gtr 3 18 0), ⟨none, .pick 20 (.tmp 15) (.const (.bool true)) (.tmp 19)⟩]
def QgA : List GO := [qk 4 (vi 4)]
def Qgz : List GO := [qk 4 (vi 0)]
def Qgy : List GO := [qj 22 .eql 3 9 2, qm 21 22]
def Qgx : List GO := [qj 23 .eql 3 9 4, qm 21 23]
def Qgw : List GO := [qf 24 2 2, ql 25 24, qL 26 25, qj 27 .gtr 3 26 0]
def Qgv : List GO := [qk 4 (vi 4)]
def Qeh : List GO := [qj 29 .eql 3 9 3, qm 28 29]
def Qeg : List GO := [qf 30 2 2, ql 31 30, qL 32 31, qj 33 .gtr 3 32 8]
def Qef : List GO := [qk 4 (vi 2)]
def Qee : List GO := [qk 4 (vi 3)]
def Qed : List GO := [qf 34 2 1, ql 35 34, qj 36 .lss 3 35 0, qm 37 36, qg 37 false (qf 38 2 1), qg 37 false (ql 39 38), qg 37 false (qm 40 1), qg 37 false (qt 41 .geq 3 39 40), ⟨none, .pick 42 (.tmp 37) (.const (.bool true)) (.tmp 41)⟩]
def Qec : List GO := [qk 4 (vi 1)]
def Qeb : List GO := [qf 43 2 2, ql 44 43, qL 45 44, qk 46 (vi 0)]
def Qea : List GO := [qt 47 .lss 3 46 45]
def Qe9 : List GO := [qi 48 3 44 46, qV 49 3 48, ⟨none, .alloc 6 65 [(vi 0), (vi 0), vn]⟩, qw 3 6 49]
def Qe8 : List GO := [qV 50 3 6, qm 51 1, ⟨none, .call (some 52) 129 [(.tmp 50), (.tmp 51)]⟩, qm 7 52]
def Qe7 : List GO := [qm 53 7, qj 54 .neq 3 53 0]
def Qe6 : List GO := [qm 55 7, qm 4 55]
def Qe5 : List GO := [qj 56 .add 3 46 1, qm 46 56]
def Q5a : LC := (.seq (.ops Qea) (.seq (.cond (.tmp 47) .skip (.exit 1)) (.seq (.block 2 (.seq (.ops Qe9) (.seq (.ops Qe8) (.seq (.ops Qe7) (.cond (.tmp 54) (.seq (.ops Qe6) .ret) .skip))))) (.ops Qe5))))
def Qe4 : List GO := [qk 4 (vi 0)]
def types_wrong_lc : LC := (.seq (.ops QgE) (.seq (.seq (.ops QgD) (.block 0 (.seq (.ops QgC) (.cond (.tmp 10) (.seq (.seq (.ops QgB) (.cond (.tmp 20) (.seq (.ops QgA) .ret) .skip)) (.seq (.ops Qgz) .ret)) (.seq (.seq (.ops Qgy) (.cond (.tmp 21) .skip (.ops Qgx))) (.cond (.tmp 21) (.seq (.ops Qgw) (.cond (.tmp 27) (.seq (.ops Qgv) .ret) .skip)) (.seq (.ops Qeh) (.cond (.tmp 28) (.seq (.ops Qeg) (.cond (.tmp 33) (.seq (.ops Qef) .ret) .skip)) (.seq (.ops Qee) .ret))))))))) (.seq (.seq (.ops Qed) (.cond (.tmp 42) (.seq (.ops Qec) .ret) .skip)) (.seq (.seq (.ops Qeb) (.block 1 (.loop Q5a))) (.seq (.ops Qe4) .ret)))))
@[reducible] def QG : FuncId := 129
theorem Qei : lowF Try.prog Try.f129 = some types_wrong_lc := by kernel_rfl
theorem QgF {a0 a1 : Value} {w : World} {R : Ending → World → Prop} (h : types_wrong_lc.wp Try.prog (retQ Try.prog [.tmp 4] R) (Qh [a0, a1]) w) : Calls Try.prog QG ⟨[a0, a1]⟩ w R :=
  Q4 Try.func129 Qei (by kernel_rfl) (by kernel_rfl) h

/- 130 -/
def Qo5 : List GO := [qb 2 65 0, qk 4 (vi 0)]
def Qo4 : List GO := [qk 5 (vi 0)]
def Qo3 : List GO := [qk 6 (vi 0)]
def Qo2 : List GO := [qm 8 6, qf 9 2 2, ql 10 9, qL 11 10, qt 12 .lss 3 8 11, qm 13 12, qg 13 true (qm 14 5), qg 13 true (qm 15 1), qg 13 true (qt 16 .leq 3 14 15), ⟨none, .pick 17 (.tmp 13) (.tmp 16) (.const (.bool false))⟩]
def Qo1 : List GO := [qm 20 1, qj 21 .eql 3 20 0]
def Qo0 : List GO := [qk 4 (vi 1)]
def QnZ : List GO := [qf 22 2 2, ql 23 22, qm 24 6, qi 25 3 23 24, qV 26 3 25, qm 27 1, qj 28 .sub 3 27 1, ⟨none, .call (some 29) 130 [(.tmp 26), (.tmp 28)]⟩, ⟨none, .bin 30 .add 3 (.const (vi 1)) (.tmp 29)⟩, qm 7 30]
def QnY : List GO := [qm 31 7, qm 32 5, qt 33 .gtr 3 31 32]
def QnX : List GO := [qm 34 7, qm 5 34]
def QnW : List GO := [qm 18 6, qj 19 .add 3 18 1, qm 6 19]
def Qg6 : LC := (.seq (.seq (.ops Qo2) (.cond (.tmp 17) .skip (.exit 0))) (.seq (.block 1 (.seq (.seq (.ops Qo1) (.cond (.tmp 21) (.seq (.ops Qo0) .ret) .skip)) (.seq (.ops QnZ) (.seq (.ops QnY) (.cond (.tmp 33) (.ops QnX) .skip))))) (.ops QnW)))
def Qms : List GO := [qm 35 5, qm 4 35]
def R_DeepOf_lc : LC := (.seq (.ops Qo5) (.seq (.ops Qo4) (.seq (.seq (.ops Qo3) (.block 0 (.loop Qg6))) (.seq (.ops Qms) .ret))))
@[reducible] def Q3M : FuncId := 130
theorem Qmt : lowF Try.prog Try.f130 = some R_DeepOf_lc := by kernel_rfl
theorem Qo6 {a0 a1 : Value} {w : World} {R : Ending → World → Prop} (h : R_DeepOf_lc.wp Try.prog (retQ Try.prog [.tmp 4] R) (Qh [a0, a1]) w) : Calls Try.prog Q3M ⟨[a0, a1]⟩ w R :=
  Q4 Try.func130 Qmt (by kernel_rfl) (by kernel_rfl) h

/- 131 -/
def Qhm : List GO := [qb 2 65 0, qk 4 (vi 0)]
def Qhl : List GO := [qf 7 2 0, ql 8 7, qj 9 .lss 3 8 1, qm 10 9, qg 10 false (qf 11 2 0), qg 10 false (ql 12 11), qg 10 false (qj 13 .gtr 3 12 4), ⟨none, .pick 14 (.tmp 10) (.const (.bool true)) (.tmp 13)⟩]
def Qhk : List GO := [qk 4 (vi 3)]
def Qhj : List GO := [qf 15 2 0, ql 16 15, qj 17 .eql 3 16 1, qm 18 17, qg 18 true (qf 19 2 1), qg 18 true (ql 20 19), qg 18 true (qj 21 .neq 3 20 0), ⟨none, .pick 22 (.tmp 18) (.tmp 21) (.const (.bool false))⟩, qm 23 22, qg 23 false (qf 24 2 0), qg 23 false (ql 25 24), qg 23 false (qj 26 .neq 3 25 3), qg 23 false (qm 27 26), qg 27 true (qf 28 2 2), qg 27 true (ql 29 28), qg 27 true (qL 30 29), qg 27 true (qj 31 .gtr 3 30 0), ⟨some (23, false), .pick 32 (.tmp 27) (.tmp 31) (.const (.bool false))⟩, ⟨none, .pick 33 (.tmp 23) (.const (.bool true)) (.tmp 32)⟩]
def Qhi : List GO := [qk 4 (vi 4)]
def Qhh : List GO := [qf 34 2 2, ql 35 34, qL 36 35, qj 37 .gtr 3 36 8]
def Qhg : List GO := [qk 4 (vi 2)]
def Qhf : List GO := [qf 38 2 0, ql 39 38, qj 40 .neq 3 39 1, qm 41 40, qg 41 true (qf 42 2 1), qg 41 true (ql 43 42), qg 41 true (qj 44 .lss 3 43 0), qg 41 true (qm 45 44), qg 45 false (qf 46 2 1), qg 45 false (ql 47 46), qg 45 false (qm 48 1), qg 45 false (qt 49 .geq 3 47 48), ⟨some (41, true), .pick 50 (.tmp 45) (.const (.bool true)) (.tmp 49)⟩, ⟨none, .pick 51 (.tmp 41) (.tmp 50) (.const (.bool false))⟩]
def Qhe : List GO := [qk 4 (vi 1)]
def Qhd : List GO := [qk 5 (vi 0)]
def Qfn : List GO := [qm 52 5, qf 53 2 2, ql 54 53, qL 55 54, qt 56 .lss 3 52 55]
def Qfm : List GO := [qf 59 2 2, ql 60 59, qm 61 5, qi 62 3 60 61, qV 63 3 62, qm 64 1, ⟨none, .call (some 65) 131 [(.tmp 63), (.tmp 64)]⟩, qm 6 65]
def Qfl : List GO := [qm 66 6, qj 67 .neq 3 66 0]
def Qfk : List GO := [qm 68 6, qm 4 68]
def Qfj : List GO := [qm 57 5, qj 58 .add 3 57 1, qm 5 58]
def Q5H : LC := (.seq (.seq (.ops Qfn) (.cond (.tmp 56) .skip (.exit 0))) (.seq (.block 1 (.seq (.ops Qfm) (.seq (.ops Qfl) (.cond (.tmp 67) (.seq (.ops Qfk) .ret) .skip)))) (.ops Qfj)))
def Qfi : List GO := [qk 4 (vi 0)]
def R_typeFault_lc : LC := (.seq (.ops Qhm) (.seq (.seq (.ops Qhl) (.cond (.tmp 14) (.seq (.ops Qhk) .ret) .skip)) (.seq (.seq (.ops Qhj) (.cond (.tmp 33) (.seq (.ops Qhi) .ret) .skip)) (.seq (.seq (.ops Qhh) (.cond (.tmp 37) (.seq (.ops Qhg) .ret) .skip)) (.seq (.seq (.ops Qhf) (.cond (.tmp 51) (.seq (.ops Qhe) .ret) .skip)) (.seq (.seq (.ops Qhd) (.block 0 (.loop Q5H))) (.seq (.ops Qfi) .ret)))))))
@[reducible] def Q1u : FuncId := 131
theorem Qfo : lowF Try.prog Try.f131 = some R_typeFault_lc := by kernel_rfl
theorem Qhn {a0 a1 : Value} {w : World} {R : Ending → World → Prop} (h : R_typeFault_lc.wp Try.prog (retQ Try.prog [.tmp 4] R) (Qh [a0, a1]) w) : Calls Try.prog Q1u ⟨[a0, a1]⟩ w R :=
  Q4 Try.func131 Qfo (by kernel_rfl) (by kernel_rfl) h

/- 139 -/
def Q3D : List GO := [qk 4 (.bool false)]
def Q3C : List GO := [qm 5 0, qm 6 1, ⟨none, .call (some 7) 145 [(.tmp 5), (.tmp 6)]⟩, qj 8 .geq 3 7 0, qm 4 8]
def slices_Contains_int_int_lc : LC := (.seq (.ops Q3D) (.seq (.ops Q3C) .ret))
@[reducible] def Q2G : FuncId := 139
theorem Q3l : lowF Try.prog Try.f139 = some slices_Contains_int_int_lc := by kernel_rfl
theorem Q3E {a0 a1 : Value} {w : World} {R : Ending → World → Prop} (h : slices_Contains_int_int_lc.wp Try.prog (retQ Try.prog [.tmp 4] R) (Qh [a0, a1]) w) : Calls Try.prog Q2G ⟨[a0, a1]⟩ w R :=
  Q4 Try.func139 Q3l (by kernel_rfl) (by kernel_rfl) h

/- 141 -/
def Q3U : List GO := [qk 4 (vi 0)]
def Q3T : List GO := [qm 6 0, qL 7 6, qk 8 (vi 0)]
def Q3S : List GO := [qt 9 .lss 3 8 7]
def Q3R : List GO := [qm 10 8, qm 5 10]
def Q3Q : List GO := [qm 11 1, qm 12 0, qm 13 5, qi 14 1 12 13, ql 15 14, qt 16 .eql 5 11 15]
def Q3P : List GO := [qm 17 5, qm 4 17]
def Q3O : List GO := [qj 18 .add 3 8 1, qm 8 18]
def Q2n : LC := (.seq (.ops Q3S) (.seq (.cond (.tmp 9) .skip (.exit 0)) (.seq (.block 1 (.seq (.ops Q3R) (.seq (.ops Q3Q) (.cond (.tmp 16) (.seq (.ops Q3P) .ret) .skip)))) (.ops Q3O))))
def Q3N : List GO := [qk 4 (vi (-1))]
def slices_Index_byte_byte_lc : LC := (.seq (.ops Q3U) (.seq (.seq (.ops Q3T) (.block 0 (.loop Q2n))) (.seq (.ops Q3N) .ret)))
@[reducible] def Q1G : FuncId := 141
theorem Q3B : lowF Try.prog Try.f141 = some slices_Index_byte_byte_lc := by kernel_rfl
theorem Q3V {a0 a1 : Value} {w : World} {R : Ending → World → Prop} (h : slices_Index_byte_byte_lc.wp Try.prog (retQ Try.prog [.tmp 4] R) (Qh [a0, a1]) w) : Calls Try.prog Q1G ⟨[a0, a1]⟩ w R :=
  Q4 Try.func141 Q3B (by kernel_rfl) (by kernel_rfl) h

/- 145 -/
def Q4x : List GO := [qk 4 (vi 0)]
def Q4w : List GO := [qm 6 0, qL 7 6, qk 8 (vi 0)]
def Q4v : List GO := [qt 9 .lss 3 8 7]
def Q4u : List GO := [qm 10 8, qm 5 10]
def Q4t : List GO := [qm 11 1, qm 12 0, qm 13 5, qi 14 1 12 13, ql 15 14, qt 16 .eql 3 11 15]
def Q4s : List GO := [qm 17 5, qm 4 17]
def Q4r : List GO := [qj 18 .add 3 8 1, qm 8 18]
def Q2F : LC := (.seq (.ops Q4v) (.seq (.cond (.tmp 9) .skip (.exit 0)) (.seq (.block 1 (.seq (.ops Q4u) (.seq (.ops Q4t) (.cond (.tmp 16) (.seq (.ops Q4s) .ret) .skip)))) (.ops Q4r))))
def Q4q : List GO := [qk 4 (vi (-1))]
def slices_Index_int_int_lc : LC := (.seq (.ops Q4x) (.seq (.seq (.ops Q4w) (.block 0 (.loop Q2F))) (.seq (.ops Q4q) .ret)))
@[reducible] def Q1M : FuncId := 145
theorem Q45 : lowF Try.prog Try.f145 = some slices_Index_int_int_lc := by kernel_rfl
theorem Q4y {a0 a1 : Value} {w : World} {R : Ending → World → Prop} (h : slices_Index_int_int_lc.wp Try.prog (retQ Try.prog [.tmp 4] R) (Qh [a0, a1]) w) : Calls Try.prog Q1M ⟨[a0, a1]⟩ w R :=
  Q4 Try.func145 Q45 (by kernel_rfl) (by kernel_rfl) h

end Go.Proofs.Ytanlkfeogoganaa
namespace Go.Proofs.Ytanlkfeogoganaa
open Go.Lir
set_option maxHeartbeats 1000000
attribute [local irreducible] LC.wp Q3 QZ Q1g retQ Q2p LO.wp QH Calls
set_option linter.unusedSimpArgs false
set_option linter.unusedVariables false
theorem size_c : ∀ (t : Ty) {cx : Cx} {w : World} {L : List Res} {cs : List Value} {left : Int}, tyR.at cx cs t → -1 ≤ left → left ≤ 1000000 → St cx w L →
    Rets Try.prog Q5Z [.agg ⟨cs⟩, .int .i64 left] w fun v w' => v = .int .i64 (t.size left) ∧ St cx w' L := by
  intro t
  induction t using Ty.ind with
  | h k r l ih =>
    intro cx w L cs left ht h1 h2 hS
    obtain ⟨v, rfl, hl⟩ := Ql ht
    simp only [Ty.kind, Ty.r, Ty.l] at hl ht ⊢
    have hlen := hl.len
    rw [Ty.size]
    all_goals refine QjU ?_
    all_goals (unfold R_typeSize_lc; refine Q0 ?_; refine Q1 ?_; refine zb hS ?_; intro p2 w1 hS; refine zm ?_; refine zn ?_; refine Q0 ?_; refine Q1 ?_; refine zm ?_; refine zsu ?_; refine zm ?_; refine zn ?_; refine Q0 ?_; refine Q0 ?_; refine Q1 ?_; refine zm ?_; refine zn ?_; refine Qb ?_)
    refine zoL hS [2] (fun A LL ρ' w' => ∃ (j : Nat) (n : Int), Has ρ' A ∧ Has ρ' [(1, .int .i64 n), (5, .int .i64 j)] ∧ (j ≤ l.length) ∧ (n ≤ 1000000) ∧ (-2 ≤ n) ∧ (Tys.size l (left - 1) = Tys.size (l.drop j) n) ∧ St cx w' (LL)) (fun ρ' _ => (l.length - iv (ρ' 5)).toNat) ?_ ?_
    · exact ⟨0, left - 1, zh, zh, (by omega), (by omega), (by omega), by simp, hS.sp⟩
    rintro ρ w1 ⟨j, n, hA, hρ, hj, hn, hn1, hd, hS⟩; obtain ⟨ρ, rfl⟩ := env2 hA hρ
    unfold Q9Z
    all_goals (refine Q0 ?_; refine Q0 ?_; refine Q1 ?_; refine zm ?_; refine Q2 rfl ?_; refine zl hS ?_; refine zL ?_)
    all_goals (first | (refine Q1Z ?_) | (refine Q20 ?_) | (refine QQ rfl rfl (fun hc => ?_) (fun hc => ?_)))
    all_goals (refine zm ?_; (first | refine s_gn rfl rfl ?_ | (refine s_gy rfl ?_; refine zm ?_)))
    all_goals (first | refine s_gn rfl rfl ?_ | (refine s_gy rfl ?_; (first | (refine Q53 ?_) | (refine Q56 ?_) | (refine Q24 rfl rfl (fun hc => ?_) (fun hc => ?_)))))
    all_goals ((first | (refine zpt ?_) | (refine zpf ?_)); refine zn ?_)
    all_goals
      first
      | (refine Q6 rfl ?_ -- Q5Z c0
         all_goals (refine zex ?_; refine Q0 ?_; refine Q1 ?_; refine zm ?_; refine zm ?_; refine zn ?_; refine zr ?_; refine zf ?_)
         all_goals (refine ⟨_, rfl, ?_, hS.sp⟩; (rw [hd]; congr 1; first | (rw [Tys.size_neg _ (by omega)]; done) | (rw [List.drop_of_length_le (by omega), Tys.size]; done)); done))
      | (refine Q5 rfl ?_ -- Q5Z c0
         all_goals (refine zsk ?_; refine Q0 ?_; refine Qb ?_; refine Q1 ?_; refine Q2 rfl ?_; refine zl hS ?_; refine zm ?_; refine zi ?_; intro b1 o1 cs1 x1 hat1 hx1 he1; obtain ⟨vl1, rfl, hl1⟩ := Ql he1; (first | (refine zv hS ?_) | (refine zvk hS ?_)); refine zm ?_; refine zR2 (c := ih _ (List.mem_of_getElem? (by assumption)) (by assumption) (by omega) (by omega) hS) (h := ?_); rintro v1 w1 ⟨rfl, hS⟩; refine zm ?_; refine zn ?_; refine Q1 ?_; refine zm ?_; refine zad ?_; refine zm ?_; refine zn ?_)
         all_goals (exact ⟨⟨j + 1, _, zh, zh, (by omega), by have := Ty.size_rng x1 (left := n) (by omega); omega, by have := Ty.size_rng x1 (left := n) (by omega); omega, by rw [hd, Q7 hx1, Tys.size, if_pos (by omega)], hS.sp⟩, Qx (by omega)⟩))
theorem great_c {t : Ty} {cx : Cx} {w : World} {L : List Res} {cs : List Value} (ht : tyR.at cx cs t) (hS : St cx w L) :
    Rets Try.prog Qg5 [.agg ⟨cs⟩] w fun v w' => v = .bool t.great ∧ St cx w' L := by
  obtain ⟨v, rfl, hl⟩ := Ql ht
  all_goals refine QhW ?_
  all_goals (unfold R_GreatType_lc; refine Q0 ?_; refine Q1 ?_; refine zb hS ?_; intro p1 w1 hS; refine zm ?_; refine zn ?_; refine Q0 ?_; refine Q1 ?_; refine zv hS ?_; refine zR2 (c := size_c t ht (by omega) (by omega) hS) (h := ?_); rintro v1 w1 ⟨rfl, hS⟩; refine QC rfl rfl ?_; refine zm ?_; refine zn ?_; refine zr ?_; refine zf ?_; refine ⟨_, rfl, ?_, hS.sp⟩; (rfl); done)
theorem Qjj {l : List Ty} {cx : Cx} {w : World} {L : List Res} {v : Value} (hl : tyR.sl cx v l) (hS : St cx w L) :
    Rets Try.prog Q2D [v] w fun u w' => u = .bool (Tys.great l) ∧ St cx w' L := by
  have hlen := hl.len
  unfold Tys.great
  all_goals refine Qfz ?_
  all_goals (unfold R_greatTypes_lc; refine Q0 ?_; refine Q1 ?_; refine zm ?_; refine zn ?_; refine Q0 ?_; refine Q0 ?_; refine Q1 ?_; refine zm ?_; refine zL ?_)
  all_goals (first | (refine Q11 ?_) | (refine Q14 ?_) | (refine Qn rfl rfl (fun hc => ?_) (fun hc => ?_)))
  all_goals (refine zn ?_)
  all_goals
    first
    | (refine Q5 rfl ?_ -- Q2D c0
       all_goals (refine Q0 ?_; refine Q1 ?_; refine zm ?_; refine zn ?_; refine zr ?_; refine zf ?_)
       all_goals (refine ⟨_, rfl, ?_, hS.sp⟩; rw [decide_eq_true (by omega), Bool.true_or]; done))
    | (refine Q6 rfl ?_ -- Q2D c0
       all_goals refine zsk ?_)
  all_goals (refine Q0 ?_; refine Q0 ?_; refine Q1 ?_; refine zm ?_; refine zn ?_; refine Qb ?_)
  refine zoL hS [0] (fun A LL ρ' w' => ∃ (j : Nat), Has ρ' A ∧ Has ρ' [(3, .int .i64 j)] ∧ (j ≤ l.length) ∧ (l.any Ty.great = (l.drop j).any Ty.great) ∧ St cx w' (LL)) (fun ρ' _ => (l.length - iv (ρ' 3)).toNat) ?_ ?_
  · exact ⟨0, zh, zh, (by omega), by simp, hS.sp⟩
  rintro ρ w1 ⟨j, hA, hρ, hj, hd, hS⟩; obtain ⟨ρ, rfl⟩ := env2 hA hρ
  unfold Q5I
  all_goals (refine Q0 ?_; refine Q0 ?_; refine Q1 ?_; refine zm ?_; refine zm ?_; refine zL ?_; refine QC rfl rfl ?_; refine zn ?_)
  refine Qy rfl (fun hc => ?_) (fun hc => ?_)
  · skip
    all_goals (refine zsk ?_; refine Q0 ?_; refine Qb ?_; refine Q0 ?_; refine Q1 ?_; refine zm ?_; refine zm ?_; refine zi ?_; intro b1 o1 cs1 x1 hat1 hx1 he1; obtain ⟨vl1, rfl, hl1⟩ := Ql he1; (first | (refine zv hS ?_) | (refine zvk hS ?_)))
    all_goals (refine zR1 (c := great_c (by assumption) hS) (h := ?_); rintro v1 w1 ⟨rfl, hS⟩; cases hg : x1.great)
    all_goals (refine zn ?_)
    all_goals
      first
      | (refine Q5 rfl ?_ -- Q2D c2
         all_goals (refine Q0 ?_; refine Q1 ?_; refine zm ?_; refine zn ?_; refine zr ?_; refine zf ?_)
         all_goals (first | (refine ⟨_, rfl, ?_, hS.sp⟩; rw [decide_eq_true (by omega), Bool.true_or]; done) | (refine ⟨_, rfl, ?_, hS.sp⟩; rw [decide_eq_false (by omega), hd, Bool.false_or, Q7 hx1, List.any_cons, hg, Bool.true_or]; done)))
      | (refine Q6 rfl ?_ -- Q2D c2
         all_goals refine zsk ?_)
    all_goals (refine Q1 ?_; refine zm ?_; refine zad ?_; refine zm ?_; refine zn ?_; exact ⟨⟨j + 1, zh, zh, (by omega), by rw [hd, Q7 hx1, List.any_cons, hg, Bool.false_or], hS.sp⟩, Qx (by omega)⟩)
  · skip
    all_goals (refine zex ?_; refine Q0 ?_; refine Q1 ?_; refine zm ?_; refine zn ?_; refine zr ?_; refine zf ?_; (first | (refine ⟨_, rfl, ?_, hS.sp⟩; rw [decide_eq_true (by omega), Bool.true_or]; done) | (refine ⟨_, rfl, ?_, hS.sp⟩; rw [decide_eq_false (by omega), hd, Bool.false_or, Q7 hx1, List.any_cons, hg, Bool.true_or]; done) | (refine ⟨_, rfl, ?_, hS.sp⟩; rw [decide_eq_false (by omega), hd, Bool.false_or, List.drop_of_length_le (by omega)]; rfl; done)))
theorem deep_c : ∀ (t : Ty) {cx : Cx} {w : World} {L : List Res} {cs : List Value} {left : Int}, tyR.at cx cs t → left ≤ 1000000 → St cx w L →
    Rets Try.prog Q3g [.agg ⟨cs⟩, .int .i64 left] w fun v w' => v = .bool (t.deepB left) ∧ St cx w' L := by
  intro t
  induction t using Ty.ind with
  | h k r l ih =>
    intro cx w L cs left ht h1 hS
    obtain ⟨v, rfl, hl⟩ := Ql ht
    simp only [Ty.kind, Ty.r, Ty.l] at hl ht ⊢
    have hlen := hl.len
    rw [Ty.deepB]
    all_goals refine QiX ?_
    all_goals (unfold types_deep_lc; refine Q0 ?_; refine Q1 ?_; refine zb hS ?_; intro p2 w1 hS; refine zm ?_; refine zn ?_; refine Q0 ?_; refine Q0 ?_; refine Q1 ?_; refine zm ?_)
    all_goals (first | (refine Q1Z ?_) | (refine Q20 ?_) | (refine QQ rfl rfl (fun hc => ?_) (fun hc => ?_)))
    all_goals (refine zn ?_)
    all_goals
      first
      | (refine Q5 rfl ?_ -- Q3g c0
         all_goals (refine Q0 ?_; refine Q1 ?_; refine zm ?_; refine zn ?_; refine zr ?_; refine zf ?_)
         all_goals (refine ⟨_, rfl, ?_, hS.sp⟩; rw [if_pos (by omega)]; done))
      | (refine Q6 rfl ?_ -- Q3g c0
         all_goals refine zsk ?_)
    all_goals (refine Q0 ?_; refine Q0 ?_; refine Q1 ?_; refine Q2 rfl ?_; refine zl hS ?_; refine zL ?_; refine zm ?_; refine zn ?_; refine Qb ?_)
    refine zoL hS [1, 10, 11] (fun A LL ρ' w' => ∃ (j : Nat), Has ρ' A ∧ Has ρ' [(12, .int .i64 j)] ∧ (j ≤ l.length) ∧ (Tys.deepB l (left - 1) = Tys.deepB (l.drop j) (left - 1)) ∧ St cx w' (LL)) (fun ρ' _ => (l.length - iv (ρ' 12)).toNat) ?_ ?_
    · exact ⟨0, zh, zh, (by omega), by simp, hS.sp⟩
    rintro ρ w1 ⟨j, hA, hρ, hj, hd, hS⟩; obtain ⟨ρ, rfl⟩ := env2 hA hρ
    unfold Q8u
    all_goals (refine Q0 ?_; refine Q1 ?_; refine QC rfl rfl ?_; refine zn ?_; refine Q0 ?_)
    refine Qy rfl (fun hc => ?_) (fun hc => ?_)
    · skip
      all_goals (refine zsk ?_; refine Q0 ?_; refine Qb ?_; refine Q0 ?_; refine Q1 ?_; refine zi ?_; intro b1 o1 cs1 x1 hat1 hx1 he1; obtain ⟨vl1, rfl, hl1⟩ := Ql he1; (first | (refine zv hS ?_) | (refine zvk hS ?_)); refine Q8 hS ?_; intro p6 w1 hS; refine zsn hS ?_; intro w1 hS; have hS := hS.ns; refine zn ?_; refine Q0 ?_; refine Q1 ?_; refine zv hS ?_; refine zm ?_; refine zsu ?_)
      all_goals (refine zR2 (c := ih _ (List.mem_of_getElem? (by assumption)) (by assumption) (by omega) hS) (h := ?_); rintro v1 w1 ⟨rfl, hS⟩; cases hg : x1.deepB (left - 1))
      all_goals (refine Q1W rfl ?_; refine zn ?_)
      all_goals
        first
        | (refine Q6 rfl ?_ -- Q3g c2
           all_goals refine zsk ?_)
        | (refine Q5 rfl ?_ -- Q3g c2
           all_goals (refine Q0 ?_; refine Q1 ?_; refine zm ?_; refine zn ?_; refine zr ?_; refine zf ?_)
           all_goals (first | (refine ⟨_, rfl, ?_, hS.sp⟩; rw [if_pos (by omega)]; done) | (refine ⟨_, rfl, ?_, hS.sp⟩; rw [if_neg (by omega), hd, Q7 hx1, Tys.deepB, hg, Bool.false_and]; done)))
      all_goals (refine Q1 ?_; refine zad ?_; refine zm ?_; refine zn ?_; exact ⟨⟨j + 1, zh, zh, (by omega), by rw [hd, Q7 hx1, Tys.deepB, hg, Bool.true_and], hS.sp⟩, Qx (by omega)⟩)
    · skip
      all_goals (refine zex ?_; refine Q0 ?_; refine Q1 ?_; refine zm ?_; refine zn ?_; refine zr ?_; refine zf ?_; (first | (refine ⟨_, rfl, ?_, hS.sp⟩; rw [if_pos (by omega)]; done) | (refine ⟨_, rfl, ?_, hS.sp⟩; rw [if_neg (by omega), hd, Q7 hx1, Tys.deepB, hg, Bool.false_and]; done) | (refine ⟨_, rfl, ?_, hS.sp⟩; rw [if_neg (by omega), hd, List.drop_of_length_le (by omega), Tys.deepB]; done)))
theorem wrong_c : ∀ (t : Ty) {cx : Cx} {w : World} {L : List Res} {cs : List Value} {regs : Int}, tyR.at cx cs t → St cx w L →
    Rets Try.prog QG [.agg ⟨cs⟩, .int .i64 regs] w fun v w' => v = .int .i64 (t.wrong 8 regs) ∧ St cx w' L := by
  intro t
  induction t using Ty.ind with
  | h k r l ih =>
    intro cx w L cs regs ht hS
    obtain ⟨v, rfl, hl⟩ := Ql ht
    simp only [Ty.kind, Ty.r, Ty.l] at hl ht ⊢
    have hlen := hl.len
    rw [Ty.wrong]
    all_goals refine QgF ?_
    all_goals (unfold types_wrong_lc; refine Q0 ?_; refine Q1 ?_; refine zb hS ?_; intro p2 w1 hS; refine zm ?_; refine zn ?_)
    refine zML hS [1, 2] (fun A LL ρ' w' => Has ρ' A ∧ Has ρ' [] ∧ (1 ≤ k ∧ k ≤ 4 ∧ k ≠ 1 ∧ (k ≠ 3 → l.length = 0) ∧ l.length ≤ 8) ∧ St cx w' (LL)) ?_ ?_
    · skip
      all_goals (refine Q0 ?_; refine Q1 ?_; refine Q2 rfl ?_; refine zl hS ?_; refine zn ?_; refine Qb ?_; refine Q0 ?_; refine Q1 ?_)
      all_goals (first | (refine QD ?_) | (refine QI ?_) | (refine Qu rfl rfl (fun hc => ?_) (fun hc => ?_)))
      all_goals (refine zm ?_; refine zn ?_)
      all_goals
        first
        | (refine Q5 rfl ?_ -- QG c0
           all_goals (refine Q0 ?_; refine Q0 ?_; refine Q1 ?_; refine Q2 rfl ?_; refine zl hS ?_)
           all_goals (first | (refine Q1h ?_) | (refine Q1i ?_) | (refine Qw rfl rfl (fun hc => ?_) (fun hc => ?_)))
           all_goals (refine zm ?_; (first | refine s_gn rfl rfl ?_ | (refine s_gy rfl ?_; refine Q2 rfl ?_)); (first | refine s_gn rfl rfl ?_ | (refine s_gy rfl ?_; refine zl hS ?_)); (first | refine s_gn rfl rfl ?_ | (refine s_gy rfl ?_; refine zL ?_)))
           all_goals (first | refine s_gn rfl rfl ?_ | (refine s_gy rfl ?_; (first | (refine Q11 ?_) | (refine Q14 ?_) | (refine Qn rfl rfl (fun hc => ?_) (fun hc => ?_)))))
           all_goals ((first | (refine zpt ?_) | (refine zpf ?_)); refine zn ?_)
           all_goals
             first
             | (refine Q5 rfl ?_ -- QG c1
                all_goals (refine Q0 ?_; refine Q1 ?_; refine zm ?_; refine zn ?_; refine zr ?_; refine zf ?_)
                all_goals (refine ⟨_, rfl, ?_, hS.sp⟩; (repeat (first | rw [if_pos (by omega)] | rw [if_neg (by omega)])); done))
             | (refine Q6 rfl ?_ -- QG c1
                all_goals refine zsk ?_)
           all_goals (refine Q0 ?_; refine Q1 ?_; refine zm ?_; refine zn ?_; refine zr ?_; refine zf ?_)
           all_goals (first | (refine ⟨_, rfl, ?_, hS.sp⟩; (repeat (first | rw [if_pos (by omega)] | rw [if_neg (by omega)])); done) | (refine ⟨_, rfl, ?_, hS.sp⟩; ((repeat (first | rw [if_pos (by omega)] | rw [if_neg (by omega)])); rw [hd, Q7 hx1, Tys.wrong, if_pos (by assumption)]); done) | (refine ⟨_, rfl, ?_, hS.sp⟩; ((repeat (first | rw [if_pos (by omega)] | rw [if_neg (by omega)])); rw [List.eq_nil_of_length_eq_zero (l := l) (by omega), Tys.wrong]); done)))
        | (refine Q6 rfl ?_ -- QG c0
           all_goals (refine Q0 ?_; refine Q0 ?_; refine Q1 ?_)
           all_goals (first | (refine QD ?_) | (refine QI ?_) | (refine Qu rfl rfl (fun hc => ?_) (fun hc => ?_)))
           all_goals (refine zm ?_; refine zn ?_)
           all_goals
             first
             | (refine Q5 rfl ?_ -- QG c2
                all_goals refine zsk ?_)
             | (refine Q6 rfl ?_ -- QG c2
                all_goals (refine Q1 ?_)
                all_goals (first | (refine QD ?_) | (refine QI ?_) | (refine Qu rfl rfl (fun hc => ?_) (fun hc => ?_)))
                all_goals (refine zm ?_)
                all_goals refine zn ?_)
           all_goals
             first
             | (refine Q5 rfl ?_ -- QG c3
                all_goals (refine Q0 ?_; refine Q1 ?_; refine Q2 rfl ?_; refine zl hS ?_; refine zL ?_)
                all_goals (first | (refine Q11 ?_) | (refine Q14 ?_) | (refine Qn rfl rfl (fun hc => ?_) (fun hc => ?_)))
                all_goals (refine zn ?_)
                all_goals
                  first
                  | (refine Q5 rfl ?_ -- QG c4
                     all_goals (refine Q0 ?_; refine Q1 ?_; refine zm ?_; refine zn ?_; refine zr ?_; refine zf ?_)
                     all_goals (refine ⟨_, rfl, ?_, hS.sp⟩; (repeat (first | rw [if_pos (by omega)] | rw [if_neg (by omega)])); done))
                  | (refine Q6 rfl ?_ -- QG c4
                     all_goals refine zsk ?_))
             | (refine Q6 rfl ?_ -- QG c3
                all_goals (refine Q0 ?_; refine Q1 ?_)
                all_goals (first | (refine QD ?_) | (refine QI ?_) | (refine Qu rfl rfl (fun hc => ?_) (fun hc => ?_)))
                all_goals (refine zm ?_; refine zn ?_)
                all_goals
                  first
                  | (refine Q5 rfl ?_ -- QG c5
                     all_goals (refine Q0 ?_; refine Q1 ?_; refine Q2 rfl ?_; refine zl hS ?_; refine zL ?_)
                     all_goals (first | (refine Q11 ?_) | (refine Q14 ?_) | (refine Qn rfl rfl (fun hc => ?_) (fun hc => ?_)))
                     all_goals (refine zn ?_)
                     all_goals
                       first
                       | (refine Q5 rfl ?_ -- QG c6
                          all_goals (refine Q0 ?_; refine Q1 ?_; refine zm ?_; refine zn ?_; refine zr ?_; refine zf ?_)
                          all_goals (refine ⟨_, rfl, ?_, hS.sp⟩; (repeat (first | rw [if_pos (by omega)] | rw [if_neg (by omega)])); done))
                       | (refine Q6 rfl ?_ -- QG c6
                          all_goals refine zsk ?_))
                  | (refine Q6 rfl ?_ -- QG c5
                     all_goals (refine Q0 ?_; refine Q1 ?_; refine zm ?_; refine zn ?_; refine zr ?_; refine zf ?_)
                     all_goals (refine ⟨_, rfl, ?_, hS.sp⟩; (repeat (first | rw [if_pos (by omega)] | rw [if_neg (by omega)])); done))))
      all_goals (exact ⟨zh, zh, by omega, hS.sp⟩)
    rintro ρ w1 ⟨hA, hρ, hk, hS⟩; obtain ⟨ρ, rfl⟩ := env2 hA hρ
    all_goals (refine Q0 ?_; refine Q0 ?_; refine Q1 ?_; refine Q2 rfl ?_; refine zl hS ?_)
    all_goals (first | (refine Q1Z ?_) | (refine Q20 ?_) | (refine QQ rfl rfl (fun hc => ?_) (fun hc => ?_)))
    all_goals (refine zm ?_; (first | refine s_gn rfl rfl ?_ | (refine s_gy rfl ?_; refine Q2 rfl ?_)); (first | refine s_gn rfl rfl ?_ | (refine s_gy rfl ?_; refine zl hS ?_)); (first | refine s_gn rfl rfl ?_ | (refine s_gy rfl ?_; refine zm ?_)))
    all_goals (first | refine s_gn rfl rfl ?_ | (refine s_gy rfl ?_; (first | (refine Q53 ?_) | (refine Q56 ?_) | (refine Q24 rfl rfl (fun hc => ?_) (fun hc => ?_)))))
    all_goals ((first | (refine zpt ?_) | (refine zpf ?_)); refine zn ?_)
    all_goals
      first
      | (refine Q5 rfl ?_ -- QG c7
         all_goals (refine Q0 ?_; refine Q1 ?_; refine zm ?_; refine zn ?_; refine zr ?_; refine zf ?_)
         all_goals (refine ⟨_, rfl, ?_, hS.sp⟩; (repeat (first | rw [if_pos (by omega)] | rw [if_neg (by omega)])); done))
      | (refine Q6 rfl ?_ -- QG c7
         all_goals refine zsk ?_)
    all_goals (refine Q0 ?_; refine Q0 ?_; refine Q1 ?_; refine Q2 rfl ?_; refine zl hS ?_; refine zL ?_; refine zm ?_; refine zn ?_; refine Qb ?_)
    refine zoL hS [1, 44, 45] (fun A LL ρ' w' => ∃ (j : Nat), Has ρ' A ∧ Has ρ' [(46, .int .i64 j)] ∧ (j ≤ l.length) ∧ (Tys.wrong 8 l regs = Tys.wrong 8 (l.drop j) regs) ∧ St cx w' (LL)) (fun ρ' _ => (l.length - iv (ρ' 46)).toNat) ?_ ?_
    · exact ⟨0, zh, zh, (by omega), by simp, hS.sp⟩
    rintro ρ w1 ⟨j, hA, hρ, hj, hd, hS⟩; obtain ⟨ρ, rfl⟩ := env2 hA hρ
    unfold Q5a
    all_goals (refine Q0 ?_; refine Q1 ?_; refine QC rfl rfl ?_; refine zn ?_; refine Q0 ?_)
    refine Qy rfl (fun hc => ?_) (fun hc => ?_)
    · skip
      all_goals (refine zsk ?_; refine Q0 ?_; refine Qb ?_; refine Q0 ?_; refine Q1 ?_; refine zi ?_; intro b1 o1 cs1 x1 hat1 hx1 he1; obtain ⟨vl1, rfl, hl1⟩ := Ql he1; (first | (refine zv hS ?_) | (refine zvk hS ?_)); refine Q8 hS ?_; intro p6 w1 hS; refine zsn hS ?_; intro w1 hS; have hS := hS.ns; refine zn ?_; refine Q0 ?_; refine Q1 ?_; refine zv hS ?_; refine zm ?_; refine zR2 (c := ih _ (List.mem_of_getElem? (by assumption)) (by assumption) hS) (h := ?_); rintro v1 w1 ⟨rfl, hS⟩; refine zm ?_; refine zn ?_; refine Q0 ?_; refine Q1 ?_; refine zm ?_)
      all_goals (first | (refine Q1h ?_) | (refine Q1i ?_) | (refine Qw rfl rfl (fun hc => ?_) (fun hc => ?_)))
      all_goals (refine zn ?_)
      all_goals
        first
        | (refine Q5 rfl ?_ -- QG c9
           all_goals (refine Q0 ?_; refine Q1 ?_; refine zm ?_; refine zm ?_; refine zn ?_; refine zr ?_; refine zf ?_)
           all_goals (first | (refine ⟨_, rfl, ?_, hS.sp⟩; (repeat (first | rw [if_pos (by omega)] | rw [if_neg (by omega)])); done) | (refine ⟨_, rfl, ?_, hS.sp⟩; ((repeat (first | rw [if_pos (by omega)] | rw [if_neg (by omega)])); rw [hd, Q7 hx1, Tys.wrong, if_pos (by assumption)]); done)))
        | (refine Q6 rfl ?_ -- QG c9
           all_goals refine zsk ?_)
      all_goals (refine Q1 ?_; refine zad ?_; refine zm ?_; refine zn ?_; exact ⟨⟨j + 1, zh, zh, (by omega), by rw [hd, Q7 hx1, Tys.wrong, if_neg (by omega)], hS.sp⟩, Qx (by omega)⟩)
    · skip
      all_goals (refine zex ?_; refine Q0 ?_; refine Q1 ?_; refine zm ?_; refine zn ?_; refine zr ?_; refine zf ?_; (first | (refine ⟨_, rfl, ?_, hS.sp⟩; (repeat (first | rw [if_pos (by omega)] | rw [if_neg (by omega)])); done) | (refine ⟨_, rfl, ?_, hS.sp⟩; ((repeat (first | rw [if_pos (by omega)] | rw [if_neg (by omega)])); rw [hd, Q7 hx1, Tys.wrong, if_pos (by assumption)]); done) | (refine ⟨_, rfl, ?_, hS.sp⟩; ((repeat (first | rw [if_pos (by omega)] | rw [if_neg (by omega)])); rw [List.eq_nil_of_length_eq_zero (l := l) (by omega), Tys.wrong]); done) | (refine ⟨_, rfl, ?_, hS.sp⟩; ((repeat (first | rw [if_pos (by omega)] | rw [if_neg (by omega)])); rw [hd, List.drop_of_length_le (by omega), Tys.wrong]); done)))
theorem Qoh {t : Ty} {cx : Cx} {w : World} {L : List Res} {cs : List Value} {regs : Int} (ht : tyR.at cx cs t) (hS : St cx w L) :
    Rets Try.prog Q4o [.agg ⟨cs⟩, .int .i64 regs] w fun v w' => v = .int .i64 (t.fault regs) ∧ St cx w' L := by
  obtain ⟨v, rfl, hl⟩ := Ql ht
  unfold Ty.fault
  all_goals refine QgM ?_
  all_goals (unfold types_Check_lc; refine Q0 ?_; refine Q1 ?_; refine zb hS ?_; intro p2 w1 hS; refine zm ?_; refine zn ?_; refine Q0 ?_; refine Q0 ?_; refine Q1 ?_; refine zv hS ?_)
  all_goals (refine zR2 (c := deep_c t ht (by omega) hS) (h := ?_); rintro v1 w1 ⟨rfl, hS⟩; cases hg : t.deepB 4)
  all_goals (refine Q1W rfl ?_; refine zn ?_)
  all_goals
    first
    | (refine Q5 rfl ?_ -- Q4o c0
       all_goals (refine Q0 ?_; refine Q1 ?_; refine zm ?_; refine zn ?_; refine zr ?_; refine zf ?_)
       all_goals (refine ⟨_, rfl, ?_, hS.sp⟩; (rfl); done))
    | (refine Q6 rfl ?_ -- Q4o c0
       all_goals refine zsk ?_)
  all_goals (refine Q0 ?_; refine Q1 ?_; refine zv hS ?_; refine zm ?_; refine zR2 (c := wrong_c t ht hS) (h := ?_); rintro v1 w1 ⟨rfl, hS⟩; refine zm ?_; refine zn ?_; refine zr ?_; refine zf ?_; refine ⟨_, rfl, ?_, hS.sp⟩; (rfl); done)
theorem depth_c : ∀ (t : Ty) {cx : Cx} {w : World} {L : List Res} {cs : List Value} {most : Int}, tyR.at cx cs t → 0 ≤ most → most ≤ 1000 → St cx w L →
    Rets Try.prog Q3M [.agg ⟨cs⟩, .int .i64 most] w fun v w' => v = .int .i64 (t.depth most) ∧ St cx w' L := by
  intro t
  induction t using Ty.ind with
  | h k r l ih =>
    intro cx w L cs most ht h0 h1 hS
    obtain ⟨v, rfl, hl⟩ := Ql ht
    simp only [Ty.kind, Ty.r, Ty.l] at hl ht ⊢
    have hlen := hl.len
    rw [Ty.depth]
    all_goals refine Qo6 ?_
    all_goals (unfold R_DeepOf_lc; refine Q0 ?_; refine Q1 ?_; refine zb hS ?_; intro p2 w1 hS; refine zm ?_; refine zn ?_; refine Q0 ?_; refine Q1 ?_; refine zm ?_; refine zn ?_; refine Q0 ?_; refine Q0 ?_; refine Q1 ?_; refine zm ?_; refine zn ?_; refine Qb ?_)
    refine zoL hS [1, 2] (fun A LL ρ' w' => ∃ (j : Nat) (n : Int), Has ρ' A ∧ Has ρ' [(5, .int .i64 n), (6, .int .i64 j)] ∧ (j ≤ l.length) ∧ (0 ≤ n) ∧ (n ≤ 1002) ∧ (Tys.depth l most 0 = Tys.depth (l.drop j) most n) ∧ St cx w' (LL)) (fun ρ' _ => (l.length - iv (ρ' 6)).toNat) ?_ ?_
    · exact ⟨0, 0, zh, zh, (by omega), (by omega), (by omega), by simp, hS.sp⟩
    rintro ρ w1 ⟨j, n, hA, hρ, hj, hn0, hn, hd, hS⟩; obtain ⟨ρ, rfl⟩ := env2 hA hρ
    unfold Qg6
    all_goals (refine Q0 ?_; refine Q0 ?_; refine Q1 ?_; refine zm ?_; refine Q2 rfl ?_; refine zl hS ?_; refine zL ?_)
    all_goals (first | (refine Q1Z ?_) | (refine Q20 ?_) | (refine QQ rfl rfl (fun hc => ?_) (fun hc => ?_)))
    all_goals (refine zm ?_; (first | refine s_gn rfl rfl ?_ | (refine s_gy rfl ?_; refine zm ?_)); (first | refine s_gn rfl rfl ?_ | (refine s_gy rfl ?_; refine zm ?_)))
    all_goals (first | refine s_gn rfl rfl ?_ | (refine s_gy rfl ?_; (first | (refine zleqt ?_) | (refine zleqf ?_) | (refine s_leq_s rfl rfl (fun hc => ?_) (fun hc => ?_)))))
    all_goals ((first | (refine zpt ?_) | (refine zpf ?_)); refine zn ?_)
    all_goals
      first
      | (refine Q6 rfl ?_ -- Q3M c0
         all_goals (refine zex ?_; refine Q0 ?_; refine Q1 ?_; refine zm ?_; refine zm ?_; refine zn ?_; refine zr ?_; refine zf ?_)
         all_goals (first | (refine ⟨_, rfl, ?_, hS.sp⟩; rw [hd]; cases hx : l.drop j with | nil => exact absurd (List.drop_eq_nil_iff.1 hx) (by omega) | cons y m => rw [Tys.depth, if_pos (by omega), if_pos (by omega)]; done) | (refine ⟨_, rfl, ?_, hS.sp⟩; rw [hd, List.drop_of_length_le (by omega), Tys.depth]; done) | (refine ⟨_, rfl, ?_, hS.sp⟩; rw [hd]; cases hx : l.drop j with | nil => rw [Tys.depth] | cons y m => rw [Tys.depth, if_neg (by omega)]; done)))
      | (refine Q5 rfl ?_ -- Q3M c0
         all_goals (refine zsk ?_; refine Q0 ?_; refine Qb ?_; refine Q0 ?_; refine Q0 ?_; refine Q1 ?_; refine zm ?_)
         all_goals (first | (refine QD ?_) | (refine QI ?_) | (refine Qu rfl rfl (fun hc => ?_) (fun hc => ?_)))
         all_goals (refine zn ?_)
         all_goals
           first
           | (refine Q5 rfl ?_ -- Q3M c1
              all_goals (refine Q0 ?_; refine Q1 ?_; refine zm ?_; refine zn ?_; refine zr ?_; refine zf ?_)
              all_goals (refine ⟨_, rfl, ?_, hS.sp⟩; rw [hd]; cases hx : l.drop j with | nil => exact absurd (List.drop_eq_nil_iff.1 hx) (by omega) | cons y m => rw [Tys.depth, if_pos (by omega), if_pos (by omega)]; done))
           | (refine Q6 rfl ?_ -- Q3M c1
              all_goals refine zsk ?_)
         all_goals (refine Q0 ?_; refine Q1 ?_; refine Q2 rfl ?_; refine zl hS ?_; refine zm ?_; refine zi ?_; intro b1 o1 cs1 x1 hat1 hx1 he1; obtain ⟨vl1, rfl, hl1⟩ := Ql he1; (first | (refine zv hS ?_) | (refine zvk hS ?_)); refine zm ?_; refine zsu ?_; have hb := Ty.depth_rng x1 (most := most - 1) (by omega); refine zR2 (c := ih _ (List.mem_of_getElem? (by assumption)) (by assumption) (by omega) (by omega) hS) (h := ?_); rintro v1 w1 ⟨rfl, hS⟩; refine zad ?_; refine zm ?_; refine zn ?_; refine Q0 ?_; refine Q1 ?_; refine zm ?_; refine zm ?_)
         all_goals (first | (refine Q11 ?_) | (refine Q14 ?_) | (refine Qn rfl rfl (fun hc => ?_) (fun hc => ?_)))
         all_goals (refine zn ?_)
         all_goals
           first
           | (refine Q5 rfl ?_ -- Q3M c2
              all_goals (refine Q1 ?_; refine zm ?_; refine zm ?_)
              all_goals refine zn ?_)
           | (refine Q6 rfl ?_ -- Q3M c2
              all_goals refine zsk ?_)
         all_goals (refine Q1 ?_; refine zm ?_; refine zad ?_; refine zm ?_; refine zn ?_)
         all_goals (first | (exact ⟨⟨j + 1, _, zh, zh, (by omega), (by omega), (by omega), by rw [hd, Q7 hx1, Tys.depth, if_pos (by omega), if_neg (by omega), if_pos (by omega)], hS.sp⟩, Qx (by omega)⟩) | (exact ⟨⟨j + 1, _, zh, zh, (by omega), (by omega), (by omega), by rw [hd, Q7 hx1, Tys.depth, if_pos (by omega), if_neg (by omega), if_neg (by omega)], hS.sp⟩, Qx (by omega)⟩)))
theorem rwrong_c : ∀ (t : Ty) {cx : Cx} {w : World} {L : List Res} {cs : List Value} {regs : Int}, tyR.at cx cs t → St cx w L →
    Rets Try.prog Q1u [.agg ⟨cs⟩, .int .i64 regs] w fun v w' => v = .int .i64 (t.wrong 8 regs) ∧ St cx w' L := by
  intro t
  induction t using Ty.ind with
  | h k r l ih =>
    intro cx w L cs regs ht hS
    obtain ⟨v, rfl, hl⟩ := Ql ht
    simp only [Ty.kind, Ty.r, Ty.l] at hl ht ⊢
    have hlen := hl.len
    rw [Ty.wrong]
    all_goals refine Qhn ?_
    all_goals (unfold R_typeFault_lc; refine Q0 ?_; refine Q1 ?_; refine zb hS ?_; intro p2 w1 hS; refine zm ?_; refine zn ?_; refine Q0 ?_; refine Q0 ?_; refine Q1 ?_; refine Q2 rfl ?_; refine zl hS ?_)
    all_goals (first | (refine Q1Z ?_) | (refine Q20 ?_) | (refine QQ rfl rfl (fun hc => ?_) (fun hc => ?_)))
    all_goals (refine zm ?_; (first | refine s_gn rfl rfl ?_ | (refine s_gy rfl ?_; refine Q2 rfl ?_)); (first | refine s_gn rfl rfl ?_ | (refine s_gy rfl ?_; refine zl hS ?_)))
    all_goals (first | refine s_gn rfl rfl ?_ | (refine s_gy rfl ?_; (first | (refine Q11 ?_) | (refine Q14 ?_) | (refine Qn rfl rfl (fun hc => ?_) (fun hc => ?_)))))
    all_goals ((first | (refine zpt ?_) | (refine zpf ?_)); refine zn ?_)
    all_goals
      first
      | (refine Q5 rfl ?_ -- Q1u c0
         all_goals (refine Q0 ?_; refine Q1 ?_; refine zm ?_; refine zn ?_; refine zr ?_; refine zf ?_)
         all_goals (refine ⟨_, rfl, ?_, hS.sp⟩; (repeat (first | rw [if_pos (by omega)] | rw [if_neg (by omega)])); done))
      | (refine Q6 rfl ?_ -- Q1u c0
         all_goals refine zsk ?_)
    refine zML hS [1, 2] (fun A LL ρ' w' => Has ρ' A ∧ Has ρ' [] ∧ (1 ≤ k ∧ k ≤ 4 ∧ (k = 1 → r = 0) ∧ (k ≠ 3 → l.length = 0)) ∧ St cx w' (LL)) ?_ ?_
    · skip
      all_goals (refine Q0 ?_; refine Q1 ?_; refine Q2 rfl ?_; refine zl hS ?_)
      all_goals (first | (refine QD ?_) | (refine QI ?_) | (refine Qu rfl rfl (fun hc => ?_) (fun hc => ?_)))
      all_goals (refine zm ?_; (first | refine s_gn rfl rfl ?_ | (refine s_gy rfl ?_; refine Q2 rfl ?_)); (first | refine s_gn rfl rfl ?_ | (refine s_gy rfl ?_; refine zl hS ?_)))
      all_goals (first | refine s_gn rfl rfl ?_ | (refine s_gy rfl ?_; (first | (refine Q1h ?_) | (refine Q1i ?_) | (refine Qw rfl rfl (fun hc => ?_) (fun hc => ?_)))))
      all_goals ((first | (refine zpt ?_) | (refine zpf ?_)); refine zm ?_; (first | refine s_gn rfl rfl ?_ | (refine s_gy rfl ?_; refine Q2 rfl ?_)); (first | refine s_gn rfl rfl ?_ | (refine s_gy rfl ?_; refine zl hS ?_)))
      all_goals (first | refine s_gn rfl rfl ?_ | (refine s_gy rfl ?_; (first | (refine Q1h ?_) | (refine Q1i ?_) | (refine Qw rfl rfl (fun hc => ?_) (fun hc => ?_)))))
      all_goals ((first | refine s_gn rfl rfl ?_ | (refine s_gy rfl ?_; refine zm ?_)); (first | refine s_gn rfl rfl ?_ | (refine s_gy rfl ?_; refine Q2 rfl ?_)); (first | refine s_gn rfl rfl ?_ | (refine s_gy rfl ?_; refine zl hS ?_)); (first | refine s_gn rfl rfl ?_ | (refine s_gy rfl ?_; refine zL ?_)))
      all_goals (first | refine s_gn rfl rfl ?_ | (refine s_gy rfl ?_; (first | (refine Q11 ?_) | (refine Q14 ?_) | (refine Qn rfl rfl (fun hc => ?_) (fun hc => ?_)))))
      all_goals ((first | refine s_gn rfl rfl ?_ | (refine s_gy rfl ?_; (first | (refine zpt ?_) | (refine zpf ?_)))); (first | (refine zpt ?_) | (refine zpf ?_)); refine zn ?_)
      all_goals
        first
        | (refine Q5 rfl ?_ -- Q1u c1
           all_goals (refine Q0 ?_; refine Q1 ?_; refine zm ?_; refine zn ?_; refine zr ?_; refine zf ?_)
           all_goals (refine ⟨_, rfl, ?_, hS.sp⟩; (repeat (first | rw [if_pos (by omega)] | rw [if_neg (by omega)])); done))
        | (refine Q6 rfl ?_ -- Q1u c1
           all_goals refine zsk ?_)
      all_goals (exact ⟨zh, zh, by omega, hS.sp⟩)
    rintro ρ w1 ⟨hA, hρ, hk, hS⟩; obtain ⟨ρ, rfl⟩ := env2 hA hρ
    all_goals (refine Q0 ?_; refine Q0 ?_; refine Q1 ?_; refine Q2 rfl ?_; refine zl hS ?_; refine zL ?_)
    all_goals (first | (refine Q11 ?_) | (refine Q14 ?_) | (refine Qn rfl rfl (fun hc => ?_) (fun hc => ?_)))
    all_goals (refine zn ?_)
    all_goals
      first
      | (refine Q5 rfl ?_ -- Q1u c2
         all_goals (refine Q0 ?_; refine Q1 ?_; refine zm ?_; refine zn ?_; refine zr ?_; refine zf ?_)
         all_goals (refine ⟨_, rfl, ?_, hS.sp⟩; (repeat (first | rw [if_pos (by omega)] | rw [if_neg (by omega)])); done))
      | (refine Q6 rfl ?_ -- Q1u c2
         all_goals refine zsk ?_)
    refine zML hS [1, 2] (fun A LL ρ' w' => Has ρ' A ∧ Has ρ' [] ∧ (l.length ≤ 8) ∧ (k ≠ 1 → 0 ≤ r ∧ r < regs) ∧ St cx w' (LL)) ?_ ?_
    · skip
      all_goals (refine Q0 ?_; refine Q1 ?_; refine Q2 rfl ?_; refine zl hS ?_)
      all_goals (first | (refine Q1h ?_) | (refine Q1i ?_) | (refine Qw rfl rfl (fun hc => ?_) (fun hc => ?_)))
      all_goals (refine zm ?_; (first | refine s_gn rfl rfl ?_ | (refine s_gy rfl ?_; refine Q2 rfl ?_)); (first | refine s_gn rfl rfl ?_ | (refine s_gy rfl ?_; refine zl hS ?_)))
      all_goals (first | refine s_gn rfl rfl ?_ | (refine s_gy rfl ?_; (first | (refine Q1Z ?_) | (refine Q20 ?_) | (refine QQ rfl rfl (fun hc => ?_) (fun hc => ?_)))))
      all_goals ((first | refine s_gn rfl rfl ?_ | (refine s_gy rfl ?_; refine zm ?_)); (first | refine s_gn rfl rfl ?_ | (refine s_gy rfl ?_; refine Q2 rfl ?_)); (first | refine s_gn rfl rfl ?_ | (refine s_gy rfl ?_; refine zl hS ?_)); (first | refine s_gn rfl rfl ?_ | (refine s_gy rfl ?_; refine zm ?_)))
      all_goals (first | refine s_gn rfl rfl ?_ | (refine s_gy rfl ?_; (first | (refine Q53 ?_) | (refine Q56 ?_) | (refine Q24 rfl rfl (fun hc => ?_) (fun hc => ?_)))))
      all_goals ((first | refine s_gn rfl rfl ?_ | (refine s_gy rfl ?_; (first | (refine zpt ?_) | (refine zpf ?_)))); (first | (refine zpt ?_) | (refine zpf ?_)); refine zn ?_)
      all_goals
        first
        | (refine Q5 rfl ?_ -- Q1u c3
           all_goals (refine Q0 ?_; refine Q1 ?_; refine zm ?_; refine zn ?_; refine zr ?_; refine zf ?_)
           all_goals (refine ⟨_, rfl, ?_, hS.sp⟩; (repeat (first | rw [if_pos (by omega)] | rw [if_neg (by omega)])); done))
        | (refine Q6 rfl ?_ -- Q1u c3
           all_goals refine zsk ?_)
      all_goals (exact ⟨zh, zh, by omega, by omega, hS.sp⟩)
    rintro ρ w1 ⟨hA, hρ, hk2, hk3, hS⟩; obtain ⟨ρ, rfl⟩ := env2 hA hρ
    all_goals (refine Q0 ?_; refine Q0 ?_; refine Q1 ?_; refine zm ?_; refine zn ?_; refine Qb ?_)
    refine zoL hS [1, 2] (fun A LL ρ' w' => ∃ (j : Nat), Has ρ' A ∧ Has ρ' [(5, .int .i64 j)] ∧ (j ≤ l.length) ∧ (Tys.wrong 8 l regs = Tys.wrong 8 (l.drop j) regs) ∧ St cx w' (LL)) (fun ρ' _ => (l.length - iv (ρ' 5)).toNat) ?_ ?_
    · exact ⟨0, zh, zh, (by omega), by simp, hS.sp⟩
    rintro ρ w1 ⟨j, hA, hρ, hj, hd, hS⟩; obtain ⟨ρ, rfl⟩ := env2 hA hρ
    unfold Q5H
    all_goals (refine Q0 ?_; refine Q0 ?_; refine Q1 ?_; refine zm ?_; refine Q2 rfl ?_; refine zl hS ?_; refine zL ?_; refine QC rfl rfl ?_; refine zn ?_)
    refine Qy rfl (fun hc => ?_) (fun hc => ?_)
    · skip
      all_goals (refine zsk ?_; refine Q0 ?_; refine Qb ?_; refine Q0 ?_; refine Q1 ?_; refine Q2 rfl ?_; refine zl hS ?_; refine zm ?_; refine zi ?_; intro b1 o1 cs1 x1 hat1 hx1 he1; obtain ⟨vl1, rfl, hl1⟩ := Ql he1; (first | (refine zv hS ?_) | (refine zvk hS ?_)); refine zm ?_; refine zR2 (c := ih _ (List.mem_of_getElem? (by assumption)) (by assumption) hS) (h := ?_); rintro v1 w1 ⟨rfl, hS⟩; refine zm ?_; refine zn ?_; refine Q0 ?_; refine Q1 ?_; refine zm ?_)
      all_goals (first | (refine Q1h ?_) | (refine Q1i ?_) | (refine Qw rfl rfl (fun hc => ?_) (fun hc => ?_)))
      all_goals (refine zn ?_)
      all_goals
        first
        | (refine Q5 rfl ?_ -- Q1u c5
           all_goals (refine Q0 ?_; refine Q1 ?_; refine zm ?_; refine zm ?_; refine zn ?_; refine zr ?_; refine zf ?_)
           all_goals (first | (refine ⟨_, rfl, ?_, hS.sp⟩; (repeat (first | rw [if_pos (by omega)] | rw [if_neg (by omega)])); done) | (refine ⟨_, rfl, ?_, hS.sp⟩; ((repeat (first | rw [if_pos (by omega)] | rw [if_neg (by omega)])); rw [hd, Q7 hx1, Tys.wrong, if_pos (by assumption)]); done)))
        | (refine Q6 rfl ?_ -- Q1u c5
           all_goals refine zsk ?_)
      all_goals (refine Q1 ?_; refine zm ?_; refine zad ?_; refine zm ?_; refine zn ?_; exact ⟨⟨j + 1, zh, zh, (by omega), by rw [hd, Q7 hx1, Tys.wrong, if_neg (by omega)], hS.sp⟩, Qx (by omega)⟩)
    · skip
      all_goals (refine zex ?_; refine Q0 ?_; refine Q1 ?_; refine zm ?_; refine zn ?_; refine zr ?_; refine zf ?_; (first | (refine ⟨_, rfl, ?_, hS.sp⟩; (repeat (first | rw [if_pos (by omega)] | rw [if_neg (by omega)])); done) | (refine ⟨_, rfl, ?_, hS.sp⟩; ((repeat (first | rw [if_pos (by omega)] | rw [if_neg (by omega)])); rw [hd, Q7 hx1, Tys.wrong, if_pos (by assumption)]); done) | (refine ⟨_, rfl, ?_, hS.sp⟩; ((repeat (first | rw [if_pos (by omega)] | rw [if_neg (by omega)])); rw [hd, List.drop_of_length_le (by omega), Tys.wrong]); done)))
theorem QpZ {t : Ty} {cx : Cx} {w : World} {L : List Res} {cs : List Value} {regs : Int} (ht : tyR.at cx cs t) (hS : St cx w L) :
    Rets Try.prog Q4T [.agg ⟨cs⟩, .int .i64 regs] w fun v w' => v = .int .i64 (t.fault regs) ∧ St cx w' L := by
  obtain ⟨v, rfl, hl⟩ := Ql ht
  have hdp := Ty.depth_iff t (most := 4) (by omega)
  unfold Ty.fault
  all_goals refine Qht ?_
  all_goals (unfold R_TypeFault_lc; refine Q0 ?_; refine Q1 ?_; refine zb hS ?_; intro p2 w1 hS; refine zm ?_; refine zn ?_; refine Q0 ?_; refine Q0 ?_; refine Q1 ?_; refine zv hS ?_; refine zR2 (c := depth_c t ht (by omega) (by omega) hS) (h := ?_); rintro v1 w1 ⟨rfl, hS⟩)
  all_goals (first | (refine Q11 ?_) | (refine Q14 ?_) | (refine Qn rfl rfl (fun hc => ?_) (fun hc => ?_)))
  all_goals (refine zn ?_)
  all_goals
    first
    | (refine Q5 rfl ?_ -- Q4T c0
       all_goals (refine Q0 ?_; refine Q1 ?_; refine zm ?_; refine zn ?_; refine zr ?_; refine zf ?_)
       all_goals (refine ⟨_, rfl, ?_, hS.sp⟩; (rw [if_pos]; cases hg : t.deepB 4 <;> simp_all <;> omega); done))
    | (refine Q6 rfl ?_ -- Q4T c0
       all_goals refine zsk ?_)
  all_goals (refine Q0 ?_; refine Q1 ?_; refine zv hS ?_; refine zm ?_; refine zR2 (c := rwrong_c t ht hS) (h := ?_); rintro v1 w1 ⟨rfl, hS⟩; refine zm ?_; refine zn ?_; refine zr ?_; refine zf ?_)
  all_goals (first | (refine ⟨_, rfl, ?_, hS.sp⟩; (rw [if_pos]; cases hg : t.deepB 4 <;> simp_all <;> omega); done) | (refine ⟨_, rfl, ?_, hS.sp⟩; (rw [if_neg]; cases hg : t.deepB 4 <;> simp_all <;> omega); done))
end Go.Proofs.Ytanlkfeogoganaa
namespace Go.Proofs.Ytanlkfeogoganaa
open Go.Lir
set_option maxHeartbeats 1000000
attribute [local irreducible] LC.wp Q3 QZ Q1g retQ Q2p LO.wp QH Calls
set_option linter.unusedSimpArgs false
set_option linter.unusedVariables false
theorem Qor {l : List Ty} (hlen : l.length ≤ 100000) (ih : ∀ x ∈ l, ∀ {cx : Cx} {w : World} {L : List Res} {cs : List Value}, tyR.at cx cs x → St cx w L → Rets Try.prog QfN [.agg ⟨cs⟩] w fun u w' => ∃ c' ds, u = .agg ⟨ds⟩ ∧ cx.Le c' ∧ tyR.at c' ds x ∧ St c' w' L)
    {cx : Cx} {w : World} {L : List Res} {v : Value} (hl : tyR.sl cx v l) (hS : St cx w L) : Rets Try.prog QbQ [v] w fun u w' => ∃ c', cx.Le c' ∧ tyR.sl c' u l ∧ St c' w' L := by
  all_goals refine Qkh ?_
  all_goals (unfold R_OwnTypes_lc; refine Q0 ?_; refine Q1 ?_; refine zm ?_; refine zn ?_; refine Q0 ?_; refine Q1 ?_; refine zm ?_; refine zn ?_; refine Q0 ?_; refine Q0 ?_; refine Q1 ?_; refine zm ?_; refine zn ?_; refine Qb ?_)
  refine zoL hS [0] (fun A LL ρ' w' => ∃ (c1 : Cx) (j : Nat) (u : Value) (css : List (List Value)), Has ρ' A ∧ Has ρ' [(3, u), (4, .int .i64 j)] ∧ (cx.Le c1) ∧ (j ≤ l.length) ∧ (tyR.ls c1 css (l.take j)) ∧ (oneC u = true) ∧ St c1 w' (sl 65 3 u css :: LL)) (fun ρ' _ => (l.length - iv (ρ' 4)).toNat) ?_ ?_
  · exact ⟨cx, 0, .slice none 0 0, [], zh, zh, St.refl hS, (by omega), Rep.LR.nil _ _ _, rfl, by have hS := hS.nil (T := 65) (es := 3); exact hS⟩
  rintro ρ w1 ⟨c1, j, u, css, hA, hρ, hle, hj, hls, hu, hS⟩; obtain ⟨ρ, rfl⟩ := env2 hA hρ; have hl := Rep.SR.up hl hle
  unfold Qa1
  all_goals (refine Q0 ?_; refine Q0 ?_; refine Q1 ?_; refine zm ?_; refine zm ?_; refine zL ?_; refine QC rfl rfl ?_; refine zn ?_)
  refine Qy rfl (fun hc => ?_) (fun hc => ?_)
  · skip
    all_goals (refine zsk ?_; refine Q0 ?_; refine Qb ?_; refine Q1 ?_; refine zm ?_; refine zm ?_; refine zm ?_; refine zi ?_; intro b1 o1 cs1 x1 hat1 hx1 he1; obtain ⟨vl1, rfl, hl1⟩ := Ql he1; (first | (refine zv hS ?_) | (refine zvk hS ?_)); refine zR1 (c := ih _ (List.mem_of_getElem? hx1) he1 hS) (h := ?_); rintro v1 w1 ⟨c2, ds, rfl, hle2, hd, hS⟩; obtain ⟨v2, rfl, hv2⟩ := Ql hd; have hls := Rep.LR.up hls hle2; refine zB1 hS [_, _, _] ?_; intro b1 w1 hS; refine za Q6M QiL hS ?_; intro vp1 w1 css1 hls1 hv1 hS; have hS := hS.ns; refine zm ?_; refine zn ?_; refine Q1 ?_; refine zm ?_; refine zad ?_; refine zm ?_; refine zn ?_; exact ⟨⟨c2, j + 1, _, _, zh, zh, hle.trans hle2, (by omega), by rw [Q1B hx1]; assumption, by assumption, hS.sp⟩, Qx (by omega)⟩)
  · skip
    all_goals (refine zex ?_; refine Q0 ?_; refine Q1 ?_; refine zm ?_; refine zm ?_; refine zn ?_; refine zr ?_; refine zf ?_; obtain ⟨c3, hle3, hS, hl3⟩ := St.freezeL (r := tyR) (l := l) (T := 65) (es := 3) (v := u) (css := css) (L := L) hS.sp (by rw [List.take_of_length_le (by omega)] at hls; exact hls) rfl (by omega); exact ⟨_, rfl, c3, hle.trans hle3, hl3, hS⟩)
theorem rown_c : ∀ (t : Ty), t.Short → ∀ {cx : Cx} {w : World} {L : List Res} {cs : List Value}, tyR.at cx cs t → St cx w L →
    Rets Try.prog QfN [.agg ⟨cs⟩] w fun u w' => ∃ c' ds, u = .agg ⟨ds⟩ ∧ cx.Le c' ∧ tyR.at c' ds t ∧ St c' w' L := by
  intro t
  induction t using Ty.ind with
  | h k r l ih =>
    intro hs cx w L cs ht hS
    obtain ⟨v, rfl, hl⟩ := Ql ht
    simp only [Ty.kind, Ty.r, Ty.l] at hl ht ⊢
    obtain ⟨hlen, hsub⟩ := hs.parts
    all_goals refine Qm4 ?_
    all_goals (unfold R_OwnType_lc; refine Q0 ?_; refine Q1 ?_; refine zb hS ?_; intro p1 w1 hS; refine Q8 hS ?_; intro p2 w1 hS; refine zn ?_; refine Q0 ?_; refine zC [(0, none), (1, none), (2, none), (3, none), (4, none), (5, none), (6, some (some [1, 3])), (7, none), (8, some none)] ?_; have hS := hS.drew; refine s_cq ?_; refine Q2 rfl ?_; refine zt ?_; refine s_cq ?_; refine zl hS ?_; refine zt ?_; refine s_cq ?_; refine Q2 rfl ?_; refine zt ?_; refine s_cq ?_; refine zl hS ?_; refine zt ?_; refine s_cq ?_; refine Q2 rfl ?_; refine zt ?_; refine s_cq ?_; refine zl hS ?_; refine zt ?_; refine Q10 ?_; refine zR1 (c := Qor hlen (fun x hx => ih x hx (hsub x hx)) hl hS) (h := ?_); rintro v1 w1 ⟨c1, hle, hl1, hS⟩; obtain ⟨a1, n1, rfl⟩ := Rep.SR.shape hl1; refine zt ?_; refine zy ?_; refine s_cq ?_; refine zb3 [_, _, _] ?_; refine zt ?_; refine s_cf ?_; refine zsn hS ?_; intro w1 hS; have hS := hS.ns; refine zt ?_; refine zcn ?_; refine zr ?_; refine Q18 vw (Qc (n := 3) (by kernel_rfl) (by kernel_rfl) (hS.blkAt fd) (by rfl) (by rfl)) ?_; exact ⟨_, rfl, c1, _, rfl, hle, Q37 hl1, hS.sp⟩)
theorem Q5g {l : List Ty} (hlen : l.length ≤ 100000) (hs : ∀ x ∈ l, x.Short) {cx : Cx} {w : World} {L : List Res} {v : Value} (hl : tyR.sl cx v l) (hS : St cx w L) : Rets Try.prog QbQ [v] w fun u w' => ∃ c', cx.Le c' ∧ tyR.sl c' u l ∧ St c' w' L :=
  Qor hlen (fun x hx => rown_c x (hs x hx)) hl hS
theorem Qov {l : List Ty} (hlen : l.length ≤ 100000) (ih : ∀ x ∈ l, ∀ {cx : Cx} {w : World} {L : List Res} {cs : List Value}, tyR.at cx cs x → St cx w L → Rets Try.prog Q5C [.agg ⟨cs⟩] w fun u w' => ∃ c' ds, u = .agg ⟨ds⟩ ∧ cx.Le c' ∧ tyR.at c' ds x ∧ St c' w' L)
    {cx : Cx} {w : World} {L : List Res} {v : Value} (hl : tyR.sl cx v l) (hS : St cx w L) : Rets Try.prog Q4P [v] w fun u w' => ∃ c', cx.Le c' ∧ tyR.sl c' u l ∧ St c' w' L := by
  all_goals refine QcY ?_
  all_goals (unfold code_ownTypes_lc; refine Q0 ?_; refine Q1 ?_; refine zm ?_; refine zn ?_; refine Q0 ?_; refine Q1 ?_; refine zm ?_; refine zn ?_; refine Q0 ?_; refine Q0 ?_; refine Q1 ?_; refine zm ?_; refine zL ?_; refine zm ?_; refine zn ?_; refine Qb ?_)
  refine zoL hS [6, 7] (fun A LL ρ' w' => ∃ (c1 : Cx) (j : Nat) (u : Value) (css : List (List Value)), Has ρ' A ∧ Has ρ' [(3, u), (8, .int .i64 j)] ∧ (cx.Le c1) ∧ (j ≤ l.length) ∧ (tyR.ls c1 css (l.take j)) ∧ (oneC u = true) ∧ St c1 w' (sl 65 3 u css :: LL)) (fun ρ' _ => (l.length - iv (ρ' 8)).toNat) ?_ ?_
  · exact ⟨cx, 0, .slice none 0 0, [], zh, zh, St.refl hS, (by omega), Rep.LR.nil _ _ _, rfl, by have hS := hS.nil (T := 65) (es := 3); exact hS⟩
  rintro ρ w1 ⟨c1, j, u, css, hA, hρ, hle, hj, hls, hu, hS⟩; obtain ⟨ρ, rfl⟩ := env2 hA hρ; have hl := Rep.SR.up hl hle
  unfold Q4X
  all_goals (refine Q0 ?_; refine Q1 ?_; refine QC rfl rfl ?_; refine zn ?_; refine Q0 ?_)
  refine Qy rfl (fun hc => ?_) (fun hc => ?_)
  · skip
    all_goals (refine zsk ?_; refine Q0 ?_; refine Qb ?_; refine Q0 ?_; refine Q1 ?_; refine zi ?_; intro b1 o1 cs1 x1 hat1 hx1 he1; obtain ⟨vl1, rfl, hl1⟩ := Ql he1; (first | (refine zv hS ?_) | (refine zvk hS ?_)); refine Q8 hS ?_; intro p5 w1 hS; refine zsn hS ?_; intro w1 hS; have hS := hS.ns; refine zn ?_; refine Q1 ?_; refine zm ?_; refine zv hS ?_; refine zR1 (c := ih _ (List.mem_of_getElem? hx1) he1 hS) (h := ?_); rintro v1 w1 ⟨c2, ds, rfl, hle2, hd, hS⟩; obtain ⟨v2, rfl, hv2⟩ := Ql hd; have hls := Rep.LR.up hls hle2; refine zB1 hS [_, _, _] ?_; intro b1 w1 hS; refine za Q6M QiL hS ?_; intro vp1 w1 css1 hls1 hv1 hS; have hS := hS.ns; refine zm ?_; refine zn ?_; refine Q1 ?_; refine zad ?_; refine zm ?_; refine zn ?_; exact ⟨⟨c2, j + 1, _, _, zh, zh, hle.trans hle2, (by omega), by rw [Q1B hx1]; assumption, by assumption, hS.sp⟩, Qx (by omega)⟩)
  · skip
    all_goals (refine zex ?_; refine Q0 ?_; refine Q1 ?_; refine zm ?_; refine zm ?_; refine zn ?_; refine zr ?_; refine zf ?_; obtain ⟨c3, hle3, hS, hl3⟩ := St.freezeL (r := tyR) (l := l) (T := 65) (es := 3) (v := u) (css := css) (L := L) hS.sp (by rw [List.take_of_length_le (by omega)] at hls; exact hls) rfl (by omega); exact ⟨_, rfl, c3, hle.trans hle3, hl3, hS⟩)
theorem pown_c : ∀ (t : Ty), t.Short → ∀ {cx : Cx} {w : World} {L : List Res} {cs : List Value}, tyR.at cx cs t → St cx w L →
    Rets Try.prog Q5C [.agg ⟨cs⟩] w fun u w' => ∃ c' ds, u = .agg ⟨ds⟩ ∧ cx.Le c' ∧ tyR.at c' ds t ∧ St c' w' L := by
  intro t
  induction t using Ty.ind with
  | h k r l ih =>
    intro hs cx w L cs ht hS
    obtain ⟨v, rfl, hl⟩ := Ql ht
    simp only [Ty.kind, Ty.r, Ty.l] at hl ht ⊢
    obtain ⟨hlen, hsub⟩ := hs.parts
    all_goals refine Qf4 ?_
    all_goals (unfold code_ownType_lc; refine Q0 ?_; refine Q1 ?_; refine zb hS ?_; intro p1 w1 hS; refine Q8 hS ?_; intro p2 w1 hS; refine zn ?_; refine Q0 ?_; refine Q1 ?_; refine Q2 rfl ?_; refine zl hS ?_; refine Q2 rfl ?_; refine zl hS ?_; refine zb2 [_, _, _] ?_; refine Q8 hS ?_; intro p3 w1 hS; refine zsn hS ?_; intro w1 hS; have hS := hS.ns; refine zn ?_; refine Q0 ?_; refine Q1 ?_; refine Q2 rfl ?_; refine zl hS ?_; refine zR1 (c := Qov hlen (fun x hx => ih x hx (hsub x hx)) hl hS) (h := ?_); rintro v1 w1 ⟨c1, hle, hl1, hS⟩; obtain ⟨a1, n1, rfl⟩ := Rep.SR.shape hl1; refine Q2 rfl ?_; refine zst hS ?_; intro w1 hS; have hS := hS.ns; refine zn ?_; refine Q0 ?_; refine Q1 ?_; refine zv hS ?_; refine zsn hS ?_; intro w1 hS; have hS := hS.ns; refine zn ?_; refine zr ?_; refine Q18 vw (Qc (n := 3) (by kernel_rfl) (by kernel_rfl) (hS.blkAt fd) (by rfl) (by rfl)) ?_)
    all_goals (exact ⟨_, rfl, c1, _, rfl, hle, Q37 hl1, hS.sp⟩)
theorem Q5j {l : List Ty} (hlen : l.length ≤ 100000) (hs : ∀ x ∈ l, x.Short) {cx : Cx} {w : World} {L : List Res} {v : Value} (hl : tyR.sl cx v l) (hS : St cx w L) : Rets Try.prog Q4P [v] w fun u w' => ∃ c', cx.Le c' ∧ tyR.sl c' u l ∧ St c' w' L :=
  Qov hlen (fun x hx => pown_c x (hs x hx)) hl hS
end Go.Proofs.Ytanlkfeogoganaa
namespace Go.Proofs.Ytanlkfeogoganaa
open Go.Lir
set_option maxHeartbeats 1000000
attribute [local irreducible] LC.wp Q3 QZ Q1g retQ Q2p LO.wp QH Calls
set_option linter.unusedSimpArgs false
set_option linter.unusedVariables false
theorem QkT {l : List Ty} (ih : ∀ x ∈ l, ∀ (y : Ty) {cx : Cx} {w : World} {L : List Res} {cs ds : List Value}, tyR.at cx cs x → tyR.at cx ds y → St cx w L → Rets Try.prog QbP [.agg ⟨cs⟩, .agg ⟨ds⟩] w fun u w' => u = .bool (decide (x = y)) ∧ St cx w' L)
    {m : List Ty} {cx : Cx} {w : World} {L : List Res} {v v2 : Value} (hl : tyR.sl cx v l) (hm : tyR.sl cx v2 m) (hS : St cx w L) : Rets Try.prog Q2y [v, v2] w fun u w' => u = .bool (decide (l = m)) ∧ St cx w' L := by
  have hlen := hl.len
  all_goals refine QhD ?_
  all_goals (unfold R_SameTypes_lc; refine Q0 ?_; refine Q1 ?_; refine zm ?_; refine zn ?_; refine Q0 ?_; refine Q0 ?_; refine Q1 ?_; refine zm ?_; refine zL ?_; refine zm ?_; refine zL ?_)
  all_goals (first | (refine Q1h ?_) | (refine Q1i ?_) | (refine Qw rfl rfl (fun hc => ?_) (fun hc => ?_)))
  all_goals (refine zn ?_)
  all_goals
    first
    | (refine Q5 rfl ?_ -- Q2y c0
       all_goals (refine Q0 ?_; refine Q1 ?_; refine zm ?_; refine zn ?_; refine zr ?_; refine zf ?_)
       all_goals (refine ⟨_, rfl, ?_, hS.sp⟩; rw [decide_eq_false]; exact fun e => absurd (congrArg List.length e) (by omega); done))
    | (refine Q6 rfl ?_ -- Q2y c0
       all_goals refine zsk ?_)
  all_goals (refine Q0 ?_; refine Q0 ?_; refine Q1 ?_; refine zm ?_; refine zn ?_; refine Qb ?_)
  refine zoL hS [0, 1] (fun A LL ρ' w' => ∃ (j : Nat), Has ρ' A ∧ Has ρ' [(5, .int .i64 j)] ∧ (j ≤ l.length) ∧ (l.length = m.length) ∧ (l = m ↔ l.drop j = m.drop j) ∧ St cx w' (LL)) (fun ρ' _ => (l.length - iv (ρ' 5)).toNat) ?_ ?_
  · exact ⟨0, zh, zh, (by omega), (by omega), by simp, hS.sp⟩
  rintro ρ w1 ⟨j, hA, hρ, hj, hlm, hd, hS⟩; obtain ⟨ρ, rfl⟩ := env2 hA hρ
  unfold Q6P
  all_goals (refine Q0 ?_; refine Q0 ?_; refine Q1 ?_; refine zm ?_; refine zm ?_; refine zL ?_; refine QC rfl rfl ?_; refine zn ?_)
  refine Qy rfl (fun hc => ?_) (fun hc => ?_)
  · skip
    all_goals (refine zsk ?_; refine Q0 ?_; refine Qb ?_; refine Q0 ?_; refine zD [(0, none), (1, none), (2, none), (3, none), (4, none), (5, none), (6, none), (7, none), (8, some none), (9, some none)] ?_; have hS := hS.drew; refine zm ?_; refine zm ?_; refine zi ?_; intro b1 o1 cs1 x1 hat1 hx1 he1; obtain ⟨vl1, rfl, hl1⟩ := Ql he1; (first | (refine zv hS ?_) | (refine zvk hS ?_)); refine zm ?_; refine zm ?_; refine zi ?_; intro b2 o2 cs2 x2 hat2 hx2 he2; obtain ⟨vl2, rfl, hl2⟩ := Ql he2; (first | (refine zv hS ?_) | (refine zvk hS ?_)))
    all_goals (refine zR2 (c := ih _ (List.mem_of_getElem? hx1) _ he1 he2 hS) (h := ?_); rintro v1 w1 ⟨rfl, hS⟩; (cases hdec : decide (x1 = x2)); have hg := of_decide_eq_false hdec; rotate_left; have hg := of_decide_eq_true hdec; all_goals skip)
    all_goals (refine Q1W rfl ?_; refine zn ?_)
    all_goals
      first
      | (refine Q5 rfl ?_ -- Q2y c2
         all_goals (refine Q0 ?_; refine Q1 ?_; refine zm ?_; refine zn ?_; refine zr ?_; refine zf ?_)
         all_goals (first | (refine ⟨_, rfl, ?_, hS.sp⟩; rw [decide_eq_false]; exact fun e => absurd (congrArg List.length e) (by omega); done) | (refine ⟨_, rfl, ?_, hS.sp⟩; rw [decide_eq_false]; rw [hd, Q7 hx1, Q7 hx2]; simp [hg]; done)))
      | (refine Q6 rfl ?_ -- Q2y c2
         all_goals refine zsk ?_)
    all_goals (refine Q1 ?_; refine zm ?_; refine zad ?_; refine zm ?_; refine zn ?_; exact ⟨⟨j + 1, zh, zh, (by omega), (by omega), by rw [hd, Q7 hx1, Q7 hx2, hg]; simp, hS.sp⟩, Qx (by omega)⟩)
  · skip
    all_goals (refine zex ?_; refine Q0 ?_; refine Q1 ?_; refine zm ?_; refine zn ?_; refine zr ?_; refine zf ?_; (first | (refine ⟨_, rfl, ?_, hS.sp⟩; rw [decide_eq_false]; exact fun e => absurd (congrArg List.length e) (by omega); done) | (refine ⟨_, rfl, ?_, hS.sp⟩; rw [decide_eq_false]; rw [hd, Q7 hx1, Q7 hx2]; simp [hg]; done) | (refine ⟨_, rfl, ?_, hS.sp⟩; rw [decide_eq_true]; rw [hd, List.drop_of_length_le (by omega), List.drop_of_length_le (by omega)]; done)))
theorem rsame_c : ∀ (t u : Ty) {cx : Cx} {w : World} {L : List Res} {cs ds : List Value}, tyR.at cx cs t → tyR.at cx ds u → St cx w L →
    Rets Try.prog QbP [.agg ⟨cs⟩, .agg ⟨ds⟩] w fun v w' => v = .bool (decide (t = u)) ∧ St cx w' L := by
  intro t
  induction t using Ty.ind with
  | h k r l ih =>
    rintro ⟨k2, r2, m⟩ cx w L cs ds ht hu hS
    obtain ⟨v, rfl, hl⟩ := Ql ht
    obtain ⟨v2, rfl, hm⟩ := Ql hu
    simp only [Ty.kind, Ty.r, Ty.l, Ty.mk.injEq] at hl hm ht hu ⊢
    all_goals refine Qk9 ?_
    all_goals (unfold R_SameType_lc; refine Q0 ?_; refine Q1 ?_; refine zb hS ?_; intro p2 w1 hS; refine zb hS ?_; intro p3 w1 hS; refine zm ?_; refine zn ?_; refine Q0 ?_; refine Q1 ?_; refine Q2 rfl ?_; refine zl hS ?_; refine Q2 rfl ?_; refine zl hS ?_)
    all_goals (first | (refine QD ?_) | (refine QI ?_) | (refine Qu rfl rfl (fun hc => ?_) (fun hc => ?_)))
    all_goals (refine zm ?_; (first | refine s_gn rfl rfl ?_ | (refine s_gy rfl ?_; refine Q2 rfl ?_)); (first | refine s_gn rfl rfl ?_ | (refine s_gy rfl ?_; refine zl hS ?_)); (first | refine s_gn rfl rfl ?_ | (refine s_gy rfl ?_; refine Q2 rfl ?_)); (first | refine s_gn rfl rfl ?_ | (refine s_gy rfl ?_; refine zl hS ?_)))
    all_goals (first | refine s_gn rfl rfl ?_ | (refine s_gy rfl ?_; (first | (refine QD ?_) | (refine QI ?_) | (refine Qu rfl rfl (fun hc => ?_) (fun hc => ?_)))))
    all_goals ((first | (refine zpt ?_) | (refine zpf ?_)); refine zm ?_; (first | refine s_gn rfl rfl ?_ | (refine s_gy rfl ?_; refine Q2 rfl ?_)); (first | refine s_gn rfl rfl ?_ | (refine s_gy rfl ?_; refine zl hS ?_)); (first | refine s_gn rfl rfl ?_ | (refine s_gy rfl ?_; refine Q2 rfl ?_)); (first | refine s_gn rfl rfl ?_ | (refine s_gy rfl ?_; refine zl hS ?_)); (first | refine s_gn rfl rfl ?_ | (refine s_gy rfl ?_; refine zR2 (c := QkT ih hl hm hS) (h := ?_); rintro v1 w1 ⟨rfl, hS⟩)); (first | (refine zpt ?_) | (refine zpf ?_)); refine zm ?_; refine zn ?_; refine zr ?_; refine zf ?_; refine ⟨_, rfl, ?_, hS.sp⟩; (simp [*]); done)
theorem rsames_c {l m : List Ty} {cx : Cx} {w : World} {L : List Res} {v v2 : Value} (hl : tyR.sl cx v l) (hm : tyR.sl cx v2 m) (hS : St cx w L) : Rets Try.prog Q2y [v, v2] w fun u w' => u = .bool (decide (l = m)) ∧ St cx w' L :=
  QkT (fun x _ => rsame_c x) hl hm hS
/-- slices.EqualFunc, by a function that tells whether two are the same. -/
theorem eqfT_c {l : List Ty} {f : FuncId} (hf : Q4j Try.prog f = true) {m : List Ty} {cx : Cx} {w : World} {L : List Res} {v v2 : Value}
    (hcall : ∀ x ∈ l, ∀ y ∈ m, ∀ {w : World} {L : List Res} {cs ds : List Value}, tyR.at cx cs x → tyR.at cx ds y → St cx w L → Rets Try.prog f [.agg ⟨cs⟩, .agg ⟨ds⟩] w fun u w' => u = .bool (decide (x = y)) ∧ St cx w' L)
    (hl : tyR.sl cx v l) (hm : tyR.sl cx v2 m) (hS : St cx w L) : Rets Try.prog Qf [v, v2, .func (.func f) #[] #[]] w fun u w' => u = .bool (decide (l = m)) ∧ St cx w' L := by
  have hlen := hl.len
  all_goals refine Q1t ?_
  all_goals (unfold slices_EqualFunc_api_Type_api_Type_api_Type_api_Type_lc; refine Q0 ?_; refine Q1 ?_; refine zm ?_; refine zn ?_; refine Q0 ?_; refine Q0 ?_; refine Q1 ?_; refine zm ?_; refine zL ?_; refine zm ?_; refine zL ?_)
  all_goals (first | (refine Q1h ?_) | (refine Q1i ?_) | (refine Qw rfl rfl (fun hc => ?_) (fun hc => ?_)))
  all_goals (refine zn ?_)
  all_goals
    first
    | (refine Q5 rfl ?_ -- Qf c0
       all_goals (refine Q0 ?_; refine Q1 ?_; refine zm ?_; refine zn ?_; refine zr ?_; refine zf ?_)
       all_goals (refine ⟨_, rfl, ?_, hS.sp⟩; rw [decide_eq_false]; exact fun e => absurd (congrArg List.length e) (by omega); done))
    | (refine Q6 rfl ?_ -- Qf c0
       all_goals refine zsk ?_)
  all_goals (refine Q0 ?_; refine Q0 ?_; refine Q1 ?_; refine zm ?_; refine zL ?_; refine zm ?_; refine zn ?_; refine Qb ?_)
  refine zoL hS [1, 2, 15, 16] (fun A LL ρ' w' => ∃ (j : Nat), Has ρ' A ∧ Has ρ' [(17, .int .i64 j)] ∧ (j ≤ l.length) ∧ (l.length = m.length) ∧ (l = m ↔ l.drop j = m.drop j) ∧ St cx w' (LL)) (fun ρ' _ => (l.length - iv (ρ' 17)).toNat) ?_ ?_
  · exact ⟨0, zh, zh, (by omega), (by omega), by simp, hS.sp⟩
  rintro ρ w1 ⟨j, hA, hρ, hj, hlm, hd, hS⟩; obtain ⟨ρ, rfl⟩ := env2 hA hρ
  unfold QK
  all_goals (refine Q0 ?_; refine Q1 ?_; refine QC rfl rfl ?_; refine zn ?_; refine Q0 ?_)
  refine Qy rfl (fun hc => ?_) (fun hc => ?_)
  · skip
    all_goals (refine zsk ?_; refine Q0 ?_; refine Qb ?_; refine Q0 ?_; refine Q1 ?_; refine zm ?_; refine zi ?_; intro b1 o1 cs1 x1 hat1 hx1 he1; obtain ⟨vl1, rfl, hl1⟩ := Ql he1; (first | (refine zv hS ?_) | (refine zvk hS ?_)); refine Q8 hS ?_; intro p8 w1 hS; refine zm ?_; refine zsn hS ?_; intro w1 hS; have hS := hS.ns; refine zn ?_; refine Q0 ?_; refine Q1 ?_; refine zm ?_; refine zm ?_; refine zi ?_; intro b2 o2 cs2 x2 hat2 hx2 he2; obtain ⟨vl2, rfl, hl2⟩ := Ql he2; (first | (refine zv hS ?_) | (refine zvk hS ?_)); refine Q8 hS ?_; intro p9 w1 hS; refine zsn hS ?_; intro w1 hS; have hS := hS.ns; refine zn ?_; refine Q0 ?_; refine Q1 ?_; refine zm ?_; refine zv hS ?_; refine zv hS ?_)
    all_goals (refine QpL rfl hf (by rfl) (hcall _ (List.mem_of_getElem? hx1) _ (List.mem_of_getElem? hx2) he1 he2 hS) ?_; rintro v1 w1 ⟨rfl, hS⟩; (cases hdec : decide (x1 = x2)); have hg := of_decide_eq_false hdec; rotate_left; have hg := of_decide_eq_true hdec; all_goals skip)
    all_goals (refine Q1W rfl ?_; refine zn ?_)
    all_goals
      first
      | (refine Q5 rfl ?_ -- Qf c2
         all_goals (refine Q0 ?_; refine Q1 ?_; refine zm ?_; refine zn ?_; refine zr ?_; refine zf ?_)
         all_goals (first | (refine ⟨_, rfl, ?_, hS.sp⟩; rw [decide_eq_false]; exact fun e => absurd (congrArg List.length e) (by omega); done) | (refine ⟨_, rfl, ?_, hS.sp⟩; rw [decide_eq_false]; rw [hd, Q7 hx1, Q7 hx2]; simp [hg]; done)))
      | (refine Q6 rfl ?_ -- Qf c2
         all_goals refine zsk ?_)
    all_goals (refine Q1 ?_; refine zad ?_; refine zm ?_; refine zn ?_; exact ⟨⟨j + 1, zh, zh, (by omega), (by omega), by rw [hd, Q7 hx1, Q7 hx2, hg]; simp, hS.sp⟩, Qx (by omega)⟩)
  · skip
    all_goals (refine zex ?_; refine Q0 ?_; refine Q1 ?_; refine zm ?_; refine zn ?_; refine zr ?_; refine zf ?_; (first | (refine ⟨_, rfl, ?_, hS.sp⟩; rw [decide_eq_false]; exact fun e => absurd (congrArg List.length e) (by omega); done) | (refine ⟨_, rfl, ?_, hS.sp⟩; rw [decide_eq_false]; rw [hd, Q7 hx1, Q7 hx2]; simp [hg]; done) | (refine ⟨_, rfl, ?_, hS.sp⟩; rw [decide_eq_true]; rw [hd, List.drop_of_length_le (by omega), List.drop_of_length_le (by omega)]; done)))
theorem QeE : ∀ (t u : Ty) {cx : Cx} {w : World} {L : List Res} {cs ds : List Value}, tyR.at cx cs t → tyR.at cx ds u → St cx w L →
    Rets Try.prog Qiq [.agg ⟨cs⟩, .agg ⟨ds⟩] w fun v w' => v = .bool (decide (t = u)) ∧ St cx w' L := by
  intro t
  induction t using Ty.ind with
  | h k r l ih =>
    rintro ⟨k2, r2, m⟩ cx w L cs ds ht hu hS
    obtain ⟨v, rfl, hl⟩ := Ql ht
    obtain ⟨v2, rfl, hm⟩ := Ql hu
    simp only [Ty.kind, Ty.r, Ty.l, Ty.mk.injEq] at hl hm ht hu ⊢
    all_goals refine Qj0 ?_
    all_goals (unfold types_Same_lc; refine Q0 ?_; refine Q1 ?_; refine zb hS ?_; intro p2 w1 hS; refine zb hS ?_; intro p3 w1 hS; refine zm ?_; refine zn ?_; refine Q0 ?_; refine Q1 ?_; refine Q2 rfl ?_; refine zl hS ?_; refine Q2 rfl ?_; refine zl hS ?_)
    all_goals (first | (refine QD ?_) | (refine QI ?_) | (refine Qu rfl rfl (fun hc => ?_) (fun hc => ?_)))
    all_goals (refine zm ?_; (first | refine s_gn rfl rfl ?_ | (refine s_gy rfl ?_; refine Q2 rfl ?_)); (first | refine s_gn rfl rfl ?_ | (refine s_gy rfl ?_; refine zl hS ?_)); (first | refine s_gn rfl rfl ?_ | (refine s_gy rfl ?_; refine Q2 rfl ?_)); (first | refine s_gn rfl rfl ?_ | (refine s_gy rfl ?_; refine zl hS ?_)))
    all_goals (first | refine s_gn rfl rfl ?_ | (refine s_gy rfl ?_; (first | (refine QD ?_) | (refine QI ?_) | (refine Qu rfl rfl (fun hc => ?_) (fun hc => ?_)))))
    all_goals ((first | (refine zpt ?_) | (refine zpf ?_)); refine zm ?_; (first | refine s_gn rfl rfl ?_ | (refine s_gy rfl ?_; refine Q2 rfl ?_)); (first | refine s_gn rfl rfl ?_ | (refine s_gy rfl ?_; refine zl hS ?_)); (first | refine s_gn rfl rfl ?_ | (refine s_gy rfl ?_; refine Q2 rfl ?_)); (first | refine s_gn rfl rfl ?_ | (refine s_gy rfl ?_; refine zl hS ?_)); (first | refine s_gn rfl rfl ?_ | (refine s_gy rfl ?_; refine zR3 (c := eqfT_c (by kernel_rfl) (fun x hx y _ {_ _ _ _} h1 h2 h3 => ih x hx y h1 h2 h3) hl hm hS) (h := ?_); rintro v1 w1 ⟨rfl, hS⟩)); (first | (refine zpt ?_) | (refine zpf ?_)); refine zm ?_; refine zn ?_; refine zr ?_; refine zf ?_; refine ⟨_, rfl, ?_, hS.sp⟩; (simp [*]); done)
end Go.Proofs.Ytanlkfeogoganaa
namespace Go.Proofs.Ytanlkfeogoganaa
open Go.Lir
set_option maxHeartbeats 1000000
attribute [local irreducible] LC.wp Q3 QZ Q1g retQ Q2p LO.wp QH Calls
set_option linter.unusedSimpArgs false
set_option linter.unusedVariables false
theorem Qq3 {k r : Int} {l : List Ty} {to : List Int} (h : k ≠ 1 ∧ (r < 0 ∨ (to.length : Int) ≤ r)) : Ty.ren (.mk k r l) to = none := by
  rw [Ty.ren, if_pos (by omega)]
theorem QmO {k r x : Int} {l : List Ty} {to : List Int} (hk : k ≠ 1) (hx : to[r.toNat]? = some x) (h : x < 0) : Ty.ren (.mk k r l) to = none := by
  rw [Ty.ren, if_pos ⟨hk, .inr (.inr (by rw [List.getD_eq_getElem?_getD, hx]; exact h))⟩]
theorem ren_one {k r : Int} {l : List Ty} {to : List Int} (h : k = 1) : Ty.ren (.mk k r l) to = (Tys.ren l to).map (Ty.mk k r) := by
  subst h
  rw [Ty.ren, if_neg (by omega)]
  cases Tys.ren l to <;> rfl
theorem ren_to {k r x : Int} {l : List Ty} {to : List Int} (hk : k ≠ 1) (h0 : 0 ≤ r) (h1 : r < to.length) (hx : to[r.toNat]? = some x) (h : 0 ≤ x) : Ty.ren (.mk k r l) to = (Tys.ren l to).map (Ty.mk k x) := by
  have hd : to.getD r.toNat 0 = x := by rw [List.getD_eq_getElem?_getD, hx]; rfl
  rw [Ty.ren, if_neg (by omega), hd]
  cases Tys.ren l to with
  | none => rfl
  | some m => simp [hk]
theorem QkV {l us : List Ty} {to : List Int} {j : Nat} {x : Ty} (hd : Tys.ren l to = (Tys.ren (l.drop j) to).map (us ++ ·)) (hx : l[j]? = some x) (hn : x.ren to = none) : Tys.ren l to = none := by
  rw [hd, Q7 hx, Tys.ren, hn]; rfl
theorem Qq2 {l us : List Ty} {to : List Int} {j : Nat} {x y : Ty} (hd : Tys.ren l to = (Tys.ren (l.drop j) to).map (us ++ ·)) (hx : l[j]? = some x) (hn : x.ren to = some y) : Tys.ren l to = (Tys.ren (l.drop (j + 1)) to).map ((us ++ [y]) ++ ·) := by
  rw [hd, Q7 hx, Tys.ren, hn]
  cases Tys.ren (l.drop (j + 1)) to <;> simp
theorem rens_all {l us : List Ty} {to : List Int} {j : Nat} (hd : Tys.ren l to = (Tys.ren (l.drop j) to).map (us ++ ·)) (hj : l.length ≤ j) : Tys.ren l to = some us := by
  rw [hd, List.drop_of_length_le hj, Tys.ren]; simp
theorem pren_c : ∀ (t : Ty), t.Short → ∀ {cx : Cx} {w : World} {L : List Res} {cs : List Value} {v2 : Value} {to : List Int}, tyR.at cx cs t → intR.sl cx v2 to → St cx w L →
    Rets Try.prog Q1O [.agg ⟨cs⟩, v2] w fun u w' => ∃ c' ds, u = .tuple #[.agg ⟨ds⟩, .bool (t.ren to).isSome] ∧ cx.Le c' ∧ tyR.at c' ds ((t.ren to).getD (.mk 0 0 [])) ∧ St c' w' L := by
  intro t
  induction t using Ty.ind with
  | h k r l ih =>
    intro hs cx w L cs v2 to ht hto hS
    obtain ⟨v, rfl, hl⟩ := Ql ht
    simp only [Ty.kind, Ty.r, Ty.l] at hl ht ⊢
    obtain ⟨hlen, hsub⟩ := hs.parts
    have hle := St.refl hS
    all_goals refine Qet ?_
    all_goals (unfold types_Rename_lc; refine Q0 ?_; refine Q1 ?_; refine zb hS ?_; intro p2 w1 hS; refine Q8 hS ?_; intro p4 w1 hS; refine zm ?_; refine zn ?_; refine Q0 ?_; refine Q1 ?_; refine Q2 rfl ?_; refine zl hS ?_; refine Q2 rfl ?_; refine zl hS ?_; refine zb2 [_, _, _] ?_; refine Q8 hS ?_; intro p6 w1 hS; refine zsn hS ?_; intro w1 hS; have hS := hS.ns; refine zn ?_)
    refine zM [1, 2, 4, 6] (fun A ρ' w' => ∃ (r2 : Int), Has ρ' A ∧ Has ρ' [] ∧ (Ty.ren (.mk k r l) to = (Tys.ren l to).map (Ty.mk k r2)) ∧ St cx w' (blk p6 65 [.int .i64 k, .int .i64 r2, .slice none 0 0] :: blk p4 65 [.int .i64 0, .int .i64 0, .slice none 0 0] :: blk p2 65 [.int .i64 k, .int .i64 r, v] :: L)) ?_ ?_
    · skip
      all_goals (refine Q0 ?_; refine Q1 ?_; refine Q2 rfl ?_; refine zl hS ?_)
      all_goals (first | (refine Q1h ?_) | (refine Q1i ?_) | (refine Qw rfl rfl (fun hc => ?_) (fun hc => ?_)))
      all_goals (refine zn ?_)
      all_goals
        first
        | (refine Q5 rfl ?_ -- Q1O c0
           all_goals (refine Q0 ?_; refine Q0 ?_; refine Q1 ?_; refine Q2 rfl ?_; refine zl hS ?_)
           all_goals (first | (refine Q1Z ?_) | (refine Q20 ?_) | (refine QQ rfl rfl (fun hc => ?_) (fun hc => ?_)))
           all_goals (refine zm ?_; (first | refine s_gn rfl rfl ?_ | (refine s_gy rfl ?_; refine Q2 rfl ?_)); (first | refine s_gn rfl rfl ?_ | (refine s_gy rfl ?_; refine zl hS ?_)); (first | refine s_gn rfl rfl ?_ | (refine s_gy rfl ?_; refine zm ?_)); (first | refine s_gn rfl rfl ?_ | (refine s_gy rfl ?_; refine zL ?_)))
           all_goals (first | refine s_gn rfl rfl ?_ | (refine s_gy rfl ?_; (first | (refine Q53 ?_) | (refine Q56 ?_) | (refine Q24 rfl rfl (fun hc => ?_) (fun hc => ?_)))))
           all_goals ((first | (refine zpt ?_) | (refine zpf ?_)); refine zm ?_; (first | refine s_gn rfl rfl ?_ | (refine s_gy rfl ?_; refine zm ?_)); (first | refine s_gn rfl rfl ?_ | (refine s_gy rfl ?_; refine Q2 rfl ?_)); (first | refine s_gn rfl rfl ?_ | (refine s_gy rfl ?_; refine zl hS ?_)); (first | refine s_gn rfl rfl ?_ | (refine s_gy rfl ?_; ((first | refine zi ?_ | refine zj ?_); intro b1 o1 cs1 x1 hat1 hx1 he1; obtain rfl := Q1X he1))); (first | refine s_gn rfl rfl ?_ | (refine s_gy rfl ?_; (first | (refine zl hS ?_) | (refine zlk hS ?_)))))
           all_goals (first | refine s_gn rfl rfl ?_ | (refine s_gy rfl ?_; (first | (refine Q1Z ?_) | (refine Q20 ?_) | (refine QQ rfl rfl (fun hc => ?_) (fun hc => ?_)))))
           all_goals ((first | (refine zpt ?_) | (refine zpf ?_)); refine zn ?_)
           all_goals
             first
             | (refine Q5 rfl ?_ -- Q1O c1
                all_goals (refine Q0 ?_; refine Q1 ?_; refine zb0 [_, _, _] ?_; refine zsn hS ?_; intro w1 hS; have hS := hS.ns; refine zm ?_; refine zn ?_; refine zr ?_; refine Q1D vw (Qc (n := 3) (by kernel_rfl) (by kernel_rfl) (hS.blkAt fd) (by rfl) (by rfl)) vw ?_)
                all_goals (first | (rw [Qq3 (by omega)]; exact ⟨_, rfl, _, _, rfl, hle, Q37 (Rep.SR.nil _ _ _), hS.sp⟩) | (rw [QmO (by omega) hx1 (by omega)]; exact ⟨_, rfl, _, _, rfl, hle, Q37 (Rep.SR.nil _ _ _), hS.sp⟩)))
             | (refine Q6 rfl ?_ -- Q1O c1
                all_goals refine zsk ?_)
           all_goals (refine Q1 ?_; refine zm ?_; refine Q2 rfl ?_; refine zl hS ?_; (first | refine zi ?_ | refine zj ?_); intro b2 o2 cs2 x2 hat2 hx2 he2; obtain rfl := Q1X he2; (first | (refine zl hS ?_) | (refine zlk hS ?_)); refine Q2 rfl ?_; refine zst hS ?_; intro w1 hS; have hS := hS.ns)
           all_goals refine zn ?_)
        | (refine Q6 rfl ?_ -- Q1O c0
           all_goals refine zsk ?_)
      all_goals ((first | (exact ⟨_, zh, zh, ren_to (by omega) (by omega) (by omega) hx2 (by have h9 := Option.some.inj (hx1.symm.trans hx2); omega), hS.sp⟩) | (exact ⟨_, zh, zh, ren_one (by omega), hS.sp⟩)))
    rintro ρ w1 ⟨r2, hA, hρ, hr, hS⟩; obtain ⟨ρ, rfl⟩ := env2 hA hρ
    all_goals (refine Q0 ?_; refine Q0 ?_; refine Q1 ?_; refine Q2 rfl ?_; refine zl hS ?_; refine zL ?_; refine zm ?_; refine zn ?_; refine Qb ?_)
    refine zo [1, 4, 6, 45, 46] (fun A ρ' w' => ∃ (k0 : Cx) (j : Nat) (u : Value) (css : List (List Value)) (us : List Ty), Has ρ' A ∧ Has ρ' [(47, .int .i64 j)] ∧ (cx.Le k0) ∧ (j ≤ l.length) ∧ (us.length = j) ∧ (Tys.ren l to = (Tys.ren (l.drop j) to).map (us ++ ·)) ∧ (tyR.ls k0 css us) ∧ (oneC u = true) ∧ St k0 w' (sl 65 3 u css :: blk p6 65 [.int .i64 k, .int .i64 r2, u] :: blk p4 65 [.int .i64 0, .int .i64 0, .slice none 0 0] :: blk p2 65 [.int .i64 k, .int .i64 r, v] :: L)) (fun ρ' _ => (l.length - iv (ρ' 47)).toNat) ?_ ?_
    · exact ⟨cx, 0, .slice none 0 0, [], [], zh, zh, St.refl hS, (by omega), rfl, by simp, Rep.LR.nil _ _ _, rfl, by have hS := hS.nil (T := 65) (es := 3); exact hS.sp⟩
    rintro ρ w1 ⟨k0, j, u, css, us, hA, hρ, hle2, hj, hus, hd, hls, hu, hS⟩; obtain ⟨ρ, rfl⟩ := env2 hA hρ; have hL0 := hle2; (try have hle := hle.trans hle2); (try have hl := hl.up hle2); (try have hto := hto.up hle2)
    unfold Q5b
    all_goals (refine Q0 ?_; refine Q1 ?_; refine QC rfl rfl ?_; refine zn ?_; refine Q0 ?_)
    refine Qy rfl (fun hc => ?_) (fun hc => ?_)
    · skip
      all_goals (refine zsk ?_; refine Q0 ?_; refine Qb ?_; refine Q0 ?_; refine Q1 ?_; refine zi ?_; intro b3 o3 cs3 x3 hat3 hx3 he3; obtain ⟨vl3, rfl, hl3⟩ := Ql he3; (first | (refine zv hS ?_) | (refine zvk hS ?_)); refine Q8 hS ?_; intro p8 w1 hS; refine zsn hS ?_; intro w1 hS; have hS := hS.ns; refine zn ?_; refine Q0 ?_; refine Q1 ?_; refine zv hS ?_; refine zm ?_)
      all_goals (refine zR2 (c := ih _ (List.mem_of_getElem? hx3) (hsub _ (List.mem_of_getElem? hx3)) he3 hto hS) (h := ?_); rintro v1 w1 ⟨c1, ds, rfl, hle2, hd1, hS⟩; obtain ⟨y, hy⟩ : ∃ y, (x3.ren to).getD (.mk 0 0 []) = y := ⟨_, rfl⟩; rw [hy] at hd1; obtain ⟨v7, rfl, hv7⟩ := Ql hd1; (try have hle := hle.trans hle2); (try have hL0 := hL0.trans hle2); (try have hl := hl.up hle2); (try have hl3 := hl3.up hle2); (try have he3 := he3.up hle2); (try have hls := hls.up hle2); (try have hto := hto.up hle2); cases hg : x3.ren to)
      all_goals (refine zm ?_; refine QcG rfl rfl ?_; refine QcG rfl rfl ?_; refine Q8 hS ?_; intro p9 w1 hS; refine zsn hS ?_; intro w1 hS; have hS := hS.ns; refine zm ?_; refine zn ?_; refine Q0 ?_; refine Q0 ?_; refine Q1 ?_; refine zm ?_; refine Q1W rfl ?_; refine zn ?_)
      all_goals
        first
        | (refine Q5 rfl ?_ -- Q1O c3
           all_goals (refine Q0 ?_; refine Q1 ?_; refine zb0 [_, _, _] ?_; refine zsn hS ?_; intro w1 hS; have hS := hS.ns; refine zm ?_; refine zn ?_; refine zr ?_; refine Q1D vw (Qc (n := 3) (by kernel_rfl) (by kernel_rfl) (hS.blkAt fd) (by rfl) (by rfl)) vw ?_)
           all_goals (first | (rw [Qq3 (by omega)]; exact ⟨_, rfl, _, _, rfl, hle, Q37 (Rep.SR.nil _ _ _), hS.sp⟩) | (rw [QmO (by omega) hx1 (by omega)]; exact ⟨_, rfl, _, _, rfl, hle, Q37 (Rep.SR.nil _ _ _), hS.sp⟩) | (rw [hr, QkV hd hx3 hg]; exact ⟨_, rfl, _, _, rfl, hle, Q37 (Rep.SR.nil _ _ _), hS.sp⟩)))
        | (refine Q6 rfl ?_ -- Q1O c3
           all_goals refine zsk ?_)
      all_goals (refine Q1 ?_; refine Q2 rfl ?_; refine zl hS ?_; refine zv hS ?_; refine zB1 hS [_, _, _] ?_; intro b1 w1 hS; refine za Q6M QiL hS ?_; intro vp1 w1 css1 hls1 hv1 hS; have hS := hS.ns; refine Q2 rfl ?_; refine zst hS ?_; intro w1 hS; have hS := hS.ns; refine zn ?_; refine Q1 ?_; refine zad ?_; refine zm ?_; refine zn ?_; exact ⟨⟨_, j + 1, _, _, us ++ [y], zh, zh, hL0, (by omega), by simp [hus], Qq2 hd hx3 (by rw [hg, ← hy, hg]; rfl), by assumption, by assumption, hS.sp⟩, Qx (by omega)⟩)
    · skip
      all_goals (refine zex ?_; refine Q0 ?_; refine Q1 ?_; refine zv hS ?_; refine zsn hS ?_; intro w1 hS; have hS := hS.ns; refine zm ?_; refine zn ?_; refine zr ?_; refine Q1D vw (Qc (n := 3) (by kernel_rfl) (by kernel_rfl) (hS.blkAt fd) (by rfl) (by rfl)) vw ?_; (first | (rw [Qq3 (by omega)]; exact ⟨_, rfl, _, _, rfl, hle, Q37 (Rep.SR.nil _ _ _), hS.sp⟩) | (rw [QmO (by omega) hx1 (by omega)]; exact ⟨_, rfl, _, _, rfl, hle, Q37 (Rep.SR.nil _ _ _), hS.sp⟩) | (rw [hr, QkV hd hx3 hg]; exact ⟨_, rfl, _, _, rfl, hle, Q37 (Rep.SR.nil _ _ _), hS.sp⟩) | (rw [hr, rens_all hd (by omega)]; obtain ⟨c3, hle3, hS, hl3⟩ := St.freezeL (r := tyR) (l := us) (T := 65) (es := 3) (v := u) (css := css) (L := L) hS.sp hls rfl (by omega); exact ⟨_, rfl, c3, _, rfl, hle.trans hle3, Q37 hl3, hS⟩)))
end Go.Proofs.Ytanlkfeogoganaa
namespace Go.Lir
set_option linter.unusedVariables false
abbrev Flt := Int × Int
/-- The first fault. -/
def orF (a b : Flt) : Flt := if a.1 = 0 ∧ b.1 ≠ 0 then b else a
def mkF (c at' : Int) : Flt := if c = 0 then (0, 0) else (c, at')
theorem Q3o (a b c : Flt) : orF (orF a b) c = orF a (orF b c) := by
  unfold orF
  by_cases h1 : a.1 = 0 <;> by_cases h2 : b.1 = 0 <;> by_cases h3 : c.1 = 0 <;> simp [h1, h2, h3]
theorem Q3Y {a b : Flt} (h : a.1 ≠ 0) : orF a b = a := by unfold orF; rw [if_neg (fun h' => h h'.1)]
theorem QeF {a b : Flt} (h : b.1 = 0) : orF a b = a := by unfold orF; rw [if_neg (fun h' => h'.2 h)]
theorem Q1E {b : Flt} (h : b.1 = 0 → b = (0, 0)) : orF (0, 0) b = b := by
  unfold orF
  by_cases hb : b.1 = 0
  · rw [h hb]; rfl
  · rw [if_pos ⟨rfl, hb⟩]
theorem Q1T (at' : Int) : mkF 0 at' = (0, 0) := rfl
theorem Q5q {c at' : Int} (h : c ≠ 0) : mkF c at' = (c, at') := if_neg h
theorem Q1F (c at' : Int) : (mkF c at').1 = c := by unfold mkF; split <;> simp_all
theorem Qao (c at' : Int) : (mkF c at').1 = 0 → mkF c at' = (0, 0) := by rw [Q1F]; rintro rfl; rfl
theorem QgP {a b : Flt} (ha : a.1 = 0 → a = (0, 0)) (hb : b.1 = 0 → b = (0, 0)) : (orF a b).1 = 0 → orF a b = (0, 0) := by
  unfold orF
  split
  · exact hb
  · exact ha
/-- Two codes at one place: the first that is not 0. -/
def orC (a b : Int) : Int := if a ≠ 0 then a else b
theorem Q2O {g : Flt} {a b at' : Int} : orF (orF g (mkF a at')) (mkF b at') = orF g (mkF (orC a b) at') := by
  rw [Q3o]
  congr 1
  unfold orC orF
  by_cases h : a = 0
  · subst h
    by_cases hb : b = 0
    · subst hb; rfl
    · simp [mkF, hb]
  · simp [mkF, h]

/-! which fields an instruction has -/
def fA (op : Int) : Bool := decide (op = 2 ∨ op = 4 ∨ op = 5 ∨ op = 6 ∨ op = 7 ∨ op = 8 ∨ op = 9 ∨ op = 10 ∨ op = 11 ∨ op = 13)
def fB (op : Int) : Bool := decide (op = 2 ∨ op = 7 ∨ op = 8 ∨ op = 9 ∨ op = 10)
def fC (op : Int) : Bool := decide (op = 10)
def fK (op : Int) : Bool := decide (op = 2 ∨ op = 6 ∨ op = 7 ∨ op = 14)
def fN (op : Int) : Bool := decide (op = 1)
def fG (op : Int) : Bool := decide (op = 14)
def fR (op : Int) : Bool := decide (op = 5 ∨ op = 14)
/-- A field that the kind has not is not 0. -/
def Ins.odd (x : Ins) : Prop := (fA x.op = false ∧ x.a ≠ 0) ∨ (fB x.op = false ∧ x.b ≠ 0) ∨ (fC x.op = false ∧ x.c ≠ 0) ∨ (fK x.op = false ∧ x.k ≠ 0) ∨ (fN x.op = false ∧ x.n ≠ 0) ∨ (fG x.op = false ∧ 0 < x.regs.length) ∨ (fR x.op = false ∧ 0 < x.args.length)
instance (x : Ins) : Decidable x.odd := by unfold Ins.odd; infer_instance
/-- What stands behind the form, kind by kind. -/
def Q1H (n : Nat) (x : Ins) : Int :=
  if x.op = 2 then (if x.k < 1 ∨ 9 < x.k then 1 else 0)
  else if x.op = 5 then (if 8 < x.args.length then 2 else 0)
  else if x.op = 6 ∨ x.op = 7 then (if x.k < 0 ∨ 8 ≤ x.k then 1 else 0)
  else if x.op = 14 then (if x.k < 0 ∨ (n : Int) ≤ x.k then 1 else if 6 < x.regs.length ∨ 8 < x.args.length then 2 else 0)
  else 0
def QP (n : Nat) (x : Ins) : Int := if x.op < 1 ∨ 14 < x.op then 3 else if x.odd then 4 else Q1H n x
def Q1S (n : Nat) (t : To) (is : Bool) : Int :=
  if is = false then (if t.block ≠ 0 ∨ 0 < t.regs.length ∨ 0 < t.args.length then 4 else 0)
  else if t.block < 0 ∨ (n : Int) ≤ t.block then 1 else if 16 < t.regs.length ∨ 8 < t.args.length then 2 else 0
def Q1I (n : Nat) (e : Tail) : Int :=
  if e.op < 1 ∨ 3 < e.op then 3
  else if e.op ≠ 2 ∧ e.a ≠ 0 ∨ e.op ≠ 3 ∧ 0 < e.args.length then 4
  else if 8 < e.args.length then 2
  else orC (Q1S n e.yes (decide (e.op ≠ 3))) (Q1S n e.no (decide (e.op = 2)))
def Q2X (regs : Int) : List Ty → Int
  | [] => 0
  | t :: l => orC (t.fault regs) (Q2X regs l)
def Qr (l : List Ty) (regs : Int) : Int := if 8 < l.length then 2 else Q2X regs l
def Q2W (f : Nat) : Int := f * 10000 + 9999
def Q26 (f b : Nat) : Int := f * 10000 + b * 100 + 90
def Q6G (f b : Nat) : Int := f * 10000 + b * 100 + 91
def Q4l (f b i : Nat) : Int := f * 10000 + b * 100 + i
/-- The instructions from the i-th on. -/
def QE (n f b : Nat) : Nat → List Ins → Flt
  | _, [] => (0, 0)
  | i, x :: l => orF (mkF (QP n x) (Q4l f b i)) (QE n f b (i + 1) l)
def Qm (x : Fun) (b : Nat) (y : Block) : Int :=
  if y.regs < x.regs ∨ 16 < y.regs then 1
  else if Qr y.params y.regs ≠ 0 then Qr y.params y.regs
  else if b = 0 ∧ (y.regs ≠ x.regs ∨ y.params ≠ x.params) then 9
  else if 40 < y.code.length then 2 else 0
def Qv (n f : Nat) (x : Fun) (b : Nat) (y : Block) : Flt := orF (mkF (Qm x b y) (Q26 f b)) (orF (QE n f b 0 y.code) (mkF (Q1I x.blocks.length y.fin) (Q6G f b)))
def Qo (n f : Nat) (x : Fun) : Nat → List Block → Flt
  | _, [] => (0, 0)
  | b, y :: l => orF (Qv n f x b y) (Qo n f x (b + 1) l)
def Qz (f : Nat) (x : Fun) : Int :=
  if x.regs < 0 ∨ 6 < x.regs then 1
  else if Qr x.params x.regs ≠ 0 then Qr x.params x.regs
  else if Qr x.results x.regs ≠ 0 then Qr x.results x.regs
  else if x.blocks.length < 1 ∨ 12 < x.blocks.length then 2
  else if f = 0 ∧ (0 < x.regs ∨ 0 < x.params.length ∨ ∃ t ∈ x.results, t.kind ≠ 1) then 18 else 0
def Q1L (n f : Nat) (x : Fun) : Flt := orF (mkF (Qz f x) (Q2W f)) (Qo n f x 0 x.blocks)
def QR (n : Nat) : Nat → List Fun → Flt
  | _, [] => (0, 0)
  | f, x :: l => orF (Q1L n f x) (QR n (f + 1) l)
def Module.fault (m : Module) : Flt := orF (mkF (if m.funcs.length < 1 ∨ 8 < m.funcs.length then 2 else 0) (-1)) (QR m.funcs.length 0 m.funcs)
theorem Q4Q {n f b : Nat} : ∀ {l : List Ins} {i : Nat}, (QE n f b i l).1 = 0 → QE n f b i l = (0, 0)
  | [], _ => fun _ => rfl
  | _ :: _, _ => QgP (Qao _ _) Q4Q
theorem Q5G {n f : Nat} {x : Fun} {b : Nat} {y : Block} : (Qv n f x b y).1 = 0 → Qv n f x b y = (0, 0) := QgP (Qao _ _) (QgP Q4Q (Qao _ _))
theorem Q2a {n f : Nat} {x : Fun} : ∀ {l : List Block} {b : Nat}, (Qo n f x b l).1 = 0 → Qo n f x b l = (0, 0)
  | [], _ => fun _ => rfl
  | _ :: _, _ => QgP Q5G Q2a
theorem Qj {n : Nat} : ∀ {l : List Fun} {f : Nat}, (QR n f l).1 = 0 → QR n f l = (0, 0)
  | [], _ => fun _ => rfl
  | _ :: _, _ => QgP (QgP (Qao _ _) Q2a) Qj
theorem Module.fault_z {m : Module} : m.fault.1 = 0 → m.fault = (0, 0) := QgP (Qao _ _) Qj

theorem Q1J {n f b : Nat} {x : Fun} {y : Block} {c : Int} (h : Qm x b y = c) (hc : c ≠ 0) : Qv n f x b y = (c, Q26 f b) := by
  unfold Qv; rw [h, Q3Y (by rw [Q1F]; exact hc), Q5q hc]
theorem QnK {n f b : Nat} {x : Fun} {y : Block} {F : Flt} (h : Qm x b y = 0) (hc : QE n f b 0 y.code = F) (hF : F.1 ≠ 0) : Qv n f x b y = F := by
  unfold Qv; rw [h, Q1T, hc, Q3Y hF, Q1E (fun h => absurd h hF)]
theorem bf_end {n f b : Nat} {x : Fun} {y : Block} (h : Qm x b y = 0) (hc : QE n f b 0 y.code = (0, 0)) : Qv n f x b y = mkF (Q1I x.blocks.length y.fin) (Q6G f b) := by
  unfold Qv; rw [h, Q1T, hc, Q1E (Qao _ _), Q1E (Qao _ _)]
theorem Qh8 {n f b i : Nat} {x : Ins} {l : List Ins} (h : QP n x = 0) : QE n f b i (x :: l) = QE n f b (i + 1) l := by
  rw [QE, h, Q1T, Q1E Q4Q]
theorem Q44 {n f b i : Nat} {x : Ins} {l : List Ins} (h : QP n x ≠ 0) : QE n f b i (x :: l) = (QP n x, Q4l f b i) := by
  rw [QE, Q3Y (by rw [Q1F]; exact h), Q5q h]
theorem QX {n f : Nat} {x : Fun} {c : Int} (h : Qz f x = c) (hc : c ≠ 0) : Q1L n f x = (c, Q2W f) := by
  unfold Q1L; rw [h, Q3Y (by rw [Q1F]; exact hc), Q5q hc]
theorem Q9y {n f : Nat} {x : Fun} (h : Qz f x = 0) : Q1L n f x = Qo n f x 0 x.blocks := by
  unfold Q1L; rw [h, Q1T, Q1E Q2a]
theorem Qd7 {n f b : Nat} {x : Fun} {y : Block} {l : List Block} (h : (Qv n f x b y).1 = 0) : Qo n f x b (y :: l) = Qo n f x (b + 1) l := by
  rw [Qo, Q5G h, Q1E Q2a]
theorem Q4Z {n f b : Nat} {x : Fun} {y : Block} {l : List Block} (h : (Qv n f x b y).1 ≠ 0) : Qo n f x b (y :: l) = Qv n f x b y := by
  rw [Qo, Q3Y h]
theorem Qiz {n f : Nat} {x : Fun} : (Q1L n f x).1 = 0 → Q1L n f x = (0, 0) := QgP (Qao _ _) Q2a
theorem QgS {n f : Nat} {x : Fun} {l : List Fun} (h : (Q1L n f x).1 = 0) : QR n f (x :: l) = QR n (f + 1) l := by
  rw [QR, Qiz h, Q1E Qj]
theorem Qg {n f : Nat} {x : Fun} {l : List Fun} (h : (Q1L n f x).1 ≠ 0) : QR n f (x :: l) = Q1L n f x := by
  rw [QR, Q3Y h]

/-! has -/
def hasTab : List ByteArray := [⟨#[]⟩, ⟨#[110]⟩, ⟨#[97, 98, 107]⟩, ⟨#[]⟩, ⟨#[97]⟩, ⟨#[97, 114]⟩, ⟨#[97, 107]⟩, ⟨#[97, 98, 107]⟩, ⟨#[97, 98]⟩, ⟨#[97, 98]⟩, ⟨#[97, 98, 99]⟩, ⟨#[97]⟩, ⟨#[]⟩, ⟨#[97]⟩, ⟨#[107, 103, 114]⟩]
def hasF (op : Int) : ByteArray := if op < 1 ∨ 14 < op then ⟨#[]⟩ else hasTab.getD op.toNat ⟨#[]⟩
def Q1v (s : ByteArray) (c : Nat) : Bool := s.data.toList.any fun b => decide (b.toNat = c)
theorem op_cases {op : Int} (h1 : ¬ op < 1) (h2 : ¬ 14 < op) : op = 1 ∨ op = 2 ∨ op = 3 ∨ op = 4 ∨ op = 5 ∨ op = 6 ∨ op = 7 ∨ op = 8 ∨ op = 9 ∨ op = 10 ∨ op = 11 ∨ op = 12 ∨ op = 13 ∨ op = 14 := by omega
theorem with_all (op : Int) (h : ¬ (op < 1 ∨ 14 < op)) : Q1v (hasF op) 97 = fA op ∧ Q1v (hasF op) 98 = fB op ∧ Q1v (hasF op) 99 = fC op ∧ Q1v (hasF op) 107 = fK op ∧ Q1v (hasF op) 110 = fN op ∧ Q1v (hasF op) 103 = fG op ∧ Q1v (hasF op) 114 = fR op := by
  rcases op_cases (op := op) (by omega) (by omega) with rfl | rfl | rfl | rfl | rfl | rfl | rfl | rfl | rfl | rfl | rfl | rfl | rfl | rfl <;> decide
end Go.Lir
namespace Go.Lir
set_option linter.unusedVariables false
/-- Which regions are held, which values there are. -/
structure JS where
  h : List Bool
  l : List Ty
deriving instance DecidableEq for JS
def jval (s : JS) (k : Int) : Except Int Ty := if k < 0 then .error 1 else match s.l[k.toNat]? with
  | none => .error 1
  | some t => .ok t
def QF {α β : Type} (x : Except Int α) (f : α → Except Int β) : Except Int β := match x with
  | .error e => .error e
  | .ok a => f a
theorem QM {α β : Type} {x : Except Int α} {f : α → Except Int β} {e : Int} (h : x = .error e) : QF x f = .error e := by rw [h]; rfl
theorem Qe {α β : Type} {x : Except Int α} {f : α → Except Int β} {a : α} (h : x = .ok a) : QF x f = f a := by rw [h]; rfl
theorem Qp {α β : Type} {x : Except Int α} {f : α → Except Int β} {b : β} (h : QF x f = .ok b) : ∃ a, x = .ok a ∧ f a = .ok b := by
  cases x with
  | error e => cases h
  | ok a => exact ⟨a, rfl, h⟩
def Q2u (s : JS) (k kind : Int) : Except Int Ty := QF (jval s k) fun t => if t.kind ≠ kind then .error 9 else .ok t
def jat (s : JS) (k kind : Int) : Except Int Ty := QF (Q2u s k kind) fun t => if hasB s.h t.r = false then .error 10 else .ok t
def jput (s : JS) (t : Ty) : Except Int JS := if s.l.length = 80 then .error 2 else .ok ⟨s.h, s.l ++ [t]⟩
def Q2B (s : JS) (regs : List Int) : List Int → List Ty → Except Int Unit
  | k :: l, u :: want => QF (jval s k) fun t => match u.ren regs with
    | none => .error 9
    | some u' => if t ≠ u' then .error 9 else Q2B s regs l want
  | _, _ => .ok ()
def QcJ (s : JS) (l : List Int) (want : List Ty) (regs : List Int) : Except Int Unit := if l.length ≠ want.length then .error 2 else Q2B s regs l want
def Q4f (t : Ty) (k : Int) : Except Int Ty := match t.l[k.toNat]? with
  | none => .error 9
  | some u => .ok u
/-- The regions that a call hands over: those behind p. -/
def Q31 (h : List Bool) (p : List Int) : List Int → Except Int Unit
  | [] => .ok ()
  | r :: l => if hasB h r = false then .error 10 else if r ∈ p then .error 13 else Q31 h (p ++ [r]) l
def renT (to : List Int) (t : Ty) : Ty := (t.ren to).getD (.mk 0 0 [])
def QaR (m : Module) (s : JS) (x : Ins) : Except Int JS := match m.funcs[x.k.toNat]? with
  | none => .error 1
  | some g => if (x.regs.length : Int) ≠ g.regs then .error 2 else QF (Q31 s.h [] x.regs) fun _ => QF (QcJ s x.args g.params x.regs) fun _ =>
    if 80 < s.l.length + g.results.length then .error 2 else .ok ⟨s.h, s.l ++ g.results.map (renT x.regs)⟩
/-- The types of the values of these numbers, behind some. -/
def jfields (s : JS) : List Int → Except Int (List Ty)
  | [] => .ok []
  | k :: l => QF (jval s k) fun t => QF (jfields s l) fun ts => .ok (t :: ts)
def number : Ty := .mk 1 0 []
def Qci (s : JS) (x : Ins) : Except Int JS := QF (jat s x.a 2) fun t => QF (jfields s x.args) fun ts =>
  if (Ty.mk 3 t.r ts).fault s.h.length ≠ 0 then .error 19 else jput s (.mk 3 t.r ts)
def jins (m : Module) (f : Fun) (s : JS) (x : Ins) : Except Int JS :=
  if x.op = 1 ∨ x.op = 12 then jput s number
  else if x.op = 2 then QF (Q2u s x.a 1) fun _ => QF (Q2u s x.b 1) fun _ => jput s number
  else if x.op = 3 then (if s.h.length = 16 ∨ s.l.length = 80 then .error 2 else .ok ⟨s.h ++ [true], s.l ++ [.mk 2 s.h.length []]⟩)
  else if x.op = 4 then QF (jat s x.a 2) fun t => if t.r < f.regs then .error 11 else .ok ⟨s.h.set t.r.toNat false, s.l⟩
  else if x.op = 5 then Qci s x
  else if x.op = 6 then QF (jat s x.a 3) fun t => QF (Q4f t x.k) fun u => jput s u
  else if x.op = 7 then QF (jat s x.a 3) fun t => QF (Q4f t x.k) fun u => QF (jval s x.b) fun v => if u ≠ v then .error 9 else .ok s
  else if x.op = 8 then QF (jat s x.a 2) fun t => QF (Q2u s x.b 1) fun _ => jput s (.mk 4 t.r [])
  else if x.op = 9 then QF (jat s x.a 4) fun _ => QF (Q2u s x.b 1) fun _ => jput s number
  else if x.op = 10 then QF (jat s x.a 4) fun _ => QF (Q2u s x.b 1) fun _ => QF (Q2u s x.c 1) fun _ => .ok s
  else if x.op = 11 then QF (jat s x.a 4) fun _ => jput s number
  else if x.op = 13 then QF (Q2u s x.a 1) fun _ => .ok s
  else QaR m s x
/-- One instruction: a code, and what is known behind it. -/
def jIns (m : Module) (f : Fun) (s : JS) (x : Ins) : Int × JS := if QP m.funcs.length x ≠ 0 then (QP m.funcs.length x, s) else match jins m f s x with
  | .error c => (c, s)
  | .ok s' => (0, s')
/-- Do the first n numbers of a list stand for themselves? -/
def Q60 (l : List Int) (n : Nat) : Bool := (List.range n).all fun i => decide (l[i]? = some (i : Int))
def jto (f : Fun) (s : JS) (t : To) : Except Int Unit := match f.blocks[t.block.toNat]? with
  | none => .error 1
  | some b => if (t.regs.length : Int) ≠ b.regs then .error 2 else if Q60 t.regs f.regs.toNat = false then .error 11 else
    if Q2q s.h [] t.regs ≠ 0 then .error (Q2q s.h [] t.regs) else QcJ s t.args b.params t.regs
def upTo (n : Nat) : List Int := (List.range n).map Int.ofNat
def jend (f : Fun) (s : JS) (e : Tail) : Except Int Unit :=
  if e.op = 1 then jto f s e.yes
  else if e.op = 2 then QF (Q2u s e.a 1) fun _ => QF (jto f s e.yes) fun _ => jto f s e.no
  else QF (QcJ s e.args f.results (upTo f.regs.toNat)) fun _ => if f.regs < (Q8a s.h).length then .error 12 else .ok ()
def jEnd (f : Fun) (s : JS) (e : Tail) : Int := if Q1I f.blocks.length e ≠ 0 then Q1I f.blocks.length e else match jend f s e with
  | .error c => c
  | .ok _ => 0
/-- At the beginning of a block. -/
def Q2U (y : Block) : JS := ⟨List.replicate (min y.regs 16).toNat true, y.params⟩

/-! ### What is true of it -/
theorem Qqj {s : JS} {k : Int} {t : Ty} (h : jval s k = .ok t) : 0 ≤ k ∧ s.l[k.toNat]? = some t := by
  unfold jval at h
  split at h
  · cases h
  · rename_i h0
    split at h
    · cases h
    · rename_i u hu; cases h; exact ⟨by omega, hu⟩
theorem jval_no {s : JS} {k : Int} (h : k < 0 ∨ (s.l.length : Int) ≤ k) : jval s k = .error 1 := by
  unfold jval
  by_cases h0 : k < 0
  · rw [if_pos h0]
  · rw [if_neg h0, List.getElem?_eq_none (by omega)]
theorem QoD {s : JS} {k : Int} {t : Ty} (h0 : 0 ≤ k) (h : s.l[k.toNat]? = some t) : jval s k = .ok t := by
  unfold jval
  rw [if_neg (by omega), h]
theorem jkind_ok {s : JS} {k kind : Int} {t : Ty} (h : Q2u s k kind = .ok t) : 0 ≤ k ∧ s.l[k.toNat]? = some t ∧ t.kind = kind := by
  obtain ⟨u, h1, h2⟩ := Qp h
  split at h2
  · cases h2
  · rename_i hk; cases h2; have := Qqj h1; exact ⟨this.1, this.2, Classical.not_not.1 hk⟩
theorem QoJ {s : JS} {k kind : Int} {t : Ty} (h : jat s k kind = .ok t) : 0 ≤ k ∧ s.l[k.toNat]? = some t ∧ t.kind = kind ∧ hasB s.h t.r = true := by
  obtain ⟨u, h1, h2⟩ := Qp h
  split at h2
  · cases h2
  · rename_i hk; cases h2; have := jkind_ok h1; exact ⟨this.1, this.2.1, this.2.2, by simpa using hk⟩
theorem Qql {s s' : JS} {t : Ty} (h : jput s t = .ok s') : s.l.length ≠ 80 ∧ s'.h = s.h ∧ s'.l = s.l ++ [t] := by
  unfold jput at h
  split at h
  · cases h
  · rename_i hk; cases h; exact ⟨hk, rfl, rfl⟩
/-- How an instruction that is let by changes what is known. -/
structure JStep (x : Ins) (s s' : JS) : Prop where
  len : s.l.length ≤ 80 → s'.l.length ≤ 80
  pre : ∃ more, s'.l = s.l ++ more ∧ (x.op ≠ 14 → more.length ≤ 1) ∧ (x.op = 3 → more.length = 1) ∧ (x.op = 4 → more = [])
  new : x.op = 3 → s'.h = s.h ++ [true] ∧ s.h.length ≠ 16
  free : x.op = 4 → ∃ t, 0 ≤ x.a ∧ s.l[x.a.toNat]? = some t ∧ t.kind = 2 ∧ hasB s.h t.r = true ∧ s'.h = s.h.set t.r.toNat false
  else_ : x.op ≠ 3 → x.op ≠ 4 → s'.h = s.h
theorem Q3v {x : Ins} {s s' : JS} {t : Ty} (h : jput s t = .ok s') (h3 : x.op ≠ 3) (h4 : x.op ≠ 4) : JStep x s s' := by
  obtain ⟨h1, h2, h5⟩ := Qql h
  refine ⟨fun hl => by rw [h5, List.length_append]; simp only [List.length_cons, List.length_nil]; omega, ⟨[t], h5, fun _ => by simp, fun h => absurd h h3, fun h => absurd h h4⟩, fun h => absurd h h3, fun h => absurd h h4, fun _ _ => h2⟩
theorem QaQ {x : Ins} {s : JS} (h3 : x.op ≠ 3) (h4 : x.op ≠ 4) : JStep x s s :=
  ⟨fun hl => hl, ⟨[], by simp, fun _ => by simp, fun h => absurd h h3, fun h => absurd h h4⟩, fun h => absurd h h3, fun h => absurd h h4, fun _ _ => rfl⟩
theorem Qqm {m : Module} {f : Fun} {s s' : JS} {x : Ins} (hop : 1 ≤ x.op ∧ x.op ≤ 14) (h : jins m f s x = .ok s') : JStep x s s' := by
  unfold jins at h
  by_cases h1 : x.op = 1 ∨ x.op = 12
  · rw [if_pos h1] at h; exact Q3v h (by omega) (by omega)
  rw [if_neg h1] at h
  by_cases h2 : x.op = 2
  · rw [if_pos h2] at h; obtain ⟨_, _, h⟩ := Qp h; obtain ⟨_, _, h⟩ := Qp h; exact Q3v h (by omega) (by omega)
  rw [if_neg h2] at h
  by_cases hc : x.op = 3
  · rw [if_pos hc] at h
    by_cases hn : s.h.length = 16 ∨ s.l.length = 80
    · rw [if_pos hn] at h; cases h
    · rw [if_neg hn] at h
      cases h
      exact ⟨fun hl => by simp only [List.length_append, List.length_cons, List.length_nil]; omega, ⟨[_], rfl, fun _ => by simp, fun _ => rfl, fun h => by omega⟩, fun _ => ⟨rfl, by omega⟩, fun h => by omega, fun h => absurd hc h⟩
  rw [if_neg hc] at h
  by_cases hc4 : x.op = 4
  · rw [if_pos hc4] at h
    obtain ⟨t, h1, h⟩ := Qp h
    by_cases hk : t.r < f.regs
    · rw [if_pos hk] at h; cases h
    · rw [if_neg hk] at h
      cases h
      obtain ⟨a1, a2, a3, a4⟩ := QoJ h1
      exact ⟨fun hl => hl, ⟨[], by simp, fun _ => by simp, fun h => by omega, fun _ => rfl⟩, fun h => by omega, fun _ => ⟨t, a1, a2, a3, a4, rfl⟩, fun _ h => absurd hc4 h⟩
  rw [if_neg hc4] at h
  by_cases h5 : x.op = 5
  · rw [if_pos h5] at h
    unfold Qci at h
    obtain ⟨t, _, h⟩ := Qp h; obtain ⟨ts, _, h⟩ := Qp h
    by_cases hk : (Ty.mk 3 t.r ts).fault s.h.length ≠ 0
    · rw [if_pos hk] at h; cases h
    · rw [if_neg hk] at h; exact Q3v h (by omega) (by omega)
  rw [if_neg h5] at h
  by_cases h6 : x.op = 6
  · rw [if_pos h6] at h; obtain ⟨_, _, h⟩ := Qp h; obtain ⟨_, _, h⟩ := Qp h; exact Q3v h (by omega) (by omega)
  rw [if_neg h6] at h
  by_cases h7 : x.op = 7
  · rw [if_pos h7] at h
    obtain ⟨_, _, h⟩ := Qp h; obtain ⟨u, _, h⟩ := Qp h; obtain ⟨v, _, h⟩ := Qp h
    by_cases hk : u ≠ v
    · rw [if_pos hk] at h; cases h
    · rw [if_neg hk] at h; cases h; exact QaQ (by omega) (by omega)
  rw [if_neg h7] at h
  by_cases h8 : x.op = 8
  · rw [if_pos h8] at h; obtain ⟨_, _, h⟩ := Qp h; obtain ⟨_, _, h⟩ := Qp h; exact Q3v h (by omega) (by omega)
  rw [if_neg h8] at h
  by_cases h9 : x.op = 9
  · rw [if_pos h9] at h; obtain ⟨_, _, h⟩ := Qp h; obtain ⟨_, _, h⟩ := Qp h; exact Q3v h (by omega) (by omega)
  rw [if_neg h9] at h
  by_cases h10 : x.op = 10
  · rw [if_pos h10] at h; obtain ⟨_, _, h⟩ := Qp h; obtain ⟨_, _, h⟩ := Qp h; obtain ⟨_, _, h⟩ := Qp h; cases h; exact QaQ (by omega) (by omega)
  rw [if_neg h10] at h
  by_cases h11 : x.op = 11
  · rw [if_pos h11] at h; obtain ⟨_, _, h⟩ := Qp h; exact Q3v h (by omega) (by omega)
  rw [if_neg h11] at h
  by_cases h13 : x.op = 13
  · rw [if_pos h13] at h; obtain ⟨_, _, h⟩ := Qp h; cases h; exact QaQ (by omega) (by omega)
  rw [if_neg h13] at h
  unfold QaR at h
  split at h
  · cases h
  · rename_i g hg
    by_cases hr : (x.regs.length : Int) ≠ g.regs
    · rw [if_pos hr] at h; cases h
    · rw [if_neg hr] at h
      obtain ⟨_, _, h⟩ := Qp h; obtain ⟨_, _, h⟩ := Qp h
      by_cases hn : 80 < s.l.length + g.results.length
      · rw [if_pos hn] at h; cases h
      · rw [if_neg hn] at h
        cases h
        exact ⟨fun hl => by rw [List.length_append, List.length_map]; omega, ⟨_, rfl, fun h => by omega, fun h => by omega, fun h => by omega⟩, fun h => by omega, fun h => by omega, fun _ _ => rfl⟩
theorem Qiw {n : Nat} {x : Ins} (h : QP n x = 0) : 1 ≤ x.op ∧ x.op ≤ 14 := by
  unfold QP at h
  split at h
  · cases h
  · omega
section
variable {s : JS} {regs l : List Int} {want : List Ty} {k : Nat} {x c : Int} {u u' t : Ty}
theorem jargs_e (hx : l[k]? = some x) (hu : want[k]? = some u) (h : jval s x = .error c) : Q2B s regs (l.drop k) (want.drop k) = .error c := by
  rw [Q7 hx, Q7 hu, Q2B, QM h]
theorem Qn0 (hx : l[k]? = some x) (hu : want[k]? = some u) (h : jval s x = .ok t) (hn : u.ren regs = none) : Q2B s regs (l.drop k) (want.drop k) = .error 9 := by
  rw [Q7 hx, Q7 hu, Q2B, Qe h, hn]
theorem Qn1 (hx : l[k]? = some x) (hu : want[k]? = some u) (h : jval s x = .ok t) (hn : u.ren regs = some u') (hd : t ≠ u') : Q2B s regs (l.drop k) (want.drop k) = .error 9 := by
  rw [Q7 hx, Q7 hu, Q2B, Qe h, hn]; exact if_pos hd
theorem jargs_s (hx : l[k]? = some x) (hu : want[k]? = some u) (h : jval s x = .ok t) (hn : u.ren regs = some u') (hd : t = u') : Q2B s regs (l.drop k) (want.drop k) = Q2B s regs (l.drop (k + 1)) (want.drop (k + 1)) := by
  rw [Q7 hx, Q7 hu, Q2B, Qe h, hn]; exact if_neg (fun h => h hd)
theorem jargs_z (h : l.length ≤ k) : Q2B s regs (l.drop k) (want.drop k) = .ok () := by
  rw [List.drop_of_length_le h, Q2B]
  intro k l u w h; cases h
end
section
variable {m : Module} {f : Fun} {s : JS} {x : Ins}
theorem QoH (h : x.op = 1 ∨ x.op = 12) : jins m f s x = (jput s number) := by
  unfold jins; rw [if_pos (by omega)]
theorem Qlk (h : x.op = 2) : jins m f s x = (QF (Q2u s x.a 1) fun _ => QF (Q2u s x.b 1) fun _ => jput s number) := by
  unfold jins; rw [if_neg (by omega), if_pos (by omega)]
theorem Qqp (h : x.op = 3) : jins m f s x = (if s.h.length = 16 ∨ s.l.length = 80 then .error 2 else .ok ⟨s.h ++ [true], s.l ++ [.mk 2 s.h.length []]⟩) := by
  unfold jins; rw [if_neg (by omega), if_neg (by omega), if_pos (by omega)]
theorem QoG (h : x.op = 4) : jins m f s x = (QF (jat s x.a 2) fun t => if t.r < f.regs then .error 11 else .ok ⟨s.h.set t.r.toNat false, s.l⟩) := by
  unfold jins; rw [if_neg (by omega), if_neg (by omega), if_neg (by omega), if_pos (by omega)]
theorem Qqo (h : x.op = 5) : jins m f s x = (Qci s x) := by
  unfold jins; rw [if_neg (by omega), if_neg (by omega), if_neg (by omega), if_neg (by omega), if_pos (by omega)]
theorem Qlj (h : x.op = 6) : jins m f s x = (QF (jat s x.a 3) fun t => QF (Q4f t x.k) fun u => jput s u) := by
  unfold jins; rw [if_neg (by omega), if_neg (by omega), if_neg (by omega), if_neg (by omega), if_neg (by omega), if_pos (by omega)]
theorem Q3b (h : x.op = 7) : jins m f s x = (QF (jat s x.a 3) fun t => QF (Q4f t x.k) fun u => QF (jval s x.b) fun v => if u ≠ v then .error 9 else .ok s) := by
  unfold jins; rw [if_neg (by omega), if_neg (by omega), if_neg (by omega), if_neg (by omega), if_neg (by omega), if_neg (by omega), if_pos (by omega)]
theorem Qli (h : x.op = 8) : jins m f s x = (QF (jat s x.a 2) fun t => QF (Q2u s x.b 1) fun _ => jput s (.mk 4 t.r [])) := by
  unfold jins; rw [if_neg (by omega), if_neg (by omega), if_neg (by omega), if_neg (by omega), if_neg (by omega), if_neg (by omega), if_neg (by omega), if_pos (by omega)]
theorem Qlh (h : x.op = 9) : jins m f s x = (QF (jat s x.a 4) fun _ => QF (Q2u s x.b 1) fun _ => jput s number) := by
  unfold jins; rw [if_neg (by omega), if_neg (by omega), if_neg (by omega), if_neg (by omega), if_neg (by omega), if_neg (by omega), if_neg (by omega), if_neg (by omega), if_pos (by omega)]
theorem QeP (h : x.op = 10) : jins m f s x = (QF (jat s x.a 4) fun _ => QF (Q2u s x.b 1) fun _ => QF (Q2u s x.c 1) fun _ => .ok s) := by
  unfold jins; rw [if_neg (by omega), if_neg (by omega), if_neg (by omega), if_neg (by omega), if_neg (by omega), if_neg (by omega), if_neg (by omega), if_neg (by omega), if_neg (by omega), if_pos (by omega)]
theorem Qje (h : x.op = 11) : jins m f s x = (QF (jat s x.a 4) fun _ => jput s number) := by
  unfold jins; rw [if_neg (by omega), if_neg (by omega), if_neg (by omega), if_neg (by omega), if_neg (by omega), if_neg (by omega), if_neg (by omega), if_neg (by omega), if_neg (by omega), if_neg (by omega), if_pos (by omega)]
theorem QmZ (h : x.op = 13) : jins m f s x = (QF (Q2u s x.a 1) fun _ => .ok s) := by
  unfold jins; rw [if_neg (by omega), if_neg (by omega), if_neg (by omega), if_neg (by omega), if_neg (by omega), if_neg (by omega), if_neg (by omega), if_neg (by omega), if_neg (by omega), if_neg (by omega), if_neg (by omega), if_pos (by omega)]
theorem QmY (h : x.op = 14) : jins m f s x = (QaR m s x) := by
  unfold jins; rw [if_neg (by omega), if_neg (by omega), if_neg (by omega), if_neg (by omega), if_neg (by omega), if_neg (by omega), if_neg (by omega), if_neg (by omega), if_neg (by omega), if_neg (by omega), if_neg (by omega), if_neg (by omega)]
theorem Q4J {t : Ty} (h : s.l.length ≠ 80) : jput s t = .ok ⟨s.h, s.l ++ [t]⟩ := if_neg h
theorem Q88 {t : Ty} (h : s.l.length = 80) : jput s t = .error 2 := if_pos h
theorem Qqs {q : Nat} {k c : Int} {ts : List Ty} (hx : x.args[q]? = some k) (hd : jfields s x.args = QF (jfields s (x.args.drop q)) fun l => .ok (ts ++ l)) (h : jval s k = .error c) : jfields s x.args = .error c := by
  rw [hd, Q7 hx, jfields, QM h]; rfl
theorem Qqr {q : Nat} {k : Int} {t : Ty} {ts : List Ty} (hx : x.args[q]? = some k) (hd : jfields s x.args = QF (jfields s (x.args.drop q)) fun l => .ok (ts ++ l)) (h : jval s k = .ok t) : jfields s x.args = QF (jfields s (x.args.drop (q + 1))) fun l => .ok ((ts ++ [t]) ++ l) := by
  rw [hd, Q7 hx, jfields, Qe h]
  cases jfields s (x.args.drop (q + 1)) with
  | error c => rfl
  | ok l => simp [QF]
theorem Qqq {q : Nat} {ts : List Ty} (hd : jfields s x.args = QF (jfields s (x.args.drop q)) fun l => .ok (ts ++ l)) (h : x.args.length ≤ q) : jfields s x.args = .ok ts := by
  rw [hd, List.drop_of_length_le h, jfields]; simp [QF]
end
theorem kept_s (l : List Int) (n : Nat) : Q60 l (n + 1) = (Q60 l n && decide (l[n]? = some (n : Int))) := by
  unfold Q60; rw [List.range_succ, List.all_append]; simp
theorem kept_no {l : List Int} {n q : Nat} (hq : q < n) (h : l[q]? ≠ some (q : Int)) : Q60 l n = false := by
  unfold Q60
  rw [List.all_eq_false]
  exact ⟨q, List.mem_range.2 hq, by simpa using h⟩
theorem upTo_s (n : Nat) : upTo (n + 1) = upTo n ++ [(n : Int)] := by unfold upTo; rw [List.range_succ, List.map_append]; rfl
section
variable {f : Fun} {s : JS} {t : To} {b : Block} {e : Tail}
theorem jto_2 (hb : f.blocks[t.block.toNat]? = some b) (h : (t.regs.length : Int) ≠ b.regs) : jto f s t = .error 2 := by unfold jto; rw [hb]; exact if_pos h
theorem jto_11 (hb : f.blocks[t.block.toNat]? = some b) (h : ¬ (t.regs.length : Int) ≠ b.regs) (h2 : Q60 t.regs f.regs.toNat = false) : jto f s t = .error 11 := by unfold jto; rw [hb]; simp only; rw [if_neg h, if_pos h2]
theorem jto_p (hb : f.blocks[t.block.toNat]? = some b) (h : ¬ (t.regs.length : Int) ≠ b.regs) (h2 : Q60 t.regs f.regs.toNat = true) (h3 : Q2q s.h [] t.regs ≠ 0) : jto f s t = .error (Q2q s.h [] t.regs) := by unfold jto; rw [hb]; simp only; rw [if_neg h, if_neg (by rw [h2]; decide), if_pos h3]
theorem jto_a (hb : f.blocks[t.block.toNat]? = some b) (h : ¬ (t.regs.length : Int) ≠ b.regs) (h2 : Q60 t.regs f.regs.toNat = true) (h3 : Q2q s.h [] t.regs = 0) : jto f s t = QcJ s t.args b.params t.regs := by unfold jto; rw [hb]; simp only; rw [if_neg h, if_neg (by rw [h2]; decide), if_neg (fun h => h h3)]
theorem jend_1 (h : e.op = 1) : jend f s e = jto f s e.yes := by unfold jend; rw [if_pos h]
theorem QoI (h : e.op = 2) : jend f s e = QF (Q2u s e.a 1) fun _ => QF (jto f s e.yes) fun _ => jto f s e.no := by unfold jend; rw [if_neg (by omega), if_pos h]
theorem Qqv (h : e.op = 3) : jend f s e = QF (QcJ s e.args f.results (upTo f.regs.toNat)) fun _ => if f.regs < (Q8a s.h).length then .error 12 else .ok () := by unfold jend; rw [if_neg (by omega), if_neg (by omega)]
theorem Qog {n : Nat} (h : Q1S n t true = 0) : 0 ≤ t.block ∧ t.block < n := by
  unfold Q1S at h
  simp at h; omega
theorem Qpk {n : Nat} (h : Q1I n e = 0) : 1 ≤ e.op ∧ e.op ≤ 3 ∧ Q1S n e.yes (decide (e.op ≠ 3)) = 0 ∧ Q1S n e.no (decide (e.op = 2)) = 0 := by
  unfold Q1I at h
  split at h
  · cases h
  · split at h
    · cases h
    · split at h
      · cases h
      · unfold orC at h
        split at h
        · rename_i h1; exact absurd h h1
        · rename_i h1; exact ⟨by omega, by omega, Classical.not_not.1 h1, h⟩
end
/-! ### A code that is told is not 0 -/
def NZ {α : Type} (x : Except Int α) : Prop := ∀ c, x = .error c → c ≠ 0
theorem NZ.e {α : Type} {c : Int} (h : c ≠ 0) : NZ (.error c : Except Int α) := fun _ h' => by cases h'; exact h
theorem NZ.o {α : Type} (a : α) : NZ (.ok a : Except Int α) := fun _ h' => by cases h'
theorem NZ.bind {α β : Type} {x : Except Int α} {f : α → Except Int β} (h1 : NZ x) (h2 : ∀ a, x = .ok a → NZ (f a)) : NZ (QF x f) := by
  cases x with
  | error e => exact fun c h => by cases h; exact h1 _ rfl
  | ok a => exact h2 a rfl
theorem NZ.ite {α : Type} {p : Prop} [Decidable p] {a b : Except Int α} (h1 : NZ a) (h2 : NZ b) : NZ (if p then a else b) := by
  split
  · exact h1
  · exact h2
theorem Qj8 (s : JS) (k : Int) : NZ (jval s k) := by
  unfold jval
  split
  · exact .e (by decide)
  · split
    · exact .e (by decide)
    · exact .o _
theorem QoF (s : JS) (k kind : Int) : NZ (Q2u s k kind) := by
  refine .bind (Qj8 s k) fun t _ => ?_
  split
  · exact .e (by decide)
  · exact .o _
theorem jat_nz (s : JS) (k kind : Int) : NZ (jat s k kind) := by
  refine .bind (QoF s k kind) fun t _ => ?_
  split
  · exact .e (by decide)
  · exact .o _
theorem jput_nz (s : JS) (t : Ty) : NZ (jput s t) := by
  unfold jput
  split
  · exact .e (by decide)
  · exact .o _
theorem Qll (s : JS) (regs : List Int) : ∀ (l : List Int) (want : List Ty), NZ (Q2B s regs l want)
  | [], [] => by unfold Q2B; exact .o _
  | [], _ :: _ => by unfold Q2B; exact .o _
  | _ :: _, [] => by unfold Q2B; exact .o _
  | k :: l, u :: want => by
    unfold Q2B
    refine .bind (Qj8 s k) fun t _ => ?_
    split
    · exact .e (by decide)
    · split
      · exact .e (by decide)
      · exact Qll s regs l want
theorem jargs_nz (s : JS) (l : List Int) (want : List Ty) (regs : List Int) : NZ (QcJ s l want regs) := by
  unfold QcJ
  split
  · exact .e (by decide)
  · exact Qll s regs l want
theorem Qqu (t : Ty) (k : Int) : NZ (Q4f t k) := by
  unfold Q4f
  split
  · exact .e (by decide)
  · exact .o _
theorem QoE (h : List Bool) : ∀ (l p : List Int), NZ (Q31 h p l)
  | [], _ => by unfold Q31; exact .o _
  | r :: l, p => by
    unfold Q31
    split
    · exact .e (by decide)
    · split
      · exact .e (by decide)
      · exact QoE h l _
theorem Qiv (s : JS) : ∀ (l : List Int), NZ (jfields s l)
  | [] => by unfold jfields; exact .o _
  | k :: l => by
    unfold jfields
    exact .bind (Qj8 s k) fun _ _ => .bind (Qiv s l) fun _ _ => .o _
theorem jcall_nz (m : Module) (s : JS) (x : Ins) : NZ (QaR m s x) := by
  unfold QaR
  split
  · exact .e (by decide)
  · split
    · exact .e (by decide)
    · refine .bind (QoE _ _ _) fun _ _ => .bind (jargs_nz _ _ _ _) fun _ _ => ?_
      split
      · exact .e (by decide)
      · exact .o _
theorem jins_nz (m : Module) (f : Fun) (s : JS) (x : Ins) : NZ (jins m f s x) := by
  unfold jins Qci
  repeat' (first | exact jput_nz _ _ | exact jcall_nz _ _ _ | exact .o _ | exact .e (by decide) | refine .bind (QoF _ _ _) fun _ _ => ?_ | refine .bind (jat_nz _ _ _) fun _ _ => ?_ | refine .bind (Qqu _ _) fun _ _ => ?_ | refine .bind (Qj8 _ _) fun _ _ => ?_ | refine .bind (Qiv _ _) fun _ _ => ?_ | refine .ite ?_ ?_)
theorem jIns_ok {m : Module} {f : Fun} {s : JS} {x : Ins} (h : (jIns m f s x).1 = 0) : QP m.funcs.length x = 0 ∧ jins m f s x = .ok (jIns m f s x).2 := by
  unfold jIns at h ⊢
  split at h
  · rename_i hf; exact absurd h hf
  · rename_i hf
    rw [if_neg hf]
    refine ⟨Classical.not_not.1 hf, ?_⟩
    cases hj : jins m f s x with
    | error c => rw [hj] at h; exact absurd h (jins_nz m f s x c hj)
    | ok s' => rfl
theorem jIns_no {m : Module} {f : Fun} {s : JS} {x : Ins} (h : (jIns m f s x).1 ≠ 0) : (jIns m f s x).2 = s := by
  unfold jIns at h ⊢
  split
  · rfl
  · rename_i hf
    rw [if_neg hf] at h
    cases hj : jins m f s x with
    | error c => rfl
    | ok s' => rw [hj] at h; exact absurd rfl h
end Go.Lir
namespace Go.Proofs.Ytanlkfeogoganaa
open Go.Lir
set_option maxHeartbeats 1000000
attribute [local irreducible] LC.wp Q3 QZ Q1g retQ Q2p LO.wp QH Calls
set_option linter.unusedSimpArgs false
set_option linter.unusedVariables false
theorem Q47 {l : List Int} (hb : l.length ≤ 1000000) {cx : Cx} {w : World} {L : List Res} {v : Value} (hl : intR.sl cx v l) (hS : St cx w L) : Rets Try.prog Qm1 [v] w fun u w' => ∃ c', cx.Le c' ∧ intR.sl c' u l ∧ St c' w' L := by
  have hS := hS.nil (T := 3) (es := 1)
  have hn : intR.ls cx [] [] := Rep.LR.nil _ _ _
  all_goals refine Qm0 ?_
  all_goals (unfold R_ownInts_lc; refine Q0 ?_; refine Q1 ?_; refine zm ?_; refine zn ?_; refine Q0 ?_; refine Q1 ?_; refine zm ?_; refine zn ?_; refine Q0 ?_; refine Q1 ?_; refine zm ?_; refine zm ?_; (first | (refine za Qcl QmG hS ?_; intro vp1 w1 css1 hls1 hv1 hS; have hS := hS.ns) | (refine zak Qcl QmG hS ?_; intro vp1 w1 css1 hls1 hv1 hS; have hS := hS.ns)); refine zm ?_; refine zn ?_; refine zr ?_; refine zf ?_; obtain ⟨c3, hle3, hS, hl3⟩ := St.freezeL (r := intR) (l := l) (T := 3) (es := 1) (L := L) hS.sp hls1 rfl (by omega); exact ⟨_, rfl, c3, hle3, hl3, hS⟩)
theorem Q8y {l : List Int} (hb : l.length ≤ 1000000) {cx : Cx} {w : World} {L : List Res} {v : Value} (hl : intR.sl cx v l) (hS : St cx w L) : Rets Try.prog Q2m [v] w fun u w' => ∃ c', cx.Le c' ∧ intR.sl c' u l ∧ St c' w' L := by
  obtain ⟨a, c, hv⟩ := Rep.SR.shape hl
  cases a with
  | none =>
    have hl0 := Rep.SR.nil_of hl hv
    subst hl0
    subst hv
    all_goals refine Q2H ?_
    all_goals (unfold slices_Clone_int_int_lc; refine Q0 ?_; refine Q1 ?_; refine zm ?_; refine zn ?_; refine Q0 ?_; refine Q0 ?_; refine Q1 ?_; refine zm ?_; refine Qj2 (e := 3) (by kernel_rfl) rfl rfl ?_; refine zn ?_)
    all_goals
      first
      | (refine Q5 rfl ?_ -- Q2m c0
         all_goals (refine Q0 ?_; refine Q1 ?_; refine zm ?_; refine zn ?_; refine zr ?_; refine zf ?_)
         all_goals (exact ⟨_, rfl, cx, St.refl hS, Rep.SR.nil _ _ _, hS⟩))
    all_goals (refine Q0 ?_; refine Q1 ?_; fail "no law for buildSlice"; refine zm ?_; refine za Qcl QmG hS ?_; intro vp1 w1 css1 hls1 hv1 hS; have hS := hS.ns; refine zm ?_; refine zn ?_; refine zr ?_; refine zf ?_; exact ⟨_, rfl, cx, St.refl hS, Rep.SR.nil _ _ _, hS⟩)
  | some a =>
    have hn : intR.ls cx [] [] := Rep.LR.nil _ _ _
    all_goals refine Q2H ?_
    all_goals (unfold slices_Clone_int_int_lc; refine Q0 ?_; refine Q1 ?_; refine zm ?_; refine zn ?_; refine Q0 ?_; refine Q0 ?_; refine Q1 ?_; refine zm ?_; refine Qj2 (e := 3) (by kernel_rfl) hv rfl ?_; refine zn ?_)
    all_goals refine Q6 rfl ?_
    all_goals (refine zsk ?_; refine Q0 ?_; refine Q1 ?_; refine QpM Qcl ?_; intro v1 w1 hf1 hs1 hz1; have hS := hS.new (r := sl 3 1 v1 []) hs1 hf1 (fun b hb => Nat.le_of_eq hb.symm); refine zm ?_; (first | (refine za Qcl QmG hS ?_; intro vp1 w1 css1 hls1 hv1 hS; have hS := hS.ns) | (refine zak Qcl QmG hS ?_; intro vp1 w1 css1 hls1 hv1 hS; have hS := hS.ns)); refine zm ?_; refine zn ?_; refine zr ?_; refine zf ?_; obtain ⟨c3, hle3, hS, hl3⟩ := St.freezeL (r := intR) (l := l) (T := 3) (es := 1) (L := L) hS.sp hls1 rfl (by omega); exact ⟨_, rfl, c3, hle3, hl3, hS⟩)
theorem Qoq {x : To} (hb1 : x.regs.length ≤ 1000000) (hb2 : x.args.length ≤ 1000000) {cx : Cx} {w : World} {L : List Res} {cs : List Value} (hx : toR.at cx cs x) (hS : St cx w L) : Rets Try.prog QqU [.agg ⟨cs⟩] w fun u w' => ∃ c' ds, u = .agg ⟨ds⟩ ∧ cx.Le c' ∧ toR.at c' ds x ∧ St c' w' L := by
  obtain ⟨v1, v2, rfl, h1, h2⟩ := Q4p hx
  all_goals refine Qpq ?_
  all_goals (unfold R_ownTo_lc; refine Q0 ?_; refine Q1 ?_; refine zb hS ?_; intro p1 w1 hS; refine Q8 hS ?_; intro p2 w1 hS; refine zn ?_; refine Q0 ?_; refine zC [(0, none), (1, none), (2, none), (3, none), (5, none), (6, none), (4, some (some [1, 6])), (7, some (some [1])), (8, none), (9, some none)] ?_; have hS := hS.drew; refine s_cq ?_; refine Q2 rfl ?_; refine zt ?_; refine s_cq ?_; refine zl hS ?_; refine zt ?_; refine s_cq ?_; refine Q2 rfl ?_; refine zt ?_; refine s_cq ?_; refine zl hS ?_; refine zt ?_; refine s_cq ?_; refine Q2 rfl ?_; refine zt ?_; refine s_cq ?_; refine zl hS ?_; refine zt ?_; refine Q10 ?_; refine zR1 (c := Q47 hb1 h1 hS) (h := ?_); rintro v1 w1 ⟨c1, hle, hl1, hS⟩; obtain ⟨a1, n1, rfl⟩ := Rep.SR.shape hl1; have h2 := Rep.SR.up h2 hle; refine zt ?_; refine zy ?_; refine Q10 ?_; refine zR1 (c := Q47 hb2 h2 hS) (h := ?_); rintro v1 w1 ⟨c2, hle2, hl2, hS⟩; obtain ⟨a2, n2, rfl⟩ := Rep.SR.shape hl2; have hl1 := Rep.SR.up hl1 hle2; refine zt ?_; refine zy ?_; refine s_cq ?_; refine zb3 [_, _, _] ?_; refine zt ?_; refine s_cf ?_; refine zsn hS ?_; intro w1 hS; have hS := hS.ns; refine zt ?_)
  all_goals (refine zcn ?_; refine zr ?_; refine Q18 vw (Qc (n := 3) (by kernel_rfl) (by kernel_rfl) (hS.blkAt fd) (by rfl) (by rfl)) ?_; exact ⟨_, rfl, c2, _, rfl, hle.trans hle2, ⟨_, _, rfl, hl1, hl2⟩, hS.sp⟩)
theorem Qou {x : To} (hb1 : x.regs.length ≤ 1000000) (hb2 : x.args.length ≤ 1000000) {cx : Cx} {w : World} {L : List Res} {cs : List Value} (hx : toR.at cx cs x) (hS : St cx w L) : Rets Try.prog QiC [.agg ⟨cs⟩] w fun u w' => ∃ c' ds, u = .agg ⟨ds⟩ ∧ cx.Le c' ∧ toR.at c' ds x ∧ St c' w' L := by
  obtain ⟨v1, v2, rfl, h1, h2⟩ := Q4p hx
  all_goals refine Qjs ?_
  all_goals (unfold code_ownTo_lc; refine Q0 ?_; refine Q1 ?_; refine zb hS ?_; intro p1 w1 hS; refine Q8 hS ?_; intro p2 w1 hS; refine zn ?_; refine Q0 ?_; refine zC [(0, none), (1, none), (2, none), (3, none), (5, none), (6, none), (4, some (some [1, 6])), (7, some (some [1])), (8, none), (9, some none)] ?_; have hS := hS.drew; refine s_cq ?_; refine Q2 rfl ?_; refine zt ?_; refine s_cq ?_; refine zl hS ?_; refine zt ?_; refine s_cq ?_; refine Q2 rfl ?_; refine zt ?_; refine s_cq ?_; refine zl hS ?_; refine zt ?_; refine s_cq ?_; refine Q2 rfl ?_; refine zt ?_; refine s_cq ?_; refine zl hS ?_; refine zt ?_; refine Q10 ?_; refine zR1 (c := Q8y hb1 h1 hS) (h := ?_); rintro v1 w1 ⟨c1, hle, hl1, hS⟩; obtain ⟨a1, n1, rfl⟩ := Rep.SR.shape hl1; have h2 := Rep.SR.up h2 hle; refine zt ?_; refine zy ?_; refine Q10 ?_; refine zR1 (c := Q8y hb2 h2 hS) (h := ?_); rintro v1 w1 ⟨c2, hle2, hl2, hS⟩; obtain ⟨a2, n2, rfl⟩ := Rep.SR.shape hl2; have hl1 := Rep.SR.up hl1 hle2; refine zt ?_; refine zy ?_; refine s_cq ?_; refine zb3 [_, _, _] ?_; refine zt ?_; refine s_cf ?_; refine zsn hS ?_; intro w1 hS; have hS := hS.ns; refine zt ?_; refine zcn ?_)
  all_goals (refine zr ?_; refine Q18 vw (Qc (n := 3) (by kernel_rfl) (by kernel_rfl) (hS.blkAt fd) (by rfl) (by rfl)) ?_; exact ⟨_, rfl, c2, _, rfl, hle.trans hle2, ⟨_, _, rfl, hl1, hl2⟩, hS.sp⟩)
end Go.Proofs.Ytanlkfeogoganaa
namespace Go.Proofs.Ytanlkfeogoganaa
open Go.Lir
set_option maxHeartbeats 1000000
attribute [local irreducible] LC.wp Q3 QZ Q1g retQ Q2p LO.wp QH Calls
set_option linter.unusedSimpArgs false
set_option linter.unusedVariables false
theorem Qpi {x : Module} {cx : Cx} {w : World} {L : List Res} {cs : List Value} (hx : modR.at cx cs x) (hS : St cx w L) : Rets Try.prog Q1a [.agg ⟨cs⟩] w fun u w' => ∃ b, u = .bool b ∧ (b = false → x.Short) ∧ St cx w' L := by
  obtain ⟨vf, rfl, hl⟩ := Q29 hx
  obtain ⟨l⟩ := x
  have hl : funcR.sl cx vf l := hl
  have hlen := hl.len
  all_goals refine Qdx ?_
  all_goals (unfold R_GreatModule_lc; refine Q0 ?_; refine Q1 ?_; refine zb hS ?_; intro p1 w1 hS; refine zm ?_; refine zn ?_; refine Q0 ?_; refine Q0 ?_; refine Q1 ?_; refine Q2 rfl ?_; refine zl hS ?_; refine zL ?_)
  all_goals (first | (refine Q11 ?_) | (refine Q14 ?_) | (refine Qn rfl rfl (fun hc => ?_) (fun hc => ?_)))
  all_goals (refine zn ?_)
  all_goals
    first
    | (refine Q5 rfl ?_ -- Q1a c0
       all_goals (refine Q0 ?_; refine Q1 ?_; refine zm ?_; refine zn ?_; refine zr ?_; refine zf ?_)
       all_goals (exact ⟨_, rfl, true, rfl, fun h => Bool.noConfusion h, hS.sp⟩))
    | (refine Q6 rfl ?_ -- Q1a c0
       all_goals refine zsk ?_)
  all_goals (refine Q0 ?_; refine Q0 ?_; refine Q1 ?_; refine zm ?_; refine zn ?_; refine Qb ?_)
  refine zoL hS [1] (fun A LL ρ' w' => ∃ (j : Nat), Has ρ' A ∧ Has ρ' [(3, .int .i64 j)] ∧ (j ≤ l.length) ∧ (l.length ≤ 20) ∧ (∀ f ∈ l.take j, f.Short) ∧ St cx w' (LL)) (fun ρ' _ => (l.length - iv (ρ' 3)).toNat) ?_ ?_
  · exact ⟨0, zh, zh, (by omega), (by omega), by simp, hS.sp⟩
  rintro ρ w1 ⟨j, hA, hρ, hj, hl20, hd, hS⟩; obtain ⟨ρ, rfl⟩ := env2 hA hρ
  unfold Q52
  all_goals (refine Q0 ?_; refine Q0 ?_; refine Q1 ?_; refine zm ?_; refine Q2 rfl ?_; refine zl hS ?_; refine zL ?_; refine QC rfl rfl ?_; refine zn ?_)
  refine Qy rfl (fun hc => ?_) (fun hc => ?_)
  · skip
    all_goals (refine zsk ?_; refine Q0 ?_; refine Qb ?_; refine Q0 ?_; refine Q1 ?_; refine Q2 rfl ?_; refine zl hS ?_; refine zm ?_; refine zi ?_; intro b1 o1 cs1 x1 hat1 hx1 he1; obtain ⟨vp1, vr1, vb1, rfl, hp1, hr1, hb1⟩ := Q17 he1; (first | (refine zv hS ?_) | (refine zvk hS ?_)); refine Q8 hS ?_; intro p4 w1 hS; refine zsn hS ?_; intro w1 hS; have hS := hS.ns; refine zn ?_; refine Q0 ?_; refine Q0 ?_; refine Q1 ?_; refine Q2 rfl ?_; refine zl hS ?_; refine zL ?_)
    all_goals (first | (refine Q11 ?_) | (refine Q14 ?_) | (refine Qn rfl rfl (fun hc => ?_) (fun hc => ?_)))
    all_goals (refine zm ?_; (first | refine s_gn rfl rfl ?_ | (refine s_gy rfl ?_; refine Q2 rfl ?_)); (first | refine s_gn rfl rfl ?_ | (refine s_gy rfl ?_; refine zl hS ?_)))
    all_goals ((first | (refine s_gn rfl rfl ?_) | (refine s_gy rfl ?_; refine zR1 (c := Qjj hp1 hS) (h := ?_); rintro v1 w1 ⟨rfl, hS⟩; cases hg1 : Tys.great x1.params)))
    all_goals ((first | (refine zpt ?_) | (refine zpf ?_)); refine zm ?_; (first | refine s_gn rfl rfl ?_ | (refine s_gy rfl ?_; refine Q2 rfl ?_)); (first | refine s_gn rfl rfl ?_ | (refine s_gy rfl ?_; refine zl hS ?_)))
    all_goals ((first | (refine s_gn rfl rfl ?_) | (refine s_gy rfl ?_; refine zR1 (c := Qjj hr1 hS) (h := ?_); rintro v1 w1 ⟨rfl, hS⟩; cases hg2 : Tys.great x1.results)))
    all_goals ((first | (refine zpt ?_) | (refine zpf ?_)); refine zn ?_)
    all_goals
      first
      | (refine Q5 rfl ?_ -- Q1a c2
         all_goals (refine Q0 ?_; refine Q1 ?_; refine zm ?_; refine zn ?_; refine zr ?_; refine zf ?_)
         all_goals (exact ⟨_, rfl, true, rfl, fun h => Bool.noConfusion h, hS.sp⟩))
      | (refine Q6 rfl ?_ -- Q1a c2
         all_goals refine zsk ?_)
    all_goals (refine Q0 ?_; have hlb := hb1.len; refine Q1 ?_; refine zm ?_; refine zn ?_; refine Qb ?_)
    refine zoL hS [1, 3, 4] (fun A LL ρ' w' => ∃ (i : Nat), Has ρ' A ∧ Has ρ' [(5, .int .i64 i)] ∧ (i ≤ x1.blocks.length) ∧ (x1.blocks.length ≤ 30) ∧ (Tys.great x1.params = false) ∧ (Tys.great x1.results = false) ∧ (∀ f ∈ x1.blocks.take i, f.Short) ∧ St cx w' (LL)) (fun ρ' _ => (x1.blocks.length - iv (ρ' 5)).toNat) ?_ ?_
    · exact ⟨0, zh, zh, (by omega), (by omega), by assumption, by assumption, by simp, hS.sp⟩
    rintro ρ w1 ⟨i, hA, hρ, hi, hl30, hg1, hg2, hd1, hS⟩; obtain ⟨ρ, rfl⟩ := env2 hA hρ
    unfold Q51
    all_goals (refine Q0 ?_; refine Q0 ?_; refine Q1 ?_; refine zm ?_; refine Q2 rfl ?_; refine zl hS ?_; refine zL ?_; refine QC rfl rfl ?_; refine zn ?_)
    refine Qy rfl (fun hc => ?_) (fun hc => ?_)
    · skip
      all_goals (refine zsk ?_; refine Q0 ?_; refine Qb ?_; refine Q0 ?_; refine Q1 ?_; refine Q2 rfl ?_; refine zl hS ?_; refine zm ?_; refine zi ?_; intro b2 o2 cs2 x2 hat2 hx2 he2; obtain ⟨vp2, vc2, ve21, ve22, ve23, ve24, ve25, rfl, hp2, hc2, he21, he22, he23, he24, he25⟩ := Q2C he2; (first | (refine zv hS ?_) | (refine zvk hS ?_)); refine Q8 hS ?_; intro p6 w1 hS; refine zsn hS ?_; intro w1 hS; have hS := hS.ns; refine zn ?_; refine Q0 ?_; refine Q0 ?_; refine Q1 ?_; refine Q2 rfl ?_; refine zl hS ?_; refine zL ?_)
      all_goals (first | (refine Q11 ?_) | (refine Q14 ?_) | (refine Qn rfl rfl (fun hc => ?_) (fun hc => ?_)))
      all_goals (refine zm ?_; (first | refine s_gn rfl rfl ?_ | (refine s_gy rfl ?_; refine Q2 rfl ?_)); (first | refine s_gn rfl rfl ?_ | (refine s_gy rfl ?_; refine zl hS ?_)))
      all_goals ((first | (refine s_gn rfl rfl ?_) | (refine s_gy rfl ?_; refine zR1 (c := Qjj hp2 hS) (h := ?_); rintro v1 w1 ⟨rfl, hS⟩; cases hg3 : Tys.great x2.params)))
      all_goals ((first | (refine zpt ?_) | (refine zpf ?_)); refine zm ?_; (first | refine s_gn rfl rfl ?_ | (refine s_gy rfl ?_; refine Q2 rfl ?_)); (first | refine s_gn rfl rfl ?_ | (refine s_gy rfl ?_; (first | refine Q2 rfl ?_ | refine Q1A rfl ?_))); (first | refine s_gn rfl rfl ?_ | (refine s_gy rfl ?_; refine zl hS ?_)); (first | refine s_gn rfl rfl ?_ | (refine s_gy rfl ?_; refine zL ?_)))
      all_goals (first | refine s_gn rfl rfl ?_ | (refine s_gy rfl ?_; (first | (refine Q11 ?_) | (refine Q14 ?_) | (refine Qn rfl rfl (fun hc => ?_) (fun hc => ?_)))))
      all_goals ((first | (refine zpt ?_) | (refine zpf ?_)); refine zm ?_; (first | refine s_gn rfl rfl ?_ | (refine s_gy rfl ?_; refine Q2 rfl ?_)); (first | refine s_gn rfl rfl ?_ | (refine s_gy rfl ?_; (first | refine Q2 rfl ?_ | refine Q1A rfl ?_))); (first | refine s_gn rfl rfl ?_ | (refine s_gy rfl ?_; (first | refine Q2 rfl ?_ | refine Q1A rfl ?_))); (first | refine s_gn rfl rfl ?_ | (refine s_gy rfl ?_; refine zl hS ?_)); (first | refine s_gn rfl rfl ?_ | (refine s_gy rfl ?_; refine zL ?_)))
      all_goals (first | refine s_gn rfl rfl ?_ | (refine s_gy rfl ?_; (first | (refine Q11 ?_) | (refine Q14 ?_) | (refine Qn rfl rfl (fun hc => ?_) (fun hc => ?_)))))
      all_goals ((first | (refine zpt ?_) | (refine zpf ?_)); refine zm ?_; (first | refine s_gn rfl rfl ?_ | (refine s_gy rfl ?_; refine Q2 rfl ?_)); (first | refine s_gn rfl rfl ?_ | (refine s_gy rfl ?_; (first | refine Q2 rfl ?_ | refine Q1A rfl ?_))); (first | refine s_gn rfl rfl ?_ | (refine s_gy rfl ?_; (first | refine Q2 rfl ?_ | refine Q1A rfl ?_))); (first | refine s_gn rfl rfl ?_ | (refine s_gy rfl ?_; refine zl hS ?_)); (first | refine s_gn rfl rfl ?_ | (refine s_gy rfl ?_; refine zL ?_)))
      all_goals (first | refine s_gn rfl rfl ?_ | (refine s_gy rfl ?_; (first | (refine Q11 ?_) | (refine Q14 ?_) | (refine Qn rfl rfl (fun hc => ?_) (fun hc => ?_)))))
      all_goals ((first | (refine zpt ?_) | (refine zpf ?_)); refine zm ?_; (first | refine s_gn rfl rfl ?_ | (refine s_gy rfl ?_; refine Q2 rfl ?_)); (first | refine s_gn rfl rfl ?_ | (refine s_gy rfl ?_; (first | refine Q2 rfl ?_ | refine Q1A rfl ?_))); (first | refine s_gn rfl rfl ?_ | (refine s_gy rfl ?_; (first | refine Q2 rfl ?_ | refine Q1A rfl ?_))); (first | refine s_gn rfl rfl ?_ | (refine s_gy rfl ?_; refine zl hS ?_)); (first | refine s_gn rfl rfl ?_ | (refine s_gy rfl ?_; refine zL ?_)))
      all_goals (first | refine s_gn rfl rfl ?_ | (refine s_gy rfl ?_; (first | (refine Q11 ?_) | (refine Q14 ?_) | (refine Qn rfl rfl (fun hc => ?_) (fun hc => ?_)))))
      all_goals ((first | (refine zpt ?_) | (refine zpf ?_)); refine zm ?_; (first | refine s_gn rfl rfl ?_ | (refine s_gy rfl ?_; refine Q2 rfl ?_)); (first | refine s_gn rfl rfl ?_ | (refine s_gy rfl ?_; (first | refine Q2 rfl ?_ | refine Q1A rfl ?_))); (first | refine s_gn rfl rfl ?_ | (refine s_gy rfl ?_; (first | refine Q2 rfl ?_ | refine Q1A rfl ?_))); (first | refine s_gn rfl rfl ?_ | (refine s_gy rfl ?_; refine zl hS ?_)); (first | refine s_gn rfl rfl ?_ | (refine s_gy rfl ?_; refine zL ?_)))
      all_goals (first | refine s_gn rfl rfl ?_ | (refine s_gy rfl ?_; (first | (refine Q11 ?_) | (refine Q14 ?_) | (refine Qn rfl rfl (fun hc => ?_) (fun hc => ?_)))))
      all_goals ((first | (refine zpt ?_) | (refine zpf ?_)); refine zn ?_)
      all_goals
        first
        | (refine Q5 rfl ?_ -- Q1a c4
           all_goals (refine Q0 ?_; refine Q1 ?_; refine zm ?_; refine zn ?_; refine zr ?_; refine zf ?_)
           all_goals (exact ⟨_, rfl, true, rfl, fun h => Bool.noConfusion h, hS.sp⟩))
        | (refine Q6 rfl ?_ -- Q1a c4
           all_goals refine zsk ?_)
      all_goals (refine Q0 ?_; have hlc := hc2.len; refine Q1 ?_; refine zm ?_; refine zn ?_; refine Qb ?_)
      refine zoL hS [1, 3, 4, 5, 6] (fun A LL ρ' w' => ∃ (k : Nat), Has ρ' A ∧ Has ρ' [(7, .int .i64 k)] ∧ (k ≤ x2.code.length) ∧ (x2.code.length ≤ 200) ∧ (Tys.great x2.params = false) ∧ (x2.fin.Short) ∧ (∀ f ∈ x2.code.take k, f.Short) ∧ St cx w' (LL)) (fun ρ' _ => (x2.code.length - iv (ρ' 7)).toNat) ?_ ?_
      · exact ⟨0, zh, zh, (by omega), (by omega), by assumption, ⟨⟨by omega, by omega⟩, ⟨by omega, by omega⟩, by omega⟩, by simp, hS.sp⟩
      rintro ρ w1 ⟨k, hA, hρ, hk, hl200, hg3, hfin, hd2, hS⟩; obtain ⟨ρ, rfl⟩ := env2 hA hρ
      unfold Q4n
      all_goals (refine Q0 ?_; refine Q0 ?_; refine Q1 ?_; refine zm ?_; refine Q2 rfl ?_; refine zl hS ?_; refine zL ?_; refine QC rfl rfl ?_; refine zn ?_)
      refine Qy rfl (fun hc => ?_) (fun hc => ?_)
      · skip
        all_goals (refine zsk ?_; refine Q0 ?_; refine Qb ?_; refine Q0 ?_; refine Q1 ?_; refine Q2 rfl ?_; refine zl hS ?_; refine zm ?_; refine zi ?_; intro b3 o3 cs3 x3 hat3 hx3 he3; obtain ⟨vr3, va3, rfl, hr3, ha3⟩ := Q1Q he3; (first | refine Q2 rfl ?_ | refine Q1A rfl ?_); (first | (refine zl hS ?_) | (refine zlk hS ?_) | (refine zlj hS ?_)); refine zL ?_)
        all_goals (first | (refine Q11 ?_) | (refine Q14 ?_) | (refine Qn rfl rfl (fun hc => ?_) (fun hc => ?_)))
        all_goals (refine zm ?_; (first | refine s_gn rfl rfl ?_ | (refine s_gy rfl ?_; refine Q2 rfl ?_)); (first | refine s_gn rfl rfl ?_ | (refine s_gy rfl ?_; refine zl hS ?_)); (first | refine s_gn rfl rfl ?_ | (refine s_gy rfl ?_; refine zm ?_)); (first | (refine s_gn rfl rfl ?_) | (refine s_gy rfl ?_; refine Qey vw rfl (by assumption) rfl (by omega) ?_; intro b4 o4 cs4 x4 hat4 hx4 he4; rw [hx3] at hx4; obtain rfl : x3 = x4 := Option.some.inj hx4; obtain ⟨vr4, va4, rfl, hr4, ha4⟩ := Q1Q he4)); (first | refine s_gn rfl rfl ?_ | (refine s_gy rfl ?_; (first | refine Q2 rfl ?_ | refine Q1A rfl ?_))); (first | refine s_gn rfl rfl ?_ | (refine s_gy rfl ?_; (first | (refine zl hS ?_) | (refine zlk hS ?_) | (refine zlj hS ?_)))); (first | refine s_gn rfl rfl ?_ | (refine s_gy rfl ?_; refine zL ?_)))
        all_goals (first | refine s_gn rfl rfl ?_ | (refine s_gy rfl ?_; (first | (refine Q11 ?_) | (refine Q14 ?_) | (refine Qn rfl rfl (fun hc => ?_) (fun hc => ?_)))))
        all_goals ((first | (refine zpt ?_) | (refine zpf ?_)); refine zn ?_)
        all_goals
          first
          | (refine Q5 rfl ?_ -- Q1a c6
             all_goals (refine Q0 ?_; refine Q1 ?_; refine zm ?_; refine zn ?_; refine zr ?_; refine zf ?_)
             all_goals (exact ⟨_, rfl, true, rfl, fun h => Bool.noConfusion h, hS.sp⟩))
          | (refine Q6 rfl ?_ -- Q1a c6
             all_goals refine zsk ?_)
        all_goals (refine Q1 ?_; refine zm ?_; refine zad ?_; refine zm ?_; refine zn ?_; exact ⟨⟨k + 1, zh, zh, (by omega), (by omega), by assumption, by assumption, Q9Y hd2 hx3 ⟨by omega, by omega⟩, hS.sp⟩, Qx (by omega)⟩)
      · skip
        all_goals (refine zex ?_; refine Q1 ?_; refine zm ?_; refine zad ?_; refine zm ?_; refine zn ?_; exact ⟨⟨i + 1, zh, zh, (by omega), (by omega), by assumption, by assumption, Q9Y hd1 hx2 ⟨Tys.Short.of_great hg3, by omega, QdF hd2 (by omega), hfin⟩, hS.sp⟩, Qx (by omega)⟩)
    · skip
      all_goals (refine zex ?_; refine Q1 ?_; refine zm ?_; refine zad ?_; refine zm ?_; refine zn ?_; exact ⟨⟨j + 1, zh, zh, (by omega), (by omega), Q9Y hd hx1 ⟨Tys.Short.of_great hg1, Tys.Short.of_great hg2, by omega, QdF hd1 (by omega)⟩, hS.sp⟩, Qx (by omega)⟩)
  · skip
    all_goals (refine zex ?_; refine Q0 ?_; refine Q1 ?_; refine zm ?_; refine zn ?_; refine zr ?_; refine zf ?_)
    all_goals (first | (exact ⟨_, rfl, true, rfl, fun h => Bool.noConfusion h, hS.sp⟩) | (have h1 : l.length ≤ 100000 := (by omega); exact ⟨_, rfl, false, rfl, fun _ => ⟨h1, QdF (l := l) hd (by omega)⟩, hS.sp⟩))
end Go.Proofs.Ytanlkfeogoganaa
