/- The functions, lowered: printed by a program off the translation. -/
import Derived.Test.YtocllfbfogcbgaaProg
import Derived.Test.YtocllfbfogcbgaaLirStep
namespace Go.Proofs.Ytocllfbfogcbgaa
open Go.Lir

/- 6 -/
def Law_PoolDoes_r0 : List GO := [
  ⟨none, .mov 4 (.const (.bool false))⟩]
def Law_PoolDoes_r1 : List GO := [
  ⟨none, .call (some 13) 30 []⟩,
  ⟨none, .un 14 .not (.tmp 13)⟩]
def Law_PoolDoes_r2 : List GO := [
  ⟨none, .mov 4 (.const (.bool false))⟩]
def Law_PoolDoes_r3 : List GO := [
  ⟨none, .mov 15 (.tmp 1)⟩,
  ⟨none, .call (some 16) 31 [(.tmp 15)]⟩]
def Law_PoolDoes_r4 : List GO := [
  ⟨none, .mov 4 (.const (.bool true))⟩]
def Law_PoolDoes_r5 : List GO := [
  ⟨none, .mov 18 (.tmp 0)⟩,
  ⟨none, .call (some 19) 32 [(.tmp 18)]⟩,
  ⟨none, .mov 17 (.tmp 19)⟩,
  ⟨none, .ext 20 (.tmp 17) 0⟩,
  ⟨none, .ext 21 (.tmp 17) 1⟩,
  ⟨none, .alloc 6 48 [(.int .i64 0), (.int .i64 0)]⟩,
  ⟨none, .mov 5 (.tmp 20)⟩,
  ⟨none, .storen 2 (.tmp 6) (.tmp 21)⟩]
def Law_PoolDoes_r6 : List GO := [
  ⟨none, .mov 22 (.tmp 0)⟩,
  ⟨none, .bin 23 .lss 3 (.tmp 22) (.const (.int .i64 0))⟩,
  ⟨none, .mov 24 (.tmp 23)⟩,
  ⟨some (24, false), .mov 25 (.tmp 0)⟩,
  ⟨some (24, false), .bin 26 .gtr 3 (.tmp 25) (.const (.int .i64 64))⟩,
  ⟨none, .pick 27 (.tmp 24) (.const (.bool true)) (.tmp 26)⟩]
def Law_PoolDoes_r7 : List GO := [
  ⟨none, .loadn 28 2 (.tmp 6)⟩,
  ⟨none, .build 29 [(.int .i64 0), (.int .i64 0)] [(0, (1, (.const (.int .i64 1)))), (1, (1, (.const (.int .i64 (-1)))))]⟩,
  ⟨none, .bin 30 .eql 48 (.tmp 28) (.tmp 29)⟩,
  ⟨none, .mov 4 (.tmp 30)⟩]
def Law_PoolDoes_r8 : List GO := [
  ⟨none, .fld 31 (.tmp 6) 0⟩,
  ⟨none, .load1 32 (.tmp 31)⟩,
  ⟨none, .bin 33 .neq 3 (.tmp 32) (.const (.int .i64 0))⟩]
def Law_PoolDoes_r9 : List GO := [
  ⟨none, .mov 4 (.const (.bool false))⟩]
def Law_PoolDoes_r10 : List GO := [
  ⟨none, .mov 34 (.tmp 0)⟩,
  ⟨none, .call (some 35) 33 [(.tmp 34)]⟩,
  ⟨none, .mov 7 (.tmp 35)⟩]
def Law_PoolDoes_r11 : List GO := [
  ⟨none, .mov 8 (.const (.int .i64 0))⟩]
def Law_PoolDoes_r12 : List GO := [
  ⟨none, .mov 36 (.tmp 8)⟩,
  ⟨none, .mov 37 (.tmp 1)⟩,
  ⟨none, .len 38 (.tmp 37)⟩,
  ⟨none, .bin 39 .lss 3 (.tmp 36) (.tmp 38)⟩]
def Law_PoolDoes_r13 : List GO := [
  ⟨none, .mov 42 (.tmp 1)⟩,
  ⟨none, .mov 43 (.tmp 8)⟩,
  ⟨none, .idx 44 3 (.tmp 42) (.tmp 43)⟩,
  ⟨none, .loadn 45 3 (.tmp 44)⟩,
  ⟨none, .alloc 9 54 [(.int .i64 0), (.int .i64 0), (.int .i64 0)]⟩,
  ⟨none, .storen 3 (.tmp 9) (.tmp 45)⟩]
def Law_PoolDoes_r14 : List GO := [
  ⟨none, .fld 46 (.tmp 9) 1⟩,
  ⟨none, .load1 47 (.tmp 46)⟩,
  ⟨none, .bin 48 .geq 3 (.tmp 47) (.const (.int .i64 0))⟩,
  ⟨none, .mov 49 (.tmp 48)⟩,
  ⟨some (49, true), .fld 50 (.tmp 9) 1⟩,
  ⟨some (49, true), .load1 51 (.tmp 50)⟩,
  ⟨some (49, true), .mov 52 (.tmp 7)⟩,
  ⟨some (49, true), .nilc 53 (.tmp 52)⟩,
  ⟨some (49, true), .fld 54 (.tmp 53) 0⟩,
  ⟨some (49, true), .load1 55 (.tmp 54)⟩,
  ⟨some (49, true), .len 56 (.tmp 55)⟩,
  ⟨some (49, true), .bin 57 .lss 3 (.tmp 51) (.tmp 56)⟩,
  ⟨none, .pick 58 (.tmp 49) (.tmp 57) (.const (.bool false))⟩,
  ⟨none, .mov 10 (.tmp 58)⟩]
def Law_PoolDoes_e14 : List (List Nat) := [[], [0], [1], [2], [3], [4, 3], [3], [6, 3], [7, 3], [8, 3], [9, 3], [5, 10, 3], [3, 11], [12, 3, 0, 1, 2, 3, 4, 5, 6, 7, 8, 9, 10, 11, 12]]
def Law_PoolDoes_r15 : List GO := [
  ⟨none, .fld 59 (.tmp 9) 0⟩,
  ⟨none, .load1 60 (.tmp 59)⟩]
def Law_PoolDoes_r16 : List GO := [
  ⟨none, .bin 62 .eql 3 (.tmp 60) (.const (.int .i64 0))⟩,
  ⟨none, .mov 61 (.tmp 62)⟩]
def Law_PoolDoes_r17 : List GO := [
  ⟨none, .mov 63 (.tmp 5)⟩,
  ⟨none, .call (some 64) 34 [(.tmp 63)]⟩,
  ⟨none, .mov 65 (.tmp 7)⟩,
  ⟨none, .call (some 66) 35 [(.tmp 65)]⟩,
  ⟨none, .bin 67 .neq 3 (.tmp 64) (.tmp 66)⟩]
def Law_PoolDoes_r18 : List GO := [
  ⟨none, .mov 4 (.const (.bool false))⟩]
def Law_PoolDoes_r19 : List GO := [
  ⟨none, .bin 69 .eql 3 (.tmp 60) (.const (.int .i64 1))⟩,
  ⟨none, .mov 68 (.tmp 69)⟩]
def Law_PoolDoes_r20 : List GO := [
  ⟨none, .mov 70 (.tmp 5)⟩,
  ⟨none, .fld 71 (.tmp 9) 1⟩,
  ⟨none, .load1 72 (.tmp 71)⟩,
  ⟨none, .call (some 73) 36 [(.tmp 70), (.tmp 72)]⟩,
  ⟨none, .mov 74 (.tmp 7)⟩,
  ⟨none, .fld 75 (.tmp 9) 1⟩,
  ⟨none, .load1 76 (.tmp 75)⟩,
  ⟨none, .call (some 77) 37 [(.tmp 74), (.tmp 76)]⟩,
  ⟨none, .bin 78 .neq 4 (.tmp 73) (.tmp 77)⟩]
def Law_PoolDoes_e20 : List (List Nat) := [[], [], [1], [0, 2], [], [], [5], [4, 6, 3], [3, 7]]
def Law_PoolDoes_r21 : List GO := [
  ⟨none, .mov 4 (.const (.bool false))⟩]
def Law_PoolDoes_r22 : List GO := [
  ⟨none, .bin 80 .eql 3 (.tmp 60) (.const (.int .i64 2))⟩,
  ⟨none, .mov 79 (.tmp 80)⟩]
def Law_PoolDoes_r23 : List GO := [
  ⟨none, .mov 81 (.tmp 5)⟩,
  ⟨none, .fld 82 (.tmp 9) 1⟩,
  ⟨none, .load1 83 (.tmp 82)⟩,
  ⟨none, .fld 84 (.tmp 9) 2⟩,
  ⟨none, .load1 85 (.tmp 84)⟩,
  ⟨none, .call (some 86) 38 [(.tmp 81), (.tmp 83), (.tmp 85)]⟩,
  ⟨none, .mov 87 (.tmp 10)⟩,
  ⟨none, .bin 88 .neq 4 (.tmp 86) (.tmp 87)⟩]
def Law_PoolDoes_r24 : List GO := [
  ⟨none, .mov 4 (.const (.bool false))⟩]
def Law_PoolDoes_r25 : List GO := [
  ⟨none, .mov 89 (.tmp 10)⟩]
def Law_PoolDoes_r26 : List GO := [
  ⟨none, .mov 90 (.tmp 7)⟩,
  ⟨none, .nilc 91 (.tmp 90)⟩,
  ⟨none, .fld 92 (.tmp 91) 0⟩,
  ⟨none, .load1 93 (.tmp 92)⟩,
  ⟨none, .fld 94 (.tmp 9) 1⟩,
  ⟨none, .load1 95 (.tmp 94)⟩,
  ⟨none, .fld 96 (.tmp 9) 2⟩,
  ⟨none, .load1 97 (.tmp 96)⟩,
  ⟨none, .idx 98 1 (.tmp 93) (.tmp 95)⟩,
  ⟨none, .store1 (.tmp 98) (.tmp 97)⟩]
def Law_PoolDoes_e26 : List (List Nat) := [[], [0], [1], [2], [], [4], [], [6], [3, 5, 0, 1, 2, 3, 4, 5, 6, 7], [8, 7, 0, 1, 2, 3, 4, 5, 6, 7]]
def Law_PoolDoes_r27 : List GO := [
  ⟨none, .bin 100 .eql 3 (.tmp 60) (.const (.int .i64 3))⟩,
  ⟨none, .mov 99 (.tmp 100)⟩]
def Law_PoolDoes_r28 : List GO := [
  ⟨none, .mov 102 (.tmp 5)⟩,
  ⟨none, .fld 103 (.tmp 9) 1⟩,
  ⟨none, .load1 104 (.tmp 103)⟩,
  ⟨none, .call (some 105) 39 [(.tmp 102), (.tmp 104)]⟩,
  ⟨none, .mov 101 (.tmp 105)⟩,
  ⟨none, .ext 106 (.tmp 101) 0⟩,
  ⟨none, .ext 107 (.tmp 101) 1⟩,
  ⟨none, .mov 11 (.tmp 106)⟩,
  ⟨none, .mov 12 (.tmp 107)⟩]
def Law_PoolDoes_r29 : List GO := [
  ⟨none, .mov 108 (.tmp 12)⟩,
  ⟨none, .mov 109 (.tmp 10)⟩,
  ⟨none, .bin 110 .neq 4 (.tmp 108) (.tmp 109)⟩,
  ⟨none, .mov 111 (.tmp 110)⟩,
  ⟨some (111, false), .mov 112 (.tmp 10)⟩,
  ⟨some (111, false), .mov 113 (.tmp 112)⟩,
  ⟨some (113, true), .mov 114 (.tmp 11)⟩,
  ⟨some (113, true), .mov 115 (.tmp 7)⟩,
  ⟨some (113, true), .nilc 116 (.tmp 115)⟩,
  ⟨some (113, true), .fld 117 (.tmp 116) 0⟩,
  ⟨some (113, true), .load1 118 (.tmp 117)⟩,
  ⟨some (113, true), .fld 119 (.tmp 9) 1⟩,
  ⟨some (113, true), .load1 120 (.tmp 119)⟩,
  ⟨some (113, true), .idx 121 1 (.tmp 118) (.tmp 120)⟩,
  ⟨some (113, true), .load1 122 (.tmp 121)⟩,
  ⟨some (113, true), .bin 123 .neq 2 (.tmp 114) (.tmp 122)⟩,
  ⟨some (111, false), .pick 124 (.tmp 113) (.tmp 123) (.const (.bool false))⟩,
  ⟨none, .pick 125 (.tmp 111) (.const (.bool true)) (.tmp 124)⟩,
  ⟨none, .mov 126 (.tmp 125)⟩,
  ⟨some (126, false), .mov 127 (.tmp 10)⟩,
  ⟨some (126, false), .un 128 .not (.tmp 127)⟩,
  ⟨some (126, false), .mov 129 (.tmp 128)⟩,
  ⟨some (129, true), .mov 130 (.tmp 11)⟩,
  ⟨some (129, true), .bin 131 .neq 2 (.tmp 130) (.const (.int .i64 0))⟩,
  ⟨some (126, false), .pick 132 (.tmp 129) (.tmp 131) (.const (.bool false))⟩,
  ⟨none, .pick 133 (.tmp 126) (.const (.bool true)) (.tmp 132)⟩]
def Law_PoolDoes_e29 : List (List Nat) := [[], [], [0, 1], [2], [3], [4, 3, 3], [5], [5], [7, 5], [8, 5], [9, 5], [5], [11, 5], [10, 12, 5], [13, 5], [6, 14, 5], [5, 15, 3], [3, 16], [17, 5], [18], [19, 18], [20, 18, 18], [21], [22, 21], [21, 23, 18], [18, 24]]
def Law_PoolDoes_r30 : List GO := [
  ⟨none, .mov 4 (.const (.bool false))⟩]
def Law_PoolDoes_r31 : List GO := [
  ⟨none, .bin 135 .eql 3 (.tmp 60) (.const (.int .i64 4))⟩,
  ⟨none, .mov 134 (.tmp 135)⟩]
def Law_PoolDoes_r32 : List GO := [
  ⟨none, .mov 136 (.tmp 5)⟩,
  ⟨none, .call (some 137) 41 [(.tmp 136)]⟩,
  ⟨none, .mov 138 (.tmp 7)⟩,
  ⟨none, .nilc 139 (.tmp 138)⟩,
  ⟨none, .fld 140 (.tmp 139) 0⟩,
  ⟨none, .load1 141 (.tmp 140)⟩,
  ⟨none, .call (some 142) 40 [(.tmp 137), (.tmp 141)]⟩,
  ⟨none, .un 143 .not (.tmp 142)⟩]
def Law_PoolDoes_e32 : List (List Nat) := [[], [0], [], [2], [3], [4], [1, 5, 1], [6]]
def Law_PoolDoes_r33 : List GO := [
  ⟨none, .mov 4 (.const (.bool false))⟩]
def Law_PoolDoes_r34 : List GO := [
  ⟨none, .mov 144 (.tmp 5)⟩,
  ⟨none, .call (some 145) 42 [(.tmp 144)]⟩,
  ⟨none, .mov 146 (.tmp 7)⟩,
  ⟨none, .call (some 147) 43 [(.tmp 146)]⟩,
  ⟨none, .bin 148 .neq 3 (.tmp 145) (.tmp 147)⟩]
def Law_PoolDoes_r35 : List GO := [
  ⟨none, .mov 4 (.const (.bool false))⟩]
def Law_PoolDoes_r36 : List GO := [
  ⟨none, .mov 40 (.tmp 8)⟩,
  ⟨none, .bin 41 .add 3 (.tmp 40) (.const (.int .i64 1))⟩,
  ⟨none, .mov 8 (.tmp 41)⟩]
def Law_PoolDoes_b12 : LC := (.seq (.seq (.ops Law_PoolDoes_r12) (.cond (.tmp 39) .skip (.exit 0))) (.seq (.block 1 (.seq (.ops Law_PoolDoes_r13) (.seq (.draw Law_PoolDoes_r14 Law_PoolDoes_e14) (.seq (.seq (.ops Law_PoolDoes_r15) (.block 2 (.seq (.ops Law_PoolDoes_r16) (.cond (.tmp 61) (.seq (.ops Law_PoolDoes_r17) (.cond (.tmp 67) (.seq (.ops Law_PoolDoes_r18) .ret) .skip)) (.seq (.ops Law_PoolDoes_r19) (.cond (.tmp 68) (.seq (.draw Law_PoolDoes_r20 Law_PoolDoes_e20) (.cond (.tmp 78) (.seq (.ops Law_PoolDoes_r21) .ret) .skip)) (.seq (.ops Law_PoolDoes_r22) (.cond (.tmp 79) (.seq (.seq (.ops Law_PoolDoes_r23) (.cond (.tmp 88) (.seq (.ops Law_PoolDoes_r24) .ret) .skip)) (.seq (.ops Law_PoolDoes_r25) (.cond (.tmp 89) (.draw Law_PoolDoes_r26 Law_PoolDoes_e26) .skip))) (.seq (.ops Law_PoolDoes_r27) (.cond (.tmp 99) (.seq (.ops Law_PoolDoes_r28) (.seq (.draw Law_PoolDoes_r29 Law_PoolDoes_e29) (.cond (.tmp 133) (.seq (.ops Law_PoolDoes_r30) .ret) .skip))) (.seq (.ops Law_PoolDoes_r31) (.cond (.tmp 134) (.seq (.draw Law_PoolDoes_r32 Law_PoolDoes_e32) (.cond (.tmp 143) (.seq (.ops Law_PoolDoes_r33) .ret) .skip)) .skip)))))))))))) (.seq (.ops Law_PoolDoes_r34) (.cond (.tmp 148) (.seq (.ops Law_PoolDoes_r35) .ret) .skip)))))) (.ops Law_PoolDoes_r36)))
def Law_PoolDoes_r37 : List GO := [
  ⟨none, .mov 4 (.const (.bool true))⟩]
def Law_PoolDoes_lc : LC := (.seq (.ops Law_PoolDoes_r0) (.seq (.seq (.ops Law_PoolDoes_r1) (.cond (.tmp 14) (.seq (.ops Law_PoolDoes_r2) .ret) .skip)) (.seq (.seq (.ops Law_PoolDoes_r3) (.cond (.tmp 16) (.seq (.ops Law_PoolDoes_r4) .ret) .skip)) (.seq (.ops Law_PoolDoes_r5) (.seq (.seq (.ops Law_PoolDoes_r6) (.cond (.tmp 27) (.seq (.ops Law_PoolDoes_r7) .ret) .skip)) (.seq (.seq (.ops Law_PoolDoes_r8) (.cond (.tmp 33) (.seq (.ops Law_PoolDoes_r9) .ret) .skip)) (.seq (.ops Law_PoolDoes_r10) (.seq (.seq (.ops Law_PoolDoes_r11) (.block 0 (.loop Law_PoolDoes_b12))) (.seq (.ops Law_PoolDoes_r37) .ret)))))))))
@[reducible] def Law_PoolDoes : FuncId := 6
theorem Law_PoolDoes_low : lowF Try.prog Try.f6 = some Law_PoolDoes_lc := by kernel_rfl
theorem Law_PoolDoes_in {a0 a1 : Value} {w : World} {R : Ending → World → Prop} (h : Law_PoolDoes_lc.wp Try.prog (retQ Try.prog [.tmp 4] R) (argEnv [a0, a1]) w) : Calls Try.prog Law_PoolDoes ⟨[a0, a1]⟩ w R :=
  calls_of_low Try.func6 Law_PoolDoes_low (by kernel_rfl) (by kernel_rfl) h

/- 7 -/
def Law_PoolOnce_r0 : List GO := [
  ⟨none, .mov 4 (.const (.bool false))⟩]
def Law_PoolOnce_r1 : List GO := [
  ⟨none, .call (some 15) 30 []⟩,
  ⟨none, .un 16 .not (.tmp 15)⟩]
def Law_PoolOnce_r2 : List GO := [
  ⟨none, .mov 4 (.const (.bool false))⟩]
def Law_PoolOnce_r3 : List GO := [
  ⟨none, .mov 17 (.tmp 1)⟩,
  ⟨none, .call (some 18) 31 [(.tmp 17)]⟩]
def Law_PoolOnce_r4 : List GO := [
  ⟨none, .mov 4 (.const (.bool true))⟩]
def Law_PoolOnce_r5 : List GO := [
  ⟨none, .mov 20 (.tmp 0)⟩,
  ⟨none, .call (some 21) 32 [(.tmp 20)]⟩,
  ⟨none, .mov 19 (.tmp 21)⟩,
  ⟨none, .ext 22 (.tmp 19) 0⟩,
  ⟨none, .ext 23 (.tmp 19) 1⟩,
  ⟨none, .alloc 6 48 [(.int .i64 0), (.int .i64 0)]⟩,
  ⟨none, .mov 5 (.tmp 22)⟩,
  ⟨none, .storen 2 (.tmp 6) (.tmp 23)⟩]
def Law_PoolOnce_r6 : List GO := [
  ⟨none, .fld 24 (.tmp 6) 0⟩,
  ⟨none, .load1 25 (.tmp 24)⟩,
  ⟨none, .bin 26 .neq 3 (.tmp 25) (.const (.int .i64 0))⟩]
def Law_PoolOnce_r7 : List GO := [
  ⟨none, .mov 4 (.const (.bool true))⟩]
def Law_PoolOnce_r8 : List GO := [
  ⟨none, .mov 7 (.const (.slice none 0 0))⟩]
def Law_PoolOnce_r9 : List GO := [
  ⟨none, .mov 8 (.const (.int .i64 0))⟩]
def Law_PoolOnce_r10 : List GO := [
  ⟨none, .mov 27 (.tmp 8)⟩,
  ⟨none, .mov 28 (.tmp 1)⟩,
  ⟨none, .len 29 (.tmp 28)⟩,
  ⟨none, .bin 30 .lss 3 (.tmp 27) (.tmp 29)⟩]
def Law_PoolOnce_r11 : List GO := [
  ⟨none, .mov 33 (.tmp 1)⟩,
  ⟨none, .mov 34 (.tmp 8)⟩,
  ⟨none, .idx 35 3 (.tmp 33) (.tmp 34)⟩,
  ⟨none, .fld 36 (.tmp 35) 0⟩,
  ⟨none, .load1 37 (.tmp 36)⟩]
def Law_PoolOnce_r12 : List GO := [
  ⟨none, .bin 39 .eql 3 (.tmp 37) (.const (.int .i64 0))⟩,
  ⟨none, .mov 38 (.tmp 39)⟩]
def Law_PoolOnce_r13 : List GO := [
  ⟨none, .mov 40 (.tmp 5)⟩,
  ⟨none, .call (some 41) 34 [(.tmp 40)]⟩,
  ⟨none, .mov 9 (.tmp 41)⟩]
def Law_PoolOnce_r14 : List GO := [
  ⟨none, .mov 42 (.tmp 9)⟩,
  ⟨none, .bin 43 .lss 3 (.tmp 42) (.const (.int .i64 0))⟩]
def Law_PoolOnce_r15 : List GO := [
  ⟨none, .mov 44 (.tmp 7)⟩,
  ⟨none, .len 45 (.tmp 44)⟩,
  ⟨none, .mov 46 (.tmp 0)⟩,
  ⟨none, .bin 47 .neq 3 (.tmp 45) (.tmp 46)⟩]
def Law_PoolOnce_r16 : List GO := [
  ⟨none, .mov 4 (.const (.bool false))⟩]
def Law_PoolOnce_r17 : List GO := [
  ⟨none, .mov 48 (.tmp 7)⟩,
  ⟨none, .mov 49 (.tmp 9)⟩,
  ⟨none, .call (some 50) 44 [(.tmp 48), (.tmp 49)]⟩,
  ⟨none, .mov 51 (.tmp 50)⟩,
  ⟨some (51, false), .mov 52 (.tmp 9)⟩,
  ⟨some (51, false), .mov 53 (.tmp 0)⟩,
  ⟨some (51, false), .bin 54 .geq 3 (.tmp 52) (.tmp 53)⟩,
  ⟨none, .pick 55 (.tmp 51) (.const (.bool true)) (.tmp 54)⟩]
def Law_PoolOnce_r18 : List GO := [
  ⟨none, .mov 4 (.const (.bool false))⟩]
def Law_PoolOnce_r19 : List GO := [
  ⟨none, .mov 10 (.const (.int .i64 0))⟩]
def Law_PoolOnce_r20 : List GO := [
  ⟨none, .mov 56 (.tmp 10)⟩,
  ⟨none, .bin 57 .lss 3 (.tmp 56) (.const (.int .i64 16))⟩]
def Law_PoolOnce_r21 : List GO := [
  ⟨none, .mov 61 (.tmp 5)⟩,
  ⟨none, .mov 62 (.tmp 9)⟩,
  ⟨none, .bin 63 .mul 3 (.tmp 62) (.const (.int .i64 16))⟩,
  ⟨none, .mov 64 (.tmp 10)⟩,
  ⟨none, .bin 65 .add 3 (.tmp 63) (.tmp 64)⟩,
  ⟨none, .call (some 66) 39 [(.tmp 61), (.tmp 65)]⟩,
  ⟨none, .mov 60 (.tmp 66)⟩,
  ⟨none, .ext 67 (.tmp 60) 0⟩,
  ⟨none, .ext 68 (.tmp 60) 1⟩,
  ⟨none, .mov 11 (.tmp 67)⟩,
  ⟨none, .mov 12 (.tmp 68)⟩]
def Law_PoolOnce_r22 : List GO := [
  ⟨none, .mov 69 (.tmp 12)⟩,
  ⟨none, .un 70 .not (.tmp 69)⟩,
  ⟨none, .mov 71 (.tmp 70)⟩,
  ⟨some (71, false), .mov 72 (.tmp 11)⟩,
  ⟨some (71, false), .bin 73 .neq 2 (.tmp 72) (.const (.int .i64 0))⟩,
  ⟨none, .pick 74 (.tmp 71) (.const (.bool true)) (.tmp 73)⟩]
def Law_PoolOnce_r23 : List GO := [
  ⟨none, .mov 4 (.const (.bool false))⟩]
def Law_PoolOnce_r24 : List GO := [
  ⟨none, .mov 58 (.tmp 10)⟩,
  ⟨none, .bin 59 .add 3 (.tmp 58) (.const (.int .i64 1))⟩,
  ⟨none, .mov 10 (.tmp 59)⟩]
def Law_PoolOnce_b20 : LC := (.seq (.seq (.ops Law_PoolOnce_r20) (.cond (.tmp 57) .skip (.exit 3))) (.seq (.block 4 (.seq (.ops Law_PoolOnce_r21) (.seq (.ops Law_PoolOnce_r22) (.cond (.tmp 74) (.seq (.ops Law_PoolOnce_r23) .ret) .skip)))) (.ops Law_PoolOnce_r24)))
def Law_PoolOnce_r25 : List GO := [
  ⟨none, .mov 75 (.tmp 7)⟩,
  ⟨none, .mov 76 (.tmp 9)⟩,
  ⟨none, .buildS 77 3 1 [(.int .i64 0)] [(0, (1, (.tmp 76)))]⟩,
  ⟨none, .raw ⟨(some 78), (.call ⟨(.builtin .append), #[(.tmp 75), (.tmp 77)], #[32, 32]⟩), 32, "", #[], none⟩⟩,
  ⟨none, .mov 7 (.tmp 78)⟩]
def Law_PoolOnce_r26 : List GO := [
  ⟨none, .bin 80 .eql 3 (.tmp 37) (.const (.int .i64 1))⟩,
  ⟨none, .mov 79 (.tmp 80)⟩]
def Law_PoolOnce_r27 : List GO := [
  ⟨none, .mov 13 (.const (.slice none 0 0))⟩]
def Law_PoolOnce_r28 : List GO := [
  ⟨none, .mov 14 (.const (.int .i64 0))⟩]
def Law_PoolOnce_r29 : List GO := [
  ⟨none, .mov 81 (.tmp 14)⟩,
  ⟨none, .mov 82 (.tmp 7)⟩,
  ⟨none, .len 83 (.tmp 82)⟩,
  ⟨none, .bin 84 .lss 3 (.tmp 81) (.tmp 83)⟩]
def Law_PoolOnce_r30 : List GO := [
  ⟨none, .mov 87 (.tmp 7)⟩,
  ⟨none, .mov 88 (.tmp 14)⟩,
  ⟨none, .idx 89 1 (.tmp 87) (.tmp 88)⟩,
  ⟨none, .load1 90 (.tmp 89)⟩,
  ⟨none, .mov 91 (.tmp 1)⟩,
  ⟨none, .mov 92 (.tmp 8)⟩,
  ⟨none, .idx 93 3 (.tmp 91) (.tmp 92)⟩,
  ⟨none, .fld 94 (.tmp 93) 1⟩,
  ⟨none, .load1 95 (.tmp 94)⟩,
  ⟨none, .bin 96 .neq 3 (.tmp 90) (.tmp 95)⟩]
def Law_PoolOnce_e30 : List (List Nat) := [[], [], [0, 1], [2], [], [], [4, 5], [6], [7], [3, 8]]
def Law_PoolOnce_r31 : List GO := [
  ⟨none, .mov 97 (.tmp 13)⟩,
  ⟨none, .mov 98 (.tmp 7)⟩,
  ⟨none, .mov 99 (.tmp 14)⟩,
  ⟨none, .idx 100 1 (.tmp 98) (.tmp 99)⟩,
  ⟨none, .load1 101 (.tmp 100)⟩,
  ⟨none, .buildS 102 3 1 [(.int .i64 0)] [(0, (1, (.tmp 101)))]⟩,
  ⟨none, .raw ⟨(some 103), (.call ⟨(.builtin .append), #[(.tmp 97), (.tmp 102)], #[32, 32]⟩), 32, "", #[], none⟩⟩,
  ⟨none, .mov 13 (.tmp 103)⟩]
def Law_PoolOnce_r32 : List GO := [
  ⟨none, .mov 85 (.tmp 14)⟩,
  ⟨none, .bin 86 .add 3 (.tmp 85) (.const (.int .i64 1))⟩,
  ⟨none, .mov 14 (.tmp 86)⟩]
def Law_PoolOnce_b29 : LC := (.seq (.seq (.ops Law_PoolOnce_r29) (.cond (.tmp 84) .skip (.exit 5))) (.seq (.block 6 (.seq (.draw Law_PoolOnce_r30 Law_PoolOnce_e30) (.cond (.tmp 96) (.ops Law_PoolOnce_r31) .skip))) (.ops Law_PoolOnce_r32)))
def Law_PoolOnce_r33 : List GO := [
  ⟨none, .mov 104 (.tmp 5)⟩,
  ⟨none, .mov 105 (.tmp 1)⟩,
  ⟨none, .mov 106 (.tmp 8)⟩,
  ⟨none, .idx 107 3 (.tmp 105) (.tmp 106)⟩,
  ⟨none, .fld 108 (.tmp 107) 1⟩,
  ⟨none, .load1 109 (.tmp 108)⟩,
  ⟨none, .call (some 110) 36 [(.tmp 104), (.tmp 109)]⟩,
  ⟨none, .mov 111 (.tmp 13)⟩,
  ⟨none, .len 112 (.tmp 111)⟩,
  ⟨none, .mov 113 (.tmp 7)⟩,
  ⟨none, .len 114 (.tmp 113)⟩,
  ⟨none, .bin 115 .lss 3 (.tmp 112) (.tmp 114)⟩,
  ⟨none, .bin 116 .neq 4 (.tmp 110) (.tmp 115)⟩]
def Law_PoolOnce_r34 : List GO := [
  ⟨none, .mov 4 (.const (.bool false))⟩]
def Law_PoolOnce_r35 : List GO := [
  ⟨none, .mov 117 (.tmp 13)⟩,
  ⟨none, .mov 7 (.tmp 117)⟩]
def Law_PoolOnce_r36 : List GO := [
  ⟨none, .bin 119 .eql 3 (.tmp 37) (.const (.int .i64 2))⟩,
  ⟨none, .mov 118 (.tmp 119)⟩]
def Law_PoolOnce_r37 : List GO := [
  ⟨none, .mov 120 (.tmp 5)⟩,
  ⟨none, .mov 121 (.tmp 1)⟩,
  ⟨none, .mov 122 (.tmp 8)⟩,
  ⟨none, .idx 123 3 (.tmp 121) (.tmp 122)⟩,
  ⟨none, .fld 124 (.tmp 123) 1⟩,
  ⟨none, .load1 125 (.tmp 124)⟩,
  ⟨none, .mov 126 (.tmp 1)⟩,
  ⟨none, .mov 127 (.tmp 8)⟩,
  ⟨none, .idx 128 3 (.tmp 126) (.tmp 127)⟩,
  ⟨none, .fld 129 (.tmp 128) 2⟩,
  ⟨none, .load1 130 (.tmp 129)⟩,
  ⟨none, .call (some 131) 38 [(.tmp 120), (.tmp 125), (.tmp 130)]⟩]
def Law_PoolOnce_e37 : List (List Nat) := [[], [], [], [1, 2], [3], [4], [], [], [6, 7], [8], [9], [0, 5, 10]]
def Law_PoolOnce_r38 : List GO := [
  ⟨none, .mov 132 (.tmp 5)⟩,
  ⟨none, .call (some 133) 42 [(.tmp 132)]⟩,
  ⟨none, .mov 134 (.tmp 0)⟩,
  ⟨none, .mov 135 (.tmp 7)⟩,
  ⟨none, .len 136 (.tmp 135)⟩,
  ⟨none, .bin 137 .sub 3 (.tmp 134) (.tmp 136)⟩,
  ⟨none, .bin 138 .neq 3 (.tmp 133) (.tmp 137)⟩]
def Law_PoolOnce_r39 : List GO := [
  ⟨none, .mov 4 (.const (.bool false))⟩]
def Law_PoolOnce_r40 : List GO := [
  ⟨none, .mov 31 (.tmp 8)⟩,
  ⟨none, .bin 32 .add 3 (.tmp 31) (.const (.int .i64 1))⟩,
  ⟨none, .mov 8 (.tmp 32)⟩]
def Law_PoolOnce_b10 : LC := (.seq (.seq (.ops Law_PoolOnce_r10) (.cond (.tmp 30) .skip (.exit 0))) (.seq (.block 1 (.seq (.seq (.ops Law_PoolOnce_r11) (.block 2 (.seq (.ops Law_PoolOnce_r12) (.cond (.tmp 38) (.seq (.ops Law_PoolOnce_r13) (.seq (.seq (.ops Law_PoolOnce_r14) (.cond (.tmp 43) (.seq (.seq (.ops Law_PoolOnce_r15) (.cond (.tmp 47) (.seq (.ops Law_PoolOnce_r16) .ret) .skip)) (.exit 1)) .skip)) (.seq (.seq (.ops Law_PoolOnce_r17) (.cond (.tmp 55) (.seq (.ops Law_PoolOnce_r18) .ret) .skip)) (.seq (.seq (.ops Law_PoolOnce_r19) (.block 3 (.loop Law_PoolOnce_b20))) (.ops Law_PoolOnce_r25))))) (.seq (.ops Law_PoolOnce_r26) (.cond (.tmp 79) (.seq (.ops Law_PoolOnce_r27) (.seq (.seq (.ops Law_PoolOnce_r28) (.block 5 (.loop Law_PoolOnce_b29))) (.seq (.seq (.ops Law_PoolOnce_r33) (.cond (.tmp 116) (.seq (.ops Law_PoolOnce_r34) .ret) .skip)) (.ops Law_PoolOnce_r35)))) (.seq (.ops Law_PoolOnce_r36) (.cond (.tmp 118) (.draw Law_PoolOnce_r37 Law_PoolOnce_e37) .skip)))))))) (.seq (.ops Law_PoolOnce_r38) (.cond (.tmp 138) (.seq (.ops Law_PoolOnce_r39) .ret) .skip)))) (.ops Law_PoolOnce_r40)))
def Law_PoolOnce_r41 : List GO := [
  ⟨none, .mov 4 (.const (.bool true))⟩]
def Law_PoolOnce_lc : LC := (.seq (.ops Law_PoolOnce_r0) (.seq (.seq (.ops Law_PoolOnce_r1) (.cond (.tmp 16) (.seq (.ops Law_PoolOnce_r2) .ret) .skip)) (.seq (.seq (.ops Law_PoolOnce_r3) (.cond (.tmp 18) (.seq (.ops Law_PoolOnce_r4) .ret) .skip)) (.seq (.ops Law_PoolOnce_r5) (.seq (.seq (.ops Law_PoolOnce_r6) (.cond (.tmp 26) (.seq (.ops Law_PoolOnce_r7) .ret) .skip)) (.seq (.ops Law_PoolOnce_r8) (.seq (.seq (.ops Law_PoolOnce_r9) (.block 0 (.loop Law_PoolOnce_b10))) (.seq (.ops Law_PoolOnce_r41) .ret))))))))
@[reducible] def Law_PoolOnce : FuncId := 7
theorem Law_PoolOnce_low : lowF Try.prog Try.f7 = some Law_PoolOnce_lc := by kernel_rfl
theorem Law_PoolOnce_in {a0 a1 : Value} {w : World} {R : Ending → World → Prop} (h : Law_PoolOnce_lc.wp Try.prog (retQ Try.prog [.tmp 4] R) (argEnv [a0, a1]) w) : Calls Try.prog Law_PoolOnce ⟨[a0, a1]⟩ w R :=
  calls_of_low Try.func7 Law_PoolOnce_low (by kernel_rfl) (by kernel_rfl) h

/- 30 -/
def Law_poolBegun_r0 : List GO := [
  ⟨none, .mov 0 (.const (.bool false))⟩]
def Law_poolBegun_r1 : List GO := [
  ⟨none, .call (some 4) 32 [(.const (.int .i64 2))]⟩,
  ⟨none, .mov 3 (.tmp 4)⟩,
  ⟨none, .ext 5 (.tmp 3) 0⟩,
  ⟨none, .ext 6 (.tmp 3) 1⟩,
  ⟨none, .alloc 2 48 [(.int .i64 0), (.int .i64 0)]⟩,
  ⟨none, .mov 1 (.tmp 5)⟩,
  ⟨none, .storen 2 (.tmp 2) (.tmp 6)⟩]
def Law_poolBegun_r2 : List GO := [
  ⟨none, .fld 7 (.tmp 2) 0⟩,
  ⟨none, .load1 8 (.tmp 7)⟩,
  ⟨none, .bin 9 .neq 3 (.tmp 8) (.const (.int .i64 0))⟩,
  ⟨none, .mov 10 (.tmp 9)⟩,
  ⟨some (10, false), .mov 11 (.tmp 1)⟩,
  ⟨some (10, false), .call (some 12) 34 [(.tmp 11)]⟩,
  ⟨some (10, false), .bin 13 .neq 3 (.tmp 12) (.const (.int .i64 0))⟩,
  ⟨none, .pick 14 (.tmp 10) (.const (.bool true)) (.tmp 13)⟩,
  ⟨none, .mov 15 (.tmp 14)⟩,
  ⟨some (15, false), .mov 16 (.tmp 1)⟩,
  ⟨some (15, false), .call (some 17) 34 [(.tmp 16)]⟩,
  ⟨some (15, false), .bin 18 .neq 3 (.tmp 17) (.const (.int .i64 1))⟩,
  ⟨none, .pick 19 (.tmp 15) (.const (.bool true)) (.tmp 18)⟩,
  ⟨none, .mov 20 (.tmp 19)⟩,
  ⟨some (20, false), .mov 21 (.tmp 1)⟩,
  ⟨some (20, false), .call (some 22) 34 [(.tmp 21)]⟩,
  ⟨some (20, false), .bin 23 .neq 3 (.tmp 22) (.const (.int .i64 (-1)))⟩,
  ⟨none, .pick 24 (.tmp 20) (.const (.bool true)) (.tmp 23)⟩,
  ⟨none, .mov 25 (.tmp 24)⟩,
  ⟨some (25, false), .mov 26 (.tmp 1)⟩,
  ⟨some (25, false), .call (some 27) 36 [(.tmp 26), (.const (.int .i64 0))]⟩,
  ⟨some (25, false), .un 28 .not (.tmp 27)⟩,
  ⟨none, .pick 29 (.tmp 25) (.const (.bool true)) (.tmp 28)⟩,
  ⟨none, .mov 30 (.tmp 29)⟩,
  ⟨some (30, false), .mov 31 (.tmp 1)⟩,
  ⟨some (30, false), .call (some 32) 36 [(.tmp 31), (.const (.int .i64 0))]⟩,
  ⟨none, .pick 33 (.tmp 30) (.const (.bool true)) (.tmp 32)⟩,
  ⟨none, .mov 34 (.tmp 33)⟩,
  ⟨some (34, false), .mov 35 (.tmp 1)⟩,
  ⟨some (34, false), .call (some 36) 38 [(.tmp 35), (.const (.int .i64 0)), (.const (.int .i64 5))]⟩,
  ⟨some (34, false), .un 37 .not (.tmp 36)⟩,
  ⟨none, .pick 38 (.tmp 34) (.const (.bool true)) (.tmp 37)⟩]
def Law_poolBegun_r3 : List GO := [
  ⟨none, .mov 0 (.const (.bool false))⟩]
def Law_poolBegun_r4 : List GO := [
  ⟨none, .mov 39 (.tmp 1)⟩,
  ⟨none, .call (some 40) 34 [(.tmp 39)]⟩,
  ⟨none, .bin 41 .eql 3 (.tmp 40) (.const (.int .i64 0))⟩,
  ⟨none, .mov 42 (.tmp 41)⟩,
  ⟨some (42, true), .mov 43 (.tmp 1)⟩,
  ⟨some (42, true), .call (some 44) 42 [(.tmp 43)]⟩,
  ⟨some (42, true), .bin 45 .eql 3 (.tmp 44) (.const (.int .i64 0))⟩,
  ⟨none, .pick 46 (.tmp 42) (.tmp 45) (.const (.bool false))⟩,
  ⟨none, .mov 47 (.tmp 46)⟩,
  ⟨some (47, true), .mov 48 (.tmp 1)⟩,
  ⟨some (47, true), .call (some 49) 41 [(.tmp 48)]⟩,
  ⟨some (47, true), .raw ⟨(some 50), (.makeSlice 55 (.const (.int .i64 32)) (.const (.int .i64 32))), 55, "", #[], none⟩⟩,
  ⟨some (47, true), .call (some 51) 40 [(.tmp 49), (.tmp 50)]⟩,
  ⟨none, .pick 52 (.tmp 47) (.tmp 51) (.const (.bool false))⟩,
  ⟨none, .mov 0 (.tmp 52)⟩]
def Law_poolBegun_e4 : List (List Nat) := [[], [0], [1], [2, 1], [3], [4, 3, 3], [5, 3], [3, 6], [7, 5], [8], [9, 8, 8], [8], [10, 11, 10, 8], [8, 12], [13, 12, 0, 1, 2, 3, 4, 5, 6, 7, 8, 9, 10, 11, 12, 13]]
def Law_poolBegun_lc : LC := (.seq (.ops Law_poolBegun_r0) (.seq (.ops Law_poolBegun_r1) (.seq (.seq (.ops Law_poolBegun_r2) (.cond (.tmp 38) (.seq (.ops Law_poolBegun_r3) .ret) .skip)) (.seq (.draw Law_poolBegun_r4 Law_poolBegun_e4) .ret))))
@[reducible] def Law_poolBegun : FuncId := 30
theorem Law_poolBegun_low : lowF Try.prog Try.f30 = some Law_poolBegun_lc := by kernel_rfl
theorem Law_poolBegun_in {w : World} {R : Ending → World → Prop} (h : Law_poolBegun_lc.wp Try.prog (retQ Try.prog [.tmp 0] R) (argEnv []) w) : Calls Try.prog Law_poolBegun ⟨[]⟩ w R :=
  calls_of_low Try.func30 Law_poolBegun_low (by kernel_rfl) (by kernel_rfl) h

/- 31 -/
def Law_poolGreat_r0 : List GO := [
  ⟨none, .mov 2 (.const (.bool false))⟩]
def Law_poolGreat_r1 : List GO := [
  ⟨none, .mov 3 (.tmp 0)⟩,
  ⟨none, .len 4 (.tmp 3)⟩,
  ⟨none, .bin 5 .gtr 3 (.tmp 4) (.const (.int .i64 500))⟩,
  ⟨none, .mov 2 (.tmp 5)⟩]
def Law_poolGreat_lc : LC := (.seq (.ops Law_poolGreat_r0) (.seq (.ops Law_poolGreat_r1) .ret))
@[reducible] def Law_poolGreat : FuncId := 31
theorem Law_poolGreat_low : lowF Try.prog Try.f31 = some Law_poolGreat_lc := by kernel_rfl
theorem Law_poolGreat_in {a0 : Value} {w : World} {R : Ending → World → Prop} (h : Law_poolGreat_lc.wp Try.prog (retQ Try.prog [.tmp 2] R) (argEnv [a0]) w) : Calls Try.prog Law_poolGreat ⟨[a0]⟩ w R :=
  calls_of_low Try.func31 Law_poolGreat_low (by kernel_rfl) (by kernel_rfl) h

/- 32 -/
def pool_New_r0 : List GO := [
  ⟨none, .mov 2 (.const (.pointer none))⟩,
  ⟨none, .alloc 3 48 [(.int .i64 0), (.int .i64 0)]⟩]
def pool_New_r1 : List GO := [
  ⟨none, .mov 6 (.tmp 0)⟩,
  ⟨none, .bin 7 .lss 3 (.tmp 6) (.const (.int .i64 0))⟩,
  ⟨none, .mov 8 (.tmp 7)⟩,
  ⟨some (8, false), .mov 9 (.tmp 0)⟩,
  ⟨some (8, false), .bin 10 .gtr 3 (.tmp 9) (.const (.int .i64 64))⟩,
  ⟨none, .pick 11 (.tmp 8) (.const (.bool true)) (.tmp 10)⟩]
def pool_New_r2 : List GO := [
  ⟨none, .build 12 [(.int .i64 0), (.int .i64 0)] [(0, (1, (.const (.int .i64 1)))), (1, (1, (.const (.int .i64 (-1)))))]⟩,
  ⟨none, .mov 2 (.const (.pointer none))⟩,
  ⟨none, .storen 2 (.tmp 3) (.tmp 12)⟩]
def pool_New_r3 : List GO := [
  ⟨none, .mov 13 (.tmp 0)⟩,
  ⟨none, .bin 14 .mul 3 (.tmp 13) (.const (.int .i64 16))⟩,
  ⟨none, .raw ⟨(some 15), (.makeSlice 55 (.tmp 14) (.tmp 14)), 55, "", #[], none⟩⟩,
  ⟨none, .mov 16 (.tmp 0)⟩,
  ⟨none, .raw ⟨(some 17), (.makeSlice 35 (.tmp 16) (.tmp 16)), 35, "", #[], none⟩⟩,
  ⟨none, .build 18 [(.slice none 0 0), (.slice none 0 0), (.slice none 0 0)] [(0, (1, (.tmp 15))), (2, (1, (.tmp 17)))]⟩,
  ⟨none, .box 19 134 (.tmp 18)⟩,
  ⟨none, .mov 4 (.tmp 19)⟩]
def pool_New_e3 : List (List Nat) := [[], [0], [1, 1], [], [3, 3], [2, 4], [5], [6, 0, 1, 2, 3, 4, 5, 6]]
def pool_New_r4 : List GO := [
  ⟨none, .mov 20 (.tmp 0)⟩,
  ⟨none, .mov 21 (.const (.int .i64 0))⟩]
def pool_New_r5 : List GO := [
  ⟨none, .bin 22 .lss 3 (.tmp 21) (.tmp 20)⟩]
def pool_New_r6 : List GO := [
  ⟨none, .mov 23 (.tmp 21)⟩,
  ⟨none, .mov 5 (.tmp 23)⟩]
def pool_New_r7 : List GO := [
  ⟨none, .mov 24 (.tmp 4)⟩,
  ⟨none, .mov 25 (.tmp 4)⟩,
  ⟨none, .nilc 26 (.tmp 25)⟩,
  ⟨none, .fld 27 (.tmp 26) 1⟩,
  ⟨none, .load1 28 (.tmp 27)⟩,
  ⟨none, .mov 29 (.tmp 0)⟩,
  ⟨none, .bin 30 .sub 3 (.tmp 29) (.const (.int .i64 1))⟩,
  ⟨none, .mov 31 (.tmp 5)⟩,
  ⟨none, .bin 32 .sub 3 (.tmp 30) (.tmp 31)⟩,
  ⟨none, .buildS 33 3 1 [(.int .i64 0)] [(0, (1, (.tmp 32)))]⟩,
  ⟨none, .raw ⟨(some 34), (.call ⟨(.builtin .append), #[(.tmp 28), (.tmp 33)], #[32, 32]⟩), 32, "", #[], none⟩⟩,
  ⟨none, .nilc 35 (.tmp 24)⟩,
  ⟨none, .fld 36 (.tmp 35) 1⟩,
  ⟨none, .store1 (.tmp 36) (.tmp 34)⟩]
def pool_New_r8 : List GO := [
  ⟨none, .bin 37 .add 3 (.tmp 21) (.const (.int .i64 1))⟩,
  ⟨none, .mov 21 (.tmp 37)⟩]
def pool_New_b5 : LC := (.seq (.ops pool_New_r5) (.seq (.cond (.tmp 22) .skip (.exit 0)) (.seq (.block 1 (.seq (.ops pool_New_r6) (.ops pool_New_r7))) (.ops pool_New_r8))))
def pool_New_r9 : List GO := [
  ⟨none, .mov 38 (.tmp 4)⟩,
  ⟨none, .build 39 [(.int .i64 0), (.int .i64 0)] []⟩,
  ⟨none, .mov 2 (.tmp 38)⟩,
  ⟨none, .storen 2 (.tmp 3) (.tmp 39)⟩]
def pool_New_lc : LC := (.seq (.ops pool_New_r0) (.seq (.seq (.ops pool_New_r1) (.cond (.tmp 11) (.seq (.ops pool_New_r2) .ret) .skip)) (.seq (.draw pool_New_r3 pool_New_e3) (.seq (.seq (.ops pool_New_r4) (.block 0 (.loop pool_New_b5))) (.seq (.ops pool_New_r9) .ret)))))
@[reducible] def pool_New : FuncId := 32
theorem pool_New_low : lowF Try.prog Try.f32 = some pool_New_lc := by kernel_rfl
theorem pool_New_in {a0 : Value} {w : World} {R : Ending → World → Prop} (h : pool_New_lc.wp Try.prog (retQ Try.prog [.tmp 2, .cell 3 48] R) (argEnv [a0]) w) : Calls Try.prog pool_New ⟨[a0]⟩ w R :=
  calls_of_low Try.func32 pool_New_low (by kernel_rfl) (by kernel_rfl) h

/- 33 -/
def R_NewPages_r0 : List GO := [
  ⟨none, .mov 2 (.const (.pointer none))⟩]
def R_NewPages_r1 : List GO := [
  ⟨none, .mov 3 (.tmp 0)⟩,
  ⟨none, .bin 4 .mul 3 (.tmp 3) (.const (.int .i64 16))⟩,
  ⟨none, .raw ⟨(some 5), (.makeSlice 55 (.tmp 4) (.tmp 4)), 55, "", #[], none⟩⟩,
  ⟨none, .mov 6 (.tmp 0)⟩,
  ⟨none, .build 7 [(.slice none 0 0), (.slice none 0 0), (.int .i64 0), (.int .i64 0)] [(0, (1, (.tmp 5))), (3, (1, (.tmp 6)))]⟩,
  ⟨none, .box 8 57 (.tmp 7)⟩,
  ⟨none, .mov 2 (.tmp 8)⟩]
def R_NewPages_lc : LC := (.seq (.ops R_NewPages_r0) (.seq (.ops R_NewPages_r1) .ret))
@[reducible] def R_NewPages : FuncId := 33
theorem R_NewPages_low : lowF Try.prog Try.f33 = some R_NewPages_lc := by kernel_rfl
theorem R_NewPages_in {a0 : Value} {w : World} {R : Ending → World → Prop} (h : R_NewPages_lc.wp Try.prog (retQ Try.prog [.tmp 2] R) (argEnv [a0]) w) : Calls Try.prog R_NewPages ⟨[a0]⟩ w R :=
  calls_of_low Try.func33 R_NewPages_low (by kernel_rfl) (by kernel_rfl) h

/- 34 -/
def pool_Pool_Take_r0 : List GO := [
  ⟨none, .mov 2 (.const (.int .i64 0))⟩]
def pool_Pool_Take_r1 : List GO := [
  ⟨none, .mov 5 (.tmp 0)⟩,
  ⟨none, .nilc 6 (.tmp 5)⟩,
  ⟨none, .fld 7 (.tmp 6) 1⟩,
  ⟨none, .load1 8 (.tmp 7)⟩,
  ⟨none, .len 9 (.tmp 8)⟩,
  ⟨none, .bin 10 .sub 3 (.tmp 9) (.const (.int .i64 1))⟩,
  ⟨none, .mov 3 (.tmp 10)⟩]
def pool_Pool_Take_r2 : List GO := [
  ⟨none, .mov 11 (.tmp 3)⟩,
  ⟨none, .bin 12 .lss 3 (.tmp 11) (.const (.int .i64 0))⟩]
def pool_Pool_Take_r3 : List GO := [
  ⟨none, .mov 2 (.const (.int .i64 (-1)))⟩]
def pool_Pool_Take_r4 : List GO := [
  ⟨none, .mov 13 (.tmp 0)⟩,
  ⟨none, .nilc 14 (.tmp 13)⟩,
  ⟨none, .fld 15 (.tmp 14) 1⟩,
  ⟨none, .load1 16 (.tmp 15)⟩,
  ⟨none, .mov 17 (.tmp 3)⟩,
  ⟨none, .idx 18 1 (.tmp 16) (.tmp 17)⟩,
  ⟨none, .load1 19 (.tmp 18)⟩,
  ⟨none, .mov 4 (.tmp 19)⟩]
def pool_Pool_Take_r5 : List GO := [
  ⟨none, .mov 20 (.tmp 0)⟩,
  ⟨none, .mov 21 (.tmp 0)⟩,
  ⟨none, .nilc 22 (.tmp 21)⟩,
  ⟨none, .fld 23 (.tmp 22) 1⟩,
  ⟨none, .load1 24 (.tmp 23)⟩,
  ⟨none, .mov 25 (.tmp 3)⟩,
  ⟨none, .sub 26 1 (.tmp 24) none (some (.tmp 25)) none⟩,
  ⟨none, .nilc 27 (.tmp 20)⟩,
  ⟨none, .fld 28 (.tmp 27) 1⟩,
  ⟨none, .store1 (.tmp 28) (.tmp 26)⟩]
def pool_Pool_Take_r6 : List GO := [
  ⟨none, .mov 29 (.tmp 0)⟩,
  ⟨none, .nilc 30 (.tmp 29)⟩,
  ⟨none, .fld 31 (.tmp 30) 2⟩,
  ⟨none, .load1 32 (.tmp 31)⟩,
  ⟨none, .mov 33 (.tmp 4)⟩,
  ⟨none, .idx 34 1 (.tmp 32) (.tmp 33)⟩,
  ⟨none, .store1 (.tmp 34) (.const (.bool true))⟩]
def pool_Pool_Take_r7 : List GO := [
  ⟨none, .mov 35 (.tmp 0)⟩,
  ⟨none, .nilc 36 (.tmp 35)⟩,
  ⟨none, .fld 37 (.tmp 36) 0⟩,
  ⟨none, .load1 38 (.tmp 37)⟩,
  ⟨none, .mov 39 (.tmp 4)⟩,
  ⟨none, .bin 40 .mul 3 (.tmp 39) (.const (.int .i64 16))⟩,
  ⟨none, .mov 41 (.tmp 4)⟩,
  ⟨none, .bin 42 .add 3 (.tmp 41) (.const (.int .i64 1))⟩,
  ⟨none, .bin 43 .mul 3 (.tmp 42) (.const (.int .i64 16))⟩,
  ⟨none, .sub 44 1 (.tmp 38) (some (.tmp 40)) (some (.tmp 43)) none⟩,
  ⟨none, .raw ⟨none, (.call ⟨(.builtin .clear), #[(.tmp 44)], #[55]⟩), 0, "", #[], none⟩⟩]
def pool_Pool_Take_r8 : List GO := [
  ⟨none, .mov 45 (.tmp 4)⟩,
  ⟨none, .mov 2 (.tmp 45)⟩]
def pool_Pool_Take_lc : LC := (.seq (.ops pool_Pool_Take_r0) (.seq (.ops pool_Pool_Take_r1) (.seq (.seq (.ops pool_Pool_Take_r2) (.cond (.tmp 12) (.seq (.ops pool_Pool_Take_r3) .ret) .skip)) (.seq (.ops pool_Pool_Take_r4) (.seq (.ops pool_Pool_Take_r5) (.seq (.ops pool_Pool_Take_r6) (.seq (.ops pool_Pool_Take_r7) (.seq (.ops pool_Pool_Take_r8) .ret))))))))
@[reducible] def pool_Pool_Take : FuncId := 34
theorem pool_Pool_Take_low : lowF Try.prog Try.f34 = some pool_Pool_Take_lc := by kernel_rfl
theorem pool_Pool_Take_in {a0 : Value} {w : World} {R : Ending → World → Prop} (h : pool_Pool_Take_lc.wp Try.prog (retQ Try.prog [.tmp 2] R) (argEnv [a0]) w) : Calls Try.prog pool_Pool_Take ⟨[a0]⟩ w R :=
  calls_of_low Try.func34 pool_Pool_Take_low (by kernel_rfl) (by kernel_rfl) h

/- 35 -/
def R_Pages_Take_r0 : List GO := [
  ⟨none, .mov 2 (.const (.int .i64 0))⟩]
def R_Pages_Take_r1 : List GO := [
  ⟨none, .mov 5 (.tmp 0)⟩,
  ⟨none, .nilc 6 (.tmp 5)⟩,
  ⟨none, .fld 7 (.tmp 6) 2⟩,
  ⟨none, .load1 8 (.tmp 7)⟩,
  ⟨none, .mov 3 (.tmp 8)⟩]
def R_Pages_Take_r2 : List GO := [
  ⟨none, .mov 9 (.tmp 0)⟩,
  ⟨none, .nilc 10 (.tmp 9)⟩,
  ⟨none, .fld 11 (.tmp 10) 1⟩,
  ⟨none, .load1 12 (.tmp 11)⟩,
  ⟨none, .len 13 (.tmp 12)⟩,
  ⟨none, .bin 14 .gtr 3 (.tmp 13) (.const (.int .i64 0))⟩]
def R_Pages_Take_r3 : List GO := [
  ⟨none, .mov 15 (.tmp 0)⟩,
  ⟨none, .nilc 16 (.tmp 15)⟩,
  ⟨none, .fld 17 (.tmp 16) 1⟩,
  ⟨none, .load1 18 (.tmp 17)⟩,
  ⟨none, .mov 19 (.tmp 0)⟩,
  ⟨none, .nilc 20 (.tmp 19)⟩,
  ⟨none, .fld 21 (.tmp 20) 1⟩,
  ⟨none, .load1 22 (.tmp 21)⟩,
  ⟨none, .len 23 (.tmp 22)⟩,
  ⟨none, .bin 24 .sub 3 (.tmp 23) (.const (.int .i64 1))⟩,
  ⟨none, .idx 25 1 (.tmp 18) (.tmp 24)⟩,
  ⟨none, .load1 26 (.tmp 25)⟩,
  ⟨none, .mov 3 (.tmp 26)⟩]
def R_Pages_Take_e3 : List (List Nat) := [[], [0], [1], [2], [], [4], [5], [6], [7], [8], [3, 9], [10], [11, 0, 1, 2, 3, 4, 5, 6, 7, 8, 9, 10, 11]]
def R_Pages_Take_r4 : List GO := [
  ⟨none, .mov 27 (.tmp 0)⟩,
  ⟨none, .mov 28 (.tmp 0)⟩,
  ⟨none, .nilc 29 (.tmp 28)⟩,
  ⟨none, .fld 30 (.tmp 29) 1⟩,
  ⟨none, .load1 31 (.tmp 30)⟩,
  ⟨none, .mov 32 (.tmp 0)⟩,
  ⟨none, .nilc 33 (.tmp 32)⟩,
  ⟨none, .fld 34 (.tmp 33) 1⟩,
  ⟨none, .load1 35 (.tmp 34)⟩,
  ⟨none, .len 36 (.tmp 35)⟩,
  ⟨none, .bin 37 .sub 3 (.tmp 36) (.const (.int .i64 1))⟩,
  ⟨none, .sub 38 1 (.tmp 31) none (some (.tmp 37)) none⟩,
  ⟨none, .nilc 39 (.tmp 27)⟩,
  ⟨none, .fld 40 (.tmp 39) 1⟩,
  ⟨none, .store1 (.tmp 40) (.tmp 38)⟩]
def R_Pages_Take_e4 : List (List Nat) := [[], [], [1], [2], [3], [], [5], [6], [7], [8], [9], [4, 10], [0, 0, 1, 2, 3, 4, 5, 6, 7, 8, 9, 10, 11], [12, 0, 1, 2, 3, 4, 5, 6, 7, 8, 9, 10, 11], [13, 11, 0, 1, 2, 3, 4, 5, 6, 7, 8, 9, 10, 11]]
def R_Pages_Take_r5 : List GO := [
  ⟨none, .mov 41 (.tmp 0)⟩,
  ⟨none, .nilc 42 (.tmp 41)⟩,
  ⟨none, .fld 43 (.tmp 42) 2⟩,
  ⟨none, .load1 44 (.tmp 43)⟩,
  ⟨none, .mov 45 (.tmp 0)⟩,
  ⟨none, .nilc 46 (.tmp 45)⟩,
  ⟨none, .fld 47 (.tmp 46) 3⟩,
  ⟨none, .load1 48 (.tmp 47)⟩,
  ⟨none, .bin 49 .eql 3 (.tmp 44) (.tmp 48)⟩]
def R_Pages_Take_e5 : List (List Nat) := [[], [0], [1], [2], [], [4], [5], [6], [3, 7]]
def R_Pages_Take_r6 : List GO := [
  ⟨none, .mov 2 (.const (.int .i64 (-1)))⟩]
def R_Pages_Take_r7 : List GO := [
  ⟨none, .mov 50 (.tmp 0)⟩,
  ⟨none, .nilc 51 (.tmp 50)⟩,
  ⟨none, .fld 52 (.tmp 51) 2⟩,
  ⟨none, .load1 53 (.tmp 52)⟩,
  ⟨none, .bin 54 .add 3 (.tmp 53) (.const (.int .i64 1))⟩,
  ⟨none, .nilc 55 (.tmp 50)⟩,
  ⟨none, .fld 56 (.tmp 55) 2⟩,
  ⟨none, .store1 (.tmp 56) (.tmp 54)⟩]
def R_Pages_Take_r8 : List GO := [
  ⟨none, .mov 4 (.const (.int .i64 0))⟩]
def R_Pages_Take_r9 : List GO := [
  ⟨none, .mov 57 (.tmp 4)⟩,
  ⟨none, .bin 58 .lss 3 (.tmp 57) (.const (.int .i64 16))⟩]
def R_Pages_Take_r10 : List GO := [
  ⟨none, .mov 61 (.tmp 0)⟩,
  ⟨none, .nilc 62 (.tmp 61)⟩,
  ⟨none, .fld 63 (.tmp 62) 0⟩,
  ⟨none, .load1 64 (.tmp 63)⟩,
  ⟨none, .mov 65 (.tmp 3)⟩,
  ⟨none, .bin 66 .mul 3 (.tmp 65) (.const (.int .i64 16))⟩,
  ⟨none, .mov 67 (.tmp 4)⟩,
  ⟨none, .bin 68 .add 3 (.tmp 66) (.tmp 67)⟩,
  ⟨none, .idx 69 1 (.tmp 64) (.tmp 68)⟩,
  ⟨none, .store1 (.tmp 69) (.const (.int .i64 0))⟩]
def R_Pages_Take_r11 : List GO := [
  ⟨none, .mov 59 (.tmp 4)⟩,
  ⟨none, .bin 60 .add 3 (.tmp 59) (.const (.int .i64 1))⟩,
  ⟨none, .mov 4 (.tmp 60)⟩]
def R_Pages_Take_b9 : LC := (.seq (.seq (.ops R_Pages_Take_r9) (.cond (.tmp 58) .skip (.exit 0))) (.seq (.block 1 (.ops R_Pages_Take_r10)) (.ops R_Pages_Take_r11)))
def R_Pages_Take_r12 : List GO := [
  ⟨none, .mov 70 (.tmp 3)⟩,
  ⟨none, .mov 2 (.tmp 70)⟩]
def R_Pages_Take_lc : LC := (.seq (.ops R_Pages_Take_r0) (.seq (.ops R_Pages_Take_r1) (.seq (.seq (.ops R_Pages_Take_r2) (.cond (.tmp 14) (.seq (.draw R_Pages_Take_r3 R_Pages_Take_e3) (.draw R_Pages_Take_r4 R_Pages_Take_e4)) (.seq (.draw R_Pages_Take_r5 R_Pages_Take_e5) (.cond (.tmp 49) (.seq (.ops R_Pages_Take_r6) .ret) (.ops R_Pages_Take_r7))))) (.seq (.seq (.ops R_Pages_Take_r8) (.block 0 (.loop R_Pages_Take_b9))) (.seq (.ops R_Pages_Take_r12) .ret)))))
@[reducible] def R_Pages_Take : FuncId := 35
theorem R_Pages_Take_low : lowF Try.prog Try.f35 = some R_Pages_Take_lc := by kernel_rfl
theorem R_Pages_Take_in {a0 : Value} {w : World} {R : Ending → World → Prop} (h : R_Pages_Take_lc.wp Try.prog (retQ Try.prog [.tmp 2] R) (argEnv [a0]) w) : Calls Try.prog R_Pages_Take ⟨[a0]⟩ w R :=
  calls_of_low Try.func35 R_Pages_Take_low (by kernel_rfl) (by kernel_rfl) h

/- 36 -/
def pool_Pool_Give_r0 : List GO := [
  ⟨none, .mov 4 (.const (.bool false))⟩]
def pool_Pool_Give_r1 : List GO := [
  ⟨none, .mov 5 (.tmp 1)⟩,
  ⟨none, .bin 6 .lss 3 (.tmp 5) (.const (.int .i64 0))⟩,
  ⟨none, .mov 7 (.tmp 6)⟩,
  ⟨some (7, false), .mov 8 (.tmp 1)⟩,
  ⟨some (7, false), .mov 9 (.tmp 0)⟩,
  ⟨some (7, false), .nilc 10 (.tmp 9)⟩,
  ⟨some (7, false), .fld 11 (.tmp 10) 2⟩,
  ⟨some (7, false), .load1 12 (.tmp 11)⟩,
  ⟨some (7, false), .len 13 (.tmp 12)⟩,
  ⟨some (7, false), .bin 14 .geq 3 (.tmp 8) (.tmp 13)⟩,
  ⟨none, .pick 15 (.tmp 7) (.const (.bool true)) (.tmp 14)⟩,
  ⟨none, .mov 16 (.tmp 15)⟩,
  ⟨some (16, false), .mov 17 (.tmp 0)⟩,
  ⟨some (16, false), .nilc 18 (.tmp 17)⟩,
  ⟨some (16, false), .fld 19 (.tmp 18) 2⟩,
  ⟨some (16, false), .load1 20 (.tmp 19)⟩,
  ⟨some (16, false), .mov 21 (.tmp 1)⟩,
  ⟨some (16, false), .idx 22 1 (.tmp 20) (.tmp 21)⟩,
  ⟨some (16, false), .load1 23 (.tmp 22)⟩,
  ⟨some (16, false), .un 24 .not (.tmp 23)⟩,
  ⟨none, .pick 25 (.tmp 16) (.const (.bool true)) (.tmp 24)⟩]
def pool_Pool_Give_r2 : List GO := [
  ⟨none, .mov 4 (.const (.bool false))⟩]
def pool_Pool_Give_r3 : List GO := [
  ⟨none, .mov 26 (.tmp 0)⟩,
  ⟨none, .nilc 27 (.tmp 26)⟩,
  ⟨none, .fld 28 (.tmp 27) 2⟩,
  ⟨none, .load1 29 (.tmp 28)⟩,
  ⟨none, .mov 30 (.tmp 1)⟩,
  ⟨none, .idx 31 1 (.tmp 29) (.tmp 30)⟩,
  ⟨none, .store1 (.tmp 31) (.const (.bool false))⟩]
def pool_Pool_Give_r4 : List GO := [
  ⟨none, .mov 32 (.tmp 0)⟩,
  ⟨none, .mov 33 (.tmp 0)⟩,
  ⟨none, .nilc 34 (.tmp 33)⟩,
  ⟨none, .fld 35 (.tmp 34) 1⟩,
  ⟨none, .load1 36 (.tmp 35)⟩,
  ⟨none, .mov 37 (.tmp 1)⟩,
  ⟨none, .buildS 38 3 1 [(.int .i64 0)] [(0, (1, (.tmp 37)))]⟩,
  ⟨none, .raw ⟨(some 39), (.call ⟨(.builtin .append), #[(.tmp 36), (.tmp 38)], #[32, 32]⟩), 32, "", #[], none⟩⟩,
  ⟨none, .nilc 40 (.tmp 32)⟩,
  ⟨none, .fld 41 (.tmp 40) 1⟩,
  ⟨none, .store1 (.tmp 41) (.tmp 39)⟩]
def pool_Pool_Give_r5 : List GO := [
  ⟨none, .mov 4 (.const (.bool true))⟩]
def pool_Pool_Give_lc : LC := (.seq (.ops pool_Pool_Give_r0) (.seq (.seq (.ops pool_Pool_Give_r1) (.cond (.tmp 25) (.seq (.ops pool_Pool_Give_r2) .ret) .skip)) (.seq (.ops pool_Pool_Give_r3) (.seq (.ops pool_Pool_Give_r4) (.seq (.ops pool_Pool_Give_r5) .ret)))))
@[reducible] def pool_Pool_Give : FuncId := 36
theorem pool_Pool_Give_low : lowF Try.prog Try.f36 = some pool_Pool_Give_lc := by kernel_rfl
theorem pool_Pool_Give_in {a0 a1 : Value} {w : World} {R : Ending → World → Prop} (h : pool_Pool_Give_lc.wp Try.prog (retQ Try.prog [.tmp 4] R) (argEnv [a0, a1]) w) : Calls Try.prog pool_Pool_Give ⟨[a0, a1]⟩ w R :=
  calls_of_low Try.func36 pool_Pool_Give_low (by kernel_rfl) (by kernel_rfl) h

/- 37 -/
def R_Pages_Give_r0 : List GO := [
  ⟨none, .mov 4 (.const (.bool false))⟩]
def R_Pages_Give_r1 : List GO := [
  ⟨none, .mov 6 (.tmp 0)⟩,
  ⟨none, .mov 7 (.tmp 1)⟩,
  ⟨none, .call (some 8) 82 [(.tmp 6), (.tmp 7)]⟩,
  ⟨none, .un 9 .not (.tmp 8)⟩]
def R_Pages_Give_r2 : List GO := [
  ⟨none, .mov 4 (.const (.bool false))⟩]
def R_Pages_Give_r3 : List GO := [
  ⟨none, .mov 5 (.const (.slice none 0 0))⟩]
def R_Pages_Give_r4 : List GO := [
  ⟨none, .mov 10 (.tmp 0)⟩,
  ⟨none, .mov 11 (.tmp 5)⟩,
  ⟨none, .mov 12 (.tmp 0)⟩,
  ⟨none, .nilc 13 (.tmp 12)⟩,
  ⟨none, .fld 14 (.tmp 13) 1⟩,
  ⟨none, .load1 15 (.tmp 14)⟩,
  ⟨none, .raw ⟨(some 16), (.call ⟨(.builtin .append), #[(.tmp 11), (.tmp 15)], #[32, 32]⟩), 32, "", #[], none⟩⟩,
  ⟨none, .mov 17 (.tmp 1)⟩,
  ⟨none, .buildS 18 3 1 [(.int .i64 0)] [(0, (1, (.tmp 17)))]⟩,
  ⟨none, .raw ⟨(some 19), (.call ⟨(.builtin .append), #[(.tmp 16), (.tmp 18)], #[32, 32]⟩), 32, "", #[], none⟩⟩,
  ⟨none, .nilc 20 (.tmp 10)⟩,
  ⟨none, .fld 21 (.tmp 20) 1⟩,
  ⟨none, .store1 (.tmp 21) (.tmp 19)⟩]
def R_Pages_Give_r5 : List GO := [
  ⟨none, .mov 4 (.const (.bool true))⟩]
def R_Pages_Give_lc : LC := (.seq (.ops R_Pages_Give_r0) (.seq (.seq (.ops R_Pages_Give_r1) (.cond (.tmp 9) (.seq (.ops R_Pages_Give_r2) .ret) .skip)) (.seq (.ops R_Pages_Give_r3) (.seq (.ops R_Pages_Give_r4) (.seq (.ops R_Pages_Give_r5) .ret)))))
@[reducible] def R_Pages_Give : FuncId := 37
theorem R_Pages_Give_low : lowF Try.prog Try.f37 = some R_Pages_Give_lc := by kernel_rfl
theorem R_Pages_Give_in {a0 a1 : Value} {w : World} {R : Ending → World → Prop} (h : R_Pages_Give_lc.wp Try.prog (retQ Try.prog [.tmp 4] R) (argEnv [a0, a1]) w) : Calls Try.prog R_Pages_Give ⟨[a0, a1]⟩ w R :=
  calls_of_low Try.func37 R_Pages_Give_low (by kernel_rfl) (by kernel_rfl) h

/- 38 -/
def pool_Pool_Store_r0 : List GO := [
  ⟨none, .mov 6 (.const (.bool false))⟩]
def pool_Pool_Store_r1 : List GO := [
  ⟨none, .mov 7 (.tmp 1)⟩,
  ⟨none, .bin 8 .lss 3 (.tmp 7) (.const (.int .i64 0))⟩,
  ⟨none, .mov 9 (.tmp 8)⟩,
  ⟨some (9, false), .mov 10 (.tmp 1)⟩,
  ⟨some (9, false), .mov 11 (.tmp 0)⟩,
  ⟨some (9, false), .nilc 12 (.tmp 11)⟩,
  ⟨some (9, false), .fld 13 (.tmp 12) 0⟩,
  ⟨some (9, false), .load1 14 (.tmp 13)⟩,
  ⟨some (9, false), .len 15 (.tmp 14)⟩,
  ⟨some (9, false), .bin 16 .geq 3 (.tmp 10) (.tmp 15)⟩,
  ⟨none, .pick 17 (.tmp 9) (.const (.bool true)) (.tmp 16)⟩]
def pool_Pool_Store_r2 : List GO := [
  ⟨none, .mov 6 (.const (.bool false))⟩]
def pool_Pool_Store_r3 : List GO := [
  ⟨none, .mov 18 (.tmp 0)⟩,
  ⟨none, .nilc 19 (.tmp 18)⟩,
  ⟨none, .fld 20 (.tmp 19) 0⟩,
  ⟨none, .load1 21 (.tmp 20)⟩,
  ⟨none, .mov 22 (.tmp 1)⟩,
  ⟨none, .mov 23 (.tmp 2)⟩,
  ⟨none, .idx 24 1 (.tmp 21) (.tmp 22)⟩,
  ⟨none, .store1 (.tmp 24) (.tmp 23)⟩]
def pool_Pool_Store_r4 : List GO := [
  ⟨none, .mov 6 (.const (.bool true))⟩]
def pool_Pool_Store_lc : LC := (.seq (.ops pool_Pool_Store_r0) (.seq (.seq (.ops pool_Pool_Store_r1) (.cond (.tmp 17) (.seq (.ops pool_Pool_Store_r2) .ret) .skip)) (.seq (.ops pool_Pool_Store_r3) (.seq (.ops pool_Pool_Store_r4) .ret))))
@[reducible] def pool_Pool_Store : FuncId := 38
theorem pool_Pool_Store_low : lowF Try.prog Try.f38 = some pool_Pool_Store_lc := by kernel_rfl
theorem pool_Pool_Store_in {a0 a1 a2 : Value} {w : World} {R : Ending → World → Prop} (h : pool_Pool_Store_lc.wp Try.prog (retQ Try.prog [.tmp 6] R) (argEnv [a0, a1, a2]) w) : Calls Try.prog pool_Pool_Store ⟨[a0, a1, a2]⟩ w R :=
  calls_of_low Try.func38 pool_Pool_Store_low (by kernel_rfl) (by kernel_rfl) h

/- 39 -/
def pool_Pool_Load_r0 : List GO := [
  ⟨none, .mov 4 (.const (.int .i64 0))⟩,
  ⟨none, .mov 5 (.const (.bool false))⟩]
def pool_Pool_Load_r1 : List GO := [
  ⟨none, .mov 6 (.tmp 1)⟩,
  ⟨none, .bin 7 .lss 3 (.tmp 6) (.const (.int .i64 0))⟩,
  ⟨none, .mov 8 (.tmp 7)⟩,
  ⟨some (8, false), .mov 9 (.tmp 1)⟩,
  ⟨some (8, false), .mov 10 (.tmp 0)⟩,
  ⟨some (8, false), .nilc 11 (.tmp 10)⟩,
  ⟨some (8, false), .fld 12 (.tmp 11) 0⟩,
  ⟨some (8, false), .load1 13 (.tmp 12)⟩,
  ⟨some (8, false), .len 14 (.tmp 13)⟩,
  ⟨some (8, false), .bin 15 .geq 3 (.tmp 9) (.tmp 14)⟩,
  ⟨none, .pick 16 (.tmp 8) (.const (.bool true)) (.tmp 15)⟩]
def pool_Pool_Load_r2 : List GO := [
  ⟨none, .mov 4 (.const (.int .i64 0))⟩,
  ⟨none, .mov 5 (.const (.bool false))⟩]
def pool_Pool_Load_r3 : List GO := [
  ⟨none, .mov 17 (.tmp 0)⟩,
  ⟨none, .nilc 18 (.tmp 17)⟩,
  ⟨none, .fld 19 (.tmp 18) 0⟩,
  ⟨none, .load1 20 (.tmp 19)⟩,
  ⟨none, .mov 21 (.tmp 1)⟩,
  ⟨none, .idx 22 1 (.tmp 20) (.tmp 21)⟩,
  ⟨none, .load1 23 (.tmp 22)⟩,
  ⟨none, .mov 4 (.tmp 23)⟩,
  ⟨none, .mov 5 (.const (.bool true))⟩]
def pool_Pool_Load_lc : LC := (.seq (.ops pool_Pool_Load_r0) (.seq (.seq (.ops pool_Pool_Load_r1) (.cond (.tmp 16) (.seq (.ops pool_Pool_Load_r2) .ret) .skip)) (.seq (.ops pool_Pool_Load_r3) .ret)))
@[reducible] def pool_Pool_Load : FuncId := 39
theorem pool_Pool_Load_low : lowF Try.prog Try.f39 = some pool_Pool_Load_lc := by kernel_rfl
theorem pool_Pool_Load_in {a0 a1 : Value} {w : World} {R : Ending → World → Prop} (h : pool_Pool_Load_lc.wp Try.prog (retQ Try.prog [.tmp 4, .tmp 5] R) (argEnv [a0, a1]) w) : Calls Try.prog pool_Pool_Load ⟨[a0, a1]⟩ w R :=
  calls_of_low Try.func39 pool_Pool_Load_low (by kernel_rfl) (by kernel_rfl) h

/- 40 -/
def R_SameLongs_r0 : List GO := [
  ⟨none, .mov 4 (.const (.bool false))⟩]
def R_SameLongs_r1 : List GO := [
  ⟨none, .mov 6 (.tmp 0)⟩,
  ⟨none, .len 7 (.tmp 6)⟩,
  ⟨none, .mov 8 (.tmp 1)⟩,
  ⟨none, .len 9 (.tmp 8)⟩,
  ⟨none, .bin 10 .neq 3 (.tmp 7) (.tmp 9)⟩]
def R_SameLongs_r2 : List GO := [
  ⟨none, .mov 4 (.const (.bool false))⟩]
def R_SameLongs_r3 : List GO := [
  ⟨none, .mov 5 (.const (.int .i64 0))⟩]
def R_SameLongs_r4 : List GO := [
  ⟨none, .mov 11 (.tmp 5)⟩,
  ⟨none, .mov 12 (.tmp 0)⟩,
  ⟨none, .len 13 (.tmp 12)⟩,
  ⟨none, .bin 14 .lss 3 (.tmp 11) (.tmp 13)⟩]
def R_SameLongs_r5 : List GO := [
  ⟨none, .mov 17 (.tmp 0)⟩,
  ⟨none, .mov 18 (.tmp 5)⟩,
  ⟨none, .idx 19 1 (.tmp 17) (.tmp 18)⟩,
  ⟨none, .load1 20 (.tmp 19)⟩,
  ⟨none, .mov 21 (.tmp 1)⟩,
  ⟨none, .mov 22 (.tmp 5)⟩,
  ⟨none, .idx 23 1 (.tmp 21) (.tmp 22)⟩,
  ⟨none, .load1 24 (.tmp 23)⟩,
  ⟨none, .bin 25 .neq 2 (.tmp 20) (.tmp 24)⟩]
def R_SameLongs_e5 : List (List Nat) := [[], [], [0, 1], [2], [], [], [4, 5], [6], [3, 7]]
def R_SameLongs_r6 : List GO := [
  ⟨none, .mov 4 (.const (.bool false))⟩]
def R_SameLongs_r7 : List GO := [
  ⟨none, .mov 15 (.tmp 5)⟩,
  ⟨none, .bin 16 .add 3 (.tmp 15) (.const (.int .i64 1))⟩,
  ⟨none, .mov 5 (.tmp 16)⟩]
def R_SameLongs_b4 : LC := (.seq (.seq (.ops R_SameLongs_r4) (.cond (.tmp 14) .skip (.exit 0))) (.seq (.block 1 (.seq (.draw R_SameLongs_r5 R_SameLongs_e5) (.cond (.tmp 25) (.seq (.ops R_SameLongs_r6) .ret) .skip))) (.ops R_SameLongs_r7)))
def R_SameLongs_r8 : List GO := [
  ⟨none, .mov 4 (.const (.bool true))⟩]
def R_SameLongs_lc : LC := (.seq (.ops R_SameLongs_r0) (.seq (.seq (.ops R_SameLongs_r1) (.cond (.tmp 10) (.seq (.ops R_SameLongs_r2) .ret) .skip)) (.seq (.seq (.ops R_SameLongs_r3) (.block 0 (.loop R_SameLongs_b4))) (.seq (.ops R_SameLongs_r8) .ret))))
@[reducible] def R_SameLongs : FuncId := 40
theorem R_SameLongs_low : lowF Try.prog Try.f40 = some R_SameLongs_lc := by kernel_rfl
theorem R_SameLongs_in {a0 a1 : Value} {w : World} {R : Ending → World → Prop} (h : R_SameLongs_lc.wp Try.prog (retQ Try.prog [.tmp 4] R) (argEnv [a0, a1]) w) : Calls Try.prog R_SameLongs ⟨[a0, a1]⟩ w R :=
  calls_of_low Try.func40 R_SameLongs_low (by kernel_rfl) (by kernel_rfl) h

/- 41 -/
def pool_Pool_Words_r0 : List GO := [
  ⟨none, .mov 2 (.const (.slice none 0 0))⟩]
def pool_Pool_Words_r1 : List GO := [
  ⟨none, .mov 3 (.tmp 0)⟩,
  ⟨none, .nilc 4 (.tmp 3)⟩,
  ⟨none, .fld 5 (.tmp 4) 0⟩,
  ⟨none, .load1 6 (.tmp 5)⟩,
  ⟨none, .call (some 7) 83 [(.tmp 6)]⟩,
  ⟨none, .mov 2 (.tmp 7)⟩]
def pool_Pool_Words_lc : LC := (.seq (.ops pool_Pool_Words_r0) (.seq (.ops pool_Pool_Words_r1) .ret))
@[reducible] def pool_Pool_Words : FuncId := 41
theorem pool_Pool_Words_low : lowF Try.prog Try.f41 = some pool_Pool_Words_lc := by kernel_rfl
theorem pool_Pool_Words_in {a0 : Value} {w : World} {R : Ending → World → Prop} (h : pool_Pool_Words_lc.wp Try.prog (retQ Try.prog [.tmp 2] R) (argEnv [a0]) w) : Calls Try.prog pool_Pool_Words ⟨[a0]⟩ w R :=
  calls_of_low Try.func41 pool_Pool_Words_low (by kernel_rfl) (by kernel_rfl) h

/- 42 -/
def pool_Pool_Free_r0 : List GO := [
  ⟨none, .mov 2 (.const (.int .i64 0))⟩]
def pool_Pool_Free_r1 : List GO := [
  ⟨none, .mov 3 (.tmp 0)⟩,
  ⟨none, .nilc 4 (.tmp 3)⟩,
  ⟨none, .fld 5 (.tmp 4) 1⟩,
  ⟨none, .load1 6 (.tmp 5)⟩,
  ⟨none, .len 7 (.tmp 6)⟩,
  ⟨none, .mov 2 (.tmp 7)⟩]
def pool_Pool_Free_lc : LC := (.seq (.ops pool_Pool_Free_r0) (.seq (.ops pool_Pool_Free_r1) .ret))
@[reducible] def pool_Pool_Free : FuncId := 42
theorem pool_Pool_Free_low : lowF Try.prog Try.f42 = some pool_Pool_Free_lc := by kernel_rfl
theorem pool_Pool_Free_in {a0 : Value} {w : World} {R : Ending → World → Prop} (h : pool_Pool_Free_lc.wp Try.prog (retQ Try.prog [.tmp 2] R) (argEnv [a0]) w) : Calls Try.prog pool_Pool_Free ⟨[a0]⟩ w R :=
  calls_of_low Try.func42 pool_Pool_Free_low (by kernel_rfl) (by kernel_rfl) h

/- 43 -/
def R_Pages_Free_r0 : List GO := [
  ⟨none, .mov 2 (.const (.int .i64 0))⟩]
def R_Pages_Free_r1 : List GO := [
  ⟨none, .mov 3 (.tmp 0)⟩,
  ⟨none, .nilc 4 (.tmp 3)⟩,
  ⟨none, .fld 5 (.tmp 4) 3⟩,
  ⟨none, .load1 6 (.tmp 5)⟩,
  ⟨none, .mov 7 (.tmp 0)⟩,
  ⟨none, .nilc 8 (.tmp 7)⟩,
  ⟨none, .fld 9 (.tmp 8) 2⟩,
  ⟨none, .load1 10 (.tmp 9)⟩,
  ⟨none, .bin 11 .sub 3 (.tmp 6) (.tmp 10)⟩,
  ⟨none, .mov 12 (.tmp 0)⟩,
  ⟨none, .nilc 13 (.tmp 12)⟩,
  ⟨none, .fld 14 (.tmp 13) 1⟩,
  ⟨none, .load1 15 (.tmp 14)⟩,
  ⟨none, .len 16 (.tmp 15)⟩,
  ⟨none, .bin 17 .add 3 (.tmp 11) (.tmp 16)⟩,
  ⟨none, .mov 2 (.tmp 17)⟩]
def R_Pages_Free_e1 : List (List Nat) := [[], [0], [1], [2], [], [4], [5], [6], [3, 7], [], [9], [10], [11], [12], [8, 13], [14, 0, 1, 2, 3, 4, 5, 6, 7, 8, 9, 10, 11, 12, 13, 14]]
def R_Pages_Free_lc : LC := (.seq (.ops R_Pages_Free_r0) (.seq (.draw R_Pages_Free_r1 R_Pages_Free_e1) .ret))
@[reducible] def R_Pages_Free : FuncId := 43
theorem R_Pages_Free_low : lowF Try.prog Try.f43 = some R_Pages_Free_lc := by kernel_rfl
theorem R_Pages_Free_in {a0 : Value} {w : World} {R : Ending → World → Prop} (h : R_Pages_Free_lc.wp Try.prog (retQ Try.prog [.tmp 2] R) (argEnv [a0]) w) : Calls Try.prog R_Pages_Free ⟨[a0]⟩ w R :=
  calls_of_low Try.func43 R_Pages_Free_low (by kernel_rfl) (by kernel_rfl) h

/- 82 -/
def R_Pages_Taken_r0 : List GO := [
  ⟨none, .mov 4 (.const (.bool false))⟩]
def R_Pages_Taken_r1 : List GO := [
  ⟨none, .mov 5 (.tmp 1)⟩,
  ⟨none, .bin 6 .geq 3 (.tmp 5) (.const (.int .i64 0))⟩,
  ⟨none, .mov 7 (.tmp 6)⟩,
  ⟨some (7, true), .mov 8 (.tmp 1)⟩,
  ⟨some (7, true), .mov 9 (.tmp 0)⟩,
  ⟨some (7, true), .nilc 10 (.tmp 9)⟩,
  ⟨some (7, true), .fld 11 (.tmp 10) 2⟩,
  ⟨some (7, true), .load1 12 (.tmp 11)⟩,
  ⟨some (7, true), .bin 13 .lss 3 (.tmp 8) (.tmp 12)⟩,
  ⟨none, .pick 14 (.tmp 7) (.tmp 13) (.const (.bool false))⟩,
  ⟨none, .mov 15 (.tmp 14)⟩,
  ⟨some (15, true), .mov 16 (.tmp 0)⟩,
  ⟨some (15, true), .nilc 17 (.tmp 16)⟩,
  ⟨some (15, true), .fld 18 (.tmp 17) 1⟩,
  ⟨some (15, true), .load1 19 (.tmp 18)⟩,
  ⟨some (15, true), .mov 20 (.tmp 1)⟩,
  ⟨some (15, true), .call (some 21) 44 [(.tmp 19), (.tmp 20)]⟩,
  ⟨some (15, true), .un 22 .not (.tmp 21)⟩,
  ⟨none, .pick 23 (.tmp 15) (.tmp 22) (.const (.bool false))⟩,
  ⟨none, .mov 4 (.tmp 23)⟩]
def R_Pages_Taken_lc : LC := (.seq (.ops R_Pages_Taken_r0) (.seq (.ops R_Pages_Taken_r1) .ret))
@[reducible] def R_Pages_Taken : FuncId := 82
theorem R_Pages_Taken_low : lowF Try.prog Try.f82 = some R_Pages_Taken_lc := by kernel_rfl
theorem R_Pages_Taken_in {a0 a1 : Value} {w : World} {R : Ending → World → Prop} (h : R_Pages_Taken_lc.wp Try.prog (retQ Try.prog [.tmp 4] R) (argEnv [a0, a1]) w) : Calls Try.prog R_Pages_Taken ⟨[a0, a1]⟩ w R :=
  calls_of_low Try.func82 R_Pages_Taken_low (by kernel_rfl) (by kernel_rfl) h

/- 83 -/
def slices_Clone_int64_int64_r0 : List GO := [
  ⟨none, .mov 2 (.const (.slice none 0 0))⟩]
def slices_Clone_int64_int64_r1 : List GO := [
  ⟨none, .mov 3 (.tmp 0)⟩,
  ⟨none, .bin 4 .eql 55 (.tmp 3) (.const (.slice none 0 0))⟩]
def slices_Clone_int64_int64_r2 : List GO := [
  ⟨none, .mov 2 (.const (.slice none 0 0))⟩]
def slices_Clone_int64_int64_r3 : List GO := [
  ⟨none, .raw ⟨(some 5), (.buildSlice 55 0 #[]), 55, "", #[], none⟩⟩,
  ⟨none, .mov 6 (.tmp 0)⟩,
  ⟨none, .raw ⟨(some 7), (.call ⟨(.builtin .append), #[(.tmp 5), (.tmp 6)], #[55, 55]⟩), 55, "", #[], none⟩⟩,
  ⟨none, .mov 2 (.tmp 7)⟩]
def slices_Clone_int64_int64_lc : LC := (.seq (.ops slices_Clone_int64_int64_r0) (.seq (.seq (.ops slices_Clone_int64_int64_r1) (.cond (.tmp 4) (.seq (.ops slices_Clone_int64_int64_r2) .ret) .skip)) (.seq (.ops slices_Clone_int64_int64_r3) .ret)))
@[reducible] def slices_Clone_int64_int64 : FuncId := 83
theorem slices_Clone_int64_int64_low : lowF Try.prog Try.f83 = some slices_Clone_int64_int64_lc := by kernel_rfl
theorem slices_Clone_int64_int64_in {a0 : Value} {w : World} {R : Ending → World → Prop} (h : slices_Clone_int64_int64_lc.wp Try.prog (retQ Try.prog [.tmp 2] R) (argEnv [a0]) w) : Calls Try.prog slices_Clone_int64_int64 ⟨[a0]⟩ w R :=
  calls_of_low Try.func83 slices_Clone_int64_int64_low (by kernel_rfl) (by kernel_rfl) h

end Go.Proofs.Ytocllfbfogcbgaa