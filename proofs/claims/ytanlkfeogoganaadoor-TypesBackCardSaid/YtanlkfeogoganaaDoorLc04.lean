/- The functions, lowered: printed by a program off the translation. -/
import Derived.Test.YtanlkfeogoganaaDoorProg
import Derived.Test.YtanlkfeogoganaaDoorLirStep
namespace Go.Proofs.YtanlkfeogoganaaDoor
open Go.Lir
set_option maxRecDepth 100000

/- 3 -/
/- 4 -/
def Law_TypesBack_r0 : List GO := [
  ⟨none, .box 3 24 (.tmp 0)⟩,
  ⟨none, .mov 6 (.const (.bool false))⟩]
def Law_TypesBack_r1 : List GO := [
  ⟨none, .call (some 24) 5 []⟩,
  ⟨none, .un 25 .not (.tmp 24)⟩]
def Law_TypesBack_r2 : List GO := [
  ⟨none, .mov 6 (.const (.bool false))⟩]
def Law_TypesBack_r3 : List GO := [
  ⟨none, .loadn 26 3 (.tmp 3)⟩,
  ⟨none, .call (some 27) 6 [(.tmp 26)]⟩]
def Law_TypesBack_r4 : List GO := [
  ⟨none, .mov 6 (.const (.bool true))⟩]
def Law_TypesBack_r5 : List GO := [
  ⟨none, .mov 7 (.const (.int .i64 16))⟩]
def Law_TypesBack_r6 : List GO := [
  ⟨none, .mov 28 (.tmp 7)⟩,
  ⟨none, .raw ⟨(some 29), (.makeSlice 25 (.tmp 28) (.tmp 28)), 25, "", #[], none⟩⟩,
  ⟨none, .mov 30 (.tmp 7)⟩,
  ⟨none, .raw ⟨(some 31), (.makeSlice 25 (.tmp 30) (.tmp 30)), 25, "", #[], none⟩⟩,
  ⟨none, .mov 32 (.tmp 7)⟩,
  ⟨none, .raw ⟨(some 33), (.makeSlice 25 (.tmp 32) (.tmp 32)), 25, "", #[], none⟩⟩,
  ⟨none, .mov 34 (.tmp 7)⟩,
  ⟨none, .raw ⟨(some 35), (.makeSlice 25 (.tmp 34) (.tmp 34)), 25, "", #[], none⟩⟩,
  ⟨none, .mov 8 (.tmp 29)⟩,
  ⟨none, .mov 9 (.tmp 31)⟩,
  ⟨none, .mov 10 (.tmp 33)⟩,
  ⟨none, .mov 11 (.tmp 35)⟩]
def Law_TypesBack_e6 : List (List Nat) := [[], [0, 0], [], [2, 2], [], [4, 4], [], [6, 6], [1, 0, 1], [3, 8, 0, 1, 2, 3, 8], [5, 9, 0, 1, 2, 3, 4, 5, 8, 9], [7, 10, 0, 1, 2, 3, 4, 5, 6, 7, 8, 9, 10]]
def Law_TypesBack_r7 : List GO := [
  ⟨none, .mov 36 (.tmp 1)⟩,
  ⟨none, .conv 37 .u64 (.tmp 36)⟩,
  ⟨none, .mov 38 (.tmp 7)⟩,
  ⟨none, .conv 39 .u64 (.tmp 38)⟩,
  ⟨none, .bin 40 .rem 35 (.tmp 37) (.tmp 39)⟩,
  ⟨none, .conv 41 .i64 (.tmp 40)⟩,
  ⟨none, .mov 42 (.tmp 2)⟩,
  ⟨none, .conv 43 .u64 (.tmp 42)⟩,
  ⟨none, .mov 44 (.tmp 7)⟩,
  ⟨none, .conv 45 .u64 (.tmp 44)⟩,
  ⟨none, .bin 46 .rem 35 (.tmp 43) (.tmp 45)⟩,
  ⟨none, .conv 47 .i64 (.tmp 46)⟩,
  ⟨none, .mov 12 (.tmp 41)⟩,
  ⟨none, .mov 13 (.tmp 47)⟩]
def Law_TypesBack_e7 : List (List Nat) := [[], [0], [], [2], [1, 3], [4], [], [6], [], [8], [7, 9], [10], [5, 0, 1, 2, 3, 4, 5], [11, 12, 0, 1, 2, 3, 4, 5, 6, 7, 8, 9, 10, 11, 12]]
def Law_TypesBack_r8 : List GO := [
  ⟨none, .mov 14 (.const (.int .i64 0))⟩]
def Law_TypesBack_r9 : List GO := [
  ⟨none, .mov 48 (.tmp 14)⟩,
  ⟨none, .mov 49 (.tmp 7)⟩,
  ⟨none, .bin 50 .lss 3 (.tmp 48) (.tmp 49)⟩]
def Law_TypesBack_r10 : List GO := [
  ⟨none, .mov 53 (.tmp 8)⟩,
  ⟨none, .mov 54 (.tmp 14)⟩,
  ⟨none, .mov 55 (.tmp 14)⟩,
  ⟨none, .mov 56 (.tmp 12)⟩,
  ⟨none, .bin 57 .add 3 (.tmp 55) (.tmp 56)⟩,
  ⟨none, .mov 58 (.tmp 7)⟩,
  ⟨none, .bin 59 .rem 3 (.tmp 57) (.tmp 58)⟩,
  ⟨none, .idx 60 1 (.tmp 53) (.tmp 54)⟩,
  ⟨none, .store1 (.tmp 60) (.tmp 59)⟩]
def Law_TypesBack_r11 : List GO := [
  ⟨none, .mov 61 (.tmp 9)⟩,
  ⟨none, .mov 62 (.tmp 14)⟩,
  ⟨none, .mov 63 (.tmp 12)⟩,
  ⟨none, .bin 64 .add 3 (.tmp 62) (.tmp 63)⟩,
  ⟨none, .mov 65 (.tmp 7)⟩,
  ⟨none, .bin 66 .rem 3 (.tmp 64) (.tmp 65)⟩,
  ⟨none, .mov 67 (.tmp 14)⟩,
  ⟨none, .idx 68 1 (.tmp 61) (.tmp 66)⟩,
  ⟨none, .store1 (.tmp 68) (.tmp 67)⟩]
def Law_TypesBack_r12 : List GO := [
  ⟨none, .mov 69 (.tmp 10)⟩,
  ⟨none, .mov 70 (.tmp 14)⟩,
  ⟨none, .mov 71 (.tmp 14)⟩,
  ⟨none, .bin 72 .mul 3 (.tmp 71) (.const (.int .i64 3))⟩,
  ⟨none, .mov 73 (.tmp 13)⟩,
  ⟨none, .bin 74 .add 3 (.tmp 72) (.tmp 73)⟩,
  ⟨none, .mov 75 (.tmp 7)⟩,
  ⟨none, .bin 76 .rem 3 (.tmp 74) (.tmp 75)⟩,
  ⟨none, .idx 77 1 (.tmp 69) (.tmp 70)⟩,
  ⟨none, .store1 (.tmp 77) (.tmp 76)⟩]
def Law_TypesBack_r13 : List GO := [
  ⟨none, .mov 51 (.tmp 14)⟩,
  ⟨none, .bin 52 .add 3 (.tmp 51) (.const (.int .i64 1))⟩,
  ⟨none, .mov 14 (.tmp 52)⟩]
def Law_TypesBack_b9 : LC := (.seq (.seq (.ops Law_TypesBack_r9) (.cond (.tmp 50) .skip (.exit 0))) (.seq (.block 1 (.seq (.ops Law_TypesBack_r10) (.seq (.ops Law_TypesBack_r11) (.ops Law_TypesBack_r12)))) (.ops Law_TypesBack_r13)))
def Law_TypesBack_r14 : List GO := [
  ⟨none, .mov 15 (.const (.int .i64 0))⟩]
def Law_TypesBack_r15 : List GO := [
  ⟨none, .mov 78 (.tmp 15)⟩,
  ⟨none, .mov 79 (.tmp 7)⟩,
  ⟨none, .bin 80 .lss 3 (.tmp 78) (.tmp 79)⟩]
def Law_TypesBack_r16 : List GO := [
  ⟨none, .mov 83 (.tmp 11)⟩,
  ⟨none, .mov 84 (.tmp 15)⟩,
  ⟨none, .mov 85 (.tmp 10)⟩,
  ⟨none, .mov 86 (.tmp 8)⟩,
  ⟨none, .mov 87 (.tmp 15)⟩,
  ⟨none, .idx 88 1 (.tmp 86) (.tmp 87)⟩,
  ⟨none, .load1 89 (.tmp 88)⟩,
  ⟨none, .idx 90 1 (.tmp 85) (.tmp 89)⟩,
  ⟨none, .load1 91 (.tmp 90)⟩,
  ⟨none, .idx 92 1 (.tmp 83) (.tmp 84)⟩,
  ⟨none, .store1 (.tmp 92) (.tmp 91)⟩]
def Law_TypesBack_r17 : List GO := [
  ⟨none, .mov 81 (.tmp 15)⟩,
  ⟨none, .bin 82 .add 3 (.tmp 81) (.const (.int .i64 1))⟩,
  ⟨none, .mov 15 (.tmp 82)⟩]
def Law_TypesBack_b15 : LC := (.seq (.seq (.ops Law_TypesBack_r15) (.cond (.tmp 80) .skip (.exit 2))) (.seq (.block 3 (.ops Law_TypesBack_r16)) (.ops Law_TypesBack_r17)))
def Law_TypesBack_r18 : List GO := [
  ⟨none, .loadn 94 3 (.tmp 3)⟩,
  ⟨none, .mov 95 (.tmp 8)⟩,
  ⟨none, .call (some 96) 8 [(.tmp 94), (.tmp 95)]⟩,
  ⟨none, .mov 93 (.tmp 96)⟩,
  ⟨none, .ext 97 (.tmp 93) 0⟩,
  ⟨none, .ext 98 (.tmp 93) 1⟩,
  ⟨none, .alloc 16 24 [(.int .i64 0), (.int .i64 0), (.slice none 0 0)]⟩,
  ⟨none, .storen 3 (.tmp 16) (.tmp 97)⟩,
  ⟨none, .mov 17 (.tmp 98)⟩]
def Law_TypesBack_r19 : List GO := [
  ⟨none, .mov 99 (.tmp 17)⟩,
  ⟨none, .un 100 .not (.tmp 99)⟩]
def Law_TypesBack_r20 : List GO := [
  ⟨none, .loadn 101 3 (.tmp 3)⟩,
  ⟨none, .mov 102 (.tmp 7)⟩,
  ⟨none, .call (some 103) 10 [(.tmp 101), (.tmp 102)]⟩,
  ⟨none, .bin 104 .neq 3 (.tmp 103) (.const (.int .i64 0))⟩,
  ⟨none, .mov 6 (.tmp 104)⟩]
def Law_TypesBack_r21 : List GO := [
  ⟨none, .loadn 106 3 (.tmp 16)⟩,
  ⟨none, .mov 107 (.tmp 9)⟩,
  ⟨none, .call (some 108) 8 [(.tmp 106), (.tmp 107)]⟩,
  ⟨none, .mov 105 (.tmp 108)⟩,
  ⟨none, .ext 109 (.tmp 105) 0⟩,
  ⟨none, .ext 110 (.tmp 105) 1⟩,
  ⟨none, .alloc 18 24 [(.int .i64 0), (.int .i64 0), (.slice none 0 0)]⟩,
  ⟨none, .storen 3 (.tmp 18) (.tmp 109)⟩,
  ⟨none, .mov 19 (.tmp 110)⟩]
def Law_TypesBack_r22 : List GO := [
  ⟨none, .loadn 112 3 (.tmp 16)⟩,
  ⟨none, .mov 113 (.tmp 10)⟩,
  ⟨none, .call (some 114) 8 [(.tmp 112), (.tmp 113)]⟩,
  ⟨none, .mov 111 (.tmp 114)⟩,
  ⟨none, .ext 115 (.tmp 111) 0⟩,
  ⟨none, .ext 116 (.tmp 111) 1⟩,
  ⟨none, .alloc 20 24 [(.int .i64 0), (.int .i64 0), (.slice none 0 0)]⟩,
  ⟨none, .storen 3 (.tmp 20) (.tmp 115)⟩,
  ⟨none, .mov 21 (.tmp 116)⟩]
def Law_TypesBack_r23 : List GO := [
  ⟨none, .loadn 118 3 (.tmp 3)⟩,
  ⟨none, .mov 119 (.tmp 11)⟩,
  ⟨none, .call (some 120) 8 [(.tmp 118), (.tmp 119)]⟩,
  ⟨none, .mov 117 (.tmp 120)⟩,
  ⟨none, .ext 121 (.tmp 117) 0⟩,
  ⟨none, .ext 122 (.tmp 117) 1⟩,
  ⟨none, .alloc 22 24 [(.int .i64 0), (.int .i64 0), (.slice none 0 0)]⟩,
  ⟨none, .storen 3 (.tmp 22) (.tmp 121)⟩,
  ⟨none, .mov 23 (.tmp 122)⟩]
def Law_TypesBack_r24 : List GO := [
  ⟨none, .mov 123 (.tmp 19)⟩,
  ⟨none, .mov 124 (.tmp 123)⟩,
  ⟨some (124, true), .loadn 125 3 (.tmp 3)⟩,
  ⟨some (124, true), .loadn 126 3 (.tmp 18)⟩,
  ⟨some (124, true), .call (some 127) 12 [(.tmp 125), (.tmp 126)]⟩,
  ⟨none, .pick 128 (.tmp 124) (.tmp 127) (.const (.bool false))⟩,
  ⟨none, .mov 129 (.tmp 128)⟩,
  ⟨some (129, true), .mov 130 (.tmp 21)⟩,
  ⟨none, .pick 131 (.tmp 129) (.tmp 130) (.const (.bool false))⟩,
  ⟨none, .mov 132 (.tmp 131)⟩,
  ⟨some (132, true), .mov 133 (.tmp 23)⟩,
  ⟨none, .pick 134 (.tmp 132) (.tmp 133) (.const (.bool false))⟩,
  ⟨none, .mov 135 (.tmp 134)⟩,
  ⟨some (135, true), .loadn 136 3 (.tmp 20)⟩,
  ⟨some (135, true), .loadn 137 3 (.tmp 22)⟩,
  ⟨some (135, true), .call (some 138) 12 [(.tmp 136), (.tmp 137)]⟩,
  ⟨none, .pick 139 (.tmp 135) (.tmp 138) (.const (.bool false))⟩,
  ⟨none, .mov 140 (.tmp 139)⟩,
  ⟨some (140, true), .loadn 141 3 (.tmp 16)⟩,
  ⟨some (140, true), .mov 142 (.tmp 7)⟩,
  ⟨some (140, true), .call (some 143) 10 [(.tmp 141), (.tmp 142)]⟩,
  ⟨some (140, true), .loadn 144 3 (.tmp 3)⟩,
  ⟨some (140, true), .mov 145 (.tmp 7)⟩,
  ⟨some (140, true), .call (some 146) 10 [(.tmp 144), (.tmp 145)]⟩,
  ⟨some (140, true), .bin 147 .eql 3 (.tmp 143) (.tmp 146)⟩,
  ⟨none, .pick 148 (.tmp 140) (.tmp 147) (.const (.bool false))⟩,
  ⟨none, .mov 6 (.tmp 148)⟩]
def Law_TypesBack_e24 : List (List Nat) := [[], [0], [1], [1], [2, 3, 1, 1], [1, 4], [5, 4], [6], [6, 7], [8, 6], [9], [9, 10], [11, 9], [12], [12], [13, 14, 12, 12], [12, 15], [16, 15], [17], [17], [18, 19, 17, 17], [17], [17], [21, 22, 20, 17], [20, 23, 17], [17, 24], [25, 23, 0, 1, 2, 3, 4, 5, 6, 7, 8, 9, 10, 11, 12, 13, 14, 15, 16, 17, 18, 19, 20, 21, 22, 23, 24, 25]]
def Law_TypesBack_lc : LC := (.seq (.ops Law_TypesBack_r0) (.seq (.seq (.ops Law_TypesBack_r1) (.cond (.tmp 25) (.seq (.ops Law_TypesBack_r2) .ret) .skip)) (.seq (.seq (.ops Law_TypesBack_r3) (.cond (.tmp 27) (.seq (.ops Law_TypesBack_r4) .ret) .skip)) (.seq (.ops Law_TypesBack_r5) (.seq (.draw Law_TypesBack_r6 Law_TypesBack_e6) (.seq (.draw Law_TypesBack_r7 Law_TypesBack_e7) (.seq (.seq (.ops Law_TypesBack_r8) (.block 0 (.loop Law_TypesBack_b9))) (.seq (.seq (.ops Law_TypesBack_r14) (.block 2 (.loop Law_TypesBack_b15))) (.seq (.ops Law_TypesBack_r18) (.seq (.seq (.ops Law_TypesBack_r19) (.cond (.tmp 100) (.seq (.ops Law_TypesBack_r20) .ret) .skip)) (.seq (.ops Law_TypesBack_r21) (.seq (.ops Law_TypesBack_r22) (.seq (.ops Law_TypesBack_r23) (.seq (.draw Law_TypesBack_r24 Law_TypesBack_e24) .ret))))))))))))))
@[reducible] def Law_TypesBack : FuncId := 4
theorem Law_TypesBack_low : lowF Tryd.prog Tryd.f4 = some Law_TypesBack_lc := by kernel_rfl
theorem Law_TypesBack_in {a0 a1 a2 : Value} {w : World} {R : Ending → World → Prop} (h : Law_TypesBack_lc.wp Tryd.prog (retQ Tryd.prog [.tmp 6] R) (argEnv [a0, a1, a2]) w) : Calls Tryd.prog Law_TypesBack ⟨[a0, a1, a2]⟩ w R :=
  calls_of_low Tryd.func4 Law_TypesBack_low (by kernel_rfl) (by kernel_rfl) h

/- 5 -/
def Law_typesBegun_r0 : List GO := [
  ⟨none, .mov 0 (.const (.bool false))⟩]
def Law_typesBegun_r1 : List GO := [
  ⟨none, .build 4 [(.int .i64 0), (.int .i64 0), (.slice none 0 0)] [(0, (1, (.const (.int .i64 1))))]⟩,
  ⟨none, .build 5 [(.int .i64 0), (.int .i64 0), (.slice none 0 0)] [(0, (1, (.const (.int .i64 4)))), (1, (1, (.const (.int .i64 1))))]⟩,
  ⟨none, .buildS 6 24 2 [(.int .i64 0), (.int .i64 0), (.slice none 0 0), (.int .i64 0), (.int .i64 0), (.slice none 0 0)] [(0, (3, (.tmp 4))), (3, (3, (.tmp 5)))]⟩,
  ⟨none, .build 7 [(.int .i64 0), (.int .i64 0), (.slice none 0 0)] [(0, (1, (.const (.int .i64 3)))), (2, (1, (.tmp 6)))]⟩,
  ⟨none, .alloc 1 24 [(.int .i64 0), (.int .i64 0), (.slice none 0 0)]⟩,
  ⟨none, .storen 3 (.tmp 1) (.tmp 7)⟩]
def Law_typesBegun_r2 : List GO := [
  ⟨none, .loadn 9 3 (.tmp 1)⟩,
  ⟨none, .buildS 10 3 2 [(.int .i64 0), (.int .i64 0)] [(0, (1, (.const (.int .i64 5)))), (1, (1, (.const (.int .i64 3))))]⟩,
  ⟨none, .call (some 11) 8 [(.tmp 9), (.tmp 10)]⟩,
  ⟨none, .mov 8 (.tmp 11)⟩,
  ⟨none, .ext 12 (.tmp 8) 0⟩,
  ⟨none, .ext 13 (.tmp 8) 1⟩,
  ⟨none, .alloc 2 24 [(.int .i64 0), (.int .i64 0), (.slice none 0 0)]⟩,
  ⟨none, .storen 3 (.tmp 2) (.tmp 12)⟩,
  ⟨none, .mov 3 (.tmp 13)⟩]
def Law_typesBegun_r3 : List GO := [
  ⟨none, .mov 14 (.tmp 3)⟩,
  ⟨none, .mov 15 (.tmp 14)⟩,
  ⟨some (15, true), .loadn 16 3 (.tmp 1)⟩,
  ⟨some (15, true), .call (some 17) 10 [(.tmp 16), (.const (.int .i64 2))]⟩,
  ⟨some (15, true), .bin 18 .eql 3 (.tmp 17) (.const (.int .i64 0))⟩,
  ⟨none, .pick 19 (.tmp 15) (.tmp 18) (.const (.bool false))⟩,
  ⟨none, .mov 20 (.tmp 19)⟩,
  ⟨some (20, true), .loadn 21 3 (.tmp 1)⟩,
  ⟨some (20, true), .call (some 22) 10 [(.tmp 21), (.const (.int .i64 1))]⟩,
  ⟨some (20, true), .bin 23 .eql 3 (.tmp 22) (.const (.int .i64 1))⟩,
  ⟨none, .pick 24 (.tmp 20) (.tmp 23) (.const (.bool false))⟩,
  ⟨none, .mov 25 (.tmp 24)⟩,
  ⟨some (25, true), .loadn 26 3 (.tmp 1)⟩,
  ⟨some (25, true), .loadn 27 3 (.tmp 2)⟩,
  ⟨some (25, true), .call (some 28) 12 [(.tmp 26), (.tmp 27)]⟩,
  ⟨some (25, true), .un 29 .not (.tmp 28)⟩,
  ⟨none, .pick 30 (.tmp 25) (.tmp 29) (.const (.bool false))⟩,
  ⟨none, .mov 31 (.tmp 30)⟩,
  ⟨some (31, true), .loadn 32 3 (.tmp 2)⟩,
  ⟨some (31, true), .call (some 33) 14 [(.tmp 32)]⟩,
  ⟨some (31, true), .bin 34 .eql 9 (.tmp 33) (.const (.string ⟨#[116, 117, 112, 108, 101, 32, 53, 32, 40, 105, 110, 116, 44, 32, 97, 114, 114, 97, 121, 32, 51, 41]⟩))⟩,
  ⟨none, .pick 35 (.tmp 31) (.tmp 34) (.const (.bool false))⟩,
  ⟨none, .mov 0 (.tmp 35)⟩]
def Law_typesBegun_lc : LC := (.seq (.ops Law_typesBegun_r0) (.seq (.ops Law_typesBegun_r1) (.seq (.ops Law_typesBegun_r2) (.seq (.ops Law_typesBegun_r3) .ret))))
@[reducible] def Law_typesBegun : FuncId := 5
theorem Law_typesBegun_low : lowF Tryd.prog Tryd.f5 = some Law_typesBegun_lc := by kernel_rfl
theorem Law_typesBegun_in {w : World} {R : Ending → World → Prop} (h : Law_typesBegun_lc.wp Tryd.prog (retQ Tryd.prog [.tmp 0] R) (argEnv []) w) : Calls Tryd.prog Law_typesBegun ⟨[]⟩ w R :=
  calls_of_low Tryd.func5 Law_typesBegun_low (by kernel_rfl) (by kernel_rfl) h

/- 6 -/
def R_GreatType_r0 : List GO := [
  ⟨none, .box 1 24 (.tmp 0)⟩,
  ⟨none, .mov 2 (.const (.bool false))⟩]
def R_GreatType_r1 : List GO := [
  ⟨none, .loadn 3 3 (.tmp 1)⟩,
  ⟨none, .call (some 4) 16 [(.tmp 3), (.const (.int .i64 2000))]⟩,
  ⟨none, .bin 5 .lss 3 (.tmp 4) (.const (.int .i64 0))⟩,
  ⟨none, .mov 2 (.tmp 5)⟩]
def R_GreatType_lc : LC := (.seq (.ops R_GreatType_r0) (.seq (.ops R_GreatType_r1) .ret))
@[reducible] def R_GreatType : FuncId := 6
theorem R_GreatType_low : lowF Tryd.prog Tryd.f6 = some R_GreatType_lc := by kernel_rfl
theorem R_GreatType_in {a0 : Value} {w : World} {R : Ending → World → Prop} (h : R_GreatType_lc.wp Tryd.prog (retQ Tryd.prog [.tmp 2] R) (argEnv [a0]) w) : Calls Tryd.prog R_GreatType ⟨[a0]⟩ w R :=
  calls_of_low Tryd.func6 R_GreatType_low (by kernel_rfl) (by kernel_rfl) h

/- 7 -/
/- 8 -/
def types_Rename_r0 : List GO := [
  ⟨none, .box 2 24 (.tmp 0)⟩,
  ⟨none, .alloc 4 24 [(.int .i64 0), (.int .i64 0), (.slice none 0 0)]⟩,
  ⟨none, .mov 5 (.const (.bool false))⟩]
def types_Rename_r1 : List GO := [
  ⟨none, .fld 11 (.tmp 2) 0⟩,
  ⟨none, .load1 12 (.tmp 11)⟩,
  ⟨none, .fld 13 (.tmp 2) 1⟩,
  ⟨none, .load1 14 (.tmp 13)⟩,
  ⟨none, .build 15 [(.int .i64 0), (.int .i64 0), (.slice none 0 0)] [(0, (1, (.tmp 12))), (1, (1, (.tmp 14)))]⟩,
  ⟨none, .alloc 6 24 [(.int .i64 0), (.int .i64 0), (.slice none 0 0)]⟩,
  ⟨none, .storen 3 (.tmp 6) (.tmp 15)⟩]
def types_Rename_r2 : List GO := [
  ⟨none, .fld 16 (.tmp 2) 0⟩,
  ⟨none, .load1 17 (.tmp 16)⟩,
  ⟨none, .bin 18 .neq 3 (.tmp 17) (.const (.int .i64 1))⟩]
def types_Rename_r3 : List GO := [
  ⟨none, .fld 19 (.tmp 2) 1⟩,
  ⟨none, .load1 20 (.tmp 19)⟩,
  ⟨none, .bin 21 .lss 3 (.tmp 20) (.const (.int .i64 0))⟩,
  ⟨none, .mov 22 (.tmp 21)⟩,
  ⟨some (22, false), .fld 23 (.tmp 2) 1⟩,
  ⟨some (22, false), .load1 24 (.tmp 23)⟩,
  ⟨some (22, false), .mov 25 (.tmp 1)⟩,
  ⟨some (22, false), .len 26 (.tmp 25)⟩,
  ⟨some (22, false), .bin 27 .geq 3 (.tmp 24) (.tmp 26)⟩,
  ⟨none, .pick 28 (.tmp 22) (.const (.bool true)) (.tmp 27)⟩,
  ⟨none, .mov 29 (.tmp 28)⟩,
  ⟨some (29, false), .mov 30 (.tmp 1)⟩,
  ⟨some (29, false), .fld 31 (.tmp 2) 1⟩,
  ⟨some (29, false), .load1 32 (.tmp 31)⟩,
  ⟨some (29, false), .idx 33 1 (.tmp 30) (.tmp 32)⟩,
  ⟨some (29, false), .load1 34 (.tmp 33)⟩,
  ⟨some (29, false), .bin 35 .lss 3 (.tmp 34) (.const (.int .i64 0))⟩,
  ⟨none, .pick 36 (.tmp 29) (.const (.bool true)) (.tmp 35)⟩]
def types_Rename_r4 : List GO := [
  ⟨none, .build 37 [(.int .i64 0), (.int .i64 0), (.slice none 0 0)] []⟩,
  ⟨none, .storen 3 (.tmp 4) (.tmp 37)⟩,
  ⟨none, .mov 5 (.const (.bool false))⟩]
def types_Rename_r5 : List GO := [
  ⟨none, .mov 38 (.tmp 1)⟩,
  ⟨none, .fld 39 (.tmp 2) 1⟩,
  ⟨none, .load1 40 (.tmp 39)⟩,
  ⟨none, .idx 41 1 (.tmp 38) (.tmp 40)⟩,
  ⟨none, .load1 42 (.tmp 41)⟩,
  ⟨none, .fld 43 (.tmp 6) 1⟩,
  ⟨none, .store1 (.tmp 43) (.tmp 42)⟩]
def types_Rename_r6 : List GO := [
  ⟨none, .fld 44 (.tmp 2) 2⟩,
  ⟨none, .load1 45 (.tmp 44)⟩,
  ⟨none, .len 46 (.tmp 45)⟩,
  ⟨none, .mov 47 (.const (.int .i64 0))⟩]
def types_Rename_r7 : List GO := [
  ⟨none, .bin 48 .lss 3 (.tmp 47) (.tmp 46)⟩]
def types_Rename_r8 : List GO := [
  ⟨none, .idx 49 3 (.tmp 45) (.tmp 47)⟩,
  ⟨none, .loadn 50 3 (.tmp 49)⟩,
  ⟨none, .alloc 8 24 [(.int .i64 0), (.int .i64 0), (.slice none 0 0)]⟩,
  ⟨none, .storen 3 (.tmp 8) (.tmp 50)⟩]
def types_Rename_r9 : List GO := [
  ⟨none, .loadn 52 3 (.tmp 8)⟩,
  ⟨none, .mov 53 (.tmp 1)⟩,
  ⟨none, .call (some 54) 8 [(.tmp 52), (.tmp 53)]⟩,
  ⟨none, .mov 51 (.tmp 54)⟩,
  ⟨none, .ext 55 (.tmp 51) 0⟩,
  ⟨none, .ext 56 (.tmp 51) 1⟩,
  ⟨none, .alloc 9 24 [(.int .i64 0), (.int .i64 0), (.slice none 0 0)]⟩,
  ⟨none, .storen 3 (.tmp 9) (.tmp 55)⟩,
  ⟨none, .mov 10 (.tmp 56)⟩]
def types_Rename_r10 : List GO := [
  ⟨none, .mov 57 (.tmp 10)⟩,
  ⟨none, .un 58 .not (.tmp 57)⟩]
def types_Rename_r11 : List GO := [
  ⟨none, .build 59 [(.int .i64 0), (.int .i64 0), (.slice none 0 0)] []⟩,
  ⟨none, .storen 3 (.tmp 4) (.tmp 59)⟩,
  ⟨none, .mov 5 (.const (.bool false))⟩]
def types_Rename_r12 : List GO := [
  ⟨none, .fld 60 (.tmp 6) 2⟩,
  ⟨none, .load1 61 (.tmp 60)⟩,
  ⟨none, .loadn 62 3 (.tmp 9)⟩,
  ⟨none, .buildS 63 24 1 [(.int .i64 0), (.int .i64 0), (.slice none 0 0)] [(0, (3, (.tmp 62)))]⟩,
  ⟨none, .raw ⟨(some 64), (.call ⟨(.builtin .append), #[(.tmp 61), (.tmp 63)], #[22, 22]⟩), 22, "", #[], none⟩⟩,
  ⟨none, .fld 65 (.tmp 6) 2⟩,
  ⟨none, .store1 (.tmp 65) (.tmp 64)⟩]
def types_Rename_r13 : List GO := [
  ⟨none, .bin 66 .add 3 (.tmp 47) (.const (.int .i64 1))⟩,
  ⟨none, .mov 47 (.tmp 66)⟩]
def types_Rename_b7 : LC := (.seq (.ops types_Rename_r7) (.seq (.cond (.tmp 48) .skip (.exit 0)) (.seq (.block 1 (.seq (.ops types_Rename_r8) (.seq (.ops types_Rename_r9) (.seq (.seq (.ops types_Rename_r10) (.cond (.tmp 58) (.seq (.ops types_Rename_r11) .ret) .skip)) (.ops types_Rename_r12))))) (.ops types_Rename_r13))))
def types_Rename_r14 : List GO := [
  ⟨none, .loadn 67 3 (.tmp 6)⟩,
  ⟨none, .storen 3 (.tmp 4) (.tmp 67)⟩,
  ⟨none, .mov 5 (.const (.bool true))⟩]
def types_Rename_lc : LC := (.seq (.ops types_Rename_r0) (.seq (.ops types_Rename_r1) (.seq (.seq (.ops types_Rename_r2) (.cond (.tmp 18) (.seq (.seq (.ops types_Rename_r3) (.cond (.tmp 36) (.seq (.ops types_Rename_r4) .ret) .skip)) (.ops types_Rename_r5)) .skip)) (.seq (.seq (.ops types_Rename_r6) (.block 0 (.loop types_Rename_b7))) (.seq (.ops types_Rename_r14) .ret)))))
@[reducible] def types_Rename : FuncId := 8
theorem types_Rename_low : lowF Tryd.prog Tryd.f8 = some types_Rename_lc := by kernel_rfl
theorem types_Rename_in {a0 a1 : Value} {w : World} {R : Ending → World → Prop} (h : types_Rename_lc.wp Tryd.prog (retQ Tryd.prog [.cell 4 24, .tmp 5] R) (argEnv [a0, a1]) w) : Calls Tryd.prog types_Rename ⟨[a0, a1]⟩ w R :=
  calls_of_low Tryd.func8 types_Rename_low (by kernel_rfl) (by kernel_rfl) h

/- 9 -/
/- 10 -/
def types_Check_r0 : List GO := [
  ⟨none, .box 2 24 (.tmp 0)⟩,
  ⟨none, .mov 4 (.const (.int .i64 0))⟩]
def types_Check_r1 : List GO := [
  ⟨none, .loadn 5 3 (.tmp 2)⟩,
  ⟨none, .call (some 6) 18 [(.tmp 5), (.const (.int .i64 4))]⟩,
  ⟨none, .un 7 .not (.tmp 6)⟩]
def types_Check_r2 : List GO := [
  ⟨none, .mov 4 (.const (.int .i64 19))⟩]
def types_Check_r3 : List GO := [
  ⟨none, .loadn 8 3 (.tmp 2)⟩,
  ⟨none, .mov 9 (.tmp 1)⟩,
  ⟨none, .call (some 10) 19 [(.tmp 8), (.tmp 9)]⟩,
  ⟨none, .mov 4 (.tmp 10)⟩]
def types_Check_lc : LC := (.seq (.ops types_Check_r0) (.seq (.seq (.ops types_Check_r1) (.cond (.tmp 7) (.seq (.ops types_Check_r2) .ret) .skip)) (.seq (.ops types_Check_r3) .ret)))
@[reducible] def types_Check : FuncId := 10
theorem types_Check_low : lowF Tryd.prog Tryd.f10 = some types_Check_lc := by kernel_rfl
theorem types_Check_in {a0 a1 : Value} {w : World} {R : Ending → World → Prop} (h : types_Check_lc.wp Tryd.prog (retQ Tryd.prog [.tmp 4] R) (argEnv [a0, a1]) w) : Calls Tryd.prog types_Check ⟨[a0, a1]⟩ w R :=
  calls_of_low Tryd.func10 types_Check_low (by kernel_rfl) (by kernel_rfl) h

/- 11 -/
/- 12 -/
def types_Same_r0 : List GO := [
  ⟨none, .box 2 24 (.tmp 0)⟩,
  ⟨none, .box 3 24 (.tmp 1)⟩,
  ⟨none, .mov 4 (.const (.bool false))⟩]
def types_Same_r1 : List GO := [
  ⟨none, .fld 5 (.tmp 2) 0⟩,
  ⟨none, .load1 6 (.tmp 5)⟩,
  ⟨none, .fld 7 (.tmp 3) 0⟩,
  ⟨none, .load1 8 (.tmp 7)⟩,
  ⟨none, .bin 9 .eql 3 (.tmp 6) (.tmp 8)⟩,
  ⟨none, .mov 10 (.tmp 9)⟩,
  ⟨some (10, true), .fld 11 (.tmp 2) 1⟩,
  ⟨some (10, true), .load1 12 (.tmp 11)⟩,
  ⟨some (10, true), .fld 13 (.tmp 3) 1⟩,
  ⟨some (10, true), .load1 14 (.tmp 13)⟩,
  ⟨some (10, true), .bin 15 .eql 3 (.tmp 12) (.tmp 14)⟩,
  ⟨none, .pick 16 (.tmp 10) (.tmp 15) (.const (.bool false))⟩,
  ⟨none, .mov 17 (.tmp 16)⟩,
  ⟨some (17, true), .fld 18 (.tmp 2) 2⟩,
  ⟨some (17, true), .load1 19 (.tmp 18)⟩,
  ⟨some (17, true), .fld 20 (.tmp 3) 2⟩,
  ⟨some (17, true), .load1 21 (.tmp 20)⟩,
  ⟨some (17, true), .call (some 22) 22 [(.tmp 19), (.tmp 21), (.func 12)]⟩,
  ⟨none, .pick 23 (.tmp 17) (.tmp 22) (.const (.bool false))⟩,
  ⟨none, .mov 4 (.tmp 23)⟩]
def types_Same_lc : LC := (.seq (.ops types_Same_r0) (.seq (.ops types_Same_r1) .ret))
@[reducible] def types_Same : FuncId := 12
theorem types_Same_low : lowF Tryd.prog Tryd.f12 = some types_Same_lc := by kernel_rfl
theorem types_Same_in {a0 a1 : Value} {w : World} {R : Ending → World → Prop} (h : types_Same_lc.wp Tryd.prog (retQ Tryd.prog [.tmp 4] R) (argEnv [a0, a1]) w) : Calls Tryd.prog types_Same ⟨[a0, a1]⟩ w R :=
  calls_of_low Tryd.func12 types_Same_low (by kernel_rfl) (by kernel_rfl) h

/- 13 -/
/- 14 -/
def types_Text_r0 : List GO := [
  ⟨none, .box 1 24 (.tmp 0)⟩,
  ⟨none, .mov 2 (.const (.string ⟨#[]⟩))⟩]
def types_Text_r1 : List GO := [
  ⟨none, .fld 7 (.tmp 1) 1⟩,
  ⟨none, .load1 8 (.tmp 7)⟩,
  ⟨none, .call (some 9) 24 [(.tmp 8)]⟩,
  ⟨none, .mov 3 (.tmp 9)⟩]
def types_Text_r2 : List GO := [
  ⟨none, .fld 10 (.tmp 1) 0⟩,
  ⟨none, .load1 11 (.tmp 10)⟩]
def types_Text_r3 : List GO := [
  ⟨none, .bin 13 .eql 3 (.tmp 11) (.const (.int .i64 2))⟩,
  ⟨none, .mov 12 (.tmp 13)⟩]
def types_Text_r4 : List GO := [
  ⟨none, .mov 14 (.tmp 3)⟩,
  ⟨none, .bin 15 .add 9 (.const (.string ⟨#[104, 97, 110, 100, 108, 101, 32]⟩)) (.tmp 14)⟩,
  ⟨none, .mov 2 (.tmp 15)⟩]
def types_Text_r5 : List GO := [
  ⟨none, .bin 17 .eql 3 (.tmp 11) (.const (.int .i64 4))⟩,
  ⟨none, .mov 16 (.tmp 17)⟩]
def types_Text_r6 : List GO := [
  ⟨none, .mov 18 (.tmp 3)⟩,
  ⟨none, .bin 19 .add 9 (.const (.string ⟨#[97, 114, 114, 97, 121, 32]⟩)) (.tmp 18)⟩,
  ⟨none, .mov 2 (.tmp 19)⟩]
def types_Text_r7 : List GO := [
  ⟨none, .bin 21 .eql 3 (.tmp 11) (.const (.int .i64 3))⟩,
  ⟨none, .mov 20 (.tmp 21)⟩]
def types_Text_r8 : List GO := [
  ⟨none, .mov 4 (.const (.slice none 0 0))⟩]
def types_Text_r9 : List GO := [
  ⟨none, .fld 22 (.tmp 1) 2⟩,
  ⟨none, .load1 23 (.tmp 22)⟩,
  ⟨none, .len 24 (.tmp 23)⟩,
  ⟨none, .mov 25 (.const (.int .i64 0))⟩]
def types_Text_r10 : List GO := [
  ⟨none, .bin 26 .lss 3 (.tmp 25) (.tmp 24)⟩]
def types_Text_r11 : List GO := [
  ⟨none, .idx 27 3 (.tmp 23) (.tmp 25)⟩,
  ⟨none, .loadn 28 3 (.tmp 27)⟩,
  ⟨none, .alloc 6 24 [(.int .i64 0), (.int .i64 0), (.slice none 0 0)]⟩,
  ⟨none, .storen 3 (.tmp 6) (.tmp 28)⟩]
def types_Text_r12 : List GO := [
  ⟨none, .mov 29 (.tmp 4)⟩,
  ⟨none, .loadn 30 3 (.tmp 6)⟩,
  ⟨none, .call (some 31) 14 [(.tmp 30)]⟩,
  ⟨none, .buildS 32 9 1 [(.string ⟨#[]⟩)] [(0, (1, (.tmp 31)))]⟩,
  ⟨none, .raw ⟨(some 33), (.call ⟨(.builtin .append), #[(.tmp 29), (.tmp 32)], #[42, 42]⟩), 42, "", #[], none⟩⟩,
  ⟨none, .mov 4 (.tmp 33)⟩]
def types_Text_r13 : List GO := [
  ⟨none, .bin 34 .add 3 (.tmp 25) (.const (.int .i64 1))⟩,
  ⟨none, .mov 25 (.tmp 34)⟩]
def types_Text_b10 : LC := (.seq (.ops types_Text_r10) (.seq (.cond (.tmp 26) .skip (.exit 1)) (.seq (.block 2 (.seq (.ops types_Text_r11) (.ops types_Text_r12))) (.ops types_Text_r13))))
def types_Text_r14 : List GO := [
  ⟨none, .mov 35 (.tmp 3)⟩,
  ⟨none, .bin 36 .add 9 (.const (.string ⟨#[116, 117, 112, 108, 101, 32]⟩)) (.tmp 35)⟩,
  ⟨none, .bin 37 .add 9 (.tmp 36) (.const (.string ⟨#[32, 40]⟩))⟩,
  ⟨none, .mov 38 (.tmp 4)⟩,
  ⟨none, .call (some 39) 25 [(.tmp 38), (.const (.string ⟨#[44, 32]⟩))]⟩,
  ⟨none, .bin 40 .add 9 (.tmp 37) (.tmp 39)⟩,
  ⟨none, .bin 41 .add 9 (.tmp 40) (.const (.string ⟨#[41]⟩))⟩,
  ⟨none, .mov 2 (.tmp 41)⟩]
def types_Text_r15 : List GO := [
  ⟨none, .mov 2 (.const (.string ⟨#[105, 110, 116]⟩))⟩]
def types_Text_lc : LC := (.seq (.ops types_Text_r0) (.seq (.ops types_Text_r1) (.seq (.seq (.ops types_Text_r2) (.block 0 (.seq (.ops types_Text_r3) (.cond (.tmp 12) (.seq (.ops types_Text_r4) .ret) (.seq (.ops types_Text_r5) (.cond (.tmp 16) (.seq (.ops types_Text_r6) .ret) (.seq (.ops types_Text_r7) (.cond (.tmp 20) (.seq (.ops types_Text_r8) (.seq (.seq (.ops types_Text_r9) (.block 1 (.loop types_Text_b10))) (.seq (.ops types_Text_r14) .ret))) .skip)))))))) (.seq (.ops types_Text_r15) .ret))))
@[reducible] def types_Text : FuncId := 14
theorem types_Text_low : lowF Tryd.prog Tryd.f14 = some types_Text_lc := by kernel_rfl
theorem types_Text_in {a0 : Value} {w : World} {R : Ending → World → Prop} (h : types_Text_lc.wp Tryd.prog (retQ Tryd.prog [.tmp 2] R) (argEnv [a0]) w) : Calls Tryd.prog types_Text ⟨[a0]⟩ w R :=
  calls_of_low Tryd.func14 types_Text_low (by kernel_rfl) (by kernel_rfl) h

/- 15 -/
/- 16 -/
def R_typeSize_r0 : List GO := [
  ⟨none, .box 2 24 (.tmp 0)⟩,
  ⟨none, .mov 4 (.const (.int .i64 0))⟩]
def R_typeSize_r1 : List GO := [
  ⟨none, .mov 6 (.tmp 1)⟩,
  ⟨none, .bin 7 .sub 3 (.tmp 6) (.const (.int .i64 1))⟩,
  ⟨none, .mov 1 (.tmp 7)⟩]
def R_typeSize_r2 : List GO := [
  ⟨none, .mov 5 (.const (.int .i64 0))⟩]
def R_typeSize_r3 : List GO := [
  ⟨none, .mov 8 (.tmp 5)⟩,
  ⟨none, .fld 9 (.tmp 2) 2⟩,
  ⟨none, .load1 10 (.tmp 9)⟩,
  ⟨none, .len 11 (.tmp 10)⟩,
  ⟨none, .bin 12 .lss 3 (.tmp 8) (.tmp 11)⟩,
  ⟨none, .mov 13 (.tmp 12)⟩,
  ⟨some (13, true), .mov 14 (.tmp 1)⟩,
  ⟨some (13, true), .bin 15 .geq 3 (.tmp 14) (.const (.int .i64 0))⟩,
  ⟨none, .pick 16 (.tmp 13) (.tmp 15) (.const (.bool false))⟩]
def R_typeSize_r4 : List GO := [
  ⟨none, .fld 19 (.tmp 2) 2⟩,
  ⟨none, .load1 20 (.tmp 19)⟩,
  ⟨none, .mov 21 (.tmp 5)⟩,
  ⟨none, .idx 22 3 (.tmp 20) (.tmp 21)⟩,
  ⟨none, .loadn 23 3 (.tmp 22)⟩,
  ⟨none, .mov 24 (.tmp 1)⟩,
  ⟨none, .call (some 25) 16 [(.tmp 23), (.tmp 24)]⟩,
  ⟨none, .mov 1 (.tmp 25)⟩]
def R_typeSize_r5 : List GO := [
  ⟨none, .mov 17 (.tmp 5)⟩,
  ⟨none, .bin 18 .add 3 (.tmp 17) (.const (.int .i64 1))⟩,
  ⟨none, .mov 5 (.tmp 18)⟩]
def R_typeSize_b3 : LC := (.seq (.seq (.ops R_typeSize_r3) (.cond (.tmp 16) .skip (.exit 0))) (.seq (.block 1 (.ops R_typeSize_r4)) (.ops R_typeSize_r5)))
def R_typeSize_r6 : List GO := [
  ⟨none, .mov 26 (.tmp 1)⟩,
  ⟨none, .mov 4 (.tmp 26)⟩]
def R_typeSize_lc : LC := (.seq (.ops R_typeSize_r0) (.seq (.ops R_typeSize_r1) (.seq (.seq (.ops R_typeSize_r2) (.block 0 (.loop R_typeSize_b3))) (.seq (.ops R_typeSize_r6) .ret))))
@[reducible] def R_typeSize : FuncId := 16
theorem R_typeSize_low : lowF Tryd.prog Tryd.f16 = some R_typeSize_lc := by kernel_rfl
theorem R_typeSize_in {a0 a1 : Value} {w : World} {R : Ending → World → Prop} (h : R_typeSize_lc.wp Tryd.prog (retQ Tryd.prog [.tmp 4] R) (argEnv [a0, a1]) w) : Calls Tryd.prog R_typeSize ⟨[a0, a1]⟩ w R :=
  calls_of_low Tryd.func16 R_typeSize_low (by kernel_rfl) (by kernel_rfl) h

/- 17 -/
/- 18 -/
def types_deep_r0 : List GO := [
  ⟨none, .box 2 24 (.tmp 0)⟩,
  ⟨none, .mov 4 (.const (.bool false))⟩]
def types_deep_r1 : List GO := [
  ⟨none, .mov 7 (.tmp 1)⟩,
  ⟨none, .bin 8 .lss 3 (.tmp 7) (.const (.int .i64 0))⟩]
def types_deep_r2 : List GO := [
  ⟨none, .mov 4 (.const (.bool false))⟩]
def types_deep_r3 : List GO := [
  ⟨none, .fld 9 (.tmp 2) 2⟩,
  ⟨none, .load1 10 (.tmp 9)⟩,
  ⟨none, .len 11 (.tmp 10)⟩,
  ⟨none, .mov 12 (.const (.int .i64 0))⟩]
def types_deep_r4 : List GO := [
  ⟨none, .bin 13 .lss 3 (.tmp 12) (.tmp 11)⟩]
def types_deep_r5 : List GO := [
  ⟨none, .idx 14 3 (.tmp 10) (.tmp 12)⟩,
  ⟨none, .loadn 15 3 (.tmp 14)⟩,
  ⟨none, .alloc 6 24 [(.int .i64 0), (.int .i64 0), (.slice none 0 0)]⟩,
  ⟨none, .storen 3 (.tmp 6) (.tmp 15)⟩]
def types_deep_r6 : List GO := [
  ⟨none, .loadn 16 3 (.tmp 6)⟩,
  ⟨none, .mov 17 (.tmp 1)⟩,
  ⟨none, .bin 18 .sub 3 (.tmp 17) (.const (.int .i64 1))⟩,
  ⟨none, .call (some 19) 18 [(.tmp 16), (.tmp 18)]⟩,
  ⟨none, .un 20 .not (.tmp 19)⟩]
def types_deep_r7 : List GO := [
  ⟨none, .mov 4 (.const (.bool false))⟩]
def types_deep_r8 : List GO := [
  ⟨none, .bin 21 .add 3 (.tmp 12) (.const (.int .i64 1))⟩,
  ⟨none, .mov 12 (.tmp 21)⟩]
def types_deep_b4 : LC := (.seq (.ops types_deep_r4) (.seq (.cond (.tmp 13) .skip (.exit 0)) (.seq (.block 1 (.seq (.ops types_deep_r5) (.seq (.ops types_deep_r6) (.cond (.tmp 20) (.seq (.ops types_deep_r7) .ret) .skip)))) (.ops types_deep_r8))))
def types_deep_r9 : List GO := [
  ⟨none, .mov 4 (.const (.bool true))⟩]
def types_deep_lc : LC := (.seq (.ops types_deep_r0) (.seq (.seq (.ops types_deep_r1) (.cond (.tmp 8) (.seq (.ops types_deep_r2) .ret) .skip)) (.seq (.seq (.ops types_deep_r3) (.block 0 (.loop types_deep_b4))) (.seq (.ops types_deep_r9) .ret))))
@[reducible] def types_deep : FuncId := 18
theorem types_deep_low : lowF Tryd.prog Tryd.f18 = some types_deep_lc := by kernel_rfl
theorem types_deep_in {a0 a1 : Value} {w : World} {R : Ending → World → Prop} (h : types_deep_lc.wp Tryd.prog (retQ Tryd.prog [.tmp 4] R) (argEnv [a0, a1]) w) : Calls Tryd.prog types_deep ⟨[a0, a1]⟩ w R :=
  calls_of_low Tryd.func18 types_deep_low (by kernel_rfl) (by kernel_rfl) h

/- 19 -/
def types_wrong_r0 : List GO := [
  ⟨none, .box 2 24 (.tmp 0)⟩,
  ⟨none, .mov 4 (.const (.int .i64 0))⟩]
def types_wrong_r1 : List GO := [
  ⟨none, .fld 8 (.tmp 2) 0⟩,
  ⟨none, .load1 9 (.tmp 8)⟩]
def types_wrong_r2 : List GO := [
  ⟨none, .bin 11 .eql 3 (.tmp 9) (.const (.int .i64 1))⟩,
  ⟨none, .mov 10 (.tmp 11)⟩]
def types_wrong_r3 : List GO := [
  ⟨none, .fld 12 (.tmp 2) 1⟩,
  ⟨none, .load1 13 (.tmp 12)⟩,
  ⟨none, .bin 14 .neq 3 (.tmp 13) (.const (.int .i64 0))⟩,
  ⟨none, .mov 15 (.tmp 14)⟩,
  ⟨some (15, false), .fld 16 (.tmp 2) 2⟩,
  ⟨some (15, false), .load1 17 (.tmp 16)⟩,
  ⟨some (15, false), .len 18 (.tmp 17)⟩,
  ⟨some (15, false), .bin 19 .gtr 3 (.tmp 18) (.const (.int .i64 0))⟩,
  ⟨none, .pick 20 (.tmp 15) (.const (.bool true)) (.tmp 19)⟩]
def types_wrong_r4 : List GO := [
  ⟨none, .mov 4 (.const (.int .i64 4))⟩]
def types_wrong_r5 : List GO := [
  ⟨none, .mov 4 (.const (.int .i64 0))⟩]
def types_wrong_r6 : List GO := [
  ⟨none, .bin 22 .eql 3 (.tmp 9) (.const (.int .i64 2))⟩,
  ⟨none, .mov 21 (.tmp 22)⟩]
def types_wrong_r7 : List GO := [
  ⟨none, .bin 23 .eql 3 (.tmp 9) (.const (.int .i64 4))⟩,
  ⟨none, .mov 21 (.tmp 23)⟩]
def types_wrong_r8 : List GO := [
  ⟨none, .fld 24 (.tmp 2) 2⟩,
  ⟨none, .load1 25 (.tmp 24)⟩,
  ⟨none, .len 26 (.tmp 25)⟩,
  ⟨none, .bin 27 .gtr 3 (.tmp 26) (.const (.int .i64 0))⟩]
def types_wrong_r9 : List GO := [
  ⟨none, .mov 4 (.const (.int .i64 4))⟩]
def types_wrong_r10 : List GO := [
  ⟨none, .bin 29 .eql 3 (.tmp 9) (.const (.int .i64 3))⟩,
  ⟨none, .mov 28 (.tmp 29)⟩]
def types_wrong_r11 : List GO := [
  ⟨none, .fld 30 (.tmp 2) 2⟩,
  ⟨none, .load1 31 (.tmp 30)⟩,
  ⟨none, .len 32 (.tmp 31)⟩,
  ⟨none, .bin 33 .gtr 3 (.tmp 32) (.const (.int .i64 8))⟩]
def types_wrong_r12 : List GO := [
  ⟨none, .mov 4 (.const (.int .i64 2))⟩]
def types_wrong_r13 : List GO := [
  ⟨none, .mov 4 (.const (.int .i64 3))⟩]
def types_wrong_r14 : List GO := [
  ⟨none, .fld 34 (.tmp 2) 1⟩,
  ⟨none, .load1 35 (.tmp 34)⟩,
  ⟨none, .bin 36 .lss 3 (.tmp 35) (.const (.int .i64 0))⟩,
  ⟨none, .mov 37 (.tmp 36)⟩,
  ⟨some (37, false), .fld 38 (.tmp 2) 1⟩,
  ⟨some (37, false), .load1 39 (.tmp 38)⟩,
  ⟨some (37, false), .mov 40 (.tmp 1)⟩,
  ⟨some (37, false), .bin 41 .geq 3 (.tmp 39) (.tmp 40)⟩,
  ⟨none, .pick 42 (.tmp 37) (.const (.bool true)) (.tmp 41)⟩]
def types_wrong_r15 : List GO := [
  ⟨none, .mov 4 (.const (.int .i64 1))⟩]
def types_wrong_r16 : List GO := [
  ⟨none, .fld 43 (.tmp 2) 2⟩,
  ⟨none, .load1 44 (.tmp 43)⟩,
  ⟨none, .len 45 (.tmp 44)⟩,
  ⟨none, .mov 46 (.const (.int .i64 0))⟩]
def types_wrong_r17 : List GO := [
  ⟨none, .bin 47 .lss 3 (.tmp 46) (.tmp 45)⟩]
def types_wrong_r18 : List GO := [
  ⟨none, .idx 48 3 (.tmp 44) (.tmp 46)⟩,
  ⟨none, .loadn 49 3 (.tmp 48)⟩,
  ⟨none, .alloc 6 24 [(.int .i64 0), (.int .i64 0), (.slice none 0 0)]⟩,
  ⟨none, .storen 3 (.tmp 6) (.tmp 49)⟩]
def types_wrong_r19 : List GO := [
  ⟨none, .loadn 50 3 (.tmp 6)⟩,
  ⟨none, .mov 51 (.tmp 1)⟩,
  ⟨none, .call (some 52) 19 [(.tmp 50), (.tmp 51)]⟩,
  ⟨none, .mov 7 (.tmp 52)⟩]
def types_wrong_r20 : List GO := [
  ⟨none, .mov 53 (.tmp 7)⟩,
  ⟨none, .bin 54 .neq 3 (.tmp 53) (.const (.int .i64 0))⟩]
def types_wrong_r21 : List GO := [
  ⟨none, .mov 55 (.tmp 7)⟩,
  ⟨none, .mov 4 (.tmp 55)⟩]
def types_wrong_r22 : List GO := [
  ⟨none, .bin 56 .add 3 (.tmp 46) (.const (.int .i64 1))⟩,
  ⟨none, .mov 46 (.tmp 56)⟩]
def types_wrong_b17 : LC := (.seq (.ops types_wrong_r17) (.seq (.cond (.tmp 47) .skip (.exit 1)) (.seq (.block 2 (.seq (.ops types_wrong_r18) (.seq (.ops types_wrong_r19) (.seq (.ops types_wrong_r20) (.cond (.tmp 54) (.seq (.ops types_wrong_r21) .ret) .skip))))) (.ops types_wrong_r22))))
def types_wrong_r23 : List GO := [
  ⟨none, .mov 4 (.const (.int .i64 0))⟩]
def types_wrong_lc : LC := (.seq (.ops types_wrong_r0) (.seq (.seq (.ops types_wrong_r1) (.block 0 (.seq (.ops types_wrong_r2) (.cond (.tmp 10) (.seq (.seq (.ops types_wrong_r3) (.cond (.tmp 20) (.seq (.ops types_wrong_r4) .ret) .skip)) (.seq (.ops types_wrong_r5) .ret)) (.seq (.seq (.ops types_wrong_r6) (.cond (.tmp 21) .skip (.ops types_wrong_r7))) (.cond (.tmp 21) (.seq (.ops types_wrong_r8) (.cond (.tmp 27) (.seq (.ops types_wrong_r9) .ret) .skip)) (.seq (.ops types_wrong_r10) (.cond (.tmp 28) (.seq (.ops types_wrong_r11) (.cond (.tmp 33) (.seq (.ops types_wrong_r12) .ret) .skip)) (.seq (.ops types_wrong_r13) .ret))))))))) (.seq (.seq (.ops types_wrong_r14) (.cond (.tmp 42) (.seq (.ops types_wrong_r15) .ret) .skip)) (.seq (.seq (.ops types_wrong_r16) (.block 1 (.loop types_wrong_b17))) (.seq (.ops types_wrong_r23) .ret)))))
@[reducible] def types_wrong : FuncId := 19
theorem types_wrong_low : lowF Tryd.prog Tryd.f19 = some types_wrong_lc := by kernel_rfl
theorem types_wrong_in {a0 a1 : Value} {w : World} {R : Ending → World → Prop} (h : types_wrong_lc.wp Tryd.prog (retQ Tryd.prog [.tmp 4] R) (argEnv [a0, a1]) w) : Calls Tryd.prog types_wrong ⟨[a0, a1]⟩ w R :=
  calls_of_low Tryd.func19 types_wrong_low (by kernel_rfl) (by kernel_rfl) h

/- 20 -/
/- 21 -/
/- 22 -/
def slices_EqualFunc_api_Type_api_Type_api_Type_api_Type_r0 : List GO := [
  ⟨none, .mov 6 (.const (.bool false))⟩]
def slices_EqualFunc_api_Type_api_Type_api_Type_api_Type_r1 : List GO := [
  ⟨none, .mov 10 (.tmp 0)⟩,
  ⟨none, .len 11 (.tmp 10)⟩,
  ⟨none, .mov 12 (.tmp 1)⟩,
  ⟨none, .len 13 (.tmp 12)⟩,
  ⟨none, .bin 14 .neq 3 (.tmp 11) (.tmp 13)⟩]
def slices_EqualFunc_api_Type_api_Type_api_Type_api_Type_r2 : List GO := [
  ⟨none, .mov 6 (.const (.bool false))⟩]
def slices_EqualFunc_api_Type_api_Type_api_Type_api_Type_r3 : List GO := [
  ⟨none, .mov 15 (.tmp 0)⟩,
  ⟨none, .len 16 (.tmp 15)⟩,
  ⟨none, .mov 17 (.const (.int .i64 0))⟩]
def slices_EqualFunc_api_Type_api_Type_api_Type_api_Type_r4 : List GO := [
  ⟨none, .bin 18 .lss 3 (.tmp 17) (.tmp 16)⟩]
def slices_EqualFunc_api_Type_api_Type_api_Type_api_Type_r5 : List GO := [
  ⟨none, .mov 19 (.tmp 17)⟩,
  ⟨none, .idx 20 3 (.tmp 15) (.tmp 17)⟩,
  ⟨none, .loadn 21 3 (.tmp 20)⟩,
  ⟨none, .alloc 8 24 [(.int .i64 0), (.int .i64 0), (.slice none 0 0)]⟩,
  ⟨none, .mov 7 (.tmp 19)⟩,
  ⟨none, .storen 3 (.tmp 8) (.tmp 21)⟩]
def slices_EqualFunc_api_Type_api_Type_api_Type_api_Type_r6 : List GO := [
  ⟨none, .mov 22 (.tmp 1)⟩,
  ⟨none, .mov 23 (.tmp 7)⟩,
  ⟨none, .idx 24 3 (.tmp 22) (.tmp 23)⟩,
  ⟨none, .loadn 25 3 (.tmp 24)⟩,
  ⟨none, .alloc 9 24 [(.int .i64 0), (.int .i64 0), (.slice none 0 0)]⟩,
  ⟨none, .storen 3 (.tmp 9) (.tmp 25)⟩]
def slices_EqualFunc_api_Type_api_Type_api_Type_api_Type_r7 : List GO := [
  ⟨none, .mov 26 (.tmp 2)⟩,
  ⟨none, .loadn 27 3 (.tmp 8)⟩,
  ⟨none, .loadn 28 3 (.tmp 9)⟩,
  ⟨none, .callv (some 29) (.tmp 26) [(.tmp 27), (.tmp 28)]⟩,
  ⟨none, .un 30 .not (.tmp 29)⟩]
def slices_EqualFunc_api_Type_api_Type_api_Type_api_Type_r8 : List GO := [
  ⟨none, .mov 6 (.const (.bool false))⟩]
def slices_EqualFunc_api_Type_api_Type_api_Type_api_Type_r9 : List GO := [
  ⟨none, .bin 31 .add 3 (.tmp 17) (.const (.int .i64 1))⟩,
  ⟨none, .mov 17 (.tmp 31)⟩]
def slices_EqualFunc_api_Type_api_Type_api_Type_api_Type_b4 : LC := (.seq (.ops slices_EqualFunc_api_Type_api_Type_api_Type_api_Type_r4) (.seq (.cond (.tmp 18) .skip (.exit 0)) (.seq (.block 1 (.seq (.ops slices_EqualFunc_api_Type_api_Type_api_Type_api_Type_r5) (.seq (.ops slices_EqualFunc_api_Type_api_Type_api_Type_api_Type_r6) (.seq (.ops slices_EqualFunc_api_Type_api_Type_api_Type_api_Type_r7) (.cond (.tmp 30) (.seq (.ops slices_EqualFunc_api_Type_api_Type_api_Type_api_Type_r8) .ret) .skip))))) (.ops slices_EqualFunc_api_Type_api_Type_api_Type_api_Type_r9))))
def slices_EqualFunc_api_Type_api_Type_api_Type_api_Type_r10 : List GO := [
  ⟨none, .mov 6 (.const (.bool true))⟩]
def slices_EqualFunc_api_Type_api_Type_api_Type_api_Type_lc : LC := (.seq (.ops slices_EqualFunc_api_Type_api_Type_api_Type_api_Type_r0) (.seq (.seq (.ops slices_EqualFunc_api_Type_api_Type_api_Type_api_Type_r1) (.cond (.tmp 14) (.seq (.ops slices_EqualFunc_api_Type_api_Type_api_Type_api_Type_r2) .ret) .skip)) (.seq (.seq (.ops slices_EqualFunc_api_Type_api_Type_api_Type_api_Type_r3) (.block 0 (.loop slices_EqualFunc_api_Type_api_Type_api_Type_api_Type_b4))) (.seq (.ops slices_EqualFunc_api_Type_api_Type_api_Type_api_Type_r10) .ret))))
@[reducible] def slices_EqualFunc_api_Type_api_Type_api_Type_api_Type : FuncId := 22
theorem slices_EqualFunc_api_Type_api_Type_api_Type_api_Type_low : lowF Tryd.prog Tryd.f22 = some slices_EqualFunc_api_Type_api_Type_api_Type_api_Type_lc := by kernel_rfl
theorem slices_EqualFunc_api_Type_api_Type_api_Type_api_Type_in {a0 a1 a2 : Value} {w : World} {R : Ending → World → Prop} (h : slices_EqualFunc_api_Type_api_Type_api_Type_api_Type_lc.wp Tryd.prog (retQ Tryd.prog [.tmp 6] R) (argEnv [a0, a1, a2]) w) : Calls Tryd.prog slices_EqualFunc_api_Type_api_Type_api_Type_api_Type ⟨[a0, a1, a2]⟩ w R :=
  calls_of_low Tryd.func22 slices_EqualFunc_api_Type_api_Type_api_Type_api_Type_low (by kernel_rfl) (by kernel_rfl) h

/- 23 -/
/- 26 -/
end Go.Proofs.YtanlkfeogoganaaDoor