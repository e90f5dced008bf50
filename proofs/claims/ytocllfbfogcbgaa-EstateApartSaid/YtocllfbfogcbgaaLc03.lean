/- The functions, lowered: printed by a program off the translation. -/
import Derived.Test.YtocllfbfogcbgaaProg
import Derived.Test.YtocllfbfogcbgaaLirStep
namespace Go.Proofs.Ytocllfbfogcbgaa
open Go.Lir

/- 8 -/
def Law_EstateRoom_r0 : List GO := [
  ⟨none, .mov 4 (.const (.bool false))⟩]
def Law_EstateRoom_r1 : List GO := [
  ⟨none, .call (some 16) 45 []⟩,
  ⟨none, .un 17 .not (.tmp 16)⟩]
def Law_EstateRoom_r2 : List GO := [
  ⟨none, .mov 4 (.const (.bool false))⟩]
def Law_EstateRoom_r3 : List GO := [
  ⟨none, .mov 18 (.tmp 1)⟩,
  ⟨none, .len 19 (.tmp 18)⟩,
  ⟨none, .bin 20 .gtr 3 (.tmp 19) (.const (.int .i64 300))⟩]
def Law_EstateRoom_r4 : List GO := [
  ⟨none, .mov 4 (.const (.bool true))⟩]
def Law_EstateRoom_r5 : List GO := [
  ⟨none, .mov 22 (.tmp 0)⟩,
  ⟨none, .call (some 23) 46 [(.tmp 22)]⟩,
  ⟨none, .mov 21 (.tmp 23)⟩,
  ⟨none, .ext 24 (.tmp 21) 0⟩,
  ⟨none, .ext 25 (.tmp 21) 1⟩,
  ⟨none, .alloc 6 48 [(.int .i64 0), (.int .i64 0)]⟩,
  ⟨none, .mov 5 (.tmp 24)⟩,
  ⟨none, .storen 2 (.tmp 6) (.tmp 25)⟩]
def Law_EstateRoom_r6 : List GO := [
  ⟨none, .fld 26 (.tmp 6) 0⟩,
  ⟨none, .load1 27 (.tmp 26)⟩,
  ⟨none, .bin 28 .neq 3 (.tmp 27) (.const (.int .i64 0))⟩]
def Law_EstateRoom_r7 : List GO := [
  ⟨none, .mov 4 (.const (.bool true))⟩]
def Law_EstateRoom_r8 : List GO := [
  ⟨none, .alloc 7 68 [(.int .i64 0), (.int .i64 0), (.int .i64 0), (.int .i64 0), (.int .i64 0), (.int .i64 0), (.int .i64 0), (.int .i64 0), (.int .i64 0), (.int .i64 0), (.int .i64 0), (.int .i64 0), (.int .i64 0), (.int .i64 0), (.int .i64 0), (.int .i64 0)]⟩,
  ⟨none, .alloc 8 68 [(.int .i64 0), (.int .i64 0), (.int .i64 0), (.int .i64 0), (.int .i64 0), (.int .i64 0), (.int .i64 0), (.int .i64 0), (.int .i64 0), (.int .i64 0), (.int .i64 0), (.int .i64 0), (.int .i64 0), (.int .i64 0), (.int .i64 0), (.int .i64 0)]⟩]
def Law_EstateRoom_r9 : List GO := [
  ⟨none, .mov 9 (.const (.int .i64 0))⟩]
def Law_EstateRoom_r10 : List GO := [
  ⟨none, .mov 29 (.tmp 9)⟩,
  ⟨none, .mov 30 (.tmp 1)⟩,
  ⟨none, .len 31 (.tmp 30)⟩,
  ⟨none, .bin 32 .lss 3 (.tmp 29) (.tmp 31)⟩]
def Law_EstateRoom_r11 : List GO := [
  ⟨none, .mov 35 (.tmp 1)⟩,
  ⟨none, .mov 36 (.tmp 9)⟩,
  ⟨none, .idx 37 3 (.tmp 35) (.tmp 36)⟩,
  ⟨none, .loadn 38 3 (.tmp 37)⟩,
  ⟨none, .alloc 10 70 [(.int .i64 0), (.int .i64 0), (.int .i64 0)]⟩,
  ⟨none, .storen 3 (.tmp 10) (.tmp 38)⟩]
def Law_EstateRoom_r12 : List GO := [
  ⟨none, .fld 39 (.tmp 10) 0⟩,
  ⟨none, .load1 40 (.tmp 39)⟩]
def Law_EstateRoom_r13 : List GO := [
  ⟨none, .bin 42 .eql 3 (.tmp 40) (.const (.int .i64 0))⟩,
  ⟨none, .mov 41 (.tmp 42)⟩]
def Law_EstateRoom_r14 : List GO := [
  ⟨none, .mov 43 (.tmp 5)⟩,
  ⟨none, .call (some 44) 47 [(.tmp 43)]⟩]
def Law_EstateRoom_r15 : List GO := [
  ⟨none, .bin 46 .eql 3 (.tmp 40) (.const (.int .i64 1))⟩,
  ⟨none, .mov 45 (.tmp 46)⟩]
def Law_EstateRoom_r16 : List GO := [
  ⟨none, .mov 47 (.tmp 5)⟩,
  ⟨none, .fld 48 (.tmp 10) 1⟩,
  ⟨none, .load1 49 (.tmp 48)⟩,
  ⟨none, .call (some 50) 48 [(.tmp 47), (.tmp 49)]⟩]
def Law_EstateRoom_r17 : List GO := [
  ⟨none, .fld 51 (.tmp 10) 1⟩,
  ⟨none, .load1 52 (.tmp 51)⟩,
  ⟨none, .fld 53 (.tmp 10) 1⟩,
  ⟨none, .load1 54 (.tmp 53)⟩,
  ⟨none, .idxa 55 16 1 (.tmp 7) (.tmp 52)⟩,
  ⟨none, .store1 (.tmp 55) (.const (.int .i64 0))⟩,
  ⟨none, .idxa 56 16 1 (.tmp 8) (.tmp 54)⟩,
  ⟨none, .store1 (.tmp 56) (.const (.int .i64 0))⟩]
def Law_EstateRoom_e17 : List (List Nat) := [[], [0], [], [2], [1, 0, 1], [4, 0, 1], [3, 0, 1, 2, 3, 4, 5], [6, 5, 0, 1, 2, 3, 4, 5]]
def Law_EstateRoom_r18 : List GO := [
  ⟨none, .bin 58 .eql 3 (.tmp 40) (.const (.int .i64 2))⟩,
  ⟨none, .mov 57 (.tmp 58)⟩]
def Law_EstateRoom_r19 : List GO := [
  ⟨none, .mov 59 (.tmp 5)⟩,
  ⟨none, .fld 60 (.tmp 10) 1⟩,
  ⟨none, .load1 61 (.tmp 60)⟩,
  ⟨none, .call (some 62) 49 [(.tmp 59), (.tmp 61)]⟩,
  ⟨none, .un 63 .not (.tmp 62)⟩,
  ⟨none, .mov 64 (.tmp 63)⟩,
  ⟨some (64, false), .fld 65 (.tmp 10) 2⟩,
  ⟨some (64, false), .load1 66 (.tmp 65)⟩,
  ⟨some (64, false), .bin 67 .lss 3 (.tmp 66) (.const (.int .i64 1))⟩,
  ⟨none, .pick 68 (.tmp 64) (.const (.bool true)) (.tmp 67)⟩,
  ⟨none, .mov 69 (.tmp 68)⟩,
  ⟨some (69, false), .fld 70 (.tmp 10) 2⟩,
  ⟨some (69, false), .load1 71 (.tmp 70)⟩,
  ⟨some (69, false), .bin 72 .gtr 3 (.tmp 71) (.const (.int .i64 16))⟩,
  ⟨none, .pick 73 (.tmp 69) (.const (.bool true)) (.tmp 72)⟩]
def Law_EstateRoom_r20 : List GO := [
  ⟨none, .mov 11 (.const (.int .i64 0))⟩]
def Law_EstateRoom_r21 : List GO := [
  ⟨none, .mov 12 (.const (.int .i64 0))⟩]
def Law_EstateRoom_r22 : List GO := [
  ⟨none, .mov 74 (.tmp 12)⟩,
  ⟨none, .bin 75 .lss 3 (.tmp 74) (.const (.int .i64 16))⟩]
def Law_EstateRoom_r23 : List GO := [
  ⟨none, .mov 78 (.tmp 11)⟩,
  ⟨none, .mov 79 (.tmp 12)⟩,
  ⟨none, .idxa 80 16 1 (.tmp 7) (.tmp 79)⟩,
  ⟨none, .load1 81 (.tmp 80)⟩,
  ⟨none, .bin 82 .add 3 (.tmp 78) (.tmp 81)⟩,
  ⟨none, .mov 11 (.tmp 82)⟩]
def Law_EstateRoom_r24 : List GO := [
  ⟨none, .mov 76 (.tmp 12)⟩,
  ⟨none, .bin 77 .add 3 (.tmp 76) (.const (.int .i64 1))⟩,
  ⟨none, .mov 12 (.tmp 77)⟩]
def Law_EstateRoom_b22 : LC := (.seq (.seq (.ops Law_EstateRoom_r22) (.cond (.tmp 75) .skip (.exit 3))) (.seq (.block 4 (.ops Law_EstateRoom_r23)) (.ops Law_EstateRoom_r24)))
def Law_EstateRoom_r25 : List GO := [
  ⟨none, .fld 83 (.tmp 10) 1⟩,
  ⟨none, .load1 84 (.tmp 83)⟩,
  ⟨none, .idxa 85 16 1 (.tmp 7) (.tmp 84)⟩,
  ⟨none, .load1 86 (.tmp 85)⟩,
  ⟨none, .bin 87 .eql 3 (.tmp 86) (.const (.int .i64 0))⟩,
  ⟨none, .mov 88 (.tmp 87)⟩,
  ⟨some (88, false), .fld 89 (.tmp 10) 1⟩,
  ⟨some (88, false), .load1 90 (.tmp 89)⟩,
  ⟨some (88, false), .idxa 91 16 1 (.tmp 8) (.tmp 90)⟩,
  ⟨some (88, false), .load1 92 (.tmp 91)⟩,
  ⟨some (88, false), .fld 93 (.tmp 10) 2⟩,
  ⟨some (88, false), .load1 94 (.tmp 93)⟩,
  ⟨some (88, false), .bin 95 .add 3 (.tmp 92) (.tmp 94)⟩,
  ⟨some (88, false), .bin 96 .gtr 3 (.tmp 95) (.const (.int .i64 16))⟩,
  ⟨none, .pick 97 (.tmp 88) (.const (.bool true)) (.tmp 96)⟩,
  ⟨none, .mov 13 (.tmp 97)⟩]
def Law_EstateRoom_e25 : List (List Nat) := [[], [0], [1], [2], [3], [4], [5], [6, 5], [7, 5], [8, 5], [5], [10, 5], [9, 11, 5], [12, 5], [5, 13], [14, 5, 0, 1, 2, 3, 4, 5, 6, 7, 8, 9, 10, 11, 12, 13, 14]]
def Law_EstateRoom_r26 : List GO := [
  ⟨none, .mov 99 (.tmp 5)⟩,
  ⟨none, .fld 100 (.tmp 10) 1⟩,
  ⟨none, .load1 101 (.tmp 100)⟩,
  ⟨none, .fld 102 (.tmp 10) 2⟩,
  ⟨none, .load1 103 (.tmp 102)⟩,
  ⟨none, .call (some 104) 50 [(.tmp 99), (.tmp 101), (.tmp 103)]⟩,
  ⟨none, .mov 98 (.tmp 104)⟩,
  ⟨none, .ext 105 (.tmp 98) 0⟩,
  ⟨none, .ext 106 (.tmp 98) 1⟩,
  ⟨none, .mov 14 (.tmp 105)⟩,
  ⟨none, .mov 15 (.tmp 106)⟩]
def Law_EstateRoom_r27 : List GO := [
  ⟨none, .mov 107 (.tmp 15)⟩,
  ⟨none, .bin 108 .eql 3 (.tmp 107) (.const (.int .i64 14))⟩,
  ⟨none, .mov 109 (.tmp 13)⟩,
  ⟨none, .mov 110 (.tmp 109)⟩,
  ⟨some (110, true), .mov 111 (.tmp 11)⟩,
  ⟨some (110, true), .mov 112 (.tmp 0)⟩,
  ⟨some (110, true), .bin 113 .eql 3 (.tmp 111) (.tmp 112)⟩,
  ⟨none, .pick 114 (.tmp 110) (.tmp 113) (.const (.bool false))⟩,
  ⟨none, .bin 115 .neq 4 (.tmp 108) (.tmp 114)⟩]
def Law_EstateRoom_r28 : List GO := [
  ⟨none, .mov 4 (.const (.bool false))⟩]
def Law_EstateRoom_r29 : List GO := [
  ⟨none, .mov 116 (.tmp 15)⟩,
  ⟨none, .bin 117 .neq 3 (.tmp 116) (.const (.int .i64 0))⟩]
def Law_EstateRoom_r30 : List GO := [
  ⟨none, .mov 118 (.tmp 13)⟩]
def Law_EstateRoom_r31 : List GO := [
  ⟨none, .fld 119 (.tmp 10) 1⟩,
  ⟨none, .load1 120 (.tmp 119)⟩,
  ⟨none, .idxa 121 16 1 (.tmp 7) (.tmp 120)⟩,
  ⟨none, .load1 122 (.tmp 121)⟩,
  ⟨none, .bin 123 .add 3 (.tmp 122) (.const (.int .i64 1))⟩,
  ⟨none, .idxa 124 16 1 (.tmp 7) (.tmp 120)⟩,
  ⟨none, .store1 (.tmp 124) (.tmp 123)⟩]
def Law_EstateRoom_r32 : List GO := [
  ⟨none, .fld 125 (.tmp 10) 1⟩,
  ⟨none, .load1 126 (.tmp 125)⟩,
  ⟨none, .idxa 127 16 1 (.tmp 8) (.tmp 126)⟩,
  ⟨none, .store1 (.tmp 127) (.const (.int .i64 0))⟩]
def Law_EstateRoom_r33 : List GO := [
  ⟨none, .fld 128 (.tmp 10) 1⟩,
  ⟨none, .load1 129 (.tmp 128)⟩,
  ⟨none, .idxa 130 16 1 (.tmp 8) (.tmp 129)⟩,
  ⟨none, .load1 131 (.tmp 130)⟩,
  ⟨none, .fld 132 (.tmp 10) 2⟩,
  ⟨none, .load1 133 (.tmp 132)⟩,
  ⟨none, .bin 134 .add 3 (.tmp 131) (.tmp 133)⟩,
  ⟨none, .idxa 135 16 1 (.tmp 8) (.tmp 129)⟩,
  ⟨none, .store1 (.tmp 135) (.tmp 134)⟩]
def Law_EstateRoom_e33 : List (List Nat) := [[], [0], [1], [2], [], [4], [3, 5], [1, 0, 1, 2, 3, 4, 5, 6], [7, 6, 0, 1, 2, 3, 4, 5, 6]]
def Law_EstateRoom_r34 : List GO := [
  ⟨none, .mov 33 (.tmp 9)⟩,
  ⟨none, .bin 34 .add 3 (.tmp 33) (.const (.int .i64 1))⟩,
  ⟨none, .mov 9 (.tmp 34)⟩]
def Law_EstateRoom_b10 : LC := (.seq (.seq (.ops Law_EstateRoom_r10) (.cond (.tmp 32) .skip (.exit 0))) (.seq (.block 1 (.seq (.ops Law_EstateRoom_r11) (.seq (.ops Law_EstateRoom_r12) (.block 2 (.seq (.ops Law_EstateRoom_r13) (.cond (.tmp 41) (.ops Law_EstateRoom_r14) (.seq (.ops Law_EstateRoom_r15) (.cond (.tmp 45) (.seq (.ops Law_EstateRoom_r16) (.cond (.tmp 50) (.draw Law_EstateRoom_r17 Law_EstateRoom_e17) .skip)) (.seq (.ops Law_EstateRoom_r18) (.cond (.tmp 57) (.seq (.seq (.ops Law_EstateRoom_r19) (.cond (.tmp 73) (.exit 1) .skip)) (.seq (.ops Law_EstateRoom_r20) (.seq (.seq (.ops Law_EstateRoom_r21) (.block 3 (.loop Law_EstateRoom_b22))) (.seq (.draw Law_EstateRoom_r25 Law_EstateRoom_e25) (.seq (.ops Law_EstateRoom_r26) (.seq (.seq (.ops Law_EstateRoom_r27) (.cond (.tmp 115) (.seq (.ops Law_EstateRoom_r28) .ret) .skip)) (.seq (.seq (.ops Law_EstateRoom_r29) (.cond (.tmp 117) (.exit 1) .skip)) (.seq (.seq (.ops Law_EstateRoom_r30) (.cond (.tmp 118) (.seq (.ops Law_EstateRoom_r31) (.ops Law_EstateRoom_r32)) .skip)) (.draw Law_EstateRoom_r33 Law_EstateRoom_e33))))))))) .skip)))))))))) (.ops Law_EstateRoom_r34)))
def Law_EstateRoom_r35 : List GO := [
  ⟨none, .mov 4 (.const (.bool true))⟩]
def Law_EstateRoom_lc : LC := (.seq (.ops Law_EstateRoom_r0) (.seq (.seq (.ops Law_EstateRoom_r1) (.cond (.tmp 17) (.seq (.ops Law_EstateRoom_r2) .ret) .skip)) (.seq (.seq (.ops Law_EstateRoom_r3) (.cond (.tmp 20) (.seq (.ops Law_EstateRoom_r4) .ret) .skip)) (.seq (.ops Law_EstateRoom_r5) (.seq (.seq (.ops Law_EstateRoom_r6) (.cond (.tmp 28) (.seq (.ops Law_EstateRoom_r7) .ret) .skip)) (.seq (.ops Law_EstateRoom_r8) (.seq (.seq (.ops Law_EstateRoom_r9) (.block 0 (.loop Law_EstateRoom_b10))) (.seq (.ops Law_EstateRoom_r35) .ret))))))))
@[reducible] def Law_EstateRoom : FuncId := 8
theorem Law_EstateRoom_low : lowF Try.prog Try.f8 = some Law_EstateRoom_lc := by kernel_rfl
theorem Law_EstateRoom_in {a0 a1 : Value} {w : World} {R : Ending → World → Prop} (h : Law_EstateRoom_lc.wp Try.prog (retQ Try.prog [.tmp 4] R) (argEnv [a0, a1]) w) : Calls Try.prog Law_EstateRoom ⟨[a0, a1]⟩ w R :=
  calls_of_low Try.func8 Law_EstateRoom_low (by kernel_rfl) (by kernel_rfl) h

/- 9 -/
def Law_EstateApart_r0 : List GO := [
  ⟨none, .mov 4 (.const (.bool false))⟩]
def Law_EstateApart_r1 : List GO := [
  ⟨none, .call (some 22) 45 []⟩,
  ⟨none, .un 23 .not (.tmp 22)⟩]
def Law_EstateApart_r2 : List GO := [
  ⟨none, .mov 4 (.const (.bool false))⟩]
def Law_EstateApart_r3 : List GO := [
  ⟨none, .mov 24 (.tmp 1)⟩,
  ⟨none, .len 25 (.tmp 24)⟩,
  ⟨none, .bin 26 .gtr 3 (.tmp 25) (.const (.int .i64 200))⟩]
def Law_EstateApart_r4 : List GO := [
  ⟨none, .mov 4 (.const (.bool true))⟩]
def Law_EstateApart_r5 : List GO := [
  ⟨none, .mov 28 (.tmp 0)⟩,
  ⟨none, .call (some 29) 46 [(.tmp 28)]⟩,
  ⟨none, .mov 27 (.tmp 29)⟩,
  ⟨none, .ext 30 (.tmp 27) 0⟩,
  ⟨none, .ext 31 (.tmp 27) 1⟩,
  ⟨none, .alloc 6 48 [(.int .i64 0), (.int .i64 0)]⟩,
  ⟨none, .mov 5 (.tmp 30)⟩,
  ⟨none, .storen 2 (.tmp 6) (.tmp 31)⟩]
def Law_EstateApart_r6 : List GO := [
  ⟨none, .fld 32 (.tmp 6) 0⟩,
  ⟨none, .load1 33 (.tmp 32)⟩,
  ⟨none, .bin 34 .neq 3 (.tmp 33) (.const (.int .i64 0))⟩]
def Law_EstateApart_r7 : List GO := [
  ⟨none, .mov 4 (.const (.bool true))⟩]
def Law_EstateApart_r8 : List GO := [
  ⟨none, .mov 7 (.const (.slice none 0 0))⟩]
def Law_EstateApart_r9 : List GO := [
  ⟨none, .mov 8 (.const (.int .i64 0))⟩]
def Law_EstateApart_r10 : List GO := [
  ⟨none, .mov 35 (.tmp 8)⟩,
  ⟨none, .mov 36 (.tmp 1)⟩,
  ⟨none, .len 37 (.tmp 36)⟩,
  ⟨none, .bin 38 .lss 3 (.tmp 35) (.tmp 37)⟩]
def Law_EstateApart_r11 : List GO := [
  ⟨none, .mov 41 (.tmp 1)⟩,
  ⟨none, .mov 42 (.tmp 8)⟩,
  ⟨none, .idx 43 3 (.tmp 41) (.tmp 42)⟩,
  ⟨none, .loadn 44 3 (.tmp 43)⟩,
  ⟨none, .alloc 9 70 [(.int .i64 0), (.int .i64 0), (.int .i64 0)]⟩,
  ⟨none, .storen 3 (.tmp 9) (.tmp 44)⟩]
def Law_EstateApart_r12 : List GO := [
  ⟨none, .fld 45 (.tmp 9) 0⟩,
  ⟨none, .load1 46 (.tmp 45)⟩]
def Law_EstateApart_r13 : List GO := [
  ⟨none, .bin 48 .eql 3 (.tmp 46) (.const (.int .i64 0))⟩,
  ⟨none, .mov 47 (.tmp 48)⟩]
def Law_EstateApart_r14 : List GO := [
  ⟨none, .mov 49 (.tmp 5)⟩,
  ⟨none, .call (some 50) 47 [(.tmp 49)]⟩]
def Law_EstateApart_r15 : List GO := [
  ⟨none, .bin 52 .eql 3 (.tmp 46) (.const (.int .i64 1))⟩,
  ⟨none, .mov 51 (.tmp 52)⟩]
def Law_EstateApart_r16 : List GO := [
  ⟨none, .mov 53 (.tmp 5)⟩,
  ⟨none, .fld 54 (.tmp 9) 1⟩,
  ⟨none, .load1 55 (.tmp 54)⟩,
  ⟨none, .call (some 56) 48 [(.tmp 53), (.tmp 55)]⟩]
def Law_EstateApart_r17 : List GO := [
  ⟨none, .mov 10 (.const (.slice none 0 0))⟩]
def Law_EstateApart_r18 : List GO := [
  ⟨none, .mov 11 (.const (.int .i64 0))⟩]
def Law_EstateApart_r19 : List GO := [
  ⟨none, .mov 57 (.tmp 11)⟩,
  ⟨none, .mov 58 (.tmp 7)⟩,
  ⟨none, .len 59 (.tmp 58)⟩,
  ⟨none, .bin 60 .lss 3 (.tmp 57) (.tmp 59)⟩]
def Law_EstateApart_r20 : List GO := [
  ⟨none, .mov 63 (.tmp 7)⟩,
  ⟨none, .mov 64 (.tmp 11)⟩,
  ⟨none, .idx 65 3 (.tmp 63) (.tmp 64)⟩,
  ⟨none, .fld 66 (.tmp 65) 0⟩,
  ⟨none, .load1 67 (.tmp 66)⟩,
  ⟨none, .fld 68 (.tmp 9) 1⟩,
  ⟨none, .load1 69 (.tmp 68)⟩,
  ⟨none, .bin 70 .neq 3 (.tmp 67) (.tmp 69)⟩]
def Law_EstateApart_e20 : List (List Nat) := [[], [], [0, 1], [2], [3], [], [5], [4, 6]]
def Law_EstateApart_r21 : List GO := [
  ⟨none, .mov 71 (.tmp 10)⟩,
  ⟨none, .mov 72 (.tmp 7)⟩,
  ⟨none, .mov 73 (.tmp 11)⟩,
  ⟨none, .idx 74 3 (.tmp 72) (.tmp 73)⟩,
  ⟨none, .loadn 75 3 (.tmp 74)⟩,
  ⟨none, .buildS 76 76 1 [(.int .i64 0), (.int .i64 0), (.int .i64 0)] [(0, (3, (.tmp 75)))]⟩,
  ⟨none, .raw ⟨(some 77), (.call ⟨(.builtin .append), #[(.tmp 71), (.tmp 76)], #[74, 74]⟩), 74, "", #[], none⟩⟩,
  ⟨none, .mov 10 (.tmp 77)⟩]
def Law_EstateApart_r22 : List GO := [
  ⟨none, .mov 61 (.tmp 11)⟩,
  ⟨none, .bin 62 .add 3 (.tmp 61) (.const (.int .i64 1))⟩,
  ⟨none, .mov 11 (.tmp 62)⟩]
def Law_EstateApart_b19 : LC := (.seq (.seq (.ops Law_EstateApart_r19) (.cond (.tmp 60) .skip (.exit 3))) (.seq (.block 4 (.seq (.draw Law_EstateApart_r20 Law_EstateApart_e20) (.cond (.tmp 70) (.ops Law_EstateApart_r21) .skip))) (.ops Law_EstateApart_r22)))
def Law_EstateApart_r23 : List GO := [
  ⟨none, .mov 78 (.tmp 10)⟩,
  ⟨none, .mov 7 (.tmp 78)⟩]
def Law_EstateApart_r24 : List GO := [
  ⟨none, .bin 80 .eql 3 (.tmp 46) (.const (.int .i64 2))⟩,
  ⟨none, .mov 79 (.tmp 80)⟩]
def Law_EstateApart_r25 : List GO := [
  ⟨none, .mov 82 (.tmp 5)⟩,
  ⟨none, .fld 83 (.tmp 9) 1⟩,
  ⟨none, .load1 84 (.tmp 83)⟩,
  ⟨none, .fld 85 (.tmp 9) 2⟩,
  ⟨none, .load1 86 (.tmp 85)⟩,
  ⟨none, .call (some 87) 50 [(.tmp 82), (.tmp 84), (.tmp 86)]⟩,
  ⟨none, .mov 81 (.tmp 87)⟩,
  ⟨none, .ext 88 (.tmp 81) 0⟩,
  ⟨none, .ext 89 (.tmp 81) 1⟩,
  ⟨none, .mov 12 (.tmp 88)⟩,
  ⟨none, .mov 13 (.tmp 89)⟩]
def Law_EstateApart_r26 : List GO := [
  ⟨none, .mov 90 (.tmp 13)⟩,
  ⟨none, .bin 91 .neq 3 (.tmp 90) (.const (.int .i64 0))⟩]
def Law_EstateApart_r27 : List GO := [
  ⟨none, .mov 92 (.tmp 5)⟩,
  ⟨none, .fld 93 (.tmp 9) 1⟩,
  ⟨none, .load1 94 (.tmp 93)⟩,
  ⟨none, .call (some 95) 51 [(.tmp 92), (.tmp 94)]⟩,
  ⟨none, .mov 96 (.tmp 12)⟩,
  ⟨none, .bin 97 .quo 3 (.tmp 96) (.const (.int .i64 16))⟩,
  ⟨none, .call (some 98) 44 [(.tmp 95), (.tmp 97)]⟩,
  ⟨none, .un 99 .not (.tmp 98)⟩,
  ⟨none, .mov 100 (.tmp 99)⟩,
  ⟨some (100, false), .mov 101 (.tmp 12)⟩,
  ⟨some (100, false), .bin 102 .lss 3 (.tmp 101) (.const (.int .i64 0))⟩,
  ⟨none, .pick 103 (.tmp 100) (.const (.bool true)) (.tmp 102)⟩,
  ⟨none, .mov 104 (.tmp 103)⟩,
  ⟨some (104, false), .mov 105 (.tmp 12)⟩,
  ⟨some (104, false), .bin 106 .rem 3 (.tmp 105) (.const (.int .i64 16))⟩,
  ⟨some (104, false), .fld 107 (.tmp 9) 2⟩,
  ⟨some (104, false), .load1 108 (.tmp 107)⟩,
  ⟨some (104, false), .bin 109 .add 3 (.tmp 106) (.tmp 108)⟩,
  ⟨some (104, false), .bin 110 .gtr 3 (.tmp 109) (.const (.int .i64 16))⟩,
  ⟨none, .pick 111 (.tmp 104) (.const (.bool true)) (.tmp 110)⟩]
def Law_EstateApart_r28 : List GO := [
  ⟨none, .mov 4 (.const (.bool false))⟩]
def Law_EstateApart_r29 : List GO := [
  ⟨none, .mov 14 (.const (.int .i64 0))⟩]
def Law_EstateApart_r30 : List GO := [
  ⟨none, .mov 112 (.tmp 14)⟩,
  ⟨none, .mov 113 (.tmp 7)⟩,
  ⟨none, .len 114 (.tmp 113)⟩,
  ⟨none, .bin 115 .lss 3 (.tmp 112) (.tmp 114)⟩]
def Law_EstateApart_r31 : List GO := [
  ⟨none, .mov 118 (.tmp 12)⟩,
  ⟨none, .mov 119 (.tmp 7)⟩,
  ⟨none, .mov 120 (.tmp 14)⟩,
  ⟨none, .idx 121 3 (.tmp 119) (.tmp 120)⟩,
  ⟨none, .fld 122 (.tmp 121) 1⟩,
  ⟨none, .load1 123 (.tmp 122)⟩,
  ⟨none, .mov 124 (.tmp 7)⟩,
  ⟨none, .mov 125 (.tmp 14)⟩,
  ⟨none, .idx 126 3 (.tmp 124) (.tmp 125)⟩,
  ⟨none, .fld 127 (.tmp 126) 2⟩,
  ⟨none, .load1 128 (.tmp 127)⟩,
  ⟨none, .bin 129 .add 3 (.tmp 123) (.tmp 128)⟩,
  ⟨none, .bin 130 .lss 3 (.tmp 118) (.tmp 129)⟩,
  ⟨none, .mov 131 (.tmp 130)⟩,
  ⟨some (131, true), .mov 132 (.tmp 7)⟩,
  ⟨some (131, true), .mov 133 (.tmp 14)⟩,
  ⟨some (131, true), .idx 134 3 (.tmp 132) (.tmp 133)⟩,
  ⟨some (131, true), .fld 135 (.tmp 134) 1⟩,
  ⟨some (131, true), .load1 136 (.tmp 135)⟩,
  ⟨some (131, true), .mov 137 (.tmp 12)⟩,
  ⟨some (131, true), .fld 138 (.tmp 9) 2⟩,
  ⟨some (131, true), .load1 139 (.tmp 138)⟩,
  ⟨some (131, true), .bin 140 .add 3 (.tmp 137) (.tmp 139)⟩,
  ⟨some (131, true), .bin 141 .lss 3 (.tmp 136) (.tmp 140)⟩,
  ⟨none, .pick 142 (.tmp 131) (.tmp 141) (.const (.bool false))⟩]
def Law_EstateApart_e31 : List (List Nat) := [[], [], [], [1, 2], [3], [4], [], [], [6, 7], [8], [9], [5, 10], [0, 11], [12], [13], [13], [14, 15, 13], [16, 13], [17, 13], [13], [13], [20, 13], [19, 21, 13], [18, 22, 13], [13, 23]]
def Law_EstateApart_r32 : List GO := [
  ⟨none, .mov 4 (.const (.bool false))⟩]
def Law_EstateApart_r33 : List GO := [
  ⟨none, .mov 116 (.tmp 14)⟩,
  ⟨none, .bin 117 .add 3 (.tmp 116) (.const (.int .i64 1))⟩,
  ⟨none, .mov 14 (.tmp 117)⟩]
def Law_EstateApart_b30 : LC := (.seq (.seq (.ops Law_EstateApart_r30) (.cond (.tmp 115) .skip (.exit 5))) (.seq (.block 6 (.seq (.draw Law_EstateApart_r31 Law_EstateApart_e31) (.cond (.tmp 142) (.seq (.ops Law_EstateApart_r32) .ret) .skip))) (.ops Law_EstateApart_r33)))
def Law_EstateApart_r34 : List GO := [
  ⟨none, .mov 15 (.const (.int .i64 0))⟩]
def Law_EstateApart_r35 : List GO := [
  ⟨none, .mov 143 (.tmp 15)⟩,
  ⟨none, .fld 144 (.tmp 9) 2⟩,
  ⟨none, .load1 145 (.tmp 144)⟩,
  ⟨none, .bin 146 .lss 3 (.tmp 143) (.tmp 145)⟩]
def Law_EstateApart_r36 : List GO := [
  ⟨none, .mov 150 (.tmp 5)⟩,
  ⟨none, .nilc 151 (.tmp 150)⟩,
  ⟨none, .fld 152 (.tmp 151) 0⟩,
  ⟨none, .load1 153 (.tmp 152)⟩,
  ⟨none, .mov 154 (.tmp 12)⟩,
  ⟨none, .mov 155 (.tmp 15)⟩,
  ⟨none, .bin 156 .add 3 (.tmp 154) (.tmp 155)⟩,
  ⟨none, .call (some 157) 39 [(.tmp 153), (.tmp 156)]⟩,
  ⟨none, .mov 149 (.tmp 157)⟩,
  ⟨none, .ext 158 (.tmp 149) 0⟩,
  ⟨none, .ext 159 (.tmp 149) 1⟩,
  ⟨none, .mov 16 (.tmp 158)⟩,
  ⟨none, .mov 17 (.tmp 159)⟩]
def Law_EstateApart_r37 : List GO := [
  ⟨none, .mov 160 (.tmp 17)⟩,
  ⟨none, .un 161 .not (.tmp 160)⟩,
  ⟨none, .mov 162 (.tmp 161)⟩,
  ⟨some (162, false), .mov 163 (.tmp 16)⟩,
  ⟨some (162, false), .bin 164 .neq 2 (.tmp 163) (.const (.int .i64 0))⟩,
  ⟨none, .pick 165 (.tmp 162) (.const (.bool true)) (.tmp 164)⟩]
def Law_EstateApart_r38 : List GO := [
  ⟨none, .mov 4 (.const (.bool false))⟩]
def Law_EstateApart_r39 : List GO := [
  ⟨none, .mov 166 (.tmp 5)⟩,
  ⟨none, .nilc 167 (.tmp 166)⟩,
  ⟨none, .fld 168 (.tmp 167) 0⟩,
  ⟨none, .load1 169 (.tmp 168)⟩,
  ⟨none, .mov 170 (.tmp 12)⟩,
  ⟨none, .mov 171 (.tmp 15)⟩,
  ⟨none, .bin 172 .add 3 (.tmp 170) (.tmp 171)⟩,
  ⟨none, .call (some 173) 38 [(.tmp 169), (.tmp 172), (.const (.int .i64 7))]⟩]
def Law_EstateApart_r40 : List GO := [
  ⟨none, .mov 147 (.tmp 15)⟩,
  ⟨none, .bin 148 .add 3 (.tmp 147) (.const (.int .i64 1))⟩,
  ⟨none, .mov 15 (.tmp 148)⟩]
def Law_EstateApart_b35 : LC := (.seq (.seq (.ops Law_EstateApart_r35) (.cond (.tmp 146) .skip (.exit 7))) (.seq (.block 8 (.seq (.seq (.ops Law_EstateApart_r36) (.seq (.ops Law_EstateApart_r37) (.cond (.tmp 165) (.seq (.ops Law_EstateApart_r38) .ret) .skip))) (.ops Law_EstateApart_r39))) (.ops Law_EstateApart_r40)))
def Law_EstateApart_r41 : List GO := [
  ⟨none, .mov 174 (.tmp 7)⟩,
  ⟨none, .fld 175 (.tmp 9) 1⟩,
  ⟨none, .load1 176 (.tmp 175)⟩,
  ⟨none, .mov 177 (.tmp 12)⟩,
  ⟨none, .fld 178 (.tmp 9) 2⟩,
  ⟨none, .load1 179 (.tmp 178)⟩,
  ⟨none, .build 180 [(.int .i64 0), (.int .i64 0), (.int .i64 0)] [(0, (1, (.tmp 176))), (1, (1, (.tmp 177))), (2, (1, (.tmp 179)))]⟩,
  ⟨none, .buildS 181 76 1 [(.int .i64 0), (.int .i64 0), (.int .i64 0)] [(0, (3, (.tmp 180)))]⟩,
  ⟨none, .raw ⟨(some 182), (.call ⟨(.builtin .append), #[(.tmp 174), (.tmp 181)], #[74, 74]⟩), 74, "", #[], none⟩⟩,
  ⟨none, .mov 7 (.tmp 182)⟩]
def Law_EstateApart_r42 : List GO := [
  ⟨none, .mov 39 (.tmp 8)⟩,
  ⟨none, .bin 40 .add 3 (.tmp 39) (.const (.int .i64 1))⟩,
  ⟨none, .mov 8 (.tmp 40)⟩]
def Law_EstateApart_b10 : LC := (.seq (.seq (.ops Law_EstateApart_r10) (.cond (.tmp 38) .skip (.exit 0))) (.seq (.block 1 (.seq (.ops Law_EstateApart_r11) (.seq (.ops Law_EstateApart_r12) (.block 2 (.seq (.ops Law_EstateApart_r13) (.cond (.tmp 47) (.ops Law_EstateApart_r14) (.seq (.ops Law_EstateApart_r15) (.cond (.tmp 51) (.seq (.ops Law_EstateApart_r16) (.seq (.ops Law_EstateApart_r17) (.seq (.seq (.ops Law_EstateApart_r18) (.block 3 (.loop Law_EstateApart_b19))) (.ops Law_EstateApart_r23)))) (.seq (.ops Law_EstateApart_r24) (.cond (.tmp 79) (.seq (.ops Law_EstateApart_r25) (.seq (.seq (.ops Law_EstateApart_r26) (.cond (.tmp 91) (.exit 1) .skip)) (.seq (.seq (.ops Law_EstateApart_r27) (.cond (.tmp 111) (.seq (.ops Law_EstateApart_r28) .ret) .skip)) (.seq (.seq (.ops Law_EstateApart_r29) (.block 5 (.loop Law_EstateApart_b30))) (.seq (.seq (.ops Law_EstateApart_r34) (.block 7 (.loop Law_EstateApart_b35))) (.ops Law_EstateApart_r41)))))) .skip)))))))))) (.ops Law_EstateApart_r42)))
def Law_EstateApart_r43 : List GO := [
  ⟨none, .mov 18 (.const (.slice none 0 0))⟩]
def Law_EstateApart_r44 : List GO := [
  ⟨none, .mov 19 (.const (.int .i64 0))⟩]
def Law_EstateApart_r45 : List GO := [
  ⟨none, .mov 183 (.tmp 19)⟩,
  ⟨none, .bin 184 .lss 3 (.tmp 183) (.const (.int .i64 16))⟩]
def Law_EstateApart_r46 : List GO := [
  ⟨none, .mov 187 (.tmp 5)⟩,
  ⟨none, .mov 188 (.tmp 19)⟩,
  ⟨none, .call (some 189) 51 [(.tmp 187), (.tmp 188)]⟩,
  ⟨none, .mov 20 (.tmp 189)⟩]
def Law_EstateApart_r47 : List GO := [
  ⟨none, .mov 21 (.const (.int .i64 0))⟩]
def Law_EstateApart_r48 : List GO := [
  ⟨none, .mov 190 (.tmp 21)⟩,
  ⟨none, .mov 191 (.tmp 20)⟩,
  ⟨none, .len 192 (.tmp 191)⟩,
  ⟨none, .bin 193 .lss 3 (.tmp 190) (.tmp 192)⟩]
def Law_EstateApart_r49 : List GO := [
  ⟨none, .mov 196 (.tmp 18)⟩,
  ⟨none, .mov 197 (.tmp 20)⟩,
  ⟨none, .mov 198 (.tmp 21)⟩,
  ⟨none, .idx 199 1 (.tmp 197) (.tmp 198)⟩,
  ⟨none, .load1 200 (.tmp 199)⟩,
  ⟨none, .call (some 201) 44 [(.tmp 196), (.tmp 200)]⟩]
def Law_EstateApart_r50 : List GO := [
  ⟨none, .mov 4 (.const (.bool false))⟩]
def Law_EstateApart_r51 : List GO := [
  ⟨none, .mov 194 (.tmp 21)⟩,
  ⟨none, .bin 195 .add 3 (.tmp 194) (.const (.int .i64 1))⟩,
  ⟨none, .mov 21 (.tmp 195)⟩]
def Law_EstateApart_b48 : LC := (.seq (.seq (.ops Law_EstateApart_r48) (.cond (.tmp 193) .skip (.exit 11))) (.seq (.block 12 (.seq (.ops Law_EstateApart_r49) (.cond (.tmp 201) (.seq (.ops Law_EstateApart_r50) .ret) .skip))) (.ops Law_EstateApart_r51)))
def Law_EstateApart_r52 : List GO := [
  ⟨none, .mov 202 (.tmp 18)⟩,
  ⟨none, .mov 203 (.tmp 20)⟩,
  ⟨none, .raw ⟨(some 204), (.call ⟨(.builtin .append), #[(.tmp 202), (.tmp 203)], #[32, 32]⟩), 32, "", #[], none⟩⟩,
  ⟨none, .mov 18 (.tmp 204)⟩]
def Law_EstateApart_r53 : List GO := [
  ⟨none, .mov 185 (.tmp 19)⟩,
  ⟨none, .bin 186 .add 3 (.tmp 185) (.const (.int .i64 1))⟩,
  ⟨none, .mov 19 (.tmp 186)⟩]
def Law_EstateApart_b45 : LC := (.seq (.seq (.ops Law_EstateApart_r45) (.cond (.tmp 184) .skip (.exit 9))) (.seq (.block 10 (.seq (.ops Law_EstateApart_r46) (.seq (.seq (.ops Law_EstateApart_r47) (.block 11 (.loop Law_EstateApart_b48))) (.ops Law_EstateApart_r52)))) (.ops Law_EstateApart_r53)))
def Law_EstateApart_r54 : List GO := [
  ⟨none, .mov 205 (.tmp 18)⟩,
  ⟨none, .len 206 (.tmp 205)⟩,
  ⟨none, .mov 207 (.tmp 5)⟩,
  ⟨none, .nilc 208 (.tmp 207)⟩,
  ⟨none, .fld 209 (.tmp 208) 0⟩,
  ⟨none, .load1 210 (.tmp 209)⟩,
  ⟨none, .call (some 211) 42 [(.tmp 210)]⟩,
  ⟨none, .bin 212 .add 3 (.tmp 206) (.tmp 211)⟩,
  ⟨none, .mov 213 (.tmp 0)⟩,
  ⟨none, .bin 214 .eql 3 (.tmp 212) (.tmp 213)⟩,
  ⟨none, .mov 4 (.tmp 214)⟩]
def Law_EstateApart_lc : LC := (.seq (.ops Law_EstateApart_r0) (.seq (.seq (.ops Law_EstateApart_r1) (.cond (.tmp 23) (.seq (.ops Law_EstateApart_r2) .ret) .skip)) (.seq (.seq (.ops Law_EstateApart_r3) (.cond (.tmp 26) (.seq (.ops Law_EstateApart_r4) .ret) .skip)) (.seq (.ops Law_EstateApart_r5) (.seq (.seq (.ops Law_EstateApart_r6) (.cond (.tmp 34) (.seq (.ops Law_EstateApart_r7) .ret) .skip)) (.seq (.ops Law_EstateApart_r8) (.seq (.seq (.ops Law_EstateApart_r9) (.block 0 (.loop Law_EstateApart_b10))) (.seq (.ops Law_EstateApart_r43) (.seq (.seq (.ops Law_EstateApart_r44) (.block 9 (.loop Law_EstateApart_b45))) (.seq (.ops Law_EstateApart_r54) .ret))))))))))
@[reducible] def Law_EstateApart : FuncId := 9
theorem Law_EstateApart_low : lowF Try.prog Try.f9 = some Law_EstateApart_lc := by kernel_rfl
theorem Law_EstateApart_in {a0 a1 : Value} {w : World} {R : Ending → World → Prop} (h : Law_EstateApart_lc.wp Try.prog (retQ Try.prog [.tmp 4] R) (argEnv [a0, a1]) w) : Calls Try.prog Law_EstateApart ⟨[a0, a1]⟩ w R :=
  calls_of_low Try.func9 Law_EstateApart_low (by kernel_rfl) (by kernel_rfl) h

/- 13 -/
def Law_EstateDoes_r0 : List GO := [
  ⟨none, .mov 4 (.const (.bool false))⟩]
def Law_EstateDoes_r1 : List GO := [
  ⟨none, .call (some 14) 45 []⟩,
  ⟨none, .un 15 .not (.tmp 14)⟩]
def Law_EstateDoes_r2 : List GO := [
  ⟨none, .mov 4 (.const (.bool false))⟩]
def Law_EstateDoes_r3 : List GO := [
  ⟨none, .mov 16 (.tmp 1)⟩,
  ⟨none, .len 17 (.tmp 16)⟩,
  ⟨none, .bin 18 .gtr 3 (.tmp 17) (.const (.int .i64 300))⟩]
def Law_EstateDoes_r4 : List GO := [
  ⟨none, .mov 4 (.const (.bool true))⟩]
def Law_EstateDoes_r5 : List GO := [
  ⟨none, .mov 20 (.tmp 0)⟩,
  ⟨none, .call (some 21) 46 [(.tmp 20)]⟩,
  ⟨none, .mov 19 (.tmp 21)⟩,
  ⟨none, .ext 22 (.tmp 19) 0⟩,
  ⟨none, .ext 23 (.tmp 19) 1⟩,
  ⟨none, .alloc 6 48 [(.int .i64 0), (.int .i64 0)]⟩,
  ⟨none, .mov 5 (.tmp 22)⟩,
  ⟨none, .storen 2 (.tmp 6) (.tmp 23)⟩]
def Law_EstateDoes_r6 : List GO := [
  ⟨none, .mov 24 (.tmp 0)⟩,
  ⟨none, .bin 25 .lss 3 (.tmp 24) (.const (.int .i64 0))⟩,
  ⟨none, .mov 26 (.tmp 25)⟩,
  ⟨some (26, false), .mov 27 (.tmp 0)⟩,
  ⟨some (26, false), .bin 28 .gtr 3 (.tmp 27) (.const (.int .i64 64))⟩,
  ⟨none, .pick 29 (.tmp 26) (.const (.bool true)) (.tmp 28)⟩]
def Law_EstateDoes_r7 : List GO := [
  ⟨none, .loadn 30 2 (.tmp 6)⟩,
  ⟨none, .build 31 [(.int .i64 0), (.int .i64 0)] [(0, (1, (.const (.int .i64 1)))), (1, (1, (.const (.int .i64 (-1)))))]⟩,
  ⟨none, .bin 32 .eql 48 (.tmp 30) (.tmp 31)⟩,
  ⟨none, .mov 4 (.tmp 32)⟩]
def Law_EstateDoes_r8 : List GO := [
  ⟨none, .fld 33 (.tmp 6) 0⟩,
  ⟨none, .load1 34 (.tmp 33)⟩,
  ⟨none, .bin 35 .neq 3 (.tmp 34) (.const (.int .i64 0))⟩]
def Law_EstateDoes_r9 : List GO := [
  ⟨none, .mov 4 (.const (.bool false))⟩]
def Law_EstateDoes_r10 : List GO := [
  ⟨none, .mov 36 (.tmp 0)⟩,
  ⟨none, .call (some 37) 73 [(.tmp 36)]⟩,
  ⟨none, .mov 7 (.tmp 37)⟩]
def Law_EstateDoes_r11 : List GO := [
  ⟨none, .mov 8 (.const (.int .i64 0))⟩]
def Law_EstateDoes_r12 : List GO := [
  ⟨none, .mov 38 (.tmp 8)⟩,
  ⟨none, .mov 39 (.tmp 1)⟩,
  ⟨none, .len 40 (.tmp 39)⟩,
  ⟨none, .bin 41 .lss 3 (.tmp 38) (.tmp 40)⟩]
def Law_EstateDoes_r13 : List GO := [
  ⟨none, .mov 44 (.tmp 1)⟩,
  ⟨none, .mov 45 (.tmp 8)⟩,
  ⟨none, .idx 46 3 (.tmp 44) (.tmp 45)⟩,
  ⟨none, .loadn 47 3 (.tmp 46)⟩,
  ⟨none, .alloc 9 70 [(.int .i64 0), (.int .i64 0), (.int .i64 0)]⟩,
  ⟨none, .storen 3 (.tmp 9) (.tmp 47)⟩]
def Law_EstateDoes_r14 : List GO := [
  ⟨none, .fld 48 (.tmp 9) 0⟩,
  ⟨none, .load1 49 (.tmp 48)⟩]
def Law_EstateDoes_r15 : List GO := [
  ⟨none, .bin 51 .eql 3 (.tmp 49) (.const (.int .i64 0))⟩,
  ⟨none, .mov 50 (.tmp 51)⟩]
def Law_EstateDoes_r16 : List GO := [
  ⟨none, .mov 52 (.tmp 5)⟩,
  ⟨none, .call (some 53) 47 [(.tmp 52)]⟩,
  ⟨none, .mov 54 (.tmp 7)⟩,
  ⟨none, .call (some 55) 74 [(.tmp 54)]⟩,
  ⟨none, .bin 56 .neq 3 (.tmp 53) (.tmp 55)⟩]
def Law_EstateDoes_r17 : List GO := [
  ⟨none, .mov 4 (.const (.bool false))⟩]
def Law_EstateDoes_r18 : List GO := [
  ⟨none, .bin 58 .eql 3 (.tmp 49) (.const (.int .i64 1))⟩,
  ⟨none, .mov 57 (.tmp 58)⟩]
def Law_EstateDoes_r19 : List GO := [
  ⟨none, .mov 59 (.tmp 5)⟩,
  ⟨none, .fld 60 (.tmp 9) 1⟩,
  ⟨none, .load1 61 (.tmp 60)⟩,
  ⟨none, .call (some 62) 48 [(.tmp 59), (.tmp 61)]⟩,
  ⟨none, .mov 63 (.tmp 7)⟩,
  ⟨none, .fld 64 (.tmp 9) 1⟩,
  ⟨none, .load1 65 (.tmp 64)⟩,
  ⟨none, .call (some 66) 75 [(.tmp 63), (.tmp 65)]⟩,
  ⟨none, .bin 67 .neq 4 (.tmp 62) (.tmp 66)⟩]
def Law_EstateDoes_e19 : List (List Nat) := [[], [], [1], [0, 2], [], [], [5], [4, 6, 3], [3, 7]]
def Law_EstateDoes_r20 : List GO := [
  ⟨none, .mov 4 (.const (.bool false))⟩]
def Law_EstateDoes_r21 : List GO := [
  ⟨none, .bin 69 .eql 3 (.tmp 49) (.const (.int .i64 2))⟩,
  ⟨none, .mov 68 (.tmp 69)⟩]
def Law_EstateDoes_r22 : List GO := [
  ⟨none, .mov 71 (.tmp 5)⟩,
  ⟨none, .fld 72 (.tmp 9) 1⟩,
  ⟨none, .load1 73 (.tmp 72)⟩,
  ⟨none, .fld 74 (.tmp 9) 2⟩,
  ⟨none, .load1 75 (.tmp 74)⟩,
  ⟨none, .call (some 76) 50 [(.tmp 71), (.tmp 73), (.tmp 75)]⟩,
  ⟨none, .mov 70 (.tmp 76)⟩,
  ⟨none, .ext 77 (.tmp 70) 0⟩,
  ⟨none, .ext 78 (.tmp 70) 1⟩,
  ⟨none, .mov 10 (.tmp 77)⟩,
  ⟨none, .mov 11 (.tmp 78)⟩]
def Law_EstateDoes_r23 : List GO := [
  ⟨none, .mov 80 (.tmp 7)⟩,
  ⟨none, .fld 81 (.tmp 9) 1⟩,
  ⟨none, .load1 82 (.tmp 81)⟩,
  ⟨none, .fld 83 (.tmp 9) 2⟩,
  ⟨none, .load1 84 (.tmp 83)⟩,
  ⟨none, .call (some 85) 76 [(.tmp 80), (.tmp 82), (.tmp 84)]⟩,
  ⟨none, .mov 79 (.tmp 85)⟩,
  ⟨none, .ext 86 (.tmp 79) 0⟩,
  ⟨none, .ext 87 (.tmp 79) 1⟩,
  ⟨none, .mov 12 (.tmp 86)⟩,
  ⟨none, .mov 13 (.tmp 87)⟩]
def Law_EstateDoes_r24 : List GO := [
  ⟨none, .mov 88 (.tmp 10)⟩,
  ⟨none, .mov 89 (.tmp 12)⟩,
  ⟨none, .bin 90 .neq 3 (.tmp 88) (.tmp 89)⟩,
  ⟨none, .mov 91 (.tmp 90)⟩,
  ⟨some (91, false), .mov 92 (.tmp 11)⟩,
  ⟨some (91, false), .mov 93 (.tmp 13)⟩,
  ⟨some (91, false), .bin 94 .neq 3 (.tmp 92) (.tmp 93)⟩,
  ⟨none, .pick 95 (.tmp 91) (.const (.bool true)) (.tmp 94)⟩]
def Law_EstateDoes_r25 : List GO := [
  ⟨none, .mov 4 (.const (.bool false))⟩]
def Law_EstateDoes_r26 : List GO := [
  ⟨none, .bin 97 .eql 3 (.tmp 49) (.const (.int .i64 3))⟩,
  ⟨none, .mov 96 (.tmp 97)⟩]
def Law_EstateDoes_r27 : List GO := [
  ⟨none, .mov 98 (.tmp 5)⟩,
  ⟨none, .nilc 99 (.tmp 98)⟩,
  ⟨none, .fld 100 (.tmp 99) 0⟩,
  ⟨none, .load1 101 (.tmp 100)⟩,
  ⟨none, .fld 102 (.tmp 9) 1⟩,
  ⟨none, .load1 103 (.tmp 102)⟩,
  ⟨none, .fld 104 (.tmp 9) 2⟩,
  ⟨none, .load1 105 (.tmp 104)⟩,
  ⟨none, .call (some 106) 38 [(.tmp 101), (.tmp 103), (.tmp 105)]⟩]
def Law_EstateDoes_e27 : List (List Nat) := [[], [0], [1], [2], [], [4], [], [6], [3, 5, 7]]
def Law_EstateDoes_r28 : List GO := [
  ⟨none, .mov 107 (.tmp 7)⟩,
  ⟨none, .nilc 108 (.tmp 107)⟩,
  ⟨none, .fld 109 (.tmp 108) 0⟩,
  ⟨none, .load1 110 (.tmp 109)⟩,
  ⟨none, .nilc 111 (.tmp 110)⟩,
  ⟨none, .fld 112 (.tmp 111) 0⟩,
  ⟨none, .load1 113 (.tmp 112)⟩,
  ⟨none, .fld 114 (.tmp 9) 1⟩,
  ⟨none, .load1 115 (.tmp 114)⟩,
  ⟨none, .fld 116 (.tmp 9) 2⟩,
  ⟨none, .load1 117 (.tmp 116)⟩,
  ⟨none, .idx 118 1 (.tmp 113) (.tmp 115)⟩,
  ⟨none, .store1 (.tmp 118) (.tmp 117)⟩]
def Law_EstateDoes_e28 : List (List Nat) := [[], [0], [1], [2], [3], [4], [5], [], [7], [], [9], [6, 8, 0, 1, 2, 3, 4, 5, 6, 7, 8, 9, 10], [11, 10, 0, 1, 2, 3, 4, 5, 6, 7, 8, 9, 10]]
def Law_EstateDoes_r29 : List GO := [
  ⟨none, .mov 119 (.tmp 5)⟩,
  ⟨none, .fld 120 (.tmp 9) 1⟩,
  ⟨none, .load1 121 (.tmp 120)⟩,
  ⟨none, .call (some 122) 49 [(.tmp 119), (.tmp 121)]⟩,
  ⟨none, .mov 123 (.tmp 7)⟩,
  ⟨none, .fld 124 (.tmp 9) 1⟩,
  ⟨none, .load1 125 (.tmp 124)⟩,
  ⟨none, .call (some 126) 77 [(.tmp 123), (.tmp 125)]⟩,
  ⟨none, .bin 127 .neq 4 (.tmp 122) (.tmp 126)⟩,
  ⟨none, .mov 128 (.tmp 127)⟩,
  ⟨some (128, false), .mov 129 (.tmp 5)⟩,
  ⟨some (128, false), .call (some 130) 78 [(.tmp 129)]⟩,
  ⟨some (128, false), .mov 131 (.tmp 7)⟩,
  ⟨some (128, false), .call (some 132) 79 [(.tmp 131)]⟩,
  ⟨some (128, false), .bin 133 .neq 3 (.tmp 130) (.tmp 132)⟩,
  ⟨none, .pick 134 (.tmp 128) (.const (.bool true)) (.tmp 133)⟩,
  ⟨none, .mov 135 (.tmp 134)⟩,
  ⟨some (135, false), .mov 136 (.tmp 5)⟩,
  ⟨some (135, false), .nilc 137 (.tmp 136)⟩,
  ⟨some (135, false), .fld 138 (.tmp 137) 0⟩,
  ⟨some (135, false), .load1 139 (.tmp 138)⟩,
  ⟨some (135, false), .call (some 140) 42 [(.tmp 139)]⟩,
  ⟨some (135, false), .mov 141 (.tmp 7)⟩,
  ⟨some (135, false), .nilc 142 (.tmp 141)⟩,
  ⟨some (135, false), .fld 143 (.tmp 142) 0⟩,
  ⟨some (135, false), .load1 144 (.tmp 143)⟩,
  ⟨some (135, false), .call (some 145) 43 [(.tmp 144)]⟩,
  ⟨some (135, false), .bin 146 .neq 3 (.tmp 140) (.tmp 145)⟩,
  ⟨none, .pick 147 (.tmp 135) (.const (.bool true)) (.tmp 146)⟩,
  ⟨none, .mov 148 (.tmp 147)⟩,
  ⟨some (148, false), .mov 149 (.tmp 7)⟩,
  ⟨some (148, false), .fld 150 (.tmp 9) 1⟩,
  ⟨some (148, false), .load1 151 (.tmp 150)⟩,
  ⟨some (148, false), .call (some 152) 77 [(.tmp 149), (.tmp 151)]⟩,
  ⟨some (148, false), .mov 153 (.tmp 152)⟩,
  ⟨some (153, true), .mov 154 (.tmp 5)⟩,
  ⟨some (153, true), .fld 155 (.tmp 9) 1⟩,
  ⟨some (153, true), .load1 156 (.tmp 155)⟩,
  ⟨some (153, true), .call (some 157) 51 [(.tmp 154), (.tmp 156)]⟩,
  ⟨some (153, true), .mov 158 (.tmp 7)⟩,
  ⟨some (153, true), .nilc 159 (.tmp 158)⟩,
  ⟨some (153, true), .fld 160 (.tmp 159) 1⟩,
  ⟨some (153, true), .load1 161 (.tmp 160)⟩,
  ⟨some (153, true), .fld 162 (.tmp 9) 1⟩,
  ⟨some (153, true), .load1 163 (.tmp 162)⟩,
  ⟨some (153, true), .idx 164 3 (.tmp 161) (.tmp 163)⟩,
  ⟨some (153, true), .fld 165 (.tmp 164) 1⟩,
  ⟨some (153, true), .load1 166 (.tmp 165)⟩,
  ⟨some (153, true), .call (some 167) 27 [(.tmp 157), (.tmp 166)]⟩,
  ⟨some (153, true), .un 168 .not (.tmp 167)⟩,
  ⟨some (148, false), .pick 169 (.tmp 153) (.tmp 168) (.const (.bool false))⟩,
  ⟨none, .pick 170 (.tmp 148) (.const (.bool true)) (.tmp 169)⟩,
  ⟨none, .mov 171 (.tmp 170)⟩,
  ⟨some (171, false), .mov 172 (.tmp 7)⟩,
  ⟨some (171, false), .fld 173 (.tmp 9) 1⟩,
  ⟨some (171, false), .load1 174 (.tmp 173)⟩,
  ⟨some (171, false), .call (some 175) 77 [(.tmp 172), (.tmp 174)]⟩,
  ⟨some (171, false), .un 176 .not (.tmp 175)⟩,
  ⟨some (171, false), .mov 177 (.tmp 176)⟩,
  ⟨some (177, true), .mov 178 (.tmp 5)⟩,
  ⟨some (177, true), .fld 179 (.tmp 9) 1⟩,
  ⟨some (177, true), .load1 180 (.tmp 179)⟩,
  ⟨some (177, true), .call (some 181) 51 [(.tmp 178), (.tmp 180)]⟩,
  ⟨some (177, true), .len 182 (.tmp 181)⟩,
  ⟨some (177, true), .bin 183 .gtr 3 (.tmp 182) (.const (.int .i64 0))⟩,
  ⟨some (171, false), .pick 184 (.tmp 177) (.tmp 183) (.const (.bool false))⟩,
  ⟨none, .pick 185 (.tmp 171) (.const (.bool true)) (.tmp 184)⟩]
def Law_EstateDoes_e29 : List (List Nat) := [[], [], [1], [0, 2], [], [], [5], [4, 6, 3], [3, 7], [8, 7], [9], [10, 9, 9], [9], [12, 11, 9], [11, 13, 9], [9, 14], [15, 13], [16], [17, 16], [18, 16], [19, 16], [20, 16, 16], [16], [22, 16], [23, 16], [24, 16], [25, 21, 16], [21, 26, 16], [16, 27], [28, 26], [29], [29], [31, 29], [30, 32, 29, 29], [33, 33, 29], [34], [34], [36, 34], [35, 37, 34, 34], [34], [39, 34], [40, 34], [41, 34], [34], [43, 34], [42, 44, 34], [45, 34], [46, 34], [38, 47, 38, 34], [48, 34], [34, 49, 29], [29, 50], [51, 48], [52], [52], [54, 52], [53, 55, 52, 52], [56, 52], [57, 56, 52], [58], [58], [60, 58], [59, 61, 58, 58], [62, 58], [63, 58], [58, 64, 52], [52, 65]]
def Law_EstateDoes_r30 : List GO := [
  ⟨none, .mov 4 (.const (.bool false))⟩]
def Law_EstateDoes_r31 : List GO := [
  ⟨none, .mov 42 (.tmp 8)⟩,
  ⟨none, .bin 43 .add 3 (.tmp 42) (.const (.int .i64 1))⟩,
  ⟨none, .mov 8 (.tmp 43)⟩]
def Law_EstateDoes_b12 : LC := (.seq (.seq (.ops Law_EstateDoes_r12) (.cond (.tmp 41) .skip (.exit 0))) (.seq (.block 1 (.seq (.ops Law_EstateDoes_r13) (.seq (.seq (.ops Law_EstateDoes_r14) (.block 2 (.seq (.ops Law_EstateDoes_r15) (.cond (.tmp 50) (.seq (.ops Law_EstateDoes_r16) (.cond (.tmp 56) (.seq (.ops Law_EstateDoes_r17) .ret) .skip)) (.seq (.ops Law_EstateDoes_r18) (.cond (.tmp 57) (.seq (.draw Law_EstateDoes_r19 Law_EstateDoes_e19) (.cond (.tmp 67) (.seq (.ops Law_EstateDoes_r20) .ret) .skip)) (.seq (.ops Law_EstateDoes_r21) (.cond (.tmp 68) (.seq (.ops Law_EstateDoes_r22) (.seq (.ops Law_EstateDoes_r23) (.seq (.ops Law_EstateDoes_r24) (.cond (.tmp 95) (.seq (.ops Law_EstateDoes_r25) .ret) .skip)))) (.seq (.ops Law_EstateDoes_r26) (.cond (.tmp 96) (.seq (.draw Law_EstateDoes_r27 Law_EstateDoes_e27) (.cond (.tmp 106) (.draw Law_EstateDoes_r28 Law_EstateDoes_e28) .skip)) .skip)))))))))) (.seq (.draw Law_EstateDoes_r29 Law_EstateDoes_e29) (.cond (.tmp 185) (.seq (.ops Law_EstateDoes_r30) .ret) .skip))))) (.ops Law_EstateDoes_r31)))
def Law_EstateDoes_r32 : List GO := [
  ⟨none, .mov 186 (.tmp 5)⟩,
  ⟨none, .nilc 187 (.tmp 186)⟩,
  ⟨none, .fld 188 (.tmp 187) 0⟩,
  ⟨none, .load1 189 (.tmp 188)⟩,
  ⟨none, .call (some 190) 41 [(.tmp 189)]⟩,
  ⟨none, .mov 191 (.tmp 7)⟩,
  ⟨none, .nilc 192 (.tmp 191)⟩,
  ⟨none, .fld 193 (.tmp 192) 0⟩,
  ⟨none, .load1 194 (.tmp 193)⟩,
  ⟨none, .nilc 195 (.tmp 194)⟩,
  ⟨none, .fld 196 (.tmp 195) 0⟩,
  ⟨none, .load1 197 (.tmp 196)⟩,
  ⟨none, .call (some 198) 40 [(.tmp 190), (.tmp 197)]⟩,
  ⟨none, .mov 4 (.tmp 198)⟩]
def Law_EstateDoes_e32 : List (List Nat) := [[], [0], [1], [2], [3], [], [5], [6], [7], [8], [9], [10], [4, 11, 4], [12, 12, 0, 1, 2, 3, 4, 5, 6, 7, 8, 9, 10, 11, 12]]
def Law_EstateDoes_lc : LC := (.seq (.ops Law_EstateDoes_r0) (.seq (.seq (.ops Law_EstateDoes_r1) (.cond (.tmp 15) (.seq (.ops Law_EstateDoes_r2) .ret) .skip)) (.seq (.seq (.ops Law_EstateDoes_r3) (.cond (.tmp 18) (.seq (.ops Law_EstateDoes_r4) .ret) .skip)) (.seq (.ops Law_EstateDoes_r5) (.seq (.seq (.ops Law_EstateDoes_r6) (.cond (.tmp 29) (.seq (.ops Law_EstateDoes_r7) .ret) .skip)) (.seq (.seq (.ops Law_EstateDoes_r8) (.cond (.tmp 35) (.seq (.ops Law_EstateDoes_r9) .ret) .skip)) (.seq (.ops Law_EstateDoes_r10) (.seq (.seq (.ops Law_EstateDoes_r11) (.block 0 (.loop Law_EstateDoes_b12))) (.seq (.draw Law_EstateDoes_r32 Law_EstateDoes_e32) .ret)))))))))
@[reducible] def Law_EstateDoes : FuncId := 13
theorem Law_EstateDoes_low : lowF Try.prog Try.f13 = some Law_EstateDoes_lc := by kernel_rfl
theorem Law_EstateDoes_in {a0 a1 : Value} {w : World} {R : Ending → World → Prop} (h : Law_EstateDoes_lc.wp Try.prog (retQ Try.prog [.tmp 4] R) (argEnv [a0, a1]) w) : Calls Try.prog Law_EstateDoes ⟨[a0, a1]⟩ w R :=
  calls_of_low Try.func13 Law_EstateDoes_low (by kernel_rfl) (by kernel_rfl) h

/- 45 -/
def Law_estateBegun_r0 : List GO := [
  ⟨none, .mov 0 (.const (.bool false))⟩]
def Law_estateBegun_r1 : List GO := [
  ⟨none, .call (some 12) 46 [(.const (.int .i64 3))]⟩,
  ⟨none, .mov 11 (.tmp 12)⟩,
  ⟨none, .ext 13 (.tmp 11) 0⟩,
  ⟨none, .ext 14 (.tmp 11) 1⟩,
  ⟨none, .alloc 2 48 [(.int .i64 0), (.int .i64 0)]⟩,
  ⟨none, .mov 1 (.tmp 13)⟩,
  ⟨none, .storen 2 (.tmp 2) (.tmp 14)⟩]
def Law_estateBegun_r2 : List GO := [
  ⟨none, .fld 15 (.tmp 2) 0⟩,
  ⟨none, .load1 16 (.tmp 15)⟩,
  ⟨none, .bin 17 .neq 3 (.tmp 16) (.const (.int .i64 0))⟩,
  ⟨none, .mov 18 (.tmp 17)⟩,
  ⟨some (18, false), .mov 19 (.tmp 1)⟩,
  ⟨some (18, false), .call (some 20) 47 [(.tmp 19)]⟩,
  ⟨some (18, false), .bin 21 .neq 3 (.tmp 20) (.const (.int .i64 0))⟩,
  ⟨none, .pick 22 (.tmp 18) (.const (.bool true)) (.tmp 21)⟩,
  ⟨none, .mov 23 (.tmp 22)⟩,
  ⟨some (23, false), .mov 24 (.tmp 1)⟩,
  ⟨some (23, false), .call (some 25) 47 [(.tmp 24)]⟩,
  ⟨some (23, false), .bin 26 .neq 3 (.tmp 25) (.const (.int .i64 1))⟩,
  ⟨none, .pick 27 (.tmp 23) (.const (.bool true)) (.tmp 26)⟩]
def Law_estateBegun_r3 : List GO := [
  ⟨none, .mov 0 (.const (.bool false))⟩]
def Law_estateBegun_r4 : List GO := [
  ⟨none, .mov 29 (.tmp 1)⟩,
  ⟨none, .call (some 30) 50 [(.tmp 29), (.const (.int .i64 0)), (.const (.int .i64 10))]⟩,
  ⟨none, .mov 28 (.tmp 30)⟩,
  ⟨none, .ext 31 (.tmp 28) 0⟩,
  ⟨none, .ext 32 (.tmp 28) 1⟩,
  ⟨none, .mov 3 (.tmp 31)⟩,
  ⟨none, .mov 4 (.tmp 32)⟩]
def Law_estateBegun_r5 : List GO := [
  ⟨none, .mov 34 (.tmp 1)⟩,
  ⟨none, .call (some 35) 50 [(.tmp 34), (.const (.int .i64 0)), (.const (.int .i64 7))]⟩,
  ⟨none, .mov 33 (.tmp 35)⟩,
  ⟨none, .ext 36 (.tmp 33) 0⟩,
  ⟨none, .ext 37 (.tmp 33) 1⟩,
  ⟨none, .mov 5 (.tmp 36)⟩,
  ⟨none, .mov 6 (.tmp 37)⟩]
def Law_estateBegun_r6 : List GO := [
  ⟨none, .mov 39 (.tmp 1)⟩,
  ⟨none, .call (some 40) 50 [(.tmp 39), (.const (.int .i64 0)), (.const (.int .i64 6))]⟩,
  ⟨none, .mov 38 (.tmp 40)⟩,
  ⟨none, .ext 41 (.tmp 38) 0⟩,
  ⟨none, .ext 42 (.tmp 38) 1⟩,
  ⟨none, .mov 7 (.tmp 41)⟩,
  ⟨none, .mov 8 (.tmp 42)⟩]
def Law_estateBegun_r7 : List GO := [
  ⟨none, .mov 44 (.tmp 1)⟩,
  ⟨none, .call (some 45) 50 [(.tmp 44), (.const (.int .i64 2)), (.const (.int .i64 1))]⟩,
  ⟨none, .mov 43 (.tmp 45)⟩,
  ⟨none, .ext 46 (.tmp 43) 0⟩,
  ⟨none, .ext 47 (.tmp 43) 1⟩,
  ⟨none, .mov 9 (.tmp 46)⟩,
  ⟨none, .mov 10 (.tmp 47)⟩]
def Law_estateBegun_r8 : List GO := [
  ⟨none, .mov 48 (.tmp 4)⟩,
  ⟨none, .bin 49 .eql 3 (.tmp 48) (.const (.int .i64 0))⟩,
  ⟨none, .mov 50 (.tmp 49)⟩,
  ⟨some (50, true), .mov 51 (.tmp 6)⟩,
  ⟨some (50, true), .bin 52 .eql 3 (.tmp 51) (.const (.int .i64 0))⟩,
  ⟨none, .pick 53 (.tmp 50) (.tmp 52) (.const (.bool false))⟩,
  ⟨none, .mov 54 (.tmp 53)⟩,
  ⟨some (54, true), .mov 55 (.tmp 8)⟩,
  ⟨some (54, true), .bin 56 .eql 3 (.tmp 55) (.const (.int .i64 0))⟩,
  ⟨none, .pick 57 (.tmp 54) (.tmp 56) (.const (.bool false))⟩,
  ⟨none, .mov 58 (.tmp 57)⟩,
  ⟨some (58, true), .mov 59 (.tmp 10)⟩,
  ⟨some (58, true), .bin 60 .eql 3 (.tmp 59) (.const (.int .i64 15))⟩,
  ⟨none, .pick 61 (.tmp 58) (.tmp 60) (.const (.bool false))⟩,
  ⟨none, .mov 62 (.tmp 61)⟩,
  ⟨some (62, true), .mov 63 (.tmp 3)⟩,
  ⟨some (62, true), .bin 64 .eql 3 (.tmp 63) (.const (.int .i64 0))⟩,
  ⟨none, .pick 65 (.tmp 62) (.tmp 64) (.const (.bool false))⟩,
  ⟨none, .mov 66 (.tmp 65)⟩,
  ⟨some (66, true), .mov 67 (.tmp 5)⟩,
  ⟨some (66, true), .bin 68 .eql 3 (.tmp 67) (.const (.int .i64 16))⟩,
  ⟨none, .pick 69 (.tmp 66) (.tmp 68) (.const (.bool false))⟩,
  ⟨none, .mov 70 (.tmp 69)⟩,
  ⟨some (70, true), .mov 71 (.tmp 7)⟩,
  ⟨some (70, true), .bin 72 .eql 3 (.tmp 71) (.const (.int .i64 23))⟩,
  ⟨none, .pick 73 (.tmp 70) (.tmp 72) (.const (.bool false))⟩,
  ⟨none, .mov 74 (.tmp 73)⟩,
  ⟨some (74, true), .mov 75 (.tmp 1)⟩,
  ⟨some (74, true), .call (some 76) 51 [(.tmp 75), (.const (.int .i64 0))]⟩,
  ⟨some (74, true), .buildS 77 3 2 [(.int .i64 0), (.int .i64 0)] [(0, (1, (.const (.int .i64 0)))), (1, (1, (.const (.int .i64 1))))]⟩,
  ⟨some (74, true), .call (some 78) 27 [(.tmp 76), (.tmp 77)]⟩,
  ⟨none, .pick 79 (.tmp 74) (.tmp 78) (.const (.bool false))⟩,
  ⟨none, .mov 80 (.tmp 79)⟩,
  ⟨some (80, true), .mov 81 (.tmp 1)⟩,
  ⟨some (80, true), .call (some 82) 48 [(.tmp 81), (.const (.int .i64 0))]⟩,
  ⟨none, .pick 83 (.tmp 80) (.tmp 82) (.const (.bool false))⟩,
  ⟨none, .mov 84 (.tmp 83)⟩,
  ⟨some (84, true), .mov 85 (.tmp 1)⟩,
  ⟨some (84, true), .call (some 86) 78 [(.tmp 85)]⟩,
  ⟨some (84, true), .bin 87 .eql 3 (.tmp 86) (.const (.int .i64 1))⟩,
  ⟨none, .pick 88 (.tmp 84) (.tmp 87) (.const (.bool false))⟩,
  ⟨none, .mov 89 (.tmp 88)⟩,
  ⟨some (89, true), .mov 90 (.tmp 1)⟩,
  ⟨some (89, true), .nilc 91 (.tmp 90)⟩,
  ⟨some (89, true), .fld 92 (.tmp 91) 0⟩,
  ⟨some (89, true), .load1 93 (.tmp 92)⟩,
  ⟨some (89, true), .call (some 94) 42 [(.tmp 93)]⟩,
  ⟨some (89, true), .bin 95 .eql 3 (.tmp 94) (.const (.int .i64 3))⟩,
  ⟨none, .pick 96 (.tmp 89) (.tmp 95) (.const (.bool false))⟩,
  ⟨none, .mov 0 (.tmp 96)⟩]
def Law_estateBegun_lc : LC := (.seq (.ops Law_estateBegun_r0) (.seq (.ops Law_estateBegun_r1) (.seq (.seq (.ops Law_estateBegun_r2) (.cond (.tmp 27) (.seq (.ops Law_estateBegun_r3) .ret) .skip)) (.seq (.ops Law_estateBegun_r4) (.seq (.ops Law_estateBegun_r5) (.seq (.ops Law_estateBegun_r6) (.seq (.ops Law_estateBegun_r7) (.seq (.ops Law_estateBegun_r8) .ret))))))))
@[reducible] def Law_estateBegun : FuncId := 45
theorem Law_estateBegun_low : lowF Try.prog Try.f45 = some Law_estateBegun_lc := by kernel_rfl
theorem Law_estateBegun_in {w : World} {R : Ending → World → Prop} (h : Law_estateBegun_lc.wp Try.prog (retQ Try.prog [.tmp 0] R) (argEnv []) w) : Calls Try.prog Law_estateBegun ⟨[]⟩ w R :=
  calls_of_low Try.func45 Law_estateBegun_low (by kernel_rfl) (by kernel_rfl) h

/- 46 -/
def estate_New_r0 : List GO := [
  ⟨none, .mov 2 (.const (.pointer none))⟩,
  ⟨none, .alloc 3 48 [(.int .i64 0), (.int .i64 0)]⟩]
def estate_New_r1 : List GO := [
  ⟨none, .mov 7 (.tmp 0)⟩,
  ⟨none, .call (some 8) 32 [(.tmp 7)]⟩,
  ⟨none, .mov 6 (.tmp 8)⟩,
  ⟨none, .ext 9 (.tmp 6) 0⟩,
  ⟨none, .ext 10 (.tmp 6) 1⟩,
  ⟨none, .alloc 5 48 [(.int .i64 0), (.int .i64 0)]⟩,
  ⟨none, .mov 4 (.tmp 9)⟩,
  ⟨none, .storen 2 (.tmp 5) (.tmp 10)⟩]
def estate_New_r2 : List GO := [
  ⟨none, .fld 11 (.tmp 5) 0⟩,
  ⟨none, .load1 12 (.tmp 11)⟩,
  ⟨none, .bin 13 .neq 3 (.tmp 12) (.const (.int .i64 0))⟩]
def estate_New_r3 : List GO := [
  ⟨none, .loadn 14 2 (.tmp 5)⟩,
  ⟨none, .mov 2 (.const (.pointer none))⟩,
  ⟨none, .storen 2 (.tmp 3) (.tmp 14)⟩]
def estate_New_e3 : List (List Nat) := [[], [], [0, 1, 0, 1]]
def estate_New_r4 : List GO := [
  ⟨none, .mov 15 (.tmp 4)⟩,
  ⟨none, .build 16 [(.pointer none), (.bool false), (.slice none 0 0), (.int .i64 0), (.bool false), (.slice none 0 0), (.int .i64 0), (.bool false), (.slice none 0 0), (.int .i64 0), (.bool false), (.slice none 0 0), (.int .i64 0), (.bool false), (.slice none 0 0), (.int .i64 0), (.bool false), (.slice none 0 0), (.int .i64 0), (.bool false), (.slice none 0 0), (.int .i64 0), (.bool false), (.slice none 0 0), (.int .i64 0), (.bool false), (.slice none 0 0), (.int .i64 0), (.bool false), (.slice none 0 0), (.int .i64 0), (.bool false), (.slice none 0 0), (.int .i64 0), (.bool false), (.slice none 0 0), (.int .i64 0), (.bool false), (.slice none 0 0), (.int .i64 0), (.bool false), (.slice none 0 0), (.int .i64 0), (.bool false), (.slice none 0 0), (.int .i64 0), (.bool false), (.slice none 0 0), (.int .i64 0)] [(0, (1, (.tmp 15)))]⟩,
  ⟨none, .box 17 82 (.tmp 16)⟩,
  ⟨none, .build 18 [(.int .i64 0), (.int .i64 0)] []⟩,
  ⟨none, .mov 2 (.tmp 17)⟩,
  ⟨none, .storen 2 (.tmp 3) (.tmp 18)⟩]
def estate_New_lc : LC := (.seq (.ops estate_New_r0) (.seq (.ops estate_New_r1) (.seq (.seq (.ops estate_New_r2) (.cond (.tmp 13) (.seq (.draw estate_New_r3 estate_New_e3) .ret) .skip)) (.seq (.ops estate_New_r4) .ret))))
@[reducible] def estate_New : FuncId := 46
theorem estate_New_low : lowF Try.prog Try.f46 = some estate_New_lc := by kernel_rfl
theorem estate_New_in {a0 : Value} {w : World} {R : Ending → World → Prop} (h : estate_New_lc.wp Try.prog (retQ Try.prog [.tmp 2, .cell 3 48] R) (argEnv [a0]) w) : Calls Try.prog estate_New ⟨[a0]⟩ w R :=
  calls_of_low Try.func46 estate_New_low (by kernel_rfl) (by kernel_rfl) h

/- 47 -/
def estate_Estate_Open_r0 : List GO := [
  ⟨none, .mov 2 (.const (.int .i64 0))⟩]
def estate_Estate_Open_r1 : List GO := [
  ⟨none, .mov 4 (.const (.int .i64 0))⟩]
def estate_Estate_Open_r2 : List GO := [
  ⟨none, .bin 5 .lss 3 (.tmp 4) (.const (.int .i64 16))⟩]
def estate_Estate_Open_r3 : List GO := [
  ⟨none, .mov 6 (.tmp 4)⟩,
  ⟨none, .mov 3 (.tmp 6)⟩]
def estate_Estate_Open_r4 : List GO := [
  ⟨none, .mov 7 (.tmp 0)⟩,
  ⟨none, .mov 8 (.tmp 3)⟩,
  ⟨none, .nilc 9 (.tmp 7)⟩,
  ⟨none, .fld 10 (.tmp 9) 1⟩,
  ⟨none, .idxa 11 16 3 (.tmp 10) (.tmp 8)⟩,
  ⟨none, .fld 12 (.tmp 11) 0⟩,
  ⟨none, .load1 13 (.tmp 12)⟩,
  ⟨none, .un 14 .not (.tmp 13)⟩]
def estate_Estate_Open_r5 : List GO := [
  ⟨none, .mov 15 (.tmp 0)⟩,
  ⟨none, .mov 16 (.tmp 3)⟩,
  ⟨none, .build 17 [(.bool false), (.slice none 0 0), (.int .i64 0)] [(0, (1, (.const (.bool true))))]⟩,
  ⟨none, .nilc 18 (.tmp 15)⟩,
  ⟨none, .fld 19 (.tmp 18) 1⟩,
  ⟨none, .idxa 20 16 3 (.tmp 19) (.tmp 16)⟩,
  ⟨none, .storen 3 (.tmp 20) (.tmp 17)⟩]
def estate_Estate_Open_r6 : List GO := [
  ⟨none, .mov 21 (.tmp 3)⟩,
  ⟨none, .mov 2 (.tmp 21)⟩]
def estate_Estate_Open_r7 : List GO := [
  ⟨none, .bin 22 .add 3 (.tmp 4) (.const (.int .i64 1))⟩,
  ⟨none, .mov 4 (.tmp 22)⟩]
def estate_Estate_Open_b2 : LC := (.seq (.ops estate_Estate_Open_r2) (.seq (.cond (.tmp 5) .skip (.exit 0)) (.seq (.block 1 (.seq (.ops estate_Estate_Open_r3) (.seq (.ops estate_Estate_Open_r4) (.cond (.tmp 14) (.seq (.ops estate_Estate_Open_r5) (.seq (.ops estate_Estate_Open_r6) .ret)) .skip)))) (.ops estate_Estate_Open_r7))))
def estate_Estate_Open_r8 : List GO := [
  ⟨none, .mov 2 (.const (.int .i64 (-1)))⟩]
def estate_Estate_Open_lc : LC := (.seq (.ops estate_Estate_Open_r0) (.seq (.seq (.ops estate_Estate_Open_r1) (.block 0 (.loop estate_Estate_Open_b2))) (.seq (.ops estate_Estate_Open_r8) .ret)))
@[reducible] def estate_Estate_Open : FuncId := 47
theorem estate_Estate_Open_low : lowF Try.prog Try.f47 = some estate_Estate_Open_lc := by kernel_rfl
theorem estate_Estate_Open_in {a0 : Value} {w : World} {R : Ending → World → Prop} (h : estate_Estate_Open_lc.wp Try.prog (retQ Try.prog [.tmp 2] R) (argEnv [a0]) w) : Calls Try.prog estate_Estate_Open ⟨[a0]⟩ w R :=
  calls_of_low Try.func47 estate_Estate_Open_low (by kernel_rfl) (by kernel_rfl) h

/- 48 -/
def estate_Estate_Shut_r0 : List GO := [
  ⟨none, .mov 4 (.const (.bool false))⟩]
def estate_Estate_Shut_r1 : List GO := [
  ⟨none, .mov 7 (.tmp 0)⟩,
  ⟨none, .mov 8 (.tmp 1)⟩,
  ⟨none, .call (some 9) 84 [(.tmp 7), (.tmp 8)]⟩,
  ⟨none, .un 10 .not (.tmp 9)⟩]
def estate_Estate_Shut_r2 : List GO := [
  ⟨none, .mov 4 (.const (.bool false))⟩]
def estate_Estate_Shut_r3 : List GO := [
  ⟨none, .mov 11 (.tmp 0)⟩,
  ⟨none, .mov 12 (.tmp 1)⟩,
  ⟨none, .nilc 13 (.tmp 11)⟩,
  ⟨none, .fld 14 (.tmp 13) 1⟩,
  ⟨none, .idxa 15 16 3 (.tmp 14) (.tmp 12)⟩,
  ⟨none, .fld 16 (.tmp 15) 1⟩,
  ⟨none, .load1 17 (.tmp 16)⟩,
  ⟨none, .len 18 (.tmp 17)⟩,
  ⟨none, .mov 19 (.const (.int .i64 0))⟩]
def estate_Estate_Shut_r4 : List GO := [
  ⟨none, .bin 20 .lss 3 (.tmp 19) (.tmp 18)⟩]
def estate_Estate_Shut_r5 : List GO := [
  ⟨none, .idx 21 1 (.tmp 17) (.tmp 19)⟩,
  ⟨none, .load1 22 (.tmp 21)⟩,
  ⟨none, .mov 6 (.tmp 22)⟩]
def estate_Estate_Shut_r6 : List GO := [
  ⟨none, .mov 23 (.tmp 0)⟩,
  ⟨none, .nilc 24 (.tmp 23)⟩,
  ⟨none, .fld 25 (.tmp 24) 0⟩,
  ⟨none, .load1 26 (.tmp 25)⟩,
  ⟨none, .mov 27 (.tmp 6)⟩,
  ⟨none, .call (some 28) 36 [(.tmp 26), (.tmp 27)]⟩]
def estate_Estate_Shut_r7 : List GO := [
  ⟨none, .bin 29 .add 3 (.tmp 19) (.const (.int .i64 1))⟩,
  ⟨none, .mov 19 (.tmp 29)⟩]
def estate_Estate_Shut_b4 : LC := (.seq (.ops estate_Estate_Shut_r4) (.seq (.cond (.tmp 20) .skip (.exit 0)) (.seq (.block 1 (.seq (.ops estate_Estate_Shut_r5) (.ops estate_Estate_Shut_r6))) (.ops estate_Estate_Shut_r7))))
def estate_Estate_Shut_r8 : List GO := [
  ⟨none, .mov 30 (.tmp 0)⟩,
  ⟨none, .mov 31 (.tmp 1)⟩,
  ⟨none, .build 32 [(.bool false), (.slice none 0 0), (.int .i64 0)] []⟩,
  ⟨none, .nilc 33 (.tmp 30)⟩,
  ⟨none, .fld 34 (.tmp 33) 1⟩,
  ⟨none, .idxa 35 16 3 (.tmp 34) (.tmp 31)⟩,
  ⟨none, .storen 3 (.tmp 35) (.tmp 32)⟩]
def estate_Estate_Shut_r9 : List GO := [
  ⟨none, .mov 4 (.const (.bool true))⟩]
def estate_Estate_Shut_lc : LC := (.seq (.ops estate_Estate_Shut_r0) (.seq (.seq (.ops estate_Estate_Shut_r1) (.cond (.tmp 10) (.seq (.ops estate_Estate_Shut_r2) .ret) .skip)) (.seq (.seq (.ops estate_Estate_Shut_r3) (.block 0 (.loop estate_Estate_Shut_b4))) (.seq (.ops estate_Estate_Shut_r8) (.seq (.ops estate_Estate_Shut_r9) .ret)))))
@[reducible] def estate_Estate_Shut : FuncId := 48
theorem estate_Estate_Shut_low : lowF Try.prog Try.f48 = some estate_Estate_Shut_lc := by kernel_rfl
theorem estate_Estate_Shut_in {a0 a1 : Value} {w : World} {R : Ending → World → Prop} (h : estate_Estate_Shut_lc.wp Try.prog (retQ Try.prog [.tmp 4] R) (argEnv [a0, a1]) w) : Calls Try.prog estate_Estate_Shut ⟨[a0, a1]⟩ w R :=
  calls_of_low Try.func48 estate_Estate_Shut_low (by kernel_rfl) (by kernel_rfl) h

/- 49 -/
def estate_Estate_Has_r0 : List GO := [
  ⟨none, .mov 4 (.const (.bool false))⟩]
def estate_Estate_Has_r1 : List GO := [
  ⟨none, .mov 5 (.tmp 0)⟩,
  ⟨none, .mov 6 (.tmp 1)⟩,
  ⟨none, .call (some 7) 84 [(.tmp 5), (.tmp 6)]⟩,
  ⟨none, .mov 4 (.tmp 7)⟩]
def estate_Estate_Has_lc : LC := (.seq (.ops estate_Estate_Has_r0) (.seq (.ops estate_Estate_Has_r1) .ret))
@[reducible] def estate_Estate_Has : FuncId := 49
theorem estate_Estate_Has_low : lowF Try.prog Try.f49 = some estate_Estate_Has_lc := by kernel_rfl
theorem estate_Estate_Has_in {a0 a1 : Value} {w : World} {R : Ending → World → Prop} (h : estate_Estate_Has_lc.wp Try.prog (retQ Try.prog [.tmp 4] R) (argEnv [a0, a1]) w) : Calls Try.prog estate_Estate_Has ⟨[a0, a1]⟩ w R :=
  calls_of_low Try.func49 estate_Estate_Has_low (by kernel_rfl) (by kernel_rfl) h

/- 50 -/
def estate_Estate_Get_r0 : List GO := [
  ⟨none, .mov 6 (.const (.int .i64 0))⟩,
  ⟨none, .mov 7 (.const (.int .i64 0))⟩]
def estate_Estate_Get_r1 : List GO := [
  ⟨none, .mov 12 (.tmp 0)⟩,
  ⟨none, .mov 13 (.tmp 1)⟩,
  ⟨none, .call (some 14) 84 [(.tmp 12), (.tmp 13)]⟩,
  ⟨none, .un 15 .not (.tmp 14)⟩,
  ⟨none, .mov 11 (.tmp 15)⟩]
def estate_Estate_Get_r2 : List GO := [
  ⟨none, .mov 6 (.const (.int .i64 0))⟩,
  ⟨none, .mov 7 (.const (.int .i64 15))⟩]
def estate_Estate_Get_r3 : List GO := [
  ⟨none, .mov 17 (.tmp 2)⟩,
  ⟨none, .bin 18 .lss 3 (.tmp 17) (.const (.int .i64 1))⟩,
  ⟨none, .mov 19 (.tmp 18)⟩,
  ⟨some (19, false), .mov 20 (.tmp 2)⟩,
  ⟨some (19, false), .bin 21 .gtr 3 (.tmp 20) (.const (.int .i64 16))⟩,
  ⟨none, .pick 22 (.tmp 19) (.const (.bool true)) (.tmp 21)⟩,
  ⟨none, .mov 16 (.tmp 22)⟩]
def estate_Estate_Get_r4 : List GO := [
  ⟨none, .mov 6 (.const (.int .i64 0))⟩,
  ⟨none, .mov 7 (.const (.int .i64 1))⟩]
def estate_Estate_Get_r5 : List GO := [
  ⟨none, .mov 23 (.tmp 0)⟩,
  ⟨none, .mov 24 (.tmp 1)⟩,
  ⟨none, .nilc 25 (.tmp 23)⟩,
  ⟨none, .fld 26 (.tmp 25) 1⟩,
  ⟨none, .idxa 27 16 3 (.tmp 26) (.tmp 24)⟩,
  ⟨none, .mov 8 (.tmp 27)⟩]
def estate_Estate_Get_r6 : List GO := [
  ⟨none, .mov 28 (.tmp 8)⟩,
  ⟨none, .nilc 29 (.tmp 28)⟩,
  ⟨none, .fld 30 (.tmp 29) 1⟩,
  ⟨none, .load1 31 (.tmp 30)⟩,
  ⟨none, .len 32 (.tmp 31)⟩,
  ⟨none, .bin 33 .eql 3 (.tmp 32) (.const (.int .i64 0))⟩,
  ⟨none, .mov 34 (.tmp 33)⟩,
  ⟨some (34, false), .mov 35 (.tmp 8)⟩,
  ⟨some (34, false), .nilc 36 (.tmp 35)⟩,
  ⟨some (34, false), .fld 37 (.tmp 36) 2⟩,
  ⟨some (34, false), .load1 38 (.tmp 37)⟩,
  ⟨some (34, false), .mov 39 (.tmp 2)⟩,
  ⟨some (34, false), .bin 40 .add 3 (.tmp 38) (.tmp 39)⟩,
  ⟨some (34, false), .bin 41 .gtr 3 (.tmp 40) (.const (.int .i64 16))⟩,
  ⟨none, .pick 42 (.tmp 34) (.const (.bool true)) (.tmp 41)⟩]
def estate_Estate_Get_r7 : List GO := [
  ⟨none, .mov 43 (.tmp 0)⟩,
  ⟨none, .nilc 44 (.tmp 43)⟩,
  ⟨none, .fld 45 (.tmp 44) 0⟩,
  ⟨none, .load1 46 (.tmp 45)⟩,
  ⟨none, .call (some 47) 34 [(.tmp 46)]⟩,
  ⟨none, .mov 9 (.tmp 47)⟩]
def estate_Estate_Get_r8 : List GO := [
  ⟨none, .mov 48 (.tmp 9)⟩,
  ⟨none, .bin 49 .lss 3 (.tmp 48) (.const (.int .i64 0))⟩]
def estate_Estate_Get_r9 : List GO := [
  ⟨none, .mov 6 (.const (.int .i64 0))⟩,
  ⟨none, .mov 7 (.const (.int .i64 14))⟩]
def estate_Estate_Get_r10 : List GO := [
  ⟨none, .mov 50 (.tmp 8)⟩,
  ⟨none, .mov 51 (.tmp 8)⟩,
  ⟨none, .nilc 52 (.tmp 51)⟩,
  ⟨none, .fld 53 (.tmp 52) 1⟩,
  ⟨none, .load1 54 (.tmp 53)⟩,
  ⟨none, .mov 55 (.tmp 9)⟩,
  ⟨none, .buildS 56 3 1 [(.int .i64 0)] [(0, (1, (.tmp 55)))]⟩,
  ⟨none, .raw ⟨(some 57), (.call ⟨(.builtin .append), #[(.tmp 54), (.tmp 56)], #[32, 32]⟩), 32, "", #[], none⟩⟩,
  ⟨none, .nilc 58 (.tmp 50)⟩,
  ⟨none, .fld 59 (.tmp 58) 1⟩,
  ⟨none, .store1 (.tmp 59) (.tmp 57)⟩]
def estate_Estate_Get_r11 : List GO := [
  ⟨none, .mov 60 (.tmp 8)⟩,
  ⟨none, .nilc 61 (.tmp 60)⟩,
  ⟨none, .fld 62 (.tmp 61) 2⟩,
  ⟨none, .store1 (.tmp 62) (.const (.int .i64 0))⟩]
def estate_Estate_Get_r12 : List GO := [
  ⟨none, .mov 63 (.tmp 8)⟩,
  ⟨none, .nilc 64 (.tmp 63)⟩,
  ⟨none, .fld 65 (.tmp 64) 1⟩,
  ⟨none, .load1 66 (.tmp 65)⟩,
  ⟨none, .mov 67 (.tmp 8)⟩,
  ⟨none, .nilc 68 (.tmp 67)⟩,
  ⟨none, .fld 69 (.tmp 68) 1⟩,
  ⟨none, .load1 70 (.tmp 69)⟩,
  ⟨none, .len 71 (.tmp 70)⟩,
  ⟨none, .bin 72 .sub 3 (.tmp 71) (.const (.int .i64 1))⟩,
  ⟨none, .idx 73 1 (.tmp 66) (.tmp 72)⟩,
  ⟨none, .load1 74 (.tmp 73)⟩,
  ⟨none, .bin 75 .mul 3 (.tmp 74) (.const (.int .i64 16))⟩,
  ⟨none, .mov 76 (.tmp 8)⟩,
  ⟨none, .nilc 77 (.tmp 76)⟩,
  ⟨none, .fld 78 (.tmp 77) 2⟩,
  ⟨none, .load1 79 (.tmp 78)⟩,
  ⟨none, .bin 80 .add 3 (.tmp 75) (.tmp 79)⟩,
  ⟨none, .mov 10 (.tmp 80)⟩]
def estate_Estate_Get_e12 : List (List Nat) := [[], [0], [1], [2], [], [4], [5], [6], [7], [8], [3, 9], [10], [11], [], [13], [14], [15], [12, 16], [17, 0, 1, 2, 3, 4, 5, 6, 7, 8, 9, 10, 11, 12, 13, 14, 15, 16, 17]]
def estate_Estate_Get_r13 : List GO := [
  ⟨none, .mov 81 (.tmp 8)⟩,
  ⟨none, .nilc 82 (.tmp 81)⟩,
  ⟨none, .fld 83 (.tmp 82) 2⟩,
  ⟨none, .load1 84 (.tmp 83)⟩,
  ⟨none, .mov 85 (.tmp 2)⟩,
  ⟨none, .bin 86 .add 3 (.tmp 84) (.tmp 85)⟩,
  ⟨none, .nilc 87 (.tmp 81)⟩,
  ⟨none, .fld 88 (.tmp 87) 2⟩,
  ⟨none, .store1 (.tmp 88) (.tmp 86)⟩]
def estate_Estate_Get_r14 : List GO := [
  ⟨none, .mov 89 (.tmp 10)⟩,
  ⟨none, .mov 6 (.tmp 89)⟩,
  ⟨none, .mov 7 (.const (.int .i64 0))⟩]
def estate_Estate_Get_lc : LC := (.seq (.ops estate_Estate_Get_r0) (.seq (.block 0 (.seq (.ops estate_Estate_Get_r1) (.cond (.tmp 11) (.seq (.ops estate_Estate_Get_r2) .ret) (.seq (.ops estate_Estate_Get_r3) (.cond (.tmp 16) (.seq (.ops estate_Estate_Get_r4) .ret) .skip))))) (.seq (.ops estate_Estate_Get_r5) (.seq (.seq (.ops estate_Estate_Get_r6) (.cond (.tmp 42) (.seq (.ops estate_Estate_Get_r7) (.seq (.seq (.ops estate_Estate_Get_r8) (.cond (.tmp 49) (.seq (.ops estate_Estate_Get_r9) .ret) .skip)) (.seq (.ops estate_Estate_Get_r10) (.ops estate_Estate_Get_r11)))) .skip)) (.seq (.draw estate_Estate_Get_r12 estate_Estate_Get_e12) (.seq (.ops estate_Estate_Get_r13) (.seq (.ops estate_Estate_Get_r14) .ret)))))))
@[reducible] def estate_Estate_Get : FuncId := 50
theorem estate_Estate_Get_low : lowF Try.prog Try.f50 = some estate_Estate_Get_lc := by kernel_rfl
theorem estate_Estate_Get_in {a0 a1 a2 : Value} {w : World} {R : Ending → World → Prop} (h : estate_Estate_Get_lc.wp Try.prog (retQ Try.prog [.tmp 6, .tmp 7] R) (argEnv [a0, a1, a2]) w) : Calls Try.prog estate_Estate_Get ⟨[a0, a1, a2]⟩ w R :=
  calls_of_low Try.func50 estate_Estate_Get_low (by kernel_rfl) (by kernel_rfl) h

/- 51 -/
def estate_Estate_Pages_r0 : List GO := [
  ⟨none, .mov 4 (.const (.slice none 0 0))⟩]
def estate_Estate_Pages_r1 : List GO := [
  ⟨none, .mov 5 (.tmp 0)⟩,
  ⟨none, .mov 6 (.tmp 1)⟩,
  ⟨none, .call (some 7) 84 [(.tmp 5), (.tmp 6)]⟩,
  ⟨none, .un 8 .not (.tmp 7)⟩]
def estate_Estate_Pages_r2 : List GO := [
  ⟨none, .mov 4 (.const (.slice none 0 0))⟩]
def estate_Estate_Pages_r3 : List GO := [
  ⟨none, .mov 9 (.tmp 0)⟩,
  ⟨none, .mov 10 (.tmp 1)⟩,
  ⟨none, .nilc 11 (.tmp 9)⟩,
  ⟨none, .fld 12 (.tmp 11) 1⟩,
  ⟨none, .idxa 13 16 3 (.tmp 12) (.tmp 10)⟩,
  ⟨none, .fld 14 (.tmp 13) 1⟩,
  ⟨none, .load1 15 (.tmp 14)⟩,
  ⟨none, .raw ⟨(some 16), (.call ⟨(.builtin .append), #[(.const (.slice none 0 0)), (.tmp 15)], #[32, 32]⟩), 32, "", #[], none⟩⟩,
  ⟨none, .mov 4 (.tmp 16)⟩]
def estate_Estate_Pages_lc : LC := (.seq (.ops estate_Estate_Pages_r0) (.seq (.seq (.ops estate_Estate_Pages_r1) (.cond (.tmp 8) (.seq (.ops estate_Estate_Pages_r2) .ret) .skip)) (.seq (.ops estate_Estate_Pages_r3) .ret)))
@[reducible] def estate_Estate_Pages : FuncId := 51
theorem estate_Estate_Pages_low : lowF Try.prog Try.f51 = some estate_Estate_Pages_lc := by kernel_rfl
theorem estate_Estate_Pages_in {a0 a1 : Value} {w : World} {R : Ending → World → Prop} (h : estate_Estate_Pages_lc.wp Try.prog (retQ Try.prog [.tmp 4] R) (argEnv [a0, a1]) w) : Calls Try.prog estate_Estate_Pages ⟨[a0, a1]⟩ w R :=
  calls_of_low Try.func51 estate_Estate_Pages_low (by kernel_rfl) (by kernel_rfl) h

/- 73 -/
def R_NewLands_r0 : List GO := [
  ⟨none, .mov 2 (.const (.pointer none))⟩]
def R_NewLands_r1 : List GO := [
  ⟨none, .mov 3 (.tmp 0)⟩,
  ⟨none, .call (some 4) 33 [(.tmp 3)]⟩,
  ⟨none, .raw ⟨(some 5), (.makeSlice 124 (.const (.int .i64 16)) (.const (.int .i64 16))), 124, "", #[], none⟩⟩,
  ⟨none, .build 6 [(.pointer none), (.slice none 0 0)] [(0, (1, (.tmp 4))), (1, (1, (.tmp 5)))]⟩,
  ⟨none, .box 7 126 (.tmp 6)⟩,
  ⟨none, .mov 2 (.tmp 7)⟩]
def R_NewLands_e1 : List (List Nat) := [[], [0], [], [1, 2], [3], [4, 1, 0, 1, 2, 3, 4]]
def R_NewLands_lc : LC := (.seq (.ops R_NewLands_r0) (.seq (.draw R_NewLands_r1 R_NewLands_e1) .ret))
@[reducible] def R_NewLands : FuncId := 73
theorem R_NewLands_low : lowF Try.prog Try.f73 = some R_NewLands_lc := by kernel_rfl
theorem R_NewLands_in {a0 : Value} {w : World} {R : Ending → World → Prop} (h : R_NewLands_lc.wp Try.prog (retQ Try.prog [.tmp 2] R) (argEnv [a0]) w) : Calls Try.prog R_NewLands ⟨[a0]⟩ w R :=
  calls_of_low Try.func73 R_NewLands_low (by kernel_rfl) (by kernel_rfl) h

/- 74 -/
def R_Lands_Open_r0 : List GO := [
  ⟨none, .mov 2 (.const (.int .i64 0))⟩]
def R_Lands_Open_r1 : List GO := [
  ⟨none, .mov 3 (.const (.int .i64 0))⟩]
def R_Lands_Open_r2 : List GO := [
  ⟨none, .mov 4 (.tmp 3)⟩,
  ⟨none, .mov 5 (.tmp 0)⟩,
  ⟨none, .nilc 6 (.tmp 5)⟩,
  ⟨none, .fld 7 (.tmp 6) 1⟩,
  ⟨none, .load1 8 (.tmp 7)⟩,
  ⟨none, .len 9 (.tmp 8)⟩,
  ⟨none, .bin 10 .lss 3 (.tmp 4) (.tmp 9)⟩]
def R_Lands_Open_r3 : List GO := [
  ⟨none, .mov 13 (.tmp 0)⟩,
  ⟨none, .nilc 14 (.tmp 13)⟩,
  ⟨none, .fld 15 (.tmp 14) 1⟩,
  ⟨none, .load1 16 (.tmp 15)⟩,
  ⟨none, .mov 17 (.tmp 3)⟩,
  ⟨none, .idx 18 3 (.tmp 16) (.tmp 17)⟩,
  ⟨none, .fld 19 (.tmp 18) 0⟩,
  ⟨none, .load1 20 (.tmp 19)⟩,
  ⟨none, .un 21 .not (.tmp 20)⟩]
def R_Lands_Open_r4 : List GO := [
  ⟨none, .mov 22 (.tmp 0)⟩,
  ⟨none, .nilc 23 (.tmp 22)⟩,
  ⟨none, .fld 24 (.tmp 23) 1⟩,
  ⟨none, .load1 25 (.tmp 24)⟩,
  ⟨none, .mov 26 (.tmp 3)⟩,
  ⟨none, .build 27 [(.bool false), (.slice none 0 0), (.int .i64 0)] [(0, (1, (.const (.bool true))))]⟩,
  ⟨none, .idx 28 3 (.tmp 25) (.tmp 26)⟩,
  ⟨none, .storen 3 (.tmp 28) (.tmp 27)⟩]
def R_Lands_Open_r5 : List GO := [
  ⟨none, .mov 29 (.tmp 3)⟩,
  ⟨none, .mov 2 (.tmp 29)⟩]
def R_Lands_Open_r6 : List GO := [
  ⟨none, .mov 11 (.tmp 3)⟩,
  ⟨none, .bin 12 .add 3 (.tmp 11) (.const (.int .i64 1))⟩,
  ⟨none, .mov 3 (.tmp 12)⟩]
def R_Lands_Open_b2 : LC := (.seq (.seq (.ops R_Lands_Open_r2) (.cond (.tmp 10) .skip (.exit 0))) (.seq (.block 1 (.seq (.ops R_Lands_Open_r3) (.cond (.tmp 21) (.seq (.ops R_Lands_Open_r4) (.seq (.ops R_Lands_Open_r5) .ret)) .skip))) (.ops R_Lands_Open_r6)))
def R_Lands_Open_r7 : List GO := [
  ⟨none, .mov 2 (.const (.int .i64 (-1)))⟩]
def R_Lands_Open_lc : LC := (.seq (.ops R_Lands_Open_r0) (.seq (.seq (.ops R_Lands_Open_r1) (.block 0 (.loop R_Lands_Open_b2))) (.seq (.ops R_Lands_Open_r7) .ret)))
@[reducible] def R_Lands_Open : FuncId := 74
theorem R_Lands_Open_low : lowF Try.prog Try.f74 = some R_Lands_Open_lc := by kernel_rfl
theorem R_Lands_Open_in {a0 : Value} {w : World} {R : Ending → World → Prop} (h : R_Lands_Open_lc.wp Try.prog (retQ Try.prog [.tmp 2] R) (argEnv [a0]) w) : Calls Try.prog R_Lands_Open ⟨[a0]⟩ w R :=
  calls_of_low Try.func74 R_Lands_Open_low (by kernel_rfl) (by kernel_rfl) h

/- 75 -/
def R_Lands_Shut_r0 : List GO := [
  ⟨none, .mov 4 (.const (.bool false))⟩]
def R_Lands_Shut_r1 : List GO := [
  ⟨none, .mov 6 (.tmp 0)⟩,
  ⟨none, .mov 7 (.tmp 1)⟩,
  ⟨none, .call (some 8) 77 [(.tmp 6), (.tmp 7)]⟩,
  ⟨none, .un 9 .not (.tmp 8)⟩]
def R_Lands_Shut_r2 : List GO := [
  ⟨none, .mov 4 (.const (.bool false))⟩]
def R_Lands_Shut_r3 : List GO := [
  ⟨none, .mov 5 (.const (.int .i64 0))⟩]
def R_Lands_Shut_r4 : List GO := [
  ⟨none, .mov 10 (.tmp 5)⟩,
  ⟨none, .mov 11 (.tmp 0)⟩,
  ⟨none, .nilc 12 (.tmp 11)⟩,
  ⟨none, .fld 13 (.tmp 12) 1⟩,
  ⟨none, .load1 14 (.tmp 13)⟩,
  ⟨none, .mov 15 (.tmp 1)⟩,
  ⟨none, .idx 16 3 (.tmp 14) (.tmp 15)⟩,
  ⟨none, .fld 17 (.tmp 16) 1⟩,
  ⟨none, .load1 18 (.tmp 17)⟩,
  ⟨none, .len 19 (.tmp 18)⟩,
  ⟨none, .bin 20 .lss 3 (.tmp 10) (.tmp 19)⟩]
def R_Lands_Shut_r5 : List GO := [
  ⟨none, .mov 23 (.tmp 0)⟩,
  ⟨none, .nilc 24 (.tmp 23)⟩,
  ⟨none, .fld 25 (.tmp 24) 0⟩,
  ⟨none, .load1 26 (.tmp 25)⟩,
  ⟨none, .mov 27 (.tmp 0)⟩,
  ⟨none, .nilc 28 (.tmp 27)⟩,
  ⟨none, .fld 29 (.tmp 28) 1⟩,
  ⟨none, .load1 30 (.tmp 29)⟩,
  ⟨none, .mov 31 (.tmp 1)⟩,
  ⟨none, .idx 32 3 (.tmp 30) (.tmp 31)⟩,
  ⟨none, .fld 33 (.tmp 32) 1⟩,
  ⟨none, .load1 34 (.tmp 33)⟩,
  ⟨none, .mov 35 (.tmp 5)⟩,
  ⟨none, .idx 36 1 (.tmp 34) (.tmp 35)⟩,
  ⟨none, .load1 37 (.tmp 36)⟩,
  ⟨none, .call (some 38) 37 [(.tmp 26), (.tmp 37)]⟩]
def R_Lands_Shut_e5 : List (List Nat) := [[], [0], [1], [2], [], [4], [5], [6], [], [7, 8], [9], [10], [], [11, 12], [13], [3, 14]]
def R_Lands_Shut_r6 : List GO := [
  ⟨none, .mov 21 (.tmp 5)⟩,
  ⟨none, .bin 22 .add 3 (.tmp 21) (.const (.int .i64 1))⟩,
  ⟨none, .mov 5 (.tmp 22)⟩]
def R_Lands_Shut_b4 : LC := (.seq (.seq (.ops R_Lands_Shut_r4) (.cond (.tmp 20) .skip (.exit 0))) (.seq (.block 1 (.draw R_Lands_Shut_r5 R_Lands_Shut_e5)) (.ops R_Lands_Shut_r6)))
def R_Lands_Shut_r7 : List GO := [
  ⟨none, .mov 39 (.tmp 0)⟩,
  ⟨none, .nilc 40 (.tmp 39)⟩,
  ⟨none, .fld 41 (.tmp 40) 1⟩,
  ⟨none, .load1 42 (.tmp 41)⟩,
  ⟨none, .mov 43 (.tmp 1)⟩,
  ⟨none, .build 44 [(.bool false), (.slice none 0 0), (.int .i64 0)] []⟩,
  ⟨none, .idx 45 3 (.tmp 42) (.tmp 43)⟩,
  ⟨none, .storen 3 (.tmp 45) (.tmp 44)⟩]
def R_Lands_Shut_r8 : List GO := [
  ⟨none, .mov 4 (.const (.bool true))⟩]
def R_Lands_Shut_lc : LC := (.seq (.ops R_Lands_Shut_r0) (.seq (.seq (.ops R_Lands_Shut_r1) (.cond (.tmp 9) (.seq (.ops R_Lands_Shut_r2) .ret) .skip)) (.seq (.seq (.ops R_Lands_Shut_r3) (.block 0 (.loop R_Lands_Shut_b4))) (.seq (.ops R_Lands_Shut_r7) (.seq (.ops R_Lands_Shut_r8) .ret)))))
@[reducible] def R_Lands_Shut : FuncId := 75
theorem R_Lands_Shut_low : lowF Try.prog Try.f75 = some R_Lands_Shut_lc := by kernel_rfl
theorem R_Lands_Shut_in {a0 a1 : Value} {w : World} {R : Ending → World → Prop} (h : R_Lands_Shut_lc.wp Try.prog (retQ Try.prog [.tmp 4] R) (argEnv [a0, a1]) w) : Calls Try.prog R_Lands_Shut ⟨[a0, a1]⟩ w R :=
  calls_of_low Try.func75 R_Lands_Shut_low (by kernel_rfl) (by kernel_rfl) h

/- 76 -/
def R_Lands_Get_r0 : List GO := [
  ⟨none, .mov 6 (.const (.int .i64 0))⟩,
  ⟨none, .mov 7 (.const (.int .i64 0))⟩]
def R_Lands_Get_r1 : List GO := [
  ⟨none, .mov 9 (.tmp 0)⟩,
  ⟨none, .mov 10 (.tmp 1)⟩,
  ⟨none, .call (some 11) 77 [(.tmp 9), (.tmp 10)]⟩,
  ⟨none, .un 12 .not (.tmp 11)⟩]
def R_Lands_Get_r2 : List GO := [
  ⟨none, .mov 6 (.const (.int .i64 0))⟩,
  ⟨none, .mov 7 (.const (.int .i64 15))⟩]
def R_Lands_Get_r3 : List GO := [
  ⟨none, .mov 13 (.tmp 2)⟩,
  ⟨none, .bin 14 .lss 3 (.tmp 13) (.const (.int .i64 1))⟩,
  ⟨none, .mov 15 (.tmp 14)⟩,
  ⟨some (15, false), .mov 16 (.tmp 2)⟩,
  ⟨some (15, false), .bin 17 .gtr 3 (.tmp 16) (.const (.int .i64 16))⟩,
  ⟨none, .pick 18 (.tmp 15) (.const (.bool true)) (.tmp 17)⟩]
def R_Lands_Get_r4 : List GO := [
  ⟨none, .mov 6 (.const (.int .i64 0))⟩,
  ⟨none, .mov 7 (.const (.int .i64 1))⟩]
def R_Lands_Get_r5 : List GO := [
  ⟨none, .mov 19 (.tmp 0)⟩,
  ⟨none, .nilc 20 (.tmp 19)⟩,
  ⟨none, .fld 21 (.tmp 20) 1⟩,
  ⟨none, .load1 22 (.tmp 21)⟩,
  ⟨none, .mov 23 (.tmp 1)⟩,
  ⟨none, .idx 24 3 (.tmp 22) (.tmp 23)⟩,
  ⟨none, .mov 8 (.tmp 24)⟩]
def R_Lands_Get_r6 : List GO := [
  ⟨none, .mov 25 (.tmp 8)⟩,
  ⟨none, .nilc 26 (.tmp 25)⟩,
  ⟨none, .fld 27 (.tmp 26) 1⟩,
  ⟨none, .load1 28 (.tmp 27)⟩,
  ⟨none, .len 29 (.tmp 28)⟩,
  ⟨none, .bin 30 .eql 3 (.tmp 29) (.const (.int .i64 0))⟩,
  ⟨none, .mov 31 (.tmp 30)⟩,
  ⟨some (31, false), .mov 32 (.tmp 2)⟩,
  ⟨some (31, false), .mov 33 (.tmp 8)⟩,
  ⟨some (31, false), .nilc 34 (.tmp 33)⟩,
  ⟨some (31, false), .fld 35 (.tmp 34) 2⟩,
  ⟨some (31, false), .load1 36 (.tmp 35)⟩,
  ⟨some (31, false), .bin 37 .sub 3 (.const (.int .i64 16)) (.tmp 36)⟩,
  ⟨some (31, false), .bin 38 .gtr 3 (.tmp 32) (.tmp 37)⟩,
  ⟨none, .pick 39 (.tmp 31) (.const (.bool true)) (.tmp 38)⟩]
def R_Lands_Get_r7 : List GO := [
  ⟨none, .mov 40 (.tmp 0)⟩,
  ⟨none, .nilc 41 (.tmp 40)⟩,
  ⟨none, .fld 42 (.tmp 41) 0⟩,
  ⟨none, .load1 43 (.tmp 42)⟩,
  ⟨none, .call (some 44) 43 [(.tmp 43)]⟩,
  ⟨none, .bin 45 .eql 3 (.tmp 44) (.const (.int .i64 0))⟩]
def R_Lands_Get_r8 : List GO := [
  ⟨none, .mov 6 (.const (.int .i64 0))⟩,
  ⟨none, .mov 7 (.const (.int .i64 14))⟩]
def R_Lands_Get_r9 : List GO := [
  ⟨none, .mov 46 (.tmp 8)⟩,
  ⟨none, .mov 47 (.tmp 8)⟩,
  ⟨none, .nilc 48 (.tmp 47)⟩,
  ⟨none, .fld 49 (.tmp 48) 1⟩,
  ⟨none, .load1 50 (.tmp 49)⟩,
  ⟨none, .mov 51 (.tmp 0)⟩,
  ⟨none, .nilc 52 (.tmp 51)⟩,
  ⟨none, .fld 53 (.tmp 52) 0⟩,
  ⟨none, .load1 54 (.tmp 53)⟩,
  ⟨none, .call (some 55) 35 [(.tmp 54)]⟩,
  ⟨none, .buildS 56 3 1 [(.int .i64 0)] [(0, (1, (.tmp 55)))]⟩,
  ⟨none, .raw ⟨(some 57), (.call ⟨(.builtin .append), #[(.tmp 50), (.tmp 56)], #[32, 32]⟩), 32, "", #[], none⟩⟩,
  ⟨none, .nilc 58 (.tmp 46)⟩,
  ⟨none, .fld 59 (.tmp 58) 1⟩,
  ⟨none, .store1 (.tmp 59) (.tmp 57)⟩]
def R_Lands_Get_e9 : List (List Nat) := [[], [], [1], [2], [3], [], [5], [6], [7], [8], [9], [4, 10, 9], [0, 0, 1, 2, 3, 4, 5, 6, 7, 8, 9, 10, 11], [12, 0, 1, 2, 3, 4, 5, 6, 7, 8, 9, 10, 11], [13, 11, 11, 0, 1, 2, 3, 4, 5, 6, 7, 8, 9, 10, 11]]
def R_Lands_Get_r10 : List GO := [
  ⟨none, .mov 60 (.tmp 8)⟩,
  ⟨none, .nilc 61 (.tmp 60)⟩,
  ⟨none, .fld 62 (.tmp 61) 2⟩,
  ⟨none, .store1 (.tmp 62) (.const (.int .i64 0))⟩]
def R_Lands_Get_r11 : List GO := [
  ⟨none, .mov 63 (.tmp 8)⟩,
  ⟨none, .nilc 64 (.tmp 63)⟩,
  ⟨none, .fld 65 (.tmp 64) 2⟩,
  ⟨none, .load1 66 (.tmp 65)⟩,
  ⟨none, .mov 67 (.tmp 2)⟩,
  ⟨none, .bin 68 .add 3 (.tmp 66) (.tmp 67)⟩,
  ⟨none, .nilc 69 (.tmp 63)⟩,
  ⟨none, .fld 70 (.tmp 69) 2⟩,
  ⟨none, .store1 (.tmp 70) (.tmp 68)⟩]
def R_Lands_Get_r12 : List GO := [
  ⟨none, .mov 71 (.tmp 8)⟩,
  ⟨none, .nilc 72 (.tmp 71)⟩,
  ⟨none, .fld 73 (.tmp 72) 1⟩,
  ⟨none, .load1 74 (.tmp 73)⟩,
  ⟨none, .mov 75 (.tmp 8)⟩,
  ⟨none, .nilc 76 (.tmp 75)⟩,
  ⟨none, .fld 77 (.tmp 76) 1⟩,
  ⟨none, .load1 78 (.tmp 77)⟩,
  ⟨none, .len 79 (.tmp 78)⟩,
  ⟨none, .bin 80 .sub 3 (.tmp 79) (.const (.int .i64 1))⟩,
  ⟨none, .idx 81 1 (.tmp 74) (.tmp 80)⟩,
  ⟨none, .load1 82 (.tmp 81)⟩,
  ⟨none, .bin 83 .mul 3 (.const (.int .i64 16)) (.tmp 82)⟩,
  ⟨none, .mov 84 (.tmp 8)⟩,
  ⟨none, .nilc 85 (.tmp 84)⟩,
  ⟨none, .fld 86 (.tmp 85) 2⟩,
  ⟨none, .load1 87 (.tmp 86)⟩,
  ⟨none, .bin 88 .add 3 (.tmp 83) (.tmp 87)⟩,
  ⟨none, .mov 89 (.tmp 2)⟩,
  ⟨none, .bin 90 .sub 3 (.tmp 88) (.tmp 89)⟩,
  ⟨none, .mov 6 (.tmp 90)⟩,
  ⟨none, .mov 7 (.const (.int .i64 0))⟩]
def R_Lands_Get_e12 : List (List Nat) := [[], [0], [1], [2], [], [4], [5], [6], [7], [8], [3, 9], [10], [11], [], [13], [14], [15], [12, 16], [], [17, 18], [19, 0, 1, 2, 3, 4, 5, 6, 7, 8, 9, 10, 11, 12, 13, 14, 15, 16, 17, 18, 19], [20, 0, 1, 2, 3, 4, 5, 6, 7, 8, 9, 10, 11, 12, 13, 14, 15, 16, 17, 18, 19, 20]]
def R_Lands_Get_lc : LC := (.seq (.ops R_Lands_Get_r0) (.seq (.seq (.ops R_Lands_Get_r1) (.cond (.tmp 12) (.seq (.ops R_Lands_Get_r2) .ret) .skip)) (.seq (.seq (.ops R_Lands_Get_r3) (.cond (.tmp 18) (.seq (.ops R_Lands_Get_r4) .ret) .skip)) (.seq (.ops R_Lands_Get_r5) (.seq (.seq (.ops R_Lands_Get_r6) (.cond (.tmp 39) (.seq (.seq (.ops R_Lands_Get_r7) (.cond (.tmp 45) (.seq (.ops R_Lands_Get_r8) .ret) .skip)) (.seq (.draw R_Lands_Get_r9 R_Lands_Get_e9) (.ops R_Lands_Get_r10))) .skip)) (.seq (.ops R_Lands_Get_r11) (.seq (.draw R_Lands_Get_r12 R_Lands_Get_e12) .ret)))))))
@[reducible] def R_Lands_Get : FuncId := 76
theorem R_Lands_Get_low : lowF Try.prog Try.f76 = some R_Lands_Get_lc := by kernel_rfl
theorem R_Lands_Get_in {a0 a1 a2 : Value} {w : World} {R : Ending → World → Prop} (h : R_Lands_Get_lc.wp Try.prog (retQ Try.prog [.tmp 6, .tmp 7] R) (argEnv [a0, a1, a2]) w) : Calls Try.prog R_Lands_Get ⟨[a0, a1, a2]⟩ w R :=
  calls_of_low Try.func76 R_Lands_Get_low (by kernel_rfl) (by kernel_rfl) h

/- 77 -/
def R_Lands_Has_r0 : List GO := [
  ⟨none, .mov 4 (.const (.bool false))⟩]
def R_Lands_Has_r1 : List GO := [
  ⟨none, .mov 5 (.tmp 1)⟩,
  ⟨none, .bin 6 .geq 3 (.tmp 5) (.const (.int .i64 0))⟩,
  ⟨none, .mov 7 (.tmp 6)⟩,
  ⟨some (7, true), .mov 8 (.tmp 1)⟩,
  ⟨some (7, true), .mov 9 (.tmp 0)⟩,
  ⟨some (7, true), .nilc 10 (.tmp 9)⟩,
  ⟨some (7, true), .fld 11 (.tmp 10) 1⟩,
  ⟨some (7, true), .load1 12 (.tmp 11)⟩,
  ⟨some (7, true), .len 13 (.tmp 12)⟩,
  ⟨some (7, true), .bin 14 .lss 3 (.tmp 8) (.tmp 13)⟩,
  ⟨none, .pick 15 (.tmp 7) (.tmp 14) (.const (.bool false))⟩,
  ⟨none, .mov 16 (.tmp 15)⟩,
  ⟨some (16, true), .mov 17 (.tmp 0)⟩,
  ⟨some (16, true), .nilc 18 (.tmp 17)⟩,
  ⟨some (16, true), .fld 19 (.tmp 18) 1⟩,
  ⟨some (16, true), .load1 20 (.tmp 19)⟩,
  ⟨some (16, true), .mov 21 (.tmp 1)⟩,
  ⟨some (16, true), .idx 22 3 (.tmp 20) (.tmp 21)⟩,
  ⟨some (16, true), .fld 23 (.tmp 22) 0⟩,
  ⟨some (16, true), .load1 24 (.tmp 23)⟩,
  ⟨none, .pick 25 (.tmp 16) (.tmp 24) (.const (.bool false))⟩,
  ⟨none, .mov 4 (.tmp 25)⟩]
def R_Lands_Has_lc : LC := (.seq (.ops R_Lands_Has_r0) (.seq (.ops R_Lands_Has_r1) .ret))
@[reducible] def R_Lands_Has : FuncId := 77
theorem R_Lands_Has_low : lowF Try.prog Try.f77 = some R_Lands_Has_lc := by kernel_rfl
theorem R_Lands_Has_in {a0 a1 : Value} {w : World} {R : Ending → World → Prop} (h : R_Lands_Has_lc.wp Try.prog (retQ Try.prog [.tmp 4] R) (argEnv [a0, a1]) w) : Calls Try.prog R_Lands_Has ⟨[a0, a1]⟩ w R :=
  calls_of_low Try.func77 R_Lands_Has_low (by kernel_rfl) (by kernel_rfl) h

/- 78 -/
def estate_Estate_Count_r0 : List GO := [
  ⟨none, .mov 2 (.const (.int .i64 0))⟩]
def estate_Estate_Count_r1 : List GO := [
  ⟨none, .mov 3 (.const (.int .i64 0))⟩]
def estate_Estate_Count_r2 : List GO := [
  ⟨none, .mov 5 (.const (.int .i64 0))⟩]
def estate_Estate_Count_r3 : List GO := [
  ⟨none, .bin 6 .lss 3 (.tmp 5) (.const (.int .i64 16))⟩]
def estate_Estate_Count_r4 : List GO := [
  ⟨none, .mov 7 (.tmp 5)⟩,
  ⟨none, .mov 4 (.tmp 7)⟩]
def estate_Estate_Count_r5 : List GO := [
  ⟨none, .mov 8 (.tmp 0)⟩,
  ⟨none, .mov 9 (.tmp 4)⟩,
  ⟨none, .nilc 10 (.tmp 8)⟩,
  ⟨none, .fld 11 (.tmp 10) 1⟩,
  ⟨none, .idxa 12 16 3 (.tmp 11) (.tmp 9)⟩,
  ⟨none, .fld 13 (.tmp 12) 0⟩,
  ⟨none, .load1 14 (.tmp 13)⟩]
def estate_Estate_Count_r6 : List GO := [
  ⟨none, .mov 15 (.tmp 3)⟩,
  ⟨none, .bin 16 .add 3 (.tmp 15) (.const (.int .i64 1))⟩,
  ⟨none, .mov 3 (.tmp 16)⟩]
def estate_Estate_Count_r7 : List GO := [
  ⟨none, .bin 17 .add 3 (.tmp 5) (.const (.int .i64 1))⟩,
  ⟨none, .mov 5 (.tmp 17)⟩]
def estate_Estate_Count_b3 : LC := (.seq (.ops estate_Estate_Count_r3) (.seq (.cond (.tmp 6) .skip (.exit 0)) (.seq (.block 1 (.seq (.ops estate_Estate_Count_r4) (.seq (.ops estate_Estate_Count_r5) (.cond (.tmp 14) (.ops estate_Estate_Count_r6) .skip)))) (.ops estate_Estate_Count_r7))))
def estate_Estate_Count_r8 : List GO := [
  ⟨none, .mov 18 (.tmp 3)⟩,
  ⟨none, .mov 2 (.tmp 18)⟩]
def estate_Estate_Count_lc : LC := (.seq (.ops estate_Estate_Count_r0) (.seq (.ops estate_Estate_Count_r1) (.seq (.seq (.ops estate_Estate_Count_r2) (.block 0 (.loop estate_Estate_Count_b3))) (.seq (.ops estate_Estate_Count_r8) .ret))))
@[reducible] def estate_Estate_Count : FuncId := 78
theorem estate_Estate_Count_low : lowF Try.prog Try.f78 = some estate_Estate_Count_lc := by kernel_rfl
theorem estate_Estate_Count_in {a0 : Value} {w : World} {R : Ending → World → Prop} (h : estate_Estate_Count_lc.wp Try.prog (retQ Try.prog [.tmp 2] R) (argEnv [a0]) w) : Calls Try.prog estate_Estate_Count ⟨[a0]⟩ w R :=
  calls_of_low Try.func78 estate_Estate_Count_low (by kernel_rfl) (by kernel_rfl) h

/- 79 -/
def R_Lands_Count_r0 : List GO := [
  ⟨none, .mov 2 (.const (.int .i64 0))⟩]
def R_Lands_Count_r1 : List GO := [
  ⟨none, .mov 3 (.const (.int .i64 0))⟩]
def R_Lands_Count_r2 : List GO := [
  ⟨none, .mov 4 (.const (.int .i64 0))⟩]
def R_Lands_Count_r3 : List GO := [
  ⟨none, .mov 5 (.tmp 4)⟩,
  ⟨none, .mov 6 (.tmp 0)⟩,
  ⟨none, .nilc 7 (.tmp 6)⟩,
  ⟨none, .fld 8 (.tmp 7) 1⟩,
  ⟨none, .load1 9 (.tmp 8)⟩,
  ⟨none, .len 10 (.tmp 9)⟩,
  ⟨none, .bin 11 .lss 3 (.tmp 5) (.tmp 10)⟩]
def R_Lands_Count_r4 : List GO := [
  ⟨none, .mov 14 (.tmp 0)⟩,
  ⟨none, .nilc 15 (.tmp 14)⟩,
  ⟨none, .fld 16 (.tmp 15) 1⟩,
  ⟨none, .load1 17 (.tmp 16)⟩,
  ⟨none, .mov 18 (.tmp 4)⟩,
  ⟨none, .idx 19 3 (.tmp 17) (.tmp 18)⟩,
  ⟨none, .fld 20 (.tmp 19) 0⟩,
  ⟨none, .load1 21 (.tmp 20)⟩]
def R_Lands_Count_r5 : List GO := [
  ⟨none, .mov 22 (.tmp 3)⟩,
  ⟨none, .bin 23 .add 3 (.tmp 22) (.const (.int .i64 1))⟩,
  ⟨none, .mov 3 (.tmp 23)⟩]
def R_Lands_Count_r6 : List GO := [
  ⟨none, .mov 12 (.tmp 4)⟩,
  ⟨none, .bin 13 .add 3 (.tmp 12) (.const (.int .i64 1))⟩,
  ⟨none, .mov 4 (.tmp 13)⟩]
def R_Lands_Count_b3 : LC := (.seq (.seq (.ops R_Lands_Count_r3) (.cond (.tmp 11) .skip (.exit 0))) (.seq (.block 1 (.seq (.ops R_Lands_Count_r4) (.cond (.tmp 21) (.ops R_Lands_Count_r5) .skip))) (.ops R_Lands_Count_r6)))
def R_Lands_Count_r7 : List GO := [
  ⟨none, .mov 24 (.tmp 3)⟩,
  ⟨none, .mov 2 (.tmp 24)⟩]
def R_Lands_Count_lc : LC := (.seq (.ops R_Lands_Count_r0) (.seq (.ops R_Lands_Count_r1) (.seq (.seq (.ops R_Lands_Count_r2) (.block 0 (.loop R_Lands_Count_b3))) (.seq (.ops R_Lands_Count_r7) .ret))))
@[reducible] def R_Lands_Count : FuncId := 79
theorem R_Lands_Count_low : lowF Try.prog Try.f79 = some R_Lands_Count_lc := by kernel_rfl
theorem R_Lands_Count_in {a0 : Value} {w : World} {R : Ending → World → Prop} (h : R_Lands_Count_lc.wp Try.prog (retQ Try.prog [.tmp 2] R) (argEnv [a0]) w) : Calls Try.prog R_Lands_Count ⟨[a0]⟩ w R :=
  calls_of_low Try.func79 R_Lands_Count_low (by kernel_rfl) (by kernel_rfl) h

/- 84 -/
def estate_Estate_has_r0 : List GO := [
  ⟨none, .mov 4 (.const (.bool false))⟩]
def estate_Estate_has_r1 : List GO := [
  ⟨none, .mov 5 (.tmp 1)⟩,
  ⟨none, .bin 6 .geq 3 (.tmp 5) (.const (.int .i64 0))⟩,
  ⟨none, .mov 7 (.tmp 6)⟩,
  ⟨some (7, true), .mov 8 (.tmp 1)⟩,
  ⟨some (7, true), .bin 9 .lss 3 (.tmp 8) (.const (.int .i64 16))⟩,
  ⟨none, .pick 10 (.tmp 7) (.tmp 9) (.const (.bool false))⟩,
  ⟨none, .mov 11 (.tmp 10)⟩,
  ⟨some (11, true), .mov 12 (.tmp 0)⟩,
  ⟨some (11, true), .mov 13 (.tmp 1)⟩,
  ⟨some (11, true), .nilc 14 (.tmp 12)⟩,
  ⟨some (11, true), .fld 15 (.tmp 14) 1⟩,
  ⟨some (11, true), .idxa 16 16 3 (.tmp 15) (.tmp 13)⟩,
  ⟨some (11, true), .fld 17 (.tmp 16) 0⟩,
  ⟨some (11, true), .load1 18 (.tmp 17)⟩,
  ⟨none, .pick 19 (.tmp 11) (.tmp 18) (.const (.bool false))⟩,
  ⟨none, .mov 4 (.tmp 19)⟩]
def estate_Estate_has_lc : LC := (.seq (.ops estate_Estate_has_r0) (.seq (.ops estate_Estate_has_r1) .ret))
@[reducible] def estate_Estate_has : FuncId := 84
theorem estate_Estate_has_low : lowF Try.prog Try.f84 = some estate_Estate_has_lc := by kernel_rfl
theorem estate_Estate_has_in {a0 a1 : Value} {w : World} {R : Ending → World → Prop} (h : estate_Estate_has_lc.wp Try.prog (retQ Try.prog [.tmp 4] R) (argEnv [a0, a1]) w) : Calls Try.prog estate_Estate_has ⟨[a0, a1]⟩ w R :=
  calls_of_low Try.func84 estate_Estate_has_low (by kernel_rfl) (by kernel_rfl) h

/- 27 -/
def R_SameInts_r0 : List GO := [
  ⟨none, .mov 4 (.const (.bool false))⟩]
def R_SameInts_r1 : List GO := [
  ⟨none, .mov 6 (.tmp 0)⟩,
  ⟨none, .len 7 (.tmp 6)⟩,
  ⟨none, .mov 8 (.tmp 1)⟩,
  ⟨none, .len 9 (.tmp 8)⟩,
  ⟨none, .bin 10 .neq 3 (.tmp 7) (.tmp 9)⟩]
def R_SameInts_r2 : List GO := [
  ⟨none, .mov 4 (.const (.bool false))⟩]
def R_SameInts_r3 : List GO := [
  ⟨none, .mov 5 (.const (.int .i64 0))⟩]
def R_SameInts_r4 : List GO := [
  ⟨none, .mov 11 (.tmp 5)⟩,
  ⟨none, .mov 12 (.tmp 0)⟩,
  ⟨none, .len 13 (.tmp 12)⟩,
  ⟨none, .bin 14 .lss 3 (.tmp 11) (.tmp 13)⟩]
def R_SameInts_r5 : List GO := [
  ⟨none, .mov 17 (.tmp 0)⟩,
  ⟨none, .mov 18 (.tmp 5)⟩,
  ⟨none, .idx 19 1 (.tmp 17) (.tmp 18)⟩,
  ⟨none, .load1 20 (.tmp 19)⟩,
  ⟨none, .mov 21 (.tmp 1)⟩,
  ⟨none, .mov 22 (.tmp 5)⟩,
  ⟨none, .idx 23 1 (.tmp 21) (.tmp 22)⟩,
  ⟨none, .load1 24 (.tmp 23)⟩,
  ⟨none, .bin 25 .neq 3 (.tmp 20) (.tmp 24)⟩]
def R_SameInts_e5 : List (List Nat) := [[], [], [0, 1], [2], [], [], [4, 5], [6], [3, 7]]
def R_SameInts_r6 : List GO := [
  ⟨none, .mov 4 (.const (.bool false))⟩]
def R_SameInts_r7 : List GO := [
  ⟨none, .mov 15 (.tmp 5)⟩,
  ⟨none, .bin 16 .add 3 (.tmp 15) (.const (.int .i64 1))⟩,
  ⟨none, .mov 5 (.tmp 16)⟩]
def R_SameInts_b4 : LC := (.seq (.seq (.ops R_SameInts_r4) (.cond (.tmp 14) .skip (.exit 0))) (.seq (.block 1 (.seq (.draw R_SameInts_r5 R_SameInts_e5) (.cond (.tmp 25) (.seq (.ops R_SameInts_r6) .ret) .skip))) (.ops R_SameInts_r7)))
def R_SameInts_r8 : List GO := [
  ⟨none, .mov 4 (.const (.bool true))⟩]
def R_SameInts_lc : LC := (.seq (.ops R_SameInts_r0) (.seq (.seq (.ops R_SameInts_r1) (.cond (.tmp 10) (.seq (.ops R_SameInts_r2) .ret) .skip)) (.seq (.seq (.ops R_SameInts_r3) (.block 0 (.loop R_SameInts_b4))) (.seq (.ops R_SameInts_r8) .ret))))
@[reducible] def R_SameInts : FuncId := 27
theorem R_SameInts_low : lowF Try.prog Try.f27 = some R_SameInts_lc := by kernel_rfl
theorem R_SameInts_in {a0 a1 : Value} {w : World} {R : Ending → World → Prop} (h : R_SameInts_lc.wp Try.prog (retQ Try.prog [.tmp 4] R) (argEnv [a0, a1]) w) : Calls Try.prog R_SameInts ⟨[a0, a1]⟩ w R :=
  calls_of_low Try.func27 R_SameInts_low (by kernel_rfl) (by kernel_rfl) h

end Go.Proofs.Ytocllfbfogcbgaa