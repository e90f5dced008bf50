/- The functions, lowered: printed by a program off the translation. -/
import Derived.Test.YtanlkfeogoganaaProg
import Derived.Test.YtanlkfeogoganaaLirPan
namespace Go.Proofs.Ytanlkfeogoganaa
open Go.Lir
set_option maxRecDepth 100000

/- 7 -/
/- 8 -/
def Law_JudgeGrows_r0 : List GO := [
  ⟨none, .box 4 24 (.tmp 0)⟩,
  ⟨none, .mov 8 (.const (.bool false))⟩]
def Law_JudgeGrows_r1 : List GO := [
  ⟨none, .call (some 19) 34 []⟩,
  ⟨none, .un 20 .not (.tmp 19)⟩]
def Law_JudgeGrows_r2 : List GO := [
  ⟨none, .mov 8 (.const (.bool false))⟩]
def Law_JudgeGrows_r3 : List GO := [
  ⟨none, .loadn 21 1 (.tmp 4)⟩,
  ⟨none, .call (some 22) 11 [(.tmp 21)]⟩,
  ⟨none, .mov 23 (.tmp 22)⟩,
  ⟨some (23, false), .mov 24 (.tmp 3)⟩,
  ⟨some (23, false), .len 25 (.tmp 24)⟩,
  ⟨some (23, false), .bin 26 .gtr 3 (.tmp 25) (.const (.int .i64 150))⟩,
  ⟨none, .pick 27 (.tmp 23) (.const (.bool true)) (.tmp 26)⟩]
def Law_JudgeGrows_r4 : List GO := [
  ⟨none, .mov 8 (.const (.bool true))⟩]
def Law_JudgeGrows_r5 : List GO := [
  ⟨none, .loadn 29 1 (.tmp 4)⟩,
  ⟨none, .mov 30 (.tmp 1)⟩,
  ⟨none, .mov 31 (.tmp 2)⟩,
  ⟨none, .call (some 32) 35 [(.tmp 29), (.tmp 30), (.tmp 31)]⟩,
  ⟨none, .mov 28 (.tmp 32)⟩,
  ⟨none, .ext 33 (.tmp 28) 0⟩,
  ⟨none, .ext 34 (.tmp 28) 1⟩,
  ⟨none, .alloc 10 47 [(.int .i64 0), (.int .i64 0)]⟩,
  ⟨none, .mov 9 (.tmp 33)⟩,
  ⟨none, .storen 2 (.tmp 10) (.tmp 34)⟩]
def Law_JudgeGrows_r6 : List GO := [
  ⟨none, .fld 35 (.tmp 10) 0⟩,
  ⟨none, .load1 36 (.tmp 35)⟩,
  ⟨none, .bin 37 .neq 3 (.tmp 36) (.const (.int .i64 0))⟩]
def Law_JudgeGrows_r7 : List GO := [
  ⟨none, .mov 8 (.const (.bool true))⟩]
def Law_JudgeGrows_r8 : List GO := [
  ⟨none, .mov 11 (.const (.int .i64 0))⟩]
def Law_JudgeGrows_r9 : List GO := [
  ⟨none, .mov 38 (.tmp 11)⟩,
  ⟨none, .mov 39 (.tmp 3)⟩,
  ⟨none, .len 40 (.tmp 39)⟩,
  ⟨none, .bin 41 .lss 3 (.tmp 38) (.tmp 40)⟩]
def Law_JudgeGrows_r10 : List GO := [
  ⟨none, .mov 44 (.tmp 9)⟩,
  ⟨none, .call (some 45) 36 [(.tmp 44)]⟩,
  ⟨none, .mov 46 (.tmp 9)⟩,
  ⟨none, .nilc 47 (.tmp 46)⟩,
  ⟨none, .fld 48 (.tmp 47) 0⟩,
  ⟨none, .load1 49 (.tmp 48)⟩,
  ⟨none, .call (some 50) 39 [(.tmp 49)]⟩,
  ⟨none, .mov 51 (.tmp 9)⟩,
  ⟨none, .nilc 52 (.tmp 51)⟩,
  ⟨none, .fld 53 (.tmp 52) 0⟩,
  ⟨none, .load1 54 (.tmp 53)⟩,
  ⟨none, .call (some 55) 40 [(.tmp 54)]⟩,
  ⟨none, .mov 12 (.tmp 45)⟩,
  ⟨none, .mov 13 (.tmp 50)⟩,
  ⟨none, .mov 14 (.tmp 55)⟩]
def Law_JudgeGrows_e10 : List (List Nat) := [[], [0], [], [2], [3], [4], [5, 1], [], [7], [8], [9], [10, 6], [1, 11, 0, 1], [6, 12, 0, 1, 2, 3, 4, 5, 6, 12], [11, 13, 0, 1, 2, 3, 4, 5, 6, 7, 8, 9, 10, 11, 12, 13]]
def Law_JudgeGrows_r11 : List GO := [
  ⟨none, .mov 56 (.tmp 9)⟩,
  ⟨none, .mov 57 (.tmp 3)⟩,
  ⟨none, .mov 58 (.tmp 11)⟩,
  ⟨none, .idx 59 8 (.tmp 57) (.tmp 58)⟩,
  ⟨none, .loadn 60 8 (.tmp 59)⟩,
  ⟨none, .call (some 61) 37 [(.tmp 56), (.tmp 60)]⟩,
  ⟨none, .mov 15 (.tmp 61)⟩]
def Law_JudgeGrows_r12 : List GO := [
  ⟨none, .mov 62 (.tmp 9)⟩,
  ⟨none, .call (some 63) 36 [(.tmp 62)]⟩,
  ⟨none, .mov 16 (.tmp 63)⟩]
def Law_JudgeGrows_r13 : List GO := [
  ⟨none, .mov 64 (.tmp 16)⟩,
  ⟨none, .len 65 (.tmp 64)⟩,
  ⟨none, .mov 66 (.tmp 12)⟩,
  ⟨none, .len 67 (.tmp 66)⟩,
  ⟨none, .bin 68 .sub 3 (.tmp 65) (.tmp 67)⟩,
  ⟨none, .mov 17 (.tmp 68)⟩]
def Law_JudgeGrows_r14 : List GO := [
  ⟨none, .mov 69 (.tmp 17)⟩,
  ⟨none, .bin 70 .lss 3 (.tmp 69) (.const (.int .i64 0))⟩,
  ⟨none, .mov 71 (.tmp 70)⟩,
  ⟨some (71, false), .mov 72 (.tmp 16)⟩,
  ⟨some (71, false), .mov 73 (.tmp 12)⟩,
  ⟨some (71, false), .len 74 (.tmp 73)⟩,
  ⟨some (71, false), .sub 75 3 (.tmp 72) none (some (.tmp 74)) none⟩,
  ⟨some (71, false), .mov 76 (.tmp 12)⟩,
  ⟨some (71, false), .call (some 77) 41 [(.tmp 75), (.tmp 76)]⟩,
  ⟨some (71, false), .un 78 .not (.tmp 77)⟩,
  ⟨none, .pick 79 (.tmp 71) (.const (.bool true)) (.tmp 78)⟩,
  ⟨none, .mov 80 (.tmp 79)⟩,
  ⟨some (80, false), .mov 81 (.tmp 16)⟩,
  ⟨some (80, false), .len 82 (.tmp 81)⟩,
  ⟨some (80, false), .bin 83 .gtr 3 (.tmp 82) (.const (.int .i64 80))⟩,
  ⟨none, .pick 84 (.tmp 80) (.const (.bool true)) (.tmp 83)⟩]
def Law_JudgeGrows_r15 : List GO := [
  ⟨none, .mov 8 (.const (.bool false))⟩]
def Law_JudgeGrows_r16 : List GO := [
  ⟨none, .mov 115 (.tmp 15)⟩,
  ⟨none, .bin 116 .neq 3 (.tmp 115) (.const (.int .i64 0))⟩,
  ⟨none, .mov 114 (.tmp 116)⟩]
def Law_JudgeGrows_r17 : List GO := [
  ⟨none, .mov 117 (.tmp 17)⟩,
  ⟨none, .bin 118 .neq 3 (.tmp 117) (.const (.int .i64 0))⟩,
  ⟨none, .mov 119 (.tmp 118)⟩,
  ⟨some (119, false), .mov 120 (.tmp 9)⟩,
  ⟨some (119, false), .nilc 121 (.tmp 120)⟩,
  ⟨some (119, false), .fld 122 (.tmp 121) 0⟩,
  ⟨some (119, false), .load1 123 (.tmp 122)⟩,
  ⟨some (119, false), .call (some 124) 40 [(.tmp 123)]⟩,
  ⟨some (119, false), .mov 125 (.tmp 14)⟩,
  ⟨some (119, false), .bin 126 .neq 3 (.tmp 124) (.tmp 125)⟩,
  ⟨none, .pick 127 (.tmp 119) (.const (.bool true)) (.tmp 126)⟩,
  ⟨none, .mov 128 (.tmp 127)⟩,
  ⟨some (128, false), .mov 129 (.tmp 9)⟩,
  ⟨some (128, false), .nilc 130 (.tmp 129)⟩,
  ⟨some (128, false), .fld 131 (.tmp 130) 0⟩,
  ⟨some (128, false), .load1 132 (.tmp 131)⟩,
  ⟨some (128, false), .call (some 133) 39 [(.tmp 132)]⟩,
  ⟨some (128, false), .mov 134 (.tmp 13)⟩,
  ⟨some (128, false), .call (some 135) 42 [(.tmp 133), (.tmp 134)]⟩,
  ⟨some (128, false), .un 136 .not (.tmp 135)⟩,
  ⟨none, .pick 137 (.tmp 128) (.const (.bool true)) (.tmp 136)⟩]
def Law_JudgeGrows_r18 : List GO := [
  ⟨none, .mov 8 (.const (.bool false))⟩]
def Law_JudgeGrows_r19 : List GO := [
  ⟨none, .mov 139 (.tmp 3)⟩,
  ⟨none, .mov 140 (.tmp 11)⟩,
  ⟨none, .idx 141 8 (.tmp 139) (.tmp 140)⟩,
  ⟨none, .fld 142 (.tmp 141) 0⟩,
  ⟨none, .load1 143 (.tmp 142)⟩,
  ⟨none, .bin 144 .eql 3 (.tmp 143) (.const (.int .i64 3))⟩,
  ⟨none, .mov 138 (.tmp 144)⟩]
def Law_JudgeGrows_r20 : List GO := [
  ⟨none, .mov 18 (.const (.slice none 0 0))⟩]
def Law_JudgeGrows_r21 : List GO := [
  ⟨none, .mov 145 (.tmp 17)⟩,
  ⟨none, .bin 146 .neq 3 (.tmp 145) (.const (.int .i64 1))⟩,
  ⟨none, .mov 147 (.tmp 146)⟩,
  ⟨some (147, false), .mov 148 (.tmp 9)⟩,
  ⟨some (147, false), .nilc 149 (.tmp 148)⟩,
  ⟨some (147, false), .fld 150 (.tmp 149) 0⟩,
  ⟨some (147, false), .load1 151 (.tmp 150)⟩,
  ⟨some (147, false), .call (some 152) 40 [(.tmp 151)]⟩,
  ⟨some (147, false), .mov 153 (.tmp 14)⟩,
  ⟨some (147, false), .bin 154 .add 3 (.tmp 153) (.const (.int .i64 1))⟩,
  ⟨some (147, false), .bin 155 .neq 3 (.tmp 152) (.tmp 154)⟩,
  ⟨none, .pick 156 (.tmp 147) (.const (.bool true)) (.tmp 155)⟩,
  ⟨none, .mov 157 (.tmp 156)⟩,
  ⟨some (157, false), .mov 158 (.tmp 9)⟩,
  ⟨some (157, false), .nilc 159 (.tmp 158)⟩,
  ⟨some (157, false), .fld 160 (.tmp 159) 0⟩,
  ⟨some (157, false), .load1 161 (.tmp 160)⟩,
  ⟨some (157, false), .call (some 162) 39 [(.tmp 161)]⟩,
  ⟨some (157, false), .mov 163 (.tmp 18)⟩,
  ⟨some (157, false), .mov 164 (.tmp 13)⟩,
  ⟨some (157, false), .raw ⟨(some 165), (.call ⟨(.builtin .append), #[(.tmp 163), (.tmp 164)], #[25, 25]⟩), 25, "", #[], none⟩⟩,
  ⟨some (157, false), .mov 166 (.tmp 14)⟩,
  ⟨some (157, false), .buildS 167 3 1 [(.int .i64 0)] [(0, (1, (.tmp 166)))]⟩,
  ⟨some (157, false), .raw ⟨(some 168), (.call ⟨(.builtin .append), #[(.tmp 165), (.tmp 167)], #[25, 25]⟩), 25, "", #[], none⟩⟩,
  ⟨some (157, false), .call (some 169) 42 [(.tmp 162), (.tmp 168)]⟩,
  ⟨some (157, false), .un 170 .not (.tmp 169)⟩,
  ⟨none, .pick 171 (.tmp 157) (.const (.bool true)) (.tmp 170)⟩]
def Law_JudgeGrows_r22 : List GO := [
  ⟨none, .mov 8 (.const (.bool false))⟩]
def Law_JudgeGrows_r23 : List GO := [
  ⟨none, .mov 173 (.tmp 3)⟩,
  ⟨none, .mov 174 (.tmp 11)⟩,
  ⟨none, .idx 175 8 (.tmp 173) (.tmp 174)⟩,
  ⟨none, .fld 176 (.tmp 175) 0⟩,
  ⟨none, .load1 177 (.tmp 176)⟩,
  ⟨none, .bin 178 .eql 3 (.tmp 177) (.const (.int .i64 4))⟩,
  ⟨none, .mov 172 (.tmp 178)⟩]
def Law_JudgeGrows_r24 : List GO := [
  ⟨none, .mov 179 (.tmp 17)⟩,
  ⟨none, .bin 180 .neq 3 (.tmp 179) (.const (.int .i64 0))⟩,
  ⟨none, .mov 181 (.tmp 180)⟩,
  ⟨some (181, false), .mov 182 (.tmp 9)⟩,
  ⟨some (181, false), .nilc 183 (.tmp 182)⟩,
  ⟨some (181, false), .fld 184 (.tmp 183) 0⟩,
  ⟨some (181, false), .load1 185 (.tmp 184)⟩,
  ⟨some (181, false), .call (some 186) 40 [(.tmp 185)]⟩,
  ⟨some (181, false), .mov 187 (.tmp 14)⟩,
  ⟨some (181, false), .bin 188 .neq 3 (.tmp 186) (.tmp 187)⟩,
  ⟨none, .pick 189 (.tmp 181) (.const (.bool true)) (.tmp 188)⟩,
  ⟨none, .mov 190 (.tmp 189)⟩,
  ⟨some (190, false), .mov 191 (.tmp 9)⟩,
  ⟨some (190, false), .nilc 192 (.tmp 191)⟩,
  ⟨some (190, false), .fld 193 (.tmp 192) 0⟩,
  ⟨some (190, false), .load1 194 (.tmp 193)⟩,
  ⟨some (190, false), .call (some 195) 39 [(.tmp 194)]⟩,
  ⟨some (190, false), .len 196 (.tmp 195)⟩,
  ⟨some (190, false), .mov 197 (.tmp 13)⟩,
  ⟨some (190, false), .len 198 (.tmp 197)⟩,
  ⟨some (190, false), .bin 199 .sub 3 (.tmp 198) (.const (.int .i64 1))⟩,
  ⟨some (190, false), .bin 200 .neq 3 (.tmp 196) (.tmp 199)⟩,
  ⟨none, .pick 201 (.tmp 190) (.const (.bool true)) (.tmp 200)⟩]
def Law_JudgeGrows_r25 : List GO := [
  ⟨none, .mov 8 (.const (.bool false))⟩]
def Law_JudgeGrows_r26 : List GO := [
  ⟨none, .mov 85 (.tmp 9)⟩,
  ⟨none, .nilc 86 (.tmp 85)⟩,
  ⟨none, .fld 87 (.tmp 86) 0⟩,
  ⟨none, .load1 88 (.tmp 87)⟩,
  ⟨none, .call (some 89) 40 [(.tmp 88)]⟩,
  ⟨none, .mov 90 (.tmp 14)⟩,
  ⟨none, .bin 91 .neq 3 (.tmp 89) (.tmp 90)⟩,
  ⟨none, .mov 92 (.tmp 91)⟩,
  ⟨some (92, false), .mov 93 (.tmp 9)⟩,
  ⟨some (92, false), .nilc 94 (.tmp 93)⟩,
  ⟨some (92, false), .fld 95 (.tmp 94) 0⟩,
  ⟨some (92, false), .load1 96 (.tmp 95)⟩,
  ⟨some (92, false), .call (some 97) 39 [(.tmp 96)]⟩,
  ⟨some (92, false), .mov 98 (.tmp 13)⟩,
  ⟨some (92, false), .call (some 99) 42 [(.tmp 97), (.tmp 98)]⟩,
  ⟨some (92, false), .un 100 .not (.tmp 99)⟩,
  ⟨none, .pick 101 (.tmp 92) (.const (.bool true)) (.tmp 100)⟩,
  ⟨none, .mov 102 (.tmp 101)⟩,
  ⟨some (102, false), .mov 103 (.tmp 3)⟩,
  ⟨some (102, false), .mov 104 (.tmp 11)⟩,
  ⟨some (102, false), .idx 105 8 (.tmp 103) (.tmp 104)⟩,
  ⟨some (102, false), .fld 106 (.tmp 105) 0⟩,
  ⟨some (102, false), .load1 107 (.tmp 106)⟩,
  ⟨some (102, false), .bin 108 .neq 3 (.tmp 107) (.const (.int .i64 14))⟩,
  ⟨some (102, false), .mov 109 (.tmp 108)⟩,
  ⟨some (109, true), .mov 110 (.tmp 17)⟩,
  ⟨some (109, true), .bin 111 .gtr 3 (.tmp 110) (.const (.int .i64 1))⟩,
  ⟨some (102, false), .pick 112 (.tmp 109) (.tmp 111) (.const (.bool false))⟩,
  ⟨none, .pick 113 (.tmp 102) (.const (.bool true)) (.tmp 112)⟩]
def Law_JudgeGrows_r27 : List GO := [
  ⟨none, .mov 8 (.const (.bool false))⟩]
def Law_JudgeGrows_r28 : List GO := [
  ⟨none, .mov 42 (.tmp 11)⟩,
  ⟨none, .bin 43 .add 3 (.tmp 42) (.const (.int .i64 1))⟩,
  ⟨none, .mov 11 (.tmp 43)⟩]
def Law_JudgeGrows_b9 : LC := (.seq (.seq (.ops Law_JudgeGrows_r9) (.cond (.tmp 41) .skip (.exit 0))) (.seq (.block 1 (.seq (.draw Law_JudgeGrows_r10 Law_JudgeGrows_e10) (.seq (.ops Law_JudgeGrows_r11) (.seq (.ops Law_JudgeGrows_r12) (.seq (.ops Law_JudgeGrows_r13) (.seq (.seq (.ops Law_JudgeGrows_r14) (.cond (.tmp 84) (.seq (.ops Law_JudgeGrows_r15) .ret) .skip)) (.block 2 (.seq (.ops Law_JudgeGrows_r16) (.cond (.tmp 114) (.seq (.ops Law_JudgeGrows_r17) (.cond (.tmp 137) (.seq (.ops Law_JudgeGrows_r18) .ret) .skip)) (.seq (.ops Law_JudgeGrows_r19) (.cond (.tmp 138) (.seq (.ops Law_JudgeGrows_r20) (.seq (.ops Law_JudgeGrows_r21) (.cond (.tmp 171) (.seq (.ops Law_JudgeGrows_r22) .ret) .skip))) (.seq (.ops Law_JudgeGrows_r23) (.cond (.tmp 172) (.seq (.ops Law_JudgeGrows_r24) (.cond (.tmp 201) (.seq (.ops Law_JudgeGrows_r25) .ret) .skip)) (.seq (.ops Law_JudgeGrows_r26) (.cond (.tmp 113) (.seq (.ops Law_JudgeGrows_r27) .ret) .skip))))))))))))))) (.ops Law_JudgeGrows_r28)))
def Law_JudgeGrows_r29 : List GO := [
  ⟨none, .mov 8 (.const (.bool true))⟩]
def Law_JudgeGrows_lc : LC := (.seq (.ops Law_JudgeGrows_r0) (.seq (.seq (.ops Law_JudgeGrows_r1) (.cond (.tmp 20) (.seq (.ops Law_JudgeGrows_r2) .ret) .skip)) (.seq (.seq (.ops Law_JudgeGrows_r3) (.cond (.tmp 27) (.seq (.ops Law_JudgeGrows_r4) .ret) .skip)) (.seq (.ops Law_JudgeGrows_r5) (.seq (.seq (.ops Law_JudgeGrows_r6) (.cond (.tmp 37) (.seq (.ops Law_JudgeGrows_r7) .ret) .skip)) (.seq (.seq (.ops Law_JudgeGrows_r8) (.block 0 (.loop Law_JudgeGrows_b9))) (.seq (.ops Law_JudgeGrows_r29) .ret)))))))
@[reducible] def Law_JudgeGrows : FuncId := 8
theorem Law_JudgeGrows_low : lowF Try.prog Try.f8 = some Law_JudgeGrows_lc := by kernel_rfl
theorem Law_JudgeGrows_in {a0 a1 a2 a3 : Value} {w : World} {R : Ending → World → Prop} (h : Law_JudgeGrows_lc.wp Try.prog (retQ Try.prog [.tmp 8] R) (argEnv [a0, a1, a2, a3]) w) : Calls Try.prog Law_JudgeGrows ⟨[a0, a1, a2, a3]⟩ w R :=
  calls_of_low Try.func8 Law_JudgeGrows_low (by kernel_rfl) (by kernel_rfl) h

/- 9 -/
/- 34 -/
def Law_judgeBegun_r0 : List GO := [
  ⟨none, .mov 0 (.const (.bool false))⟩]
def Law_judgeBegun_r1 : List GO := [
  ⟨none, .call (some 4) 45 []⟩,
  ⟨none, .call (some 5) 35 [(.tmp 4), (.const (.int .i64 0)), (.const (.int .i64 0))]⟩,
  ⟨none, .mov 3 (.tmp 5)⟩,
  ⟨none, .ext 6 (.tmp 3) 0⟩,
  ⟨none, .ext 7 (.tmp 3) 1⟩,
  ⟨none, .alloc 2 47 [(.int .i64 0), (.int .i64 0)]⟩,
  ⟨none, .mov 1 (.tmp 6)⟩,
  ⟨none, .storen 2 (.tmp 2) (.tmp 7)⟩]
def Law_judgeBegun_r2 : List GO := [
  ⟨none, .fld 8 (.tmp 2) 0⟩,
  ⟨none, .load1 9 (.tmp 8)⟩,
  ⟨none, .bin 10 .neq 3 (.tmp 9) (.const (.int .i64 0))⟩]
def Law_judgeBegun_r3 : List GO := [
  ⟨none, .mov 0 (.const (.bool false))⟩]
def Law_judgeBegun_r4 : List GO := [
  ⟨none, .mov 11 (.tmp 1)⟩,
  ⟨none, .build 12 [(.int .i64 0), (.int .i64 0), (.int .i64 0), (.int .i64 0), (.int .i64 0), (.int .i64 0), (.slice none 0 0), (.slice none 0 0)] [(0, (1, (.const (.int .i64 3))))]⟩,
  ⟨none, .call (some 13) 37 [(.tmp 11), (.tmp 12)]⟩,
  ⟨none, .bin 14 .eql 3 (.tmp 13) (.const (.int .i64 0))⟩,
  ⟨none, .mov 15 (.tmp 14)⟩,
  ⟨some (15, true), .mov 16 (.tmp 1)⟩,
  ⟨some (15, true), .build 17 [(.int .i64 0), (.int .i64 0), (.int .i64 0), (.int .i64 0), (.int .i64 0), (.int .i64 0), (.slice none 0 0), (.slice none 0 0)] [(0, (1, (.const (.int .i64 11))))]⟩,
  ⟨some (15, true), .call (some 18) 37 [(.tmp 16), (.tmp 17)]⟩,
  ⟨some (15, true), .bin 19 .eql 3 (.tmp 18) (.const (.int .i64 9))⟩,
  ⟨none, .pick 20 (.tmp 15) (.tmp 19) (.const (.bool false))⟩,
  ⟨none, .mov 21 (.tmp 20)⟩,
  ⟨some (21, true), .mov 22 (.tmp 1)⟩,
  ⟨some (21, true), .build 23 [(.int .i64 0), (.int .i64 0), (.int .i64 0), (.int .i64 0), (.int .i64 0), (.int .i64 0), (.slice none 0 0), (.slice none 0 0)] [(0, (1, (.const (.int .i64 4))))]⟩,
  ⟨some (21, true), .call (some 24) 37 [(.tmp 22), (.tmp 23)]⟩,
  ⟨some (21, true), .bin 25 .eql 3 (.tmp 24) (.const (.int .i64 0))⟩,
  ⟨none, .pick 26 (.tmp 21) (.tmp 25) (.const (.bool false))⟩,
  ⟨none, .mov 27 (.tmp 26)⟩,
  ⟨some (27, true), .mov 28 (.tmp 1)⟩,
  ⟨some (27, true), .build 29 [(.int .i64 0), (.int .i64 0), (.int .i64 0), (.int .i64 0), (.int .i64 0), (.int .i64 0), (.slice none 0 0), (.slice none 0 0)] [(0, (1, (.const (.int .i64 4))))]⟩,
  ⟨some (27, true), .call (some 30) 37 [(.tmp 28), (.tmp 29)]⟩,
  ⟨some (27, true), .bin 31 .eql 3 (.tmp 30) (.const (.int .i64 10))⟩,
  ⟨none, .pick 32 (.tmp 27) (.tmp 31) (.const (.bool false))⟩,
  ⟨none, .mov 33 (.tmp 32)⟩,
  ⟨some (33, true), .mov 34 (.tmp 1)⟩,
  ⟨some (33, true), .call (some 35) 36 [(.tmp 34)]⟩,
  ⟨some (33, true), .len 36 (.tmp 35)⟩,
  ⟨some (33, true), .bin 37 .eql 3 (.tmp 36) (.const (.int .i64 1))⟩,
  ⟨none, .pick 38 (.tmp 33) (.tmp 37) (.const (.bool false))⟩,
  ⟨none, .mov 39 (.tmp 38)⟩,
  ⟨some (39, true), .mov 40 (.tmp 1)⟩,
  ⟨some (39, true), .build 41 [(.int .i64 0), (.int .i64 0), (.int .i64 0), (.slice none 0 0), (.slice none 0 0), (.int .i64 0), (.slice none 0 0), (.slice none 0 0), (.slice none 0 0)] [(0, (1, (.const (.int .i64 3))))]⟩,
  ⟨some (39, true), .call (some 42) 80 [(.tmp 40), (.tmp 41)]⟩,
  ⟨some (39, true), .bin 43 .eql 3 (.tmp 42) (.const (.int .i64 0))⟩,
  ⟨none, .pick 44 (.tmp 39) (.tmp 43) (.const (.bool false))⟩,
  ⟨none, .mov 0 (.tmp 44)⟩]
def Law_judgeBegun_lc : LC := (.seq (.ops Law_judgeBegun_r0) (.seq (.ops Law_judgeBegun_r1) (.seq (.seq (.ops Law_judgeBegun_r2) (.cond (.tmp 10) (.seq (.ops Law_judgeBegun_r3) .ret) .skip)) (.seq (.ops Law_judgeBegun_r4) .ret))))
@[reducible] def Law_judgeBegun : FuncId := 34
theorem Law_judgeBegun_low : lowF Try.prog Try.f34 = some Law_judgeBegun_lc := by kernel_rfl
theorem Law_judgeBegun_in {w : World} {R : Ending → World → Prop} (h : Law_judgeBegun_lc.wp Try.prog (retQ Try.prog [.tmp 0] R) (argEnv []) w) : Calls Try.prog Law_judgeBegun ⟨[]⟩ w R :=
  calls_of_low Try.func34 Law_judgeBegun_low (by kernel_rfl) (by kernel_rfl) h

/- 35 -/
def judge_New_r0 : List GO := [
  ⟨none, .box 3 24 (.tmp 0)⟩,
  ⟨none, .mov 6 (.const (.pointer none))⟩,
  ⟨none, .alloc 7 47 [(.int .i64 0), (.int .i64 0)]⟩]
def judge_New_r1 : List GO := [
  ⟨none, .loadn 11 1 (.tmp 3)⟩,
  ⟨none, .call (some 12) 25 [(.tmp 11)]⟩,
  ⟨none, .alloc 8 47 [(.int .i64 0), (.int .i64 0)]⟩,
  ⟨none, .storen 2 (.tmp 8) (.tmp 12)⟩]
def judge_New_r2 : List GO := [
  ⟨none, .fld 13 (.tmp 8) 0⟩,
  ⟨none, .load1 14 (.tmp 13)⟩,
  ⟨none, .bin 15 .neq 3 (.tmp 14) (.const (.int .i64 0))⟩]
def judge_New_r3 : List GO := [
  ⟨none, .loadn 16 2 (.tmp 8)⟩,
  ⟨none, .mov 6 (.const (.pointer none))⟩,
  ⟨none, .storen 2 (.tmp 7) (.tmp 16)⟩]
def judge_New_e3 : List (List Nat) := [[], [], [0, 1, 0, 1]]
def judge_New_r4 : List GO := [
  ⟨none, .mov 17 (.tmp 1)⟩,
  ⟨none, .bin 18 .lss 3 (.tmp 17) (.const (.int .i64 0))⟩,
  ⟨none, .mov 19 (.tmp 18)⟩,
  ⟨some (19, false), .mov 20 (.tmp 1)⟩,
  ⟨some (19, false), .fld 21 (.tmp 3) 0⟩,
  ⟨some (19, false), .load1 22 (.tmp 21)⟩,
  ⟨some (19, false), .len 23 (.tmp 22)⟩,
  ⟨some (19, false), .bin 24 .geq 3 (.tmp 20) (.tmp 23)⟩,
  ⟨none, .pick 25 (.tmp 19) (.const (.bool true)) (.tmp 24)⟩,
  ⟨none, .mov 26 (.tmp 25)⟩,
  ⟨some (26, false), .mov 27 (.tmp 2)⟩,
  ⟨some (26, false), .bin 28 .lss 3 (.tmp 27) (.const (.int .i64 0))⟩,
  ⟨none, .pick 29 (.tmp 26) (.const (.bool true)) (.tmp 28)⟩,
  ⟨none, .mov 30 (.tmp 29)⟩,
  ⟨some (30, false), .mov 31 (.tmp 2)⟩,
  ⟨some (30, false), .fld 32 (.tmp 3) 0⟩,
  ⟨some (30, false), .load1 33 (.tmp 32)⟩,
  ⟨some (30, false), .mov 34 (.tmp 1)⟩,
  ⟨some (30, false), .idx 35 4 (.tmp 33) (.tmp 34)⟩,
  ⟨some (30, false), .fld 36 (.tmp 35) 3⟩,
  ⟨some (30, false), .load1 37 (.tmp 36)⟩,
  ⟨some (30, false), .len 38 (.tmp 37)⟩,
  ⟨some (30, false), .bin 39 .geq 3 (.tmp 31) (.tmp 38)⟩,
  ⟨none, .pick 40 (.tmp 30) (.const (.bool true)) (.tmp 39)⟩]
def judge_New_r5 : List GO := [
  ⟨none, .build 41 [(.int .i64 0), (.int .i64 0)] [(0, (1, (.const (.int .i64 1)))), (1, (1, (.const (.int .i64 (-1)))))]⟩,
  ⟨none, .mov 6 (.const (.pointer none))⟩,
  ⟨none, .storen 2 (.tmp 7) (.tmp 41)⟩]
def judge_New_r6 : List GO := [
  ⟨none, .loadn 42 1 (.tmp 3)⟩,
  ⟨none, .call (some 43) 28 [(.tmp 42)]⟩,
  ⟨none, .build 44 [(.pointer none), (.slice none 0 0), (.int .i64 0), (.slice none 0 0), (.slice none 0 0), (.slice none 0 0), (.slice none 0 0)] [(1, (1, (.tmp 43)))]⟩,
  ⟨none, .box 45 69 (.tmp 44)⟩,
  ⟨none, .mov 9 (.tmp 45)⟩]
def judge_New_r7 : List GO := [
  ⟨none, .mov 46 (.tmp 9)⟩,
  ⟨none, .mov 47 (.tmp 9)⟩,
  ⟨none, .nilc 48 (.tmp 47)⟩,
  ⟨none, .fld 49 (.tmp 48) 1⟩,
  ⟨none, .fld 50 (.tmp 49) 0⟩,
  ⟨none, .load1 51 (.tmp 50)⟩,
  ⟨none, .mov 52 (.tmp 1)⟩,
  ⟨none, .idx 53 4 (.tmp 51) (.tmp 52)⟩,
  ⟨none, .loadn 54 4 (.tmp 53)⟩,
  ⟨none, .nilc 55 (.tmp 46)⟩,
  ⟨none, .fld 56 (.tmp 55) 2⟩,
  ⟨none, .storen 4 (.tmp 56) (.tmp 54)⟩]
def judge_New_r8 : List GO := [
  ⟨none, .mov 57 (.tmp 9)⟩,
  ⟨none, .nilc 58 (.tmp 57)⟩,
  ⟨none, .fld 59 (.tmp 58) 2⟩,
  ⟨none, .fld 60 (.tmp 59) 3⟩,
  ⟨none, .load1 61 (.tmp 60)⟩,
  ⟨none, .mov 62 (.tmp 2)⟩,
  ⟨none, .idx 63 12 (.tmp 61) (.tmp 62)⟩,
  ⟨none, .loadn 64 12 (.tmp 63)⟩,
  ⟨none, .alloc 10 77 [(.int .i64 0), (.slice none 0 0), (.slice none 0 0), (.int .i64 0), (.int .i64 0), (.int .i64 0), (.slice none 0 0), (.slice none 0 0), (.int .i64 0), (.slice none 0 0), (.slice none 0 0), (.slice none 0 0)]⟩,
  ⟨none, .storen 12 (.tmp 10) (.tmp 64)⟩]
def judge_New_r9 : List GO := [
  ⟨none, .mov 65 (.tmp 9)⟩,
  ⟨none, .fld 66 (.tmp 10) 0⟩,
  ⟨none, .load1 67 (.tmp 66)⟩,
  ⟨none, .call (some 68) 81 [(.tmp 67)]⟩,
  ⟨none, .nilc 69 (.tmp 65)⟩,
  ⟨none, .fld 70 (.tmp 69) 0⟩,
  ⟨none, .store1 (.tmp 70) (.tmp 68)⟩]
def judge_New_r10 : List GO := [
  ⟨none, .mov 71 (.tmp 9)⟩,
  ⟨none, .fld 72 (.tmp 10) 1⟩,
  ⟨none, .load1 73 (.tmp 72)⟩,
  ⟨none, .call (some 74) 82 [(.tmp 73)]⟩,
  ⟨none, .nilc 75 (.tmp 71)⟩,
  ⟨none, .fld 76 (.tmp 75) 6⟩,
  ⟨none, .store1 (.tmp 76) (.tmp 74)⟩]
def judge_New_r11 : List GO := [
  ⟨none, .mov 77 (.tmp 9)⟩,
  ⟨none, .build 78 [(.int .i64 0), (.int .i64 0)] []⟩,
  ⟨none, .mov 6 (.tmp 77)⟩,
  ⟨none, .storen 2 (.tmp 7) (.tmp 78)⟩]
def judge_New_lc : LC := (.seq (.ops judge_New_r0) (.seq (.seq (.ops judge_New_r1) (.seq (.ops judge_New_r2) (.cond (.tmp 15) (.seq (.draw judge_New_r3 judge_New_e3) .ret) .skip))) (.seq (.seq (.ops judge_New_r4) (.cond (.tmp 40) (.seq (.ops judge_New_r5) .ret) .skip)) (.seq (.ops judge_New_r6) (.seq (.ops judge_New_r7) (.seq (.ops judge_New_r8) (.seq (.ops judge_New_r9) (.seq (.ops judge_New_r10) (.seq (.ops judge_New_r11) .ret)))))))))
@[reducible] def judge_New : FuncId := 35
theorem judge_New_low : lowF Try.prog Try.f35 = some judge_New_lc := by kernel_rfl
theorem judge_New_in {a0 a1 a2 : Value} {w : World} {R : Ending → World → Prop} (h : judge_New_lc.wp Try.prog (retQ Try.prog [.tmp 6, .cell 7 47] R) (argEnv [a0, a1, a2]) w) : Calls Try.prog judge_New ⟨[a0, a1, a2]⟩ w R :=
  calls_of_low Try.func35 judge_New_low (by kernel_rfl) (by kernel_rfl) h

/- 36 -/
def judge_State_Types_r0 : List GO := [
  ⟨none, .mov 2 (.const (.slice none 0 0))⟩]
def judge_State_Types_r1 : List GO := [
  ⟨none, .mov 3 (.const (.slice none 0 0))⟩]
def judge_State_Types_r2 : List GO := [
  ⟨none, .mov 6 (.tmp 0)⟩,
  ⟨none, .nilc 7 (.tmp 6)⟩,
  ⟨none, .fld 8 (.tmp 7) 6⟩,
  ⟨none, .load1 9 (.tmp 8)⟩,
  ⟨none, .len 10 (.tmp 9)⟩,
  ⟨none, .mov 11 (.const (.int .i64 0))⟩]
def judge_State_Types_r3 : List GO := [
  ⟨none, .bin 12 .lss 3 (.tmp 11) (.tmp 10)⟩]
def judge_State_Types_r4 : List GO := [
  ⟨none, .idx 13 3 (.tmp 9) (.tmp 11)⟩,
  ⟨none, .loadn 14 3 (.tmp 13)⟩,
  ⟨none, .alloc 5 65 [(.int .i64 0), (.int .i64 0), (.slice none 0 0)]⟩,
  ⟨none, .storen 3 (.tmp 5) (.tmp 14)⟩]
def judge_State_Types_r5 : List GO := [
  ⟨none, .mov 15 (.tmp 3)⟩,
  ⟨none, .loadn 16 3 (.tmp 5)⟩,
  ⟨none, .call (some 17) 83 [(.tmp 16)]⟩,
  ⟨none, .buildS 18 65 1 [(.int .i64 0), (.int .i64 0), (.slice none 0 0)] [(0, (3, (.tmp 17)))]⟩,
  ⟨none, .raw ⟨(some 19), (.call ⟨(.builtin .append), #[(.tmp 15), (.tmp 18)], #[28, 28]⟩), 28, "", #[], none⟩⟩,
  ⟨none, .mov 3 (.tmp 19)⟩]
def judge_State_Types_r6 : List GO := [
  ⟨none, .bin 20 .add 3 (.tmp 11) (.const (.int .i64 1))⟩,
  ⟨none, .mov 11 (.tmp 20)⟩]
def judge_State_Types_b3 : LC := (.seq (.ops judge_State_Types_r3) (.seq (.cond (.tmp 12) .skip (.exit 0)) (.seq (.block 1 (.seq (.ops judge_State_Types_r4) (.ops judge_State_Types_r5))) (.ops judge_State_Types_r6))))
def judge_State_Types_r7 : List GO := [
  ⟨none, .mov 21 (.tmp 3)⟩,
  ⟨none, .mov 2 (.tmp 21)⟩]
def judge_State_Types_lc : LC := (.seq (.ops judge_State_Types_r0) (.seq (.ops judge_State_Types_r1) (.seq (.seq (.ops judge_State_Types_r2) (.block 0 (.loop judge_State_Types_b3))) (.seq (.ops judge_State_Types_r7) .ret))))
@[reducible] def judge_State_Types : FuncId := 36
theorem judge_State_Types_low : lowF Try.prog Try.f36 = some judge_State_Types_lc := by kernel_rfl
theorem judge_State_Types_in {a0 : Value} {w : World} {R : Ending → World → Prop} (h : judge_State_Types_lc.wp Try.prog (retQ Try.prog [.tmp 2] R) (argEnv [a0]) w) : Calls Try.prog judge_State_Types ⟨[a0]⟩ w R :=
  calls_of_low Try.func36 judge_State_Types_low (by kernel_rfl) (by kernel_rfl) h

/- 37 -/
def judge_State_Ins_r0 : List GO := [
  ⟨none, .box 2 59 (.tmp 0)⟩,
  ⟨none, .box 3 27 (.tmp 1)⟩,
  ⟨none, .mov 4 (.const (.int .i64 0))⟩]
def judge_State_Ins_r1 : List GO := [
  ⟨none, .load1 6 (.tmp 2)⟩,
  ⟨none, .nilc 7 (.tmp 6)⟩,
  ⟨none, .fld 8 (.tmp 7) 1⟩,
  ⟨none, .loadn 9 1 (.tmp 8)⟩,
  ⟨none, .loadn 10 8 (.tmp 3)⟩,
  ⟨none, .call (some 11) 12 [(.tmp 9), (.tmp 10)]⟩,
  ⟨none, .mov 5 (.tmp 11)⟩]
def judge_State_Ins_e1 : List (List Nat) := [[], [0], [1], [2], [], [3, 4], [5, 5, 0, 1, 2, 3, 4, 5]]
def judge_State_Ins_r2 : List GO := [
  ⟨none, .mov 12 (.tmp 5)⟩,
  ⟨none, .bin 13 .neq 3 (.tmp 12) (.const (.int .i64 0))⟩]
def judge_State_Ins_r3 : List GO := [
  ⟨none, .mov 14 (.tmp 5)⟩,
  ⟨none, .mov 4 (.tmp 14)⟩]
def judge_State_Ins_r4 : List GO := [
  ⟨none, .mkfn 15 85 [(.tmp 2), (.tmp 3)]⟩,
  ⟨none, .call (some 16) 84 [(.tmp 15)]⟩,
  ⟨none, .mov 4 (.tmp 16)⟩]
def judge_State_Ins_lc : LC := (.seq (.ops judge_State_Ins_r0) (.seq (.seq (.draw judge_State_Ins_r1 judge_State_Ins_e1) (.seq (.ops judge_State_Ins_r2) (.cond (.tmp 13) (.seq (.ops judge_State_Ins_r3) .ret) .skip))) (.seq (.ops judge_State_Ins_r4) .ret)))
@[reducible] def judge_State_Ins : FuncId := 37
theorem judge_State_Ins_low : lowF Try.prog Try.f37 = some judge_State_Ins_lc := by kernel_rfl
theorem judge_State_Ins_in {a0 a1 : Value} {w : World} {R : Ending → World → Prop} (h : judge_State_Ins_lc.wp Try.prog (retQ Try.prog [.tmp 4] R) (argEnv [a0, a1]) w) : Calls Try.prog judge_State_Ins ⟨[a0, a1]⟩ w R :=
  calls_of_low Try.func37 judge_State_Ins_low (by kernel_rfl) (by kernel_rfl) h

/- 38 -/
def held_Held_Has_r0 : List GO := [
  ⟨none, .mov 4 (.const (.bool false))⟩]
def held_Held_Has_r1 : List GO := [
  ⟨none, .mov 5 (.tmp 1)⟩,
  ⟨none, .bin 6 .geq 3 (.tmp 5) (.const (.int .i64 0))⟩,
  ⟨none, .mov 7 (.tmp 6)⟩,
  ⟨some (7, true), .mov 8 (.tmp 1)⟩,
  ⟨some (7, true), .mov 9 (.tmp 0)⟩,
  ⟨some (7, true), .nilc 10 (.tmp 9)⟩,
  ⟨some (7, true), .fld 11 (.tmp 10) 0⟩,
  ⟨some (7, true), .load1 12 (.tmp 11)⟩,
  ⟨some (7, true), .len 13 (.tmp 12)⟩,
  ⟨some (7, true), .bin 14 .lss 3 (.tmp 8) (.tmp 13)⟩,
  ⟨none, .pick 15 (.tmp 7) (.tmp 14) (.const (.bool false))⟩,
  ⟨none, .mov 16 (.tmp 15)⟩,
  ⟨some (16, true), .mov 17 (.tmp 0)⟩,
  ⟨some (16, true), .nilc 18 (.tmp 17)⟩,
  ⟨some (16, true), .fld 19 (.tmp 18) 0⟩,
  ⟨some (16, true), .load1 20 (.tmp 19)⟩,
  ⟨some (16, true), .mov 21 (.tmp 1)⟩,
  ⟨some (16, true), .idx 22 1 (.tmp 20) (.tmp 21)⟩,
  ⟨some (16, true), .load1 23 (.tmp 22)⟩,
  ⟨none, .pick 24 (.tmp 16) (.tmp 23) (.const (.bool false))⟩,
  ⟨none, .mov 4 (.tmp 24)⟩]
def held_Held_Has_lc : LC := (.seq (.ops held_Held_Has_r0) (.seq (.ops held_Held_Has_r1) .ret))
@[reducible] def held_Held_Has : FuncId := 38
theorem held_Held_Has_low : lowF Try.prog Try.f38 = some held_Held_Has_lc := by kernel_rfl
theorem held_Held_Has_in {a0 a1 : Value} {w : World} {R : Ending → World → Prop} (h : held_Held_Has_lc.wp Try.prog (retQ Try.prog [.tmp 4] R) (argEnv [a0, a1]) w) : Calls Try.prog held_Held_Has ⟨[a0, a1]⟩ w R :=
  calls_of_low Try.func38 held_Held_Has_low (by kernel_rfl) (by kernel_rfl) h

/- 39 -/
def held_Held_List_r0 : List GO := [
  ⟨none, .mov 2 (.const (.slice none 0 0))⟩]
def held_Held_List_r1 : List GO := [
  ⟨none, .mov 3 (.const (.slice none 0 0))⟩]
def held_Held_List_r2 : List GO := [
  ⟨none, .mov 6 (.tmp 0)⟩,
  ⟨none, .nilc 7 (.tmp 6)⟩,
  ⟨none, .fld 8 (.tmp 7) 0⟩,
  ⟨none, .load1 9 (.tmp 8)⟩,
  ⟨none, .len 10 (.tmp 9)⟩,
  ⟨none, .mov 11 (.const (.int .i64 0))⟩]
def held_Held_List_r3 : List GO := [
  ⟨none, .bin 12 .lss 3 (.tmp 11) (.tmp 10)⟩]
def held_Held_List_r4 : List GO := [
  ⟨none, .mov 13 (.tmp 11)⟩,
  ⟨none, .idx 14 1 (.tmp 9) (.tmp 11)⟩,
  ⟨none, .load1 15 (.tmp 14)⟩,
  ⟨none, .mov 4 (.tmp 13)⟩,
  ⟨none, .mov 5 (.tmp 15)⟩]
def held_Held_List_r5 : List GO := [
  ⟨none, .mov 16 (.tmp 5)⟩]
def held_Held_List_r6 : List GO := [
  ⟨none, .mov 17 (.tmp 3)⟩,
  ⟨none, .mov 18 (.tmp 4)⟩,
  ⟨none, .buildS 19 3 1 [(.int .i64 0)] [(0, (1, (.tmp 18)))]⟩,
  ⟨none, .raw ⟨(some 20), (.call ⟨(.builtin .append), #[(.tmp 17), (.tmp 19)], #[25, 25]⟩), 25, "", #[], none⟩⟩,
  ⟨none, .mov 3 (.tmp 20)⟩]
def held_Held_List_r7 : List GO := [
  ⟨none, .bin 21 .add 3 (.tmp 11) (.const (.int .i64 1))⟩,
  ⟨none, .mov 11 (.tmp 21)⟩]
def held_Held_List_b3 : LC := (.seq (.ops held_Held_List_r3) (.seq (.cond (.tmp 12) .skip (.exit 0)) (.seq (.block 1 (.seq (.ops held_Held_List_r4) (.seq (.ops held_Held_List_r5) (.cond (.tmp 16) (.ops held_Held_List_r6) .skip)))) (.ops held_Held_List_r7))))
def held_Held_List_r8 : List GO := [
  ⟨none, .mov 22 (.tmp 3)⟩,
  ⟨none, .mov 2 (.tmp 22)⟩]
def held_Held_List_lc : LC := (.seq (.ops held_Held_List_r0) (.seq (.ops held_Held_List_r1) (.seq (.seq (.ops held_Held_List_r2) (.block 0 (.loop held_Held_List_b3))) (.seq (.ops held_Held_List_r8) .ret))))
@[reducible] def held_Held_List : FuncId := 39
theorem held_Held_List_low : lowF Try.prog Try.f39 = some held_Held_List_lc := by kernel_rfl
theorem held_Held_List_in {a0 : Value} {w : World} {R : Ending → World → Prop} (h : held_Held_List_lc.wp Try.prog (retQ Try.prog [.tmp 2] R) (argEnv [a0]) w) : Calls Try.prog held_Held_List ⟨[a0]⟩ w R :=
  calls_of_low Try.func39 held_Held_List_low (by kernel_rfl) (by kernel_rfl) h

/- 40 -/
def held_Held_Len_r0 : List GO := [
  ⟨none, .mov 2 (.const (.int .i64 0))⟩]
def held_Held_Len_r1 : List GO := [
  ⟨none, .mov 3 (.tmp 0)⟩,
  ⟨none, .nilc 4 (.tmp 3)⟩,
  ⟨none, .fld 5 (.tmp 4) 0⟩,
  ⟨none, .load1 6 (.tmp 5)⟩,
  ⟨none, .len 7 (.tmp 6)⟩,
  ⟨none, .mov 2 (.tmp 7)⟩]
def held_Held_Len_lc : LC := (.seq (.ops held_Held_Len_r0) (.seq (.ops held_Held_Len_r1) .ret))
@[reducible] def held_Held_Len : FuncId := 40
theorem held_Held_Len_low : lowF Try.prog Try.f40 = some held_Held_Len_lc := by kernel_rfl
theorem held_Held_Len_in {a0 : Value} {w : World} {R : Ending → World → Prop} (h : held_Held_Len_lc.wp Try.prog (retQ Try.prog [.tmp 2] R) (argEnv [a0]) w) : Calls Try.prog held_Held_Len ⟨[a0]⟩ w R :=
  calls_of_low Try.func40 held_Held_Len_low (by kernel_rfl) (by kernel_rfl) h

/- 43 -/
/- 44 -/
/- 80 -/
def judge_State_End_r0 : List GO := [
  ⟨none, .box 2 59 (.tmp 0)⟩,
  ⟨none, .box 3 35 (.tmp 1)⟩,
  ⟨none, .mov 4 (.const (.int .i64 0))⟩]
def judge_State_End_r1 : List GO := [
  ⟨none, .load1 6 (.tmp 2)⟩,
  ⟨none, .nilc 7 (.tmp 6)⟩,
  ⟨none, .fld 8 (.tmp 7) 2⟩,
  ⟨none, .loadn 9 4 (.tmp 8)⟩,
  ⟨none, .loadn 10 9 (.tmp 3)⟩,
  ⟨none, .call (some 11) 14 [(.tmp 9), (.tmp 10)]⟩,
  ⟨none, .mov 5 (.tmp 11)⟩]
def judge_State_End_e1 : List (List Nat) := [[], [0], [1], [2], [], [3, 4], [5, 5, 0, 1, 2, 3, 4, 5]]
def judge_State_End_r2 : List GO := [
  ⟨none, .mov 12 (.tmp 5)⟩,
  ⟨none, .bin 13 .neq 3 (.tmp 12) (.const (.int .i64 0))⟩]
def judge_State_End_r3 : List GO := [
  ⟨none, .mov 14 (.tmp 5)⟩,
  ⟨none, .mov 4 (.tmp 14)⟩]
def judge_State_End_r4 : List GO := [
  ⟨none, .mkfn 15 113 [(.tmp 2), (.tmp 3)]⟩,
  ⟨none, .call (some 16) 84 [(.tmp 15)]⟩,
  ⟨none, .mov 4 (.tmp 16)⟩]
def judge_State_End_lc : LC := (.seq (.ops judge_State_End_r0) (.seq (.seq (.draw judge_State_End_r1 judge_State_End_e1) (.seq (.ops judge_State_End_r2) (.cond (.tmp 13) (.seq (.ops judge_State_End_r3) .ret) .skip))) (.seq (.ops judge_State_End_r4) .ret)))
@[reducible] def judge_State_End : FuncId := 80
theorem judge_State_End_low : lowF Try.prog Try.f80 = some judge_State_End_lc := by kernel_rfl
theorem judge_State_End_in {a0 a1 : Value} {w : World} {R : Ending → World → Prop} (h : judge_State_End_lc.wp Try.prog (retQ Try.prog [.tmp 4] R) (argEnv [a0, a1]) w) : Calls Try.prog judge_State_End ⟨[a0, a1]⟩ w R :=
  calls_of_low Try.func80 judge_State_End_low (by kernel_rfl) (by kernel_rfl) h

/- 81 -/
def held_New_r0 : List GO := [
  ⟨none, .mov 2 (.const (.pointer none))⟩]
def held_New_r1 : List GO := [
  ⟨none, .build 4 [(.slice none 0 0)] []⟩,
  ⟨none, .box 5 129 (.tmp 4)⟩,
  ⟨none, .mov 3 (.tmp 5)⟩]
def held_New_r2 : List GO := [
  ⟨none, .mov 6 (.tmp 0)⟩,
  ⟨none, .mnx 7 false (.tmp 6) (.const (.int .i64 16))⟩,
  ⟨none, .mov 8 (.const (.int .i64 0))⟩]
def held_New_r3 : List GO := [
  ⟨none, .bin 9 .lss 3 (.tmp 8) (.tmp 7)⟩]
def held_New_r4 : List GO := [
  ⟨none, .mov 10 (.tmp 3)⟩,
  ⟨none, .mov 11 (.tmp 3)⟩,
  ⟨none, .nilc 12 (.tmp 11)⟩,
  ⟨none, .fld 13 (.tmp 12) 0⟩,
  ⟨none, .load1 14 (.tmp 13)⟩,
  ⟨none, .buildS 15 4 1 [(.bool false)] [(0, (1, (.const (.bool true))))]⟩,
  ⟨none, .raw ⟨(some 16), (.call ⟨(.builtin .append), #[(.tmp 14), (.tmp 15)], #[127, 127]⟩), 127, "", #[], none⟩⟩,
  ⟨none, .nilc 17 (.tmp 10)⟩,
  ⟨none, .fld 18 (.tmp 17) 0⟩,
  ⟨none, .store1 (.tmp 18) (.tmp 16)⟩]
def held_New_r5 : List GO := [
  ⟨none, .bin 19 .add 3 (.tmp 8) (.const (.int .i64 1))⟩,
  ⟨none, .mov 8 (.tmp 19)⟩]
def held_New_b3 : LC := (.seq (.ops held_New_r3) (.seq (.cond (.tmp 9) .skip (.exit 0)) (.seq (.block 1 (.ops held_New_r4)) (.ops held_New_r5))))
def held_New_r6 : List GO := [
  ⟨none, .mov 20 (.tmp 3)⟩,
  ⟨none, .mov 2 (.tmp 20)⟩]
def held_New_lc : LC := (.seq (.ops held_New_r0) (.seq (.ops held_New_r1) (.seq (.seq (.ops held_New_r2) (.block 0 (.loop held_New_b3))) (.seq (.ops held_New_r6) .ret))))
@[reducible] def held_New : FuncId := 81
theorem held_New_low : lowF Try.prog Try.f81 = some held_New_lc := by kernel_rfl
theorem held_New_in {a0 : Value} {w : World} {R : Ending → World → Prop} (h : held_New_lc.wp Try.prog (retQ Try.prog [.tmp 2] R) (argEnv [a0]) w) : Calls Try.prog held_New ⟨[a0]⟩ w R :=
  calls_of_low Try.func81 held_New_low (by kernel_rfl) (by kernel_rfl) h

/- 82 -/
def slices_Clone_api_Type_api_Type_r0 : List GO := [
  ⟨none, .mov 2 (.const (.slice none 0 0))⟩]
def slices_Clone_api_Type_api_Type_r1 : List GO := [
  ⟨none, .mov 3 (.tmp 0)⟩,
  ⟨none, .bin 4 .eql 28 (.tmp 3) (.const (.slice none 0 0))⟩]
def slices_Clone_api_Type_api_Type_r2 : List GO := [
  ⟨none, .mov 2 (.const (.slice none 0 0))⟩]
def slices_Clone_api_Type_api_Type_r3 : List GO := [
  ⟨none, .raw ⟨(some 5), (.buildSlice 28 0 #[]), 28, "", #[], none⟩⟩,
  ⟨none, .mov 6 (.tmp 0)⟩,
  ⟨none, .raw ⟨(some 7), (.call ⟨(.builtin .append), #[(.tmp 5), (.tmp 6)], #[28, 28]⟩), 28, "", #[], none⟩⟩,
  ⟨none, .mov 2 (.tmp 7)⟩]
def slices_Clone_api_Type_api_Type_lc : LC := (.seq (.ops slices_Clone_api_Type_api_Type_r0) (.seq (.seq (.ops slices_Clone_api_Type_api_Type_r1) (.cond (.tmp 4) (.seq (.ops slices_Clone_api_Type_api_Type_r2) .ret) .skip)) (.seq (.ops slices_Clone_api_Type_api_Type_r3) .ret)))
@[reducible] def slices_Clone_api_Type_api_Type : FuncId := 82
theorem slices_Clone_api_Type_api_Type_low : lowF Try.prog Try.f82 = some slices_Clone_api_Type_api_Type_lc := by kernel_rfl
theorem slices_Clone_api_Type_api_Type_in {a0 : Value} {w : World} {R : Ending → World → Prop} (h : slices_Clone_api_Type_api_Type_lc.wp Try.prog (retQ Try.prog [.tmp 2] R) (argEnv [a0]) w) : Calls Try.prog slices_Clone_api_Type_api_Type ⟨[a0]⟩ w R :=
  calls_of_low Try.func82 slices_Clone_api_Type_api_Type_low (by kernel_rfl) (by kernel_rfl) h

/- 83 -/
def judge_own_r0 : List GO := [
  ⟨none, .box 1 65 (.tmp 0)⟩,
  ⟨none, .alloc 2 65 [(.int .i64 0), (.int .i64 0), (.slice none 0 0)]⟩]
def judge_own_r1 : List GO := [
  ⟨none, .fld 6 (.tmp 1) 0⟩,
  ⟨none, .load1 7 (.tmp 6)⟩,
  ⟨none, .fld 8 (.tmp 1) 1⟩,
  ⟨none, .load1 9 (.tmp 8)⟩,
  ⟨none, .build 10 [(.int .i64 0), (.int .i64 0), (.slice none 0 0)] [(0, (1, (.tmp 7))), (1, (1, (.tmp 9)))]⟩,
  ⟨none, .alloc 3 65 [(.int .i64 0), (.int .i64 0), (.slice none 0 0)]⟩,
  ⟨none, .storen 3 (.tmp 3) (.tmp 10)⟩]
def judge_own_r2 : List GO := [
  ⟨none, .fld 11 (.tmp 1) 2⟩,
  ⟨none, .load1 12 (.tmp 11)⟩,
  ⟨none, .len 13 (.tmp 12)⟩,
  ⟨none, .mov 14 (.const (.int .i64 0))⟩]
def judge_own_r3 : List GO := [
  ⟨none, .bin 15 .lss 3 (.tmp 14) (.tmp 13)⟩]
def judge_own_r4 : List GO := [
  ⟨none, .idx 16 3 (.tmp 12) (.tmp 14)⟩,
  ⟨none, .loadn 17 3 (.tmp 16)⟩,
  ⟨none, .alloc 5 65 [(.int .i64 0), (.int .i64 0), (.slice none 0 0)]⟩,
  ⟨none, .storen 3 (.tmp 5) (.tmp 17)⟩]
def judge_own_r5 : List GO := [
  ⟨none, .fld 18 (.tmp 3) 2⟩,
  ⟨none, .load1 19 (.tmp 18)⟩,
  ⟨none, .loadn 20 3 (.tmp 5)⟩,
  ⟨none, .call (some 21) 83 [(.tmp 20)]⟩,
  ⟨none, .buildS 22 65 1 [(.int .i64 0), (.int .i64 0), (.slice none 0 0)] [(0, (3, (.tmp 21)))]⟩,
  ⟨none, .raw ⟨(some 23), (.call ⟨(.builtin .append), #[(.tmp 19), (.tmp 22)], #[28, 28]⟩), 28, "", #[], none⟩⟩,
  ⟨none, .fld 24 (.tmp 3) 2⟩,
  ⟨none, .store1 (.tmp 24) (.tmp 23)⟩]
def judge_own_e5 : List (List Nat) := [[], [0], [], [2], [3], [1, 4, 3], [0, 1, 2, 3, 4, 5], [6, 5, 5, 0, 1, 2, 3, 4, 5]]
def judge_own_r6 : List GO := [
  ⟨none, .bin 25 .add 3 (.tmp 14) (.const (.int .i64 1))⟩,
  ⟨none, .mov 14 (.tmp 25)⟩]
def judge_own_b3 : LC := (.seq (.ops judge_own_r3) (.seq (.cond (.tmp 15) .skip (.exit 0)) (.seq (.block 1 (.seq (.ops judge_own_r4) (.draw judge_own_r5 judge_own_e5))) (.ops judge_own_r6))))
def judge_own_r7 : List GO := [
  ⟨none, .loadn 26 3 (.tmp 3)⟩,
  ⟨none, .storen 3 (.tmp 2) (.tmp 26)⟩]
def judge_own_lc : LC := (.seq (.ops judge_own_r0) (.seq (.ops judge_own_r1) (.seq (.seq (.ops judge_own_r2) (.block 0 (.loop judge_own_b3))) (.seq (.ops judge_own_r7) .ret))))
@[reducible] def judge_own : FuncId := 83
theorem judge_own_low : lowF Try.prog Try.f83 = some judge_own_lc := by kernel_rfl
theorem judge_own_in {a0 : Value} {w : World} {R : Ending → World → Prop} (h : judge_own_lc.wp Try.prog (retQ Try.prog [.cell 2 65] R) (argEnv [a0]) w) : Calls Try.prog judge_own ⟨[a0]⟩ w R :=
  calls_of_low Try.func83 judge_own_low (by kernel_rfl) (by kernel_rfl) h

/- 84 -/
def judge_caught_r0 : List GO := [
  ⟨none, .alloc 2 3 [(.int .i64 0)]⟩]
def judge_caught_r1 : List GO := [
  ⟨none, .mkfn 3 115 [(.tmp 2)]⟩]
def judge_caught_r2 : List GO := []
def judge_caught_r3 : List GO := [
  ⟨none, .mov 4 (.tmp 0)⟩,
  ⟨none, .callv (some 5) (.tmp 4) []⟩]
def judge_caught_r4 : List GO := [
  ⟨none, .store1 (.tmp 2) (.const (.int .i64 0))⟩]
def judge_caught_ld : LD := (.seq (.pl (.ops judge_caught_r0)) (.seq (.sp judge_caught_r1 (.dfr none (.tmp 3)) judge_caught_r2) (.pl (.seq (.ops judge_caught_r3) (.seq (.ops judge_caught_r4) .ret)))))
@[reducible] def judge_caught : FuncId := 84
theorem judge_caught_low : lowFD Try.prog Try.f84 = some judge_caught_ld := by kernel_rfl
theorem judge_caught_in {a0 : Value} {w : World} {R : Ending → World → Prop} (h : judge_caught_ld.wpD Try.prog (retD Try.prog [.cell 2 3] R) [] (argEnv [a0]) w) : Calls Try.prog judge_caught ⟨[a0]⟩ w R :=
  calls_of_lowD Try.func84 judge_caught_low (by kernel_rfl) (by kernel_rfl) h
/- 85 -/
def judge_State_Ins_1_r0 : List GO := [
  ⟨none, .load1 2 (.tmp 0)⟩,
  ⟨none, .loadn 3 8 (.tmp 1)⟩,
  ⟨none, .call (some 4) 86 [(.tmp 2), (.tmp 3)]⟩]
def judge_State_Ins_1_lc : LC := (.ops judge_State_Ins_1_r0)
@[reducible] def judge_State_Ins_1 : FuncId := 85
theorem judge_State_Ins_1_low : lowF Try.prog Try.f85 = some judge_State_Ins_1_lc := by kernel_rfl
theorem judge_State_Ins_1_in {a0 a1 : Value} {w : World} {R : Ending → World → Prop} (h : judge_State_Ins_1_lc.wp Try.prog (retQ Try.prog [] R) (argEnv [a0, a1]) w) : Calls Try.prog judge_State_Ins_1 ⟨[a0, a1]⟩ w R :=
  calls_of_low Try.func85 judge_State_Ins_1_low (by kernel_rfl) (by kernel_rfl) h

/- 86 -/
def judge_State_ins_r0 : List GO := [
  ⟨none, .box 3 27 (.tmp 1)⟩]
def judge_State_ins_r1 : List GO := [
  ⟨none, .build 8 [(.int .i64 0), (.int .i64 0), (.slice none 0 0)] [(0, (1, (.const (.int .i64 1))))]⟩,
  ⟨none, .alloc 4 65 [(.int .i64 0), (.int .i64 0), (.slice none 0 0)]⟩,
  ⟨none, .storen 3 (.tmp 4) (.tmp 8)⟩]
def judge_State_ins_r2 : List GO := [
  ⟨none, .fld 9 (.tmp 3) 0⟩,
  ⟨none, .load1 10 (.tmp 9)⟩]
def judge_State_ins_r3 : List GO := [
  ⟨none, .bin 12 .eql 3 (.tmp 10) (.const (.int .i64 1))⟩,
  ⟨none, .mov 11 (.tmp 12)⟩]
def judge_State_ins_r4 : List GO := [
  ⟨none, .bin 13 .eql 3 (.tmp 10) (.const (.int .i64 12))⟩,
  ⟨none, .mov 11 (.tmp 13)⟩]
def judge_State_ins_r5 : List GO := [
  ⟨none, .mov 14 (.tmp 0)⟩,
  ⟨none, .loadn 15 3 (.tmp 4)⟩,
  ⟨none, .call (some 16) 116 [(.tmp 14), (.tmp 15)]⟩]
def judge_State_ins_r6 : List GO := [
  ⟨none, .bin 18 .eql 3 (.tmp 10) (.const (.int .i64 2))⟩,
  ⟨none, .mov 17 (.tmp 18)⟩]
def judge_State_ins_r7 : List GO := [
  ⟨none, .mov 19 (.tmp 0)⟩,
  ⟨none, .fld 20 (.tmp 3) 1⟩,
  ⟨none, .load1 21 (.tmp 20)⟩,
  ⟨none, .call (some 22) 117 [(.tmp 19), (.tmp 21), (.const (.int .i64 1))]⟩]
def judge_State_ins_r8 : List GO := [
  ⟨none, .mov 23 (.tmp 0)⟩,
  ⟨none, .fld 24 (.tmp 3) 2⟩,
  ⟨none, .load1 25 (.tmp 24)⟩,
  ⟨none, .call (some 26) 117 [(.tmp 23), (.tmp 25), (.const (.int .i64 1))]⟩]
def judge_State_ins_r9 : List GO := [
  ⟨none, .mov 27 (.tmp 0)⟩,
  ⟨none, .loadn 28 3 (.tmp 4)⟩,
  ⟨none, .call (some 29) 116 [(.tmp 27), (.tmp 28)]⟩]
def judge_State_ins_r10 : List GO := [
  ⟨none, .bin 31 .eql 3 (.tmp 10) (.const (.int .i64 3))⟩,
  ⟨none, .mov 30 (.tmp 31)⟩]
def judge_State_ins_r11 : List GO := [
  ⟨none, .mov 32 (.tmp 0)⟩,
  ⟨none, .nilc 33 (.tmp 32)⟩,
  ⟨none, .fld 34 (.tmp 33) 0⟩,
  ⟨none, .load1 35 (.tmp 34)⟩,
  ⟨none, .call (some 36) 40 [(.tmp 35)]⟩,
  ⟨none, .bin 37 .eql 3 (.tmp 36) (.const (.int .i64 16))⟩,
  ⟨none, .mov 38 (.tmp 37)⟩,
  ⟨some (38, false), .mov 39 (.tmp 0)⟩,
  ⟨some (38, false), .nilc 40 (.tmp 39)⟩,
  ⟨some (38, false), .fld 41 (.tmp 40) 6⟩,
  ⟨some (38, false), .load1 42 (.tmp 41)⟩,
  ⟨some (38, false), .len 43 (.tmp 42)⟩,
  ⟨some (38, false), .bin 44 .eql 3 (.tmp 43) (.const (.int .i64 80))⟩,
  ⟨none, .pick 45 (.tmp 38) (.const (.bool true)) (.tmp 44)⟩,
  ⟨none, .call (some 46) 118 [(.tmp 45), (.const (.int .i64 2))]⟩]
def judge_State_ins_r12 : List GO := [
  ⟨none, .mov 47 (.tmp 0)⟩,
  ⟨none, .mov 48 (.tmp 0)⟩,
  ⟨none, .nilc 49 (.tmp 48)⟩,
  ⟨none, .fld 50 (.tmp 49) 0⟩,
  ⟨none, .load1 51 (.tmp 50)⟩,
  ⟨none, .call (some 52) 119 [(.tmp 51)]⟩,
  ⟨none, .build 53 [(.int .i64 0), (.int .i64 0), (.slice none 0 0)] [(0, (1, (.const (.int .i64 2)))), (1, (1, (.tmp 52)))]⟩,
  ⟨none, .call (some 54) 116 [(.tmp 47), (.tmp 53)]⟩]
def judge_State_ins_r13 : List GO := [
  ⟨none, .bin 56 .eql 3 (.tmp 10) (.const (.int .i64 4))⟩,
  ⟨none, .mov 55 (.tmp 56)⟩]
def judge_State_ins_r14 : List GO := [
  ⟨none, .mov 57 (.tmp 0)⟩,
  ⟨none, .fld 58 (.tmp 3) 1⟩,
  ⟨none, .load1 59 (.tmp 58)⟩,
  ⟨none, .call (some 60) 120 [(.tmp 57), (.tmp 59), (.const (.int .i64 2))]⟩,
  ⟨none, .fldv 61 (.tmp 60) 1⟩,
  ⟨none, .mov 5 (.tmp 61)⟩]
def judge_State_ins_r15 : List GO := [
  ⟨none, .mov 62 (.tmp 5)⟩,
  ⟨none, .mov 63 (.tmp 0)⟩,
  ⟨none, .nilc 64 (.tmp 63)⟩,
  ⟨none, .fld 65 (.tmp 64) 2⟩,
  ⟨none, .fld 66 (.tmp 65) 0⟩,
  ⟨none, .load1 67 (.tmp 66)⟩,
  ⟨none, .bin 68 .lss 3 (.tmp 62) (.tmp 67)⟩,
  ⟨none, .call (some 69) 118 [(.tmp 68), (.const (.int .i64 11))]⟩]
def judge_State_ins_r16 : List GO := [
  ⟨none, .mov 70 (.tmp 0)⟩,
  ⟨none, .nilc 71 (.tmp 70)⟩,
  ⟨none, .fld 72 (.tmp 71) 0⟩,
  ⟨none, .load1 73 (.tmp 72)⟩,
  ⟨none, .mov 74 (.tmp 5)⟩,
  ⟨none, .call (some 75) 121 [(.tmp 73), (.tmp 74)]⟩]
def judge_State_ins_r17 : List GO := [
  ⟨none, .bin 77 .eql 3 (.tmp 10) (.const (.int .i64 5))⟩,
  ⟨none, .mov 76 (.tmp 77)⟩]
def judge_State_ins_r18 : List GO := [
  ⟨none, .mov 78 (.tmp 0)⟩,
  ⟨none, .loadn 79 8 (.tmp 3)⟩,
  ⟨none, .call (some 80) 122 [(.tmp 78), (.tmp 79)]⟩]
def judge_State_ins_r19 : List GO := [
  ⟨none, .bin 82 .eql 3 (.tmp 10) (.const (.int .i64 6))⟩,
  ⟨none, .mov 81 (.tmp 82)⟩]
def judge_State_ins_r20 : List GO := [
  ⟨none, .mov 83 (.tmp 0)⟩,
  ⟨none, .mov 84 (.tmp 0)⟩,
  ⟨none, .mov 85 (.tmp 0)⟩,
  ⟨none, .fld 86 (.tmp 3) 1⟩,
  ⟨none, .load1 87 (.tmp 86)⟩,
  ⟨none, .call (some 88) 120 [(.tmp 85), (.tmp 87), (.const (.int .i64 3))]⟩,
  ⟨none, .fld 89 (.tmp 3) 4⟩,
  ⟨none, .load1 90 (.tmp 89)⟩,
  ⟨none, .call (some 91) 123 [(.tmp 84), (.tmp 88), (.tmp 90)]⟩,
  ⟨none, .call (some 92) 116 [(.tmp 83), (.tmp 91)]⟩]
def judge_State_ins_e20 : List (List Nat) := [[], [], [], [], [3], [2, 4], [], [6], [1, 5, 7, 5], [0, 8, 8]]
def judge_State_ins_r21 : List GO := [
  ⟨none, .bin 94 .eql 3 (.tmp 10) (.const (.int .i64 7))⟩,
  ⟨none, .mov 93 (.tmp 94)⟩]
def judge_State_ins_r22 : List GO := [
  ⟨none, .mov 95 (.tmp 0)⟩,
  ⟨none, .mov 96 (.tmp 0)⟩,
  ⟨none, .fld 97 (.tmp 3) 1⟩,
  ⟨none, .load1 98 (.tmp 97)⟩,
  ⟨none, .call (some 99) 120 [(.tmp 96), (.tmp 98), (.const (.int .i64 3))]⟩,
  ⟨none, .fld 100 (.tmp 3) 4⟩,
  ⟨none, .load1 101 (.tmp 100)⟩,
  ⟨none, .call (some 102) 123 [(.tmp 95), (.tmp 99), (.tmp 101)]⟩,
  ⟨none, .alloc 6 65 [(.int .i64 0), (.int .i64 0), (.slice none 0 0)]⟩,
  ⟨none, .storen 3 (.tmp 6) (.tmp 102)⟩]
def judge_State_ins_e22 : List (List Nat) := [[], [], [], [2], [1, 3], [], [5], [0, 4, 6, 4], [], [8, 7, 7, 0, 1, 2, 3, 4, 5, 6, 7, 8]]
def judge_State_ins_r23 : List GO := [
  ⟨none, .loadn 103 3 (.tmp 6)⟩,
  ⟨none, .mov 104 (.tmp 0)⟩,
  ⟨none, .fld 105 (.tmp 3) 2⟩,
  ⟨none, .load1 106 (.tmp 105)⟩,
  ⟨none, .call (some 107) 124 [(.tmp 104), (.tmp 106)]⟩,
  ⟨none, .call (some 108) 69 [(.tmp 103), (.tmp 107)]⟩,
  ⟨none, .un 109 .not (.tmp 108)⟩,
  ⟨none, .call (some 110) 118 [(.tmp 109), (.const (.int .i64 9))]⟩]
def judge_State_ins_e23 : List (List Nat) := [[], [], [], [2], [1, 3], [0, 4, 4], [5], [6, 5]]
def judge_State_ins_r24 : List GO := [
  ⟨none, .bin 112 .eql 3 (.tmp 10) (.const (.int .i64 8))⟩,
  ⟨none, .mov 111 (.tmp 112)⟩]
def judge_State_ins_r25 : List GO := [
  ⟨none, .mov 113 (.tmp 0)⟩,
  ⟨none, .fld 114 (.tmp 3) 1⟩,
  ⟨none, .load1 115 (.tmp 114)⟩,
  ⟨none, .call (some 116) 120 [(.tmp 113), (.tmp 115), (.const (.int .i64 2))]⟩,
  ⟨none, .fldv 117 (.tmp 116) 1⟩,
  ⟨none, .mov 7 (.tmp 117)⟩]
def judge_State_ins_r26 : List GO := [
  ⟨none, .mov 118 (.tmp 0)⟩,
  ⟨none, .fld 119 (.tmp 3) 2⟩,
  ⟨none, .load1 120 (.tmp 119)⟩,
  ⟨none, .call (some 121) 117 [(.tmp 118), (.tmp 120), (.const (.int .i64 1))]⟩]
def judge_State_ins_r27 : List GO := [
  ⟨none, .mov 122 (.tmp 0)⟩,
  ⟨none, .mov 123 (.tmp 7)⟩,
  ⟨none, .build 124 [(.int .i64 0), (.int .i64 0), (.slice none 0 0)] [(0, (1, (.const (.int .i64 4)))), (1, (1, (.tmp 123)))]⟩,
  ⟨none, .call (some 125) 116 [(.tmp 122), (.tmp 124)]⟩]
def judge_State_ins_r28 : List GO := [
  ⟨none, .bin 127 .eql 3 (.tmp 10) (.const (.int .i64 9))⟩,
  ⟨none, .mov 126 (.tmp 127)⟩]
def judge_State_ins_r29 : List GO := [
  ⟨none, .mov 128 (.tmp 0)⟩,
  ⟨none, .fld 129 (.tmp 3) 1⟩,
  ⟨none, .load1 130 (.tmp 129)⟩,
  ⟨none, .call (some 131) 120 [(.tmp 128), (.tmp 130), (.const (.int .i64 4))]⟩]
def judge_State_ins_r30 : List GO := [
  ⟨none, .mov 132 (.tmp 0)⟩,
  ⟨none, .fld 133 (.tmp 3) 2⟩,
  ⟨none, .load1 134 (.tmp 133)⟩,
  ⟨none, .call (some 135) 117 [(.tmp 132), (.tmp 134), (.const (.int .i64 1))]⟩]
def judge_State_ins_r31 : List GO := [
  ⟨none, .mov 136 (.tmp 0)⟩,
  ⟨none, .loadn 137 3 (.tmp 4)⟩,
  ⟨none, .call (some 138) 116 [(.tmp 136), (.tmp 137)]⟩]
def judge_State_ins_r32 : List GO := [
  ⟨none, .bin 140 .eql 3 (.tmp 10) (.const (.int .i64 10))⟩,
  ⟨none, .mov 139 (.tmp 140)⟩]
def judge_State_ins_r33 : List GO := [
  ⟨none, .mov 141 (.tmp 0)⟩,
  ⟨none, .fld 142 (.tmp 3) 1⟩,
  ⟨none, .load1 143 (.tmp 142)⟩,
  ⟨none, .call (some 144) 120 [(.tmp 141), (.tmp 143), (.const (.int .i64 4))]⟩]
def judge_State_ins_r34 : List GO := [
  ⟨none, .mov 145 (.tmp 0)⟩,
  ⟨none, .fld 146 (.tmp 3) 2⟩,
  ⟨none, .load1 147 (.tmp 146)⟩,
  ⟨none, .call (some 148) 117 [(.tmp 145), (.tmp 147), (.const (.int .i64 1))]⟩]
def judge_State_ins_r35 : List GO := [
  ⟨none, .mov 149 (.tmp 0)⟩,
  ⟨none, .fld 150 (.tmp 3) 3⟩,
  ⟨none, .load1 151 (.tmp 150)⟩,
  ⟨none, .call (some 152) 117 [(.tmp 149), (.tmp 151), (.const (.int .i64 1))]⟩]
def judge_State_ins_r36 : List GO := [
  ⟨none, .bin 154 .eql 3 (.tmp 10) (.const (.int .i64 11))⟩,
  ⟨none, .mov 153 (.tmp 154)⟩]
def judge_State_ins_r37 : List GO := [
  ⟨none, .mov 155 (.tmp 0)⟩,
  ⟨none, .fld 156 (.tmp 3) 1⟩,
  ⟨none, .load1 157 (.tmp 156)⟩,
  ⟨none, .call (some 158) 120 [(.tmp 155), (.tmp 157), (.const (.int .i64 4))]⟩]
def judge_State_ins_r38 : List GO := [
  ⟨none, .mov 159 (.tmp 0)⟩,
  ⟨none, .loadn 160 3 (.tmp 4)⟩,
  ⟨none, .call (some 161) 116 [(.tmp 159), (.tmp 160)]⟩]
def judge_State_ins_r39 : List GO := [
  ⟨none, .bin 163 .eql 3 (.tmp 10) (.const (.int .i64 13))⟩,
  ⟨none, .mov 162 (.tmp 163)⟩]
def judge_State_ins_r40 : List GO := [
  ⟨none, .mov 164 (.tmp 0)⟩,
  ⟨none, .fld 165 (.tmp 3) 1⟩,
  ⟨none, .load1 166 (.tmp 165)⟩,
  ⟨none, .call (some 167) 117 [(.tmp 164), (.tmp 166), (.const (.int .i64 1))]⟩]
def judge_State_ins_r41 : List GO := [
  ⟨none, .bin 169 .eql 3 (.tmp 10) (.const (.int .i64 14))⟩,
  ⟨none, .mov 168 (.tmp 169)⟩]
def judge_State_ins_r42 : List GO := [
  ⟨none, .mov 170 (.tmp 0)⟩,
  ⟨none, .loadn 171 8 (.tmp 3)⟩,
  ⟨none, .call (some 172) 125 [(.tmp 170), (.tmp 171)]⟩]
def judge_State_ins_lc : LC := (.seq (.ops judge_State_ins_r0) (.seq (.ops judge_State_ins_r1) (.seq (.ops judge_State_ins_r2) (.block 0 (.seq (.seq (.ops judge_State_ins_r3) (.cond (.tmp 11) .skip (.ops judge_State_ins_r4))) (.cond (.tmp 11) (.ops judge_State_ins_r5) (.seq (.ops judge_State_ins_r6) (.cond (.tmp 17) (.seq (.ops judge_State_ins_r7) (.seq (.ops judge_State_ins_r8) (.ops judge_State_ins_r9))) (.seq (.ops judge_State_ins_r10) (.cond (.tmp 30) (.seq (.ops judge_State_ins_r11) (.ops judge_State_ins_r12)) (.seq (.ops judge_State_ins_r13) (.cond (.tmp 55) (.seq (.ops judge_State_ins_r14) (.seq (.ops judge_State_ins_r15) (.ops judge_State_ins_r16))) (.seq (.ops judge_State_ins_r17) (.cond (.tmp 76) (.ops judge_State_ins_r18) (.seq (.ops judge_State_ins_r19) (.cond (.tmp 81) (.draw judge_State_ins_r20 judge_State_ins_e20) (.seq (.ops judge_State_ins_r21) (.cond (.tmp 93) (.seq (.draw judge_State_ins_r22 judge_State_ins_e22) (.draw judge_State_ins_r23 judge_State_ins_e23)) (.seq (.ops judge_State_ins_r24) (.cond (.tmp 111) (.seq (.ops judge_State_ins_r25) (.seq (.ops judge_State_ins_r26) (.ops judge_State_ins_r27))) (.seq (.ops judge_State_ins_r28) (.cond (.tmp 126) (.seq (.ops judge_State_ins_r29) (.seq (.ops judge_State_ins_r30) (.ops judge_State_ins_r31))) (.seq (.ops judge_State_ins_r32) (.cond (.tmp 139) (.seq (.ops judge_State_ins_r33) (.seq (.ops judge_State_ins_r34) (.ops judge_State_ins_r35))) (.seq (.ops judge_State_ins_r36) (.cond (.tmp 153) (.seq (.ops judge_State_ins_r37) (.ops judge_State_ins_r38)) (.seq (.ops judge_State_ins_r39) (.cond (.tmp 162) (.ops judge_State_ins_r40) (.seq (.ops judge_State_ins_r41) (.cond (.tmp 168) (.ops judge_State_ins_r42) .skip))))))))))))))))))))))))))))))
@[reducible] def judge_State_ins : FuncId := 86
theorem judge_State_ins_low : lowF Try.prog Try.f86 = some judge_State_ins_lc := by kernel_rfl
theorem judge_State_ins_in {a0 a1 : Value} {w : World} {R : Ending → World → Prop} (h : judge_State_ins_lc.wp Try.prog (retQ Try.prog [] R) (argEnv [a0, a1]) w) : Calls Try.prog judge_State_ins ⟨[a0, a1]⟩ w R :=
  calls_of_low Try.func86 judge_State_ins_low (by kernel_rfl) (by kernel_rfl) h

/- 88 -/
/- 113 -/
def judge_State_End_1_r0 : List GO := [
  ⟨none, .load1 2 (.tmp 0)⟩,
  ⟨none, .loadn 3 9 (.tmp 1)⟩,
  ⟨none, .call (some 4) 114 [(.tmp 2), (.tmp 3)]⟩]
def judge_State_End_1_lc : LC := (.ops judge_State_End_1_r0)
@[reducible] def judge_State_End_1 : FuncId := 113
theorem judge_State_End_1_low : lowF Try.prog Try.f113 = some judge_State_End_1_lc := by kernel_rfl
theorem judge_State_End_1_in {a0 a1 : Value} {w : World} {R : Ending → World → Prop} (h : judge_State_End_1_lc.wp Try.prog (retQ Try.prog [] R) (argEnv [a0, a1]) w) : Calls Try.prog judge_State_End_1 ⟨[a0, a1]⟩ w R :=
  calls_of_low Try.func113 judge_State_End_1_low (by kernel_rfl) (by kernel_rfl) h

/- 114 -/
def judge_State_end_r0 : List GO := [
  ⟨none, .box 3 35 (.tmp 1)⟩]
def judge_State_end_r1 : List GO := [
  ⟨none, .fld 6 (.tmp 3) 0⟩,
  ⟨none, .load1 7 (.tmp 6)⟩]
def judge_State_end_r2 : List GO := [
  ⟨none, .bin 9 .eql 3 (.tmp 7) (.const (.int .i64 1))⟩,
  ⟨none, .mov 8 (.tmp 9)⟩]
def judge_State_end_r3 : List GO := [
  ⟨none, .mov 10 (.tmp 0)⟩,
  ⟨none, .fld 11 (.tmp 3) 2⟩,
  ⟨none, .loadn 12 3 (.tmp 11)⟩,
  ⟨none, .call (some 13) 137 [(.tmp 10), (.tmp 12)]⟩]
def judge_State_end_r4 : List GO := [
  ⟨none, .bin 15 .eql 3 (.tmp 7) (.const (.int .i64 2))⟩,
  ⟨none, .mov 14 (.tmp 15)⟩]
def judge_State_end_r5 : List GO := [
  ⟨none, .mov 16 (.tmp 0)⟩,
  ⟨none, .fld 17 (.tmp 3) 1⟩,
  ⟨none, .load1 18 (.tmp 17)⟩,
  ⟨none, .call (some 19) 117 [(.tmp 16), (.tmp 18), (.const (.int .i64 1))]⟩]
def judge_State_end_r6 : List GO := [
  ⟨none, .mov 20 (.tmp 0)⟩,
  ⟨none, .fld 21 (.tmp 3) 2⟩,
  ⟨none, .loadn 22 3 (.tmp 21)⟩,
  ⟨none, .call (some 23) 137 [(.tmp 20), (.tmp 22)]⟩]
def judge_State_end_r7 : List GO := [
  ⟨none, .mov 24 (.tmp 0)⟩,
  ⟨none, .fld 25 (.tmp 3) 5⟩,
  ⟨none, .loadn 26 3 (.tmp 25)⟩,
  ⟨none, .call (some 27) 137 [(.tmp 24), (.tmp 26)]⟩]
def judge_State_end_r8 : List GO := [
  ⟨none, .bin 29 .eql 3 (.tmp 7) (.const (.int .i64 3))⟩,
  ⟨none, .mov 28 (.tmp 29)⟩]
def judge_State_end_r9 : List GO := [
  ⟨none, .mov 4 (.const (.slice none 0 0))⟩]
def judge_State_end_r10 : List GO := [
  ⟨none, .mov 30 (.tmp 0)⟩,
  ⟨none, .nilc 31 (.tmp 30)⟩,
  ⟨none, .fld 32 (.tmp 31) 2⟩,
  ⟨none, .fld 33 (.tmp 32) 0⟩,
  ⟨none, .load1 34 (.tmp 33)⟩,
  ⟨none, .mov 35 (.const (.int .i64 0))⟩]
def judge_State_end_r11 : List GO := [
  ⟨none, .bin 36 .lss 3 (.tmp 35) (.tmp 34)⟩]
def judge_State_end_r12 : List GO := [
  ⟨none, .mov 37 (.tmp 35)⟩,
  ⟨none, .mov 5 (.tmp 37)⟩]
def judge_State_end_r13 : List GO := [
  ⟨none, .mov 38 (.tmp 4)⟩,
  ⟨none, .mov 39 (.tmp 5)⟩,
  ⟨none, .buildS 40 3 1 [(.int .i64 0)] [(0, (1, (.tmp 39)))]⟩,
  ⟨none, .raw ⟨(some 41), (.call ⟨(.builtin .append), #[(.tmp 38), (.tmp 40)], #[25, 25]⟩), 25, "", #[], none⟩⟩,
  ⟨none, .mov 4 (.tmp 41)⟩]
def judge_State_end_r14 : List GO := [
  ⟨none, .bin 42 .add 3 (.tmp 35) (.const (.int .i64 1))⟩,
  ⟨none, .mov 35 (.tmp 42)⟩]
def judge_State_end_b11 : LC := (.seq (.ops judge_State_end_r11) (.seq (.cond (.tmp 36) .skip (.exit 1)) (.seq (.block 2 (.seq (.ops judge_State_end_r12) (.ops judge_State_end_r13))) (.ops judge_State_end_r14))))
def judge_State_end_r15 : List GO := [
  ⟨none, .mov 43 (.tmp 0)⟩,
  ⟨none, .fld 44 (.tmp 3) 8⟩,
  ⟨none, .load1 45 (.tmp 44)⟩,
  ⟨none, .mov 46 (.tmp 0)⟩,
  ⟨none, .nilc 47 (.tmp 46)⟩,
  ⟨none, .fld 48 (.tmp 47) 2⟩,
  ⟨none, .fld 49 (.tmp 48) 2⟩,
  ⟨none, .load1 50 (.tmp 49)⟩,
  ⟨none, .mov 51 (.tmp 4)⟩,
  ⟨none, .call (some 52) 138 [(.tmp 43), (.tmp 45), (.tmp 50), (.tmp 51)]⟩]
def judge_State_end_e15 : List (List Nat) := [[], [], [1], [], [3], [4], [5], [6], [], [0, 2, 7, 8]]
def judge_State_end_r16 : List GO := [
  ⟨none, .mov 53 (.tmp 0)⟩,
  ⟨none, .nilc 54 (.tmp 53)⟩,
  ⟨none, .fld 55 (.tmp 54) 0⟩,
  ⟨none, .load1 56 (.tmp 55)⟩,
  ⟨none, .call (some 57) 39 [(.tmp 56)]⟩,
  ⟨none, .len 58 (.tmp 57)⟩,
  ⟨none, .mov 59 (.tmp 0)⟩,
  ⟨none, .nilc 60 (.tmp 59)⟩,
  ⟨none, .fld 61 (.tmp 60) 2⟩,
  ⟨none, .fld 62 (.tmp 61) 0⟩,
  ⟨none, .load1 63 (.tmp 62)⟩,
  ⟨none, .bin 64 .gtr 3 (.tmp 58) (.tmp 63)⟩,
  ⟨none, .call (some 65) 118 [(.tmp 64), (.const (.int .i64 12))]⟩]
def judge_State_end_e16 : List (List Nat) := [[], [0], [1], [2], [3], [4], [], [6], [7], [8], [9], [5, 10], [11, 4]]
def judge_State_end_lc : LC := (.seq (.ops judge_State_end_r0) (.seq (.ops judge_State_end_r1) (.block 0 (.seq (.ops judge_State_end_r2) (.cond (.tmp 8) (.ops judge_State_end_r3) (.seq (.ops judge_State_end_r4) (.cond (.tmp 14) (.seq (.ops judge_State_end_r5) (.seq (.ops judge_State_end_r6) (.ops judge_State_end_r7))) (.seq (.ops judge_State_end_r8) (.cond (.tmp 28) (.seq (.ops judge_State_end_r9) (.seq (.seq (.ops judge_State_end_r10) (.block 1 (.loop judge_State_end_b11))) (.seq (.draw judge_State_end_r15 judge_State_end_e15) (.draw judge_State_end_r16 judge_State_end_e16)))) .skip)))))))))
@[reducible] def judge_State_end : FuncId := 114
theorem judge_State_end_low : lowF Try.prog Try.f114 = some judge_State_end_lc := by kernel_rfl
theorem judge_State_end_in {a0 a1 : Value} {w : World} {R : Ending → World → Prop} (h : judge_State_end_lc.wp Try.prog (retQ Try.prog [] R) (argEnv [a0, a1]) w) : Calls Try.prog judge_State_end ⟨[a0, a1]⟩ w R :=
  calls_of_low Try.func114 judge_State_end_low (by kernel_rfl) (by kernel_rfl) h

/- 115 -/
def judge_caught_1_r0 : List GO := []
def judge_caught_1_r1 : List GO := [
  ⟨none, .mov 1 (.tmp 4)⟩]
def judge_caught_1_r2 : List GO := [
  ⟨none, .mov 5 (.tmp 1)⟩,
  ⟨none, .bin 6 .neq 20 (.tmp 5) (.const .nilIface)⟩]
def judge_caught_1_r3 : List GO := [
  ⟨none, .mov 8 (.tmp 1)⟩,
  ⟨none, .raw ⟨(some 9), (.typeAssert (.tmp 8) 20 145 true), 146, "", #[], none⟩⟩,
  ⟨none, .mov 7 (.tmp 9)⟩,
  ⟨none, .ext 10 (.tmp 7) 0⟩,
  ⟨none, .ext 11 (.tmp 7) 1⟩,
  ⟨none, .mov 2 (.tmp 10)⟩,
  ⟨none, .mov 3 (.tmp 11)⟩]
def judge_caught_1_r4 : List GO := [
  ⟨none, .mov 12 (.tmp 3)⟩,
  ⟨none, .un 13 .not (.tmp 12)⟩]
def judge_caught_1_r5 : List GO := [
  ⟨none, .mov 14 (.tmp 1)⟩,
  ⟨none, .raw ⟨none, (.panic (.tmp 14)), 0, "", #[], none⟩⟩]
def judge_caught_1_r6 : List GO := [
  ⟨none, .mov 15 (.tmp 2)⟩,
  ⟨none, .store1 (.tmp 0) (.tmp 15)⟩]
def judge_caught_1_ld : LD := (.seq (.sp judge_caught_1_r0 (.rcv (some 4)) judge_caught_1_r1) (.pl (.seq (.ops judge_caught_1_r2) (.cond (.tmp 6) (.seq (.ops judge_caught_1_r3) (.seq (.seq (.ops judge_caught_1_r4) (.cond (.tmp 13) (.ops judge_caught_1_r5) .skip)) (.ops judge_caught_1_r6))) .skip))))
@[reducible] def judge_caught_1 : FuncId := 115
theorem judge_caught_1_low : lowFD Try.prog Try.f115 = some judge_caught_1_ld := by kernel_rfl
theorem judge_caught_1_inR {a0 : Value} {u : FrameMode} {w : World} {R : Ending → FrameMode → World → Prop} (h : judge_caught_1_ld.wpR Try.prog (retR Try.prog [] R) u (argEnv [a0]) w) : CallsD Try.prog judge_caught_1 ⟨[a0]⟩ u w R :=
  callsD_of_lowR Try.func115 judge_caught_1_low (by kernel_rfl) (by kernel_rfl) h

/- 116 -/
def judge_State_put_r0 : List GO := [
  ⟨none, .box 3 65 (.tmp 1)⟩]
def judge_State_put_r1 : List GO := [
  ⟨none, .mov 4 (.tmp 0)⟩,
  ⟨none, .nilc 5 (.tmp 4)⟩,
  ⟨none, .fld 6 (.tmp 5) 6⟩,
  ⟨none, .load1 7 (.tmp 6)⟩,
  ⟨none, .len 8 (.tmp 7)⟩,
  ⟨none, .bin 9 .eql 3 (.tmp 8) (.const (.int .i64 80))⟩,
  ⟨none, .call (some 10) 118 [(.tmp 9), (.const (.int .i64 2))]⟩]
def judge_State_put_r2 : List GO := [
  ⟨none, .mov 11 (.tmp 0)⟩,
  ⟨none, .nilc 12 (.tmp 11)⟩,
  ⟨none, .fld 13 (.tmp 12) 6⟩,
  ⟨none, .load1 14 (.tmp 13)⟩,
  ⟨none, .loadn 15 3 (.tmp 3)⟩,
  ⟨none, .len 16 (.tmp 14)⟩,
  ⟨none, .buildS 17 65 1 [(.int .i64 0), (.int .i64 0), (.slice none 0 0)] [(0, (3, (.const (.agg #[(.int .i64 0), (.int .i64 0), (.slice none 0 0)]))))]⟩,
  ⟨none, .raw ⟨(some 18), (.call ⟨(.builtin .append), #[(.tmp 14), (.tmp 17)], #[28, 28]⟩), 28, "", #[], none⟩⟩,
  ⟨none, .idx 19 3 (.tmp 18) (.tmp 16)⟩,
  ⟨none, .storen 3 (.tmp 19) (.tmp 15)⟩,
  ⟨none, .nilc 20 (.tmp 11)⟩,
  ⟨none, .fld 21 (.tmp 20) 6⟩,
  ⟨none, .store1 (.tmp 21) (.tmp 18)⟩]
def judge_State_put_e2 : List (List Nat) := [[], [0], [1], [2], [], [3], [], [3, 6, 0, 1, 2, 3, 4, 5, 6], [7, 5, 0, 1, 2, 3, 4, 5, 6, 7], [8, 4, 7, 0, 1, 2, 3, 4, 5, 6, 7], [0, 0, 1, 2, 3, 4, 5, 6, 7], [10, 0, 1, 2, 3, 4, 5, 6, 7], [11, 7, 7, 0, 1, 2, 3, 4, 5, 6, 7]]
def judge_State_put_lc : LC := (.seq (.ops judge_State_put_r0) (.seq (.ops judge_State_put_r1) (.draw judge_State_put_r2 judge_State_put_e2)))
@[reducible] def judge_State_put : FuncId := 116
theorem judge_State_put_low : lowF Try.prog Try.f116 = some judge_State_put_lc := by kernel_rfl
theorem judge_State_put_in {a0 a1 : Value} {w : World} {R : Ending → World → Prop} (h : judge_State_put_lc.wp Try.prog (retQ Try.prog [] R) (argEnv [a0, a1]) w) : Calls Try.prog judge_State_put ⟨[a0, a1]⟩ w R :=
  calls_of_low Try.func116 judge_State_put_low (by kernel_rfl) (by kernel_rfl) h

/- 117 -/
def judge_State_kind_r0 : List GO := [
  ⟨none, .alloc 6 65 [(.int .i64 0), (.int .i64 0), (.slice none 0 0)]⟩]
def judge_State_kind_r1 : List GO := [
  ⟨none, .mov 8 (.tmp 0)⟩,
  ⟨none, .mov 9 (.tmp 1)⟩,
  ⟨none, .call (some 10) 124 [(.tmp 8), (.tmp 9)]⟩,
  ⟨none, .alloc 7 65 [(.int .i64 0), (.int .i64 0), (.slice none 0 0)]⟩,
  ⟨none, .storen 3 (.tmp 7) (.tmp 10)⟩]
def judge_State_kind_r2 : List GO := [
  ⟨none, .fld 11 (.tmp 7) 0⟩,
  ⟨none, .load1 12 (.tmp 11)⟩,
  ⟨none, .mov 13 (.tmp 2)⟩,
  ⟨none, .bin 14 .neq 3 (.tmp 12) (.tmp 13)⟩,
  ⟨none, .call (some 15) 118 [(.tmp 14), (.const (.int .i64 9))]⟩]
def judge_State_kind_r3 : List GO := [
  ⟨none, .loadn 16 3 (.tmp 7)⟩,
  ⟨none, .storen 3 (.tmp 6) (.tmp 16)⟩]
def judge_State_kind_lc : LC := (.seq (.ops judge_State_kind_r0) (.seq (.ops judge_State_kind_r1) (.seq (.ops judge_State_kind_r2) (.seq (.ops judge_State_kind_r3) .ret))))
@[reducible] def judge_State_kind : FuncId := 117
theorem judge_State_kind_low : lowF Try.prog Try.f117 = some judge_State_kind_lc := by kernel_rfl
theorem judge_State_kind_in {a0 a1 a2 : Value} {w : World} {R : Ending → World → Prop} (h : judge_State_kind_lc.wp Try.prog (retQ Try.prog [.cell 6 65] R) (argEnv [a0, a1, a2]) w) : Calls Try.prog judge_State_kind ⟨[a0, a1, a2]⟩ w R :=
  calls_of_low Try.func117 judge_State_kind_low (by kernel_rfl) (by kernel_rfl) h

/- 118 -/
def judge_fail_r0 : List GO := [
  ⟨none, .mov 4 (.tmp 0)⟩]
def judge_fail_r1 : List GO := [
  ⟨none, .mov 5 (.tmp 1)⟩,
  ⟨none, .mki 6 145 (.tmp 5)⟩,
  ⟨none, .raw ⟨none, (.panic (.tmp 6)), 0, "", #[], none⟩⟩]
def judge_fail_lc : LC := (.seq (.ops judge_fail_r0) (.cond (.tmp 4) (.ops judge_fail_r1) .skip))
@[reducible] def judge_fail : FuncId := 118
theorem judge_fail_low : lowF Try.prog Try.f118 = some judge_fail_lc := by kernel_rfl
theorem judge_fail_in {a0 a1 : Value} {w : World} {R : Ending → World → Prop} (h : judge_fail_lc.wp Try.prog (retQ Try.prog [] R) (argEnv [a0, a1]) w) : Calls Try.prog judge_fail ⟨[a0, a1]⟩ w R :=
  calls_of_low Try.func118 judge_fail_low (by kernel_rfl) (by kernel_rfl) h

/- 119 -/
def held_Held_Open_r0 : List GO := [
  ⟨none, .mov 2 (.const (.int .i64 0))⟩]
def held_Held_Open_r1 : List GO := [
  ⟨none, .mov 3 (.tmp 0)⟩,
  ⟨none, .nilc 4 (.tmp 3)⟩,
  ⟨none, .fld 5 (.tmp 4) 0⟩,
  ⟨none, .load1 6 (.tmp 5)⟩,
  ⟨none, .len 7 (.tmp 6)⟩,
  ⟨none, .bin 8 .eql 3 (.tmp 7) (.const (.int .i64 16))⟩]
def held_Held_Open_r2 : List GO := [
  ⟨none, .mov 2 (.const (.int .i64 (-1)))⟩]
def held_Held_Open_r3 : List GO := [
  ⟨none, .mov 9 (.tmp 0)⟩,
  ⟨none, .mov 10 (.tmp 0)⟩,
  ⟨none, .nilc 11 (.tmp 10)⟩,
  ⟨none, .fld 12 (.tmp 11) 0⟩,
  ⟨none, .load1 13 (.tmp 12)⟩,
  ⟨none, .buildS 14 4 1 [(.bool false)] [(0, (1, (.const (.bool true))))]⟩,
  ⟨none, .raw ⟨(some 15), (.call ⟨(.builtin .append), #[(.tmp 13), (.tmp 14)], #[127, 127]⟩), 127, "", #[], none⟩⟩,
  ⟨none, .nilc 16 (.tmp 9)⟩,
  ⟨none, .fld 17 (.tmp 16) 0⟩,
  ⟨none, .store1 (.tmp 17) (.tmp 15)⟩]
def held_Held_Open_r4 : List GO := [
  ⟨none, .mov 18 (.tmp 0)⟩,
  ⟨none, .nilc 19 (.tmp 18)⟩,
  ⟨none, .fld 20 (.tmp 19) 0⟩,
  ⟨none, .load1 21 (.tmp 20)⟩,
  ⟨none, .len 22 (.tmp 21)⟩,
  ⟨none, .bin 23 .sub 3 (.tmp 22) (.const (.int .i64 1))⟩,
  ⟨none, .mov 2 (.tmp 23)⟩]
def held_Held_Open_lc : LC := (.seq (.ops held_Held_Open_r0) (.seq (.seq (.ops held_Held_Open_r1) (.cond (.tmp 8) (.seq (.ops held_Held_Open_r2) .ret) .skip)) (.seq (.ops held_Held_Open_r3) (.seq (.ops held_Held_Open_r4) .ret))))
@[reducible] def held_Held_Open : FuncId := 119
theorem held_Held_Open_low : lowF Try.prog Try.f119 = some held_Held_Open_lc := by kernel_rfl
theorem held_Held_Open_in {a0 : Value} {w : World} {R : Ending → World → Prop} (h : held_Held_Open_lc.wp Try.prog (retQ Try.prog [.tmp 2] R) (argEnv [a0]) w) : Calls Try.prog held_Held_Open ⟨[a0]⟩ w R :=
  calls_of_low Try.func119 held_Held_Open_low (by kernel_rfl) (by kernel_rfl) h

/- 120 -/
def judge_State_at_r0 : List GO := [
  ⟨none, .alloc 6 65 [(.int .i64 0), (.int .i64 0), (.slice none 0 0)]⟩]
def judge_State_at_r1 : List GO := [
  ⟨none, .mov 8 (.tmp 0)⟩,
  ⟨none, .mov 9 (.tmp 1)⟩,
  ⟨none, .mov 10 (.tmp 2)⟩,
  ⟨none, .call (some 11) 117 [(.tmp 8), (.tmp 9), (.tmp 10)]⟩,
  ⟨none, .alloc 7 65 [(.int .i64 0), (.int .i64 0), (.slice none 0 0)]⟩,
  ⟨none, .storen 3 (.tmp 7) (.tmp 11)⟩]
def judge_State_at_r2 : List GO := [
  ⟨none, .mov 12 (.tmp 0)⟩,
  ⟨none, .nilc 13 (.tmp 12)⟩,
  ⟨none, .fld 14 (.tmp 13) 0⟩,
  ⟨none, .load1 15 (.tmp 14)⟩,
  ⟨none, .fld 16 (.tmp 7) 1⟩,
  ⟨none, .load1 17 (.tmp 16)⟩,
  ⟨none, .call (some 18) 38 [(.tmp 15), (.tmp 17)]⟩,
  ⟨none, .un 19 .not (.tmp 18)⟩,
  ⟨none, .call (some 20) 118 [(.tmp 19), (.const (.int .i64 10))]⟩]
def judge_State_at_e2 : List (List Nat) := [[], [0], [1], [2], [], [4], [3, 5], [6], [7, 6]]
def judge_State_at_r3 : List GO := [
  ⟨none, .loadn 21 3 (.tmp 7)⟩,
  ⟨none, .storen 3 (.tmp 6) (.tmp 21)⟩]
def judge_State_at_lc : LC := (.seq (.ops judge_State_at_r0) (.seq (.ops judge_State_at_r1) (.seq (.draw judge_State_at_r2 judge_State_at_e2) (.seq (.ops judge_State_at_r3) .ret))))
@[reducible] def judge_State_at : FuncId := 120
theorem judge_State_at_low : lowF Try.prog Try.f120 = some judge_State_at_lc := by kernel_rfl
theorem judge_State_at_in {a0 a1 a2 : Value} {w : World} {R : Ending → World → Prop} (h : judge_State_at_lc.wp Try.prog (retQ Try.prog [.cell 6 65] R) (argEnv [a0, a1, a2]) w) : Calls Try.prog judge_State_at ⟨[a0, a1, a2]⟩ w R :=
  calls_of_low Try.func120 judge_State_at_low (by kernel_rfl) (by kernel_rfl) h

/- 121 -/
def held_Held_Shut_r0 : List GO := [
  ⟨none, .mov 4 (.const (.bool false))⟩]
def held_Held_Shut_r1 : List GO := [
  ⟨none, .mov 6 (.tmp 0)⟩,
  ⟨none, .mov 7 (.tmp 1)⟩,
  ⟨none, .call (some 8) 38 [(.tmp 6), (.tmp 7)]⟩,
  ⟨none, .mov 5 (.tmp 8)⟩]
def held_Held_Shut_r2 : List GO := [
  ⟨none, .mov 9 (.tmp 5)⟩]
def held_Held_Shut_r3 : List GO := [
  ⟨none, .mov 10 (.tmp 0)⟩,
  ⟨none, .nilc 11 (.tmp 10)⟩,
  ⟨none, .fld 12 (.tmp 11) 0⟩,
  ⟨none, .load1 13 (.tmp 12)⟩,
  ⟨none, .mov 14 (.tmp 1)⟩,
  ⟨none, .idx 15 1 (.tmp 13) (.tmp 14)⟩,
  ⟨none, .store1 (.tmp 15) (.const (.bool false))⟩]
def held_Held_Shut_r4 : List GO := [
  ⟨none, .mov 16 (.tmp 5)⟩,
  ⟨none, .mov 4 (.tmp 16)⟩]
def held_Held_Shut_lc : LC := (.seq (.ops held_Held_Shut_r0) (.seq (.ops held_Held_Shut_r1) (.seq (.seq (.ops held_Held_Shut_r2) (.cond (.tmp 9) (.ops held_Held_Shut_r3) .skip)) (.seq (.ops held_Held_Shut_r4) .ret))))
@[reducible] def held_Held_Shut : FuncId := 121
theorem held_Held_Shut_low : lowF Try.prog Try.f121 = some held_Held_Shut_lc := by kernel_rfl
theorem held_Held_Shut_in {a0 a1 : Value} {w : World} {R : Ending → World → Prop} (h : held_Held_Shut_lc.wp Try.prog (retQ Try.prog [.tmp 4] R) (argEnv [a0, a1]) w) : Calls Try.prog held_Held_Shut ⟨[a0, a1]⟩ w R :=
  calls_of_low Try.func121 held_Held_Shut_low (by kernel_rfl) (by kernel_rfl) h

/- 122 -/
def judge_State_tuple_r0 : List GO := [
  ⟨none, .box 3 27 (.tmp 1)⟩]
def judge_State_tuple_r1 : List GO := [
  ⟨none, .mov 7 (.tmp 0)⟩,
  ⟨none, .fld 8 (.tmp 3) 1⟩,
  ⟨none, .load1 9 (.tmp 8)⟩,
  ⟨none, .call (some 10) 120 [(.tmp 7), (.tmp 9), (.const (.int .i64 2))]⟩,
  ⟨none, .fldv 11 (.tmp 10) 1⟩,
  ⟨none, .build 12 [(.int .i64 0), (.int .i64 0), (.slice none 0 0)] [(0, (1, (.const (.int .i64 3)))), (1, (1, (.tmp 11)))]⟩,
  ⟨none, .alloc 4 65 [(.int .i64 0), (.int .i64 0), (.slice none 0 0)]⟩,
  ⟨none, .storen 3 (.tmp 4) (.tmp 12)⟩]
def judge_State_tuple_r2 : List GO := [
  ⟨none, .fld 13 (.tmp 3) 7⟩,
  ⟨none, .load1 14 (.tmp 13)⟩,
  ⟨none, .len 15 (.tmp 14)⟩,
  ⟨none, .mov 16 (.const (.int .i64 0))⟩]
def judge_State_tuple_r3 : List GO := [
  ⟨none, .bin 17 .lss 3 (.tmp 16) (.tmp 15)⟩]
def judge_State_tuple_r4 : List GO := [
  ⟨none, .idx 18 1 (.tmp 14) (.tmp 16)⟩,
  ⟨none, .load1 19 (.tmp 18)⟩,
  ⟨none, .mov 6 (.tmp 19)⟩]
def judge_State_tuple_r5 : List GO := [
  ⟨none, .fld 20 (.tmp 4) 2⟩,
  ⟨none, .load1 21 (.tmp 20)⟩,
  ⟨none, .mov 22 (.tmp 0)⟩,
  ⟨none, .mov 23 (.tmp 6)⟩,
  ⟨none, .call (some 24) 124 [(.tmp 22), (.tmp 23)]⟩,
  ⟨none, .buildS 25 65 1 [(.int .i64 0), (.int .i64 0), (.slice none 0 0)] [(0, (3, (.tmp 24)))]⟩,
  ⟨none, .raw ⟨(some 26), (.call ⟨(.builtin .append), #[(.tmp 21), (.tmp 25)], #[28, 28]⟩), 28, "", #[], none⟩⟩,
  ⟨none, .fld 27 (.tmp 4) 2⟩,
  ⟨none, .store1 (.tmp 27) (.tmp 26)⟩]
def judge_State_tuple_e5 : List (List Nat) := [[], [0], [], [], [2, 3], [4], [1, 5, 4], [0, 1, 2, 3, 4, 5, 6], [7, 6, 6, 0, 1, 2, 3, 4, 5, 6]]
def judge_State_tuple_r6 : List GO := [
  ⟨none, .bin 28 .add 3 (.tmp 16) (.const (.int .i64 1))⟩,
  ⟨none, .mov 16 (.tmp 28)⟩]
def judge_State_tuple_b3 : LC := (.seq (.ops judge_State_tuple_r3) (.seq (.cond (.tmp 17) .skip (.exit 0)) (.seq (.block 1 (.seq (.ops judge_State_tuple_r4) (.draw judge_State_tuple_r5 judge_State_tuple_e5))) (.ops judge_State_tuple_r6))))
def judge_State_tuple_r7 : List GO := [
  ⟨none, .loadn 29 3 (.tmp 4)⟩,
  ⟨none, .mov 30 (.tmp 0)⟩,
  ⟨none, .nilc 31 (.tmp 30)⟩,
  ⟨none, .fld 32 (.tmp 31) 0⟩,
  ⟨none, .load1 33 (.tmp 32)⟩,
  ⟨none, .call (some 34) 40 [(.tmp 33)]⟩,
  ⟨none, .call (some 35) 94 [(.tmp 29), (.tmp 34)]⟩,
  ⟨none, .bin 36 .neq 3 (.tmp 35) (.const (.int .i64 0))⟩,
  ⟨none, .call (some 37) 118 [(.tmp 36), (.const (.int .i64 19))]⟩]
def judge_State_tuple_e7 : List (List Nat) := [[], [], [1], [2], [3], [4], [0, 5, 5], [6], [7, 6]]
def judge_State_tuple_r8 : List GO := [
  ⟨none, .mov 38 (.tmp 0)⟩,
  ⟨none, .loadn 39 3 (.tmp 4)⟩,
  ⟨none, .call (some 40) 116 [(.tmp 38), (.tmp 39)]⟩]
def judge_State_tuple_lc : LC := (.seq (.ops judge_State_tuple_r0) (.seq (.ops judge_State_tuple_r1) (.seq (.seq (.ops judge_State_tuple_r2) (.block 0 (.loop judge_State_tuple_b3))) (.seq (.draw judge_State_tuple_r7 judge_State_tuple_e7) (.ops judge_State_tuple_r8)))))
@[reducible] def judge_State_tuple : FuncId := 122
theorem judge_State_tuple_low : lowF Try.prog Try.f122 = some judge_State_tuple_lc := by kernel_rfl
theorem judge_State_tuple_in {a0 a1 : Value} {w : World} {R : Ending → World → Prop} (h : judge_State_tuple_lc.wp Try.prog (retQ Try.prog [] R) (argEnv [a0, a1]) w) : Calls Try.prog judge_State_tuple ⟨[a0, a1]⟩ w R :=
  calls_of_low Try.func122 judge_State_tuple_low (by kernel_rfl) (by kernel_rfl) h

/- 123 -/
def judge_State_field_r0 : List GO := [
  ⟨none, .box 4 65 (.tmp 1)⟩,
  ⟨none, .alloc 6 65 [(.int .i64 0), (.int .i64 0), (.slice none 0 0)]⟩]
def judge_State_field_r1 : List GO := [
  ⟨none, .mov 7 (.tmp 2)⟩,
  ⟨none, .fld 8 (.tmp 4) 2⟩,
  ⟨none, .load1 9 (.tmp 8)⟩,
  ⟨none, .len 10 (.tmp 9)⟩,
  ⟨none, .bin 11 .geq 3 (.tmp 7) (.tmp 10)⟩,
  ⟨none, .call (some 12) 118 [(.tmp 11), (.const (.int .i64 9))]⟩]
def judge_State_field_r2 : List GO := [
  ⟨none, .fld 13 (.tmp 4) 2⟩,
  ⟨none, .load1 14 (.tmp 13)⟩,
  ⟨none, .mov 15 (.tmp 2)⟩,
  ⟨none, .idx 16 3 (.tmp 14) (.tmp 15)⟩,
  ⟨none, .loadn 17 3 (.tmp 16)⟩,
  ⟨none, .storen 3 (.tmp 6) (.tmp 17)⟩]
def judge_State_field_lc : LC := (.seq (.ops judge_State_field_r0) (.seq (.ops judge_State_field_r1) (.seq (.ops judge_State_field_r2) .ret)))
@[reducible] def judge_State_field : FuncId := 123
theorem judge_State_field_low : lowF Try.prog Try.f123 = some judge_State_field_lc := by kernel_rfl
theorem judge_State_field_in {a0 a1 a2 : Value} {w : World} {R : Ending → World → Prop} (h : judge_State_field_lc.wp Try.prog (retQ Try.prog [.cell 6 65] R) (argEnv [a0, a1, a2]) w) : Calls Try.prog judge_State_field ⟨[a0, a1, a2]⟩ w R :=
  calls_of_low Try.func123 judge_State_field_low (by kernel_rfl) (by kernel_rfl) h

/- 124 -/
def judge_State_value_r0 : List GO := [
  ⟨none, .alloc 4 65 [(.int .i64 0), (.int .i64 0), (.slice none 0 0)]⟩]
def judge_State_value_r1 : List GO := [
  ⟨none, .mov 5 (.tmp 1)⟩,
  ⟨none, .bin 6 .lss 3 (.tmp 5) (.const (.int .i64 0))⟩,
  ⟨none, .mov 7 (.tmp 6)⟩,
  ⟨some (7, false), .mov 8 (.tmp 1)⟩,
  ⟨some (7, false), .mov 9 (.tmp 0)⟩,
  ⟨some (7, false), .nilc 10 (.tmp 9)⟩,
  ⟨some (7, false), .fld 11 (.tmp 10) 6⟩,
  ⟨some (7, false), .load1 12 (.tmp 11)⟩,
  ⟨some (7, false), .len 13 (.tmp 12)⟩,
  ⟨some (7, false), .bin 14 .geq 3 (.tmp 8) (.tmp 13)⟩,
  ⟨none, .pick 15 (.tmp 7) (.const (.bool true)) (.tmp 14)⟩,
  ⟨none, .call (some 16) 118 [(.tmp 15), (.const (.int .i64 1))]⟩]
def judge_State_value_r2 : List GO := [
  ⟨none, .mov 17 (.tmp 0)⟩,
  ⟨none, .nilc 18 (.tmp 17)⟩,
  ⟨none, .fld 19 (.tmp 18) 6⟩,
  ⟨none, .load1 20 (.tmp 19)⟩,
  ⟨none, .mov 21 (.tmp 1)⟩,
  ⟨none, .idx 22 3 (.tmp 20) (.tmp 21)⟩,
  ⟨none, .loadn 23 3 (.tmp 22)⟩,
  ⟨none, .storen 3 (.tmp 4) (.tmp 23)⟩]
def judge_State_value_lc : LC := (.seq (.ops judge_State_value_r0) (.seq (.ops judge_State_value_r1) (.seq (.ops judge_State_value_r2) .ret)))
@[reducible] def judge_State_value : FuncId := 124
theorem judge_State_value_low : lowF Try.prog Try.f124 = some judge_State_value_lc := by kernel_rfl
theorem judge_State_value_in {a0 a1 : Value} {w : World} {R : Ending → World → Prop} (h : judge_State_value_lc.wp Try.prog (retQ Try.prog [.cell 4 65] R) (argEnv [a0, a1]) w) : Calls Try.prog judge_State_value ⟨[a0, a1]⟩ w R :=
  calls_of_low Try.func124 judge_State_value_low (by kernel_rfl) (by kernel_rfl) h

/- 125 -/
def judge_State_call_r0 : List GO := [
  ⟨none, .box 3 27 (.tmp 1)⟩]
def judge_State_call_r1 : List GO := [
  ⟨none, .mov 11 (.tmp 0)⟩,
  ⟨none, .nilc 12 (.tmp 11)⟩,
  ⟨none, .fld 13 (.tmp 12) 1⟩,
  ⟨none, .fld 14 (.tmp 13) 0⟩,
  ⟨none, .load1 15 (.tmp 14)⟩,
  ⟨none, .fld 16 (.tmp 3) 4⟩,
  ⟨none, .load1 17 (.tmp 16)⟩,
  ⟨none, .idx 18 4 (.tmp 15) (.tmp 17)⟩,
  ⟨none, .loadn 19 4 (.tmp 18)⟩,
  ⟨none, .alloc 4 31 [(.int .i64 0), (.slice none 0 0), (.slice none 0 0), (.slice none 0 0)]⟩,
  ⟨none, .storen 4 (.tmp 4) (.tmp 19)⟩]
def judge_State_call_e1 : List (List Nat) := [[], [0], [1], [2], [3], [], [5], [4, 6], [7], [], [9, 8, 0, 1, 2, 3, 4, 5, 6, 7, 8, 9]]
def judge_State_call_r2 : List GO := [
  ⟨none, .fld 20 (.tmp 3) 6⟩,
  ⟨none, .load1 21 (.tmp 20)⟩,
  ⟨none, .len 22 (.tmp 21)⟩,
  ⟨none, .fld 23 (.tmp 4) 0⟩,
  ⟨none, .load1 24 (.tmp 23)⟩,
  ⟨none, .bin 25 .neq 3 (.tmp 22) (.tmp 24)⟩,
  ⟨none, .call (some 26) 118 [(.tmp 25), (.const (.int .i64 2))]⟩]
def judge_State_call_r3 : List GO := [
  ⟨none, .fld 27 (.tmp 3) 6⟩,
  ⟨none, .load1 28 (.tmp 27)⟩,
  ⟨none, .len 29 (.tmp 28)⟩,
  ⟨none, .mov 30 (.const (.int .i64 0))⟩]
def judge_State_call_r4 : List GO := [
  ⟨none, .bin 31 .lss 3 (.tmp 30) (.tmp 29)⟩]
def judge_State_call_r5 : List GO := [
  ⟨none, .mov 32 (.tmp 30)⟩,
  ⟨none, .idx 33 1 (.tmp 28) (.tmp 30)⟩,
  ⟨none, .load1 34 (.tmp 33)⟩,
  ⟨none, .mov 5 (.tmp 32)⟩,
  ⟨none, .mov 6 (.tmp 34)⟩]
def judge_State_call_r6 : List GO := [
  ⟨none, .mov 35 (.tmp 0)⟩,
  ⟨none, .nilc 36 (.tmp 35)⟩,
  ⟨none, .fld 37 (.tmp 36) 0⟩,
  ⟨none, .load1 38 (.tmp 37)⟩,
  ⟨none, .mov 39 (.tmp 6)⟩,
  ⟨none, .call (some 40) 38 [(.tmp 38), (.tmp 39)]⟩,
  ⟨none, .un 41 .not (.tmp 40)⟩,
  ⟨none, .call (some 42) 118 [(.tmp 41), (.const (.int .i64 10))]⟩]
def judge_State_call_r7 : List GO := [
  ⟨none, .fld 43 (.tmp 3) 6⟩,
  ⟨none, .load1 44 (.tmp 43)⟩,
  ⟨none, .mov 45 (.tmp 5)⟩,
  ⟨none, .sub 46 1 (.tmp 44) none (some (.tmp 45)) none⟩,
  ⟨none, .mov 47 (.tmp 6)⟩,
  ⟨none, .call (some 48) 139 [(.tmp 46), (.tmp 47)]⟩,
  ⟨none, .call (some 49) 118 [(.tmp 48), (.const (.int .i64 13))]⟩]
def judge_State_call_r8 : List GO := [
  ⟨none, .bin 50 .add 3 (.tmp 30) (.const (.int .i64 1))⟩,
  ⟨none, .mov 30 (.tmp 50)⟩]
def judge_State_call_b4 : LC := (.seq (.ops judge_State_call_r4) (.seq (.cond (.tmp 31) .skip (.exit 0)) (.seq (.block 1 (.seq (.ops judge_State_call_r5) (.seq (.ops judge_State_call_r6) (.ops judge_State_call_r7)))) (.ops judge_State_call_r8))))
def judge_State_call_r9 : List GO := [
  ⟨none, .mov 51 (.tmp 0)⟩,
  ⟨none, .fld 52 (.tmp 3) 7⟩,
  ⟨none, .load1 53 (.tmp 52)⟩,
  ⟨none, .fld 54 (.tmp 4) 1⟩,
  ⟨none, .load1 55 (.tmp 54)⟩,
  ⟨none, .fld 56 (.tmp 3) 6⟩,
  ⟨none, .load1 57 (.tmp 56)⟩,
  ⟨none, .call (some 58) 138 [(.tmp 51), (.tmp 53), (.tmp 55), (.tmp 57)]⟩]
def judge_State_call_r10 : List GO := [
  ⟨none, .mov 59 (.tmp 0)⟩,
  ⟨none, .nilc 60 (.tmp 59)⟩,
  ⟨none, .fld 61 (.tmp 60) 6⟩,
  ⟨none, .load1 62 (.tmp 61)⟩,
  ⟨none, .len 63 (.tmp 62)⟩,
  ⟨none, .fld 64 (.tmp 4) 2⟩,
  ⟨none, .load1 65 (.tmp 64)⟩,
  ⟨none, .len 66 (.tmp 65)⟩,
  ⟨none, .bin 67 .add 3 (.tmp 63) (.tmp 66)⟩,
  ⟨none, .bin 68 .gtr 3 (.tmp 67) (.const (.int .i64 80))⟩,
  ⟨none, .call (some 69) 118 [(.tmp 68), (.const (.int .i64 2))]⟩]
def judge_State_call_e10 : List (List Nat) := [[], [0], [1], [2], [3], [], [5], [6], [4, 7], [8], [9]]
def judge_State_call_r11 : List GO := [
  ⟨none, .fld 70 (.tmp 4) 2⟩,
  ⟨none, .load1 71 (.tmp 70)⟩,
  ⟨none, .len 72 (.tmp 71)⟩,
  ⟨none, .mov 73 (.const (.int .i64 0))⟩]
def judge_State_call_r12 : List GO := [
  ⟨none, .bin 74 .lss 3 (.tmp 73) (.tmp 72)⟩]
def judge_State_call_r13 : List GO := [
  ⟨none, .idx 75 3 (.tmp 71) (.tmp 73)⟩,
  ⟨none, .loadn 76 3 (.tmp 75)⟩,
  ⟨none, .alloc 8 65 [(.int .i64 0), (.int .i64 0), (.slice none 0 0)]⟩,
  ⟨none, .storen 3 (.tmp 8) (.tmp 76)⟩]
def judge_State_call_r14 : List GO := [
  ⟨none, .loadn 78 3 (.tmp 8)⟩,
  ⟨none, .fld 79 (.tmp 3) 6⟩,
  ⟨none, .load1 80 (.tmp 79)⟩,
  ⟨none, .call (some 81) 140 [(.tmp 78), (.tmp 80)]⟩,
  ⟨none, .mov 77 (.tmp 81)⟩,
  ⟨none, .ext 82 (.tmp 77) 0⟩,
  ⟨none, .ext 83 (.tmp 77) 1⟩,
  ⟨none, .alloc 9 65 [(.int .i64 0), (.int .i64 0), (.slice none 0 0)]⟩,
  ⟨none, .storen 3 (.tmp 9) (.tmp 82)⟩,
  ⟨none, .mov 10 (.tmp 83)⟩]
def judge_State_call_r15 : List GO := [
  ⟨none, .mov 84 (.tmp 0)⟩,
  ⟨none, .loadn 85 3 (.tmp 9)⟩,
  ⟨none, .call (some 86) 116 [(.tmp 84), (.tmp 85)]⟩]
def judge_State_call_r16 : List GO := [
  ⟨none, .bin 87 .add 3 (.tmp 73) (.const (.int .i64 1))⟩,
  ⟨none, .mov 73 (.tmp 87)⟩]
def judge_State_call_b12 : LC := (.seq (.ops judge_State_call_r12) (.seq (.cond (.tmp 74) .skip (.exit 2)) (.seq (.block 3 (.seq (.ops judge_State_call_r13) (.seq (.ops judge_State_call_r14) (.ops judge_State_call_r15)))) (.ops judge_State_call_r16))))
def judge_State_call_lc : LC := (.seq (.ops judge_State_call_r0) (.seq (.draw judge_State_call_r1 judge_State_call_e1) (.seq (.ops judge_State_call_r2) (.seq (.seq (.ops judge_State_call_r3) (.block 0 (.loop judge_State_call_b4))) (.seq (.ops judge_State_call_r9) (.seq (.draw judge_State_call_r10 judge_State_call_e10) (.seq (.ops judge_State_call_r11) (.block 2 (.loop judge_State_call_b12)))))))))
@[reducible] def judge_State_call : FuncId := 125
theorem judge_State_call_low : lowF Try.prog Try.f125 = some judge_State_call_lc := by kernel_rfl
theorem judge_State_call_in {a0 a1 : Value} {w : World} {R : Ending → World → Prop} (h : judge_State_call_lc.wp Try.prog (retQ Try.prog [] R) (argEnv [a0, a1]) w) : Calls Try.prog judge_State_call ⟨[a0, a1]⟩ w R :=
  calls_of_low Try.func125 judge_State_call_low (by kernel_rfl) (by kernel_rfl) h

/- 137 -/
def judge_State_to_r0 : List GO := [
  ⟨none, .box 3 33 (.tmp 1)⟩]
def judge_State_to_r1 : List GO := [
  ⟨none, .mov 7 (.tmp 0)⟩,
  ⟨none, .nilc 8 (.tmp 7)⟩,
  ⟨none, .fld 9 (.tmp 8) 2⟩,
  ⟨none, .fld 10 (.tmp 9) 3⟩,
  ⟨none, .load1 11 (.tmp 10)⟩,
  ⟨none, .fld 12 (.tmp 3) 0⟩,
  ⟨none, .load1 13 (.tmp 12)⟩,
  ⟨none, .idx 14 12 (.tmp 11) (.tmp 13)⟩,
  ⟨none, .loadn 15 12 (.tmp 14)⟩,
  ⟨none, .alloc 4 77 [(.int .i64 0), (.slice none 0 0), (.slice none 0 0), (.int .i64 0), (.int .i64 0), (.int .i64 0), (.slice none 0 0), (.slice none 0 0), (.int .i64 0), (.slice none 0 0), (.slice none 0 0), (.slice none 0 0)]⟩,
  ⟨none, .storen 12 (.tmp 4) (.tmp 15)⟩]
def judge_State_to_e1 : List (List Nat) := [[], [0], [1], [2], [3], [], [5], [4, 6], [7], [], [9, 8, 0, 1, 2, 3, 4, 5, 6, 7, 8, 9]]
def judge_State_to_r2 : List GO := [
  ⟨none, .fld 16 (.tmp 3) 1⟩,
  ⟨none, .load1 17 (.tmp 16)⟩,
  ⟨none, .len 18 (.tmp 17)⟩,
  ⟨none, .fld 19 (.tmp 4) 0⟩,
  ⟨none, .load1 20 (.tmp 19)⟩,
  ⟨none, .bin 21 .neq 3 (.tmp 18) (.tmp 20)⟩,
  ⟨none, .call (some 22) 118 [(.tmp 21), (.const (.int .i64 2))]⟩]
def judge_State_to_r3 : List GO := [
  ⟨none, .mov 23 (.tmp 0)⟩,
  ⟨none, .nilc 24 (.tmp 23)⟩,
  ⟨none, .fld 25 (.tmp 24) 2⟩,
  ⟨none, .fld 26 (.tmp 25) 0⟩,
  ⟨none, .load1 27 (.tmp 26)⟩,
  ⟨none, .mov 28 (.const (.int .i64 0))⟩]
def judge_State_to_r4 : List GO := [
  ⟨none, .bin 29 .lss 3 (.tmp 28) (.tmp 27)⟩]
def judge_State_to_r5 : List GO := [
  ⟨none, .mov 30 (.tmp 28)⟩,
  ⟨none, .mov 5 (.tmp 30)⟩]
def judge_State_to_r6 : List GO := [
  ⟨none, .fld 31 (.tmp 3) 1⟩,
  ⟨none, .load1 32 (.tmp 31)⟩,
  ⟨none, .mov 33 (.tmp 5)⟩,
  ⟨none, .idx 34 1 (.tmp 32) (.tmp 33)⟩,
  ⟨none, .load1 35 (.tmp 34)⟩,
  ⟨none, .mov 36 (.tmp 5)⟩,
  ⟨none, .bin 37 .neq 3 (.tmp 35) (.tmp 36)⟩,
  ⟨none, .call (some 38) 118 [(.tmp 37), (.const (.int .i64 11))]⟩]
def judge_State_to_r7 : List GO := [
  ⟨none, .bin 39 .add 3 (.tmp 28) (.const (.int .i64 1))⟩,
  ⟨none, .mov 28 (.tmp 39)⟩]
def judge_State_to_b4 : LC := (.seq (.ops judge_State_to_r4) (.seq (.cond (.tmp 29) .skip (.exit 0)) (.seq (.block 1 (.seq (.ops judge_State_to_r5) (.ops judge_State_to_r6))) (.ops judge_State_to_r7))))
def judge_State_to_r8 : List GO := [
  ⟨none, .mov 40 (.tmp 0)⟩,
  ⟨none, .nilc 41 (.tmp 40)⟩,
  ⟨none, .fld 42 (.tmp 41) 0⟩,
  ⟨none, .load1 43 (.tmp 42)⟩,
  ⟨none, .fld 44 (.tmp 3) 1⟩,
  ⟨none, .load1 45 (.tmp 44)⟩,
  ⟨none, .call (some 46) 144 [(.tmp 43), (.tmp 45)]⟩,
  ⟨none, .mov 6 (.tmp 46)⟩]
def judge_State_to_e8 : List (List Nat) := [[], [0], [1], [2], [], [4], [3, 5], [6, 6, 0, 1, 2, 3, 4, 5, 6]]
def judge_State_to_r9 : List GO := [
  ⟨none, .mov 47 (.tmp 6)⟩,
  ⟨none, .bin 48 .neq 3 (.tmp 47) (.const (.int .i64 0))⟩,
  ⟨none, .mov 49 (.tmp 6)⟩,
  ⟨none, .call (some 50) 118 [(.tmp 48), (.tmp 49)]⟩]
def judge_State_to_r10 : List GO := [
  ⟨none, .mov 51 (.tmp 0)⟩,
  ⟨none, .fld 52 (.tmp 3) 2⟩,
  ⟨none, .load1 53 (.tmp 52)⟩,
  ⟨none, .fld 54 (.tmp 4) 1⟩,
  ⟨none, .load1 55 (.tmp 54)⟩,
  ⟨none, .fld 56 (.tmp 3) 1⟩,
  ⟨none, .load1 57 (.tmp 56)⟩,
  ⟨none, .call (some 58) 138 [(.tmp 51), (.tmp 53), (.tmp 55), (.tmp 57)]⟩]
def judge_State_to_lc : LC := (.seq (.ops judge_State_to_r0) (.seq (.draw judge_State_to_r1 judge_State_to_e1) (.seq (.ops judge_State_to_r2) (.seq (.seq (.ops judge_State_to_r3) (.block 0 (.loop judge_State_to_b4))) (.seq (.draw judge_State_to_r8 judge_State_to_e8) (.seq (.ops judge_State_to_r9) (.ops judge_State_to_r10)))))))
@[reducible] def judge_State_to : FuncId := 137
theorem judge_State_to_low : lowF Try.prog Try.f137 = some judge_State_to_lc := by kernel_rfl
theorem judge_State_to_in {a0 a1 : Value} {w : World} {R : Ending → World → Prop} (h : judge_State_to_lc.wp Try.prog (retQ Try.prog [] R) (argEnv [a0, a1]) w) : Calls Try.prog judge_State_to ⟨[a0, a1]⟩ w R :=
  calls_of_low Try.func137 judge_State_to_low (by kernel_rfl) (by kernel_rfl) h

/- 138 -/
def judge_State_args_r0 : List GO := [
  ⟨none, .mov 13 (.tmp 1)⟩,
  ⟨none, .len 14 (.tmp 13)⟩,
  ⟨none, .mov 15 (.tmp 2)⟩,
  ⟨none, .len 16 (.tmp 15)⟩,
  ⟨none, .bin 17 .neq 3 (.tmp 14) (.tmp 16)⟩,
  ⟨none, .call (some 18) 118 [(.tmp 17), (.const (.int .i64 2))]⟩]
def judge_State_args_r1 : List GO := [
  ⟨none, .mov 19 (.tmp 1)⟩,
  ⟨none, .len 20 (.tmp 19)⟩,
  ⟨none, .mov 21 (.const (.int .i64 0))⟩]
def judge_State_args_r2 : List GO := [
  ⟨none, .bin 22 .lss 3 (.tmp 21) (.tmp 20)⟩]
def judge_State_args_r3 : List GO := [
  ⟨none, .mov 23 (.tmp 21)⟩,
  ⟨none, .idx 24 1 (.tmp 19) (.tmp 21)⟩,
  ⟨none, .load1 25 (.tmp 24)⟩,
  ⟨none, .mov 8 (.tmp 23)⟩,
  ⟨none, .mov 9 (.tmp 25)⟩]
def judge_State_args_r4 : List GO := [
  ⟨none, .mov 26 (.tmp 0)⟩,
  ⟨none, .mov 27 (.tmp 9)⟩,
  ⟨none, .call (some 28) 124 [(.tmp 26), (.tmp 27)]⟩,
  ⟨none, .alloc 10 65 [(.int .i64 0), (.int .i64 0), (.slice none 0 0)]⟩,
  ⟨none, .storen 3 (.tmp 10) (.tmp 28)⟩]
def judge_State_args_r5 : List GO := [
  ⟨none, .mov 30 (.tmp 2)⟩,
  ⟨none, .mov 31 (.tmp 8)⟩,
  ⟨none, .idx 32 3 (.tmp 30) (.tmp 31)⟩,
  ⟨none, .loadn 33 3 (.tmp 32)⟩,
  ⟨none, .mov 34 (.tmp 3)⟩,
  ⟨none, .call (some 35) 140 [(.tmp 33), (.tmp 34)]⟩,
  ⟨none, .mov 29 (.tmp 35)⟩,
  ⟨none, .ext 36 (.tmp 29) 0⟩,
  ⟨none, .ext 37 (.tmp 29) 1⟩,
  ⟨none, .alloc 11 65 [(.int .i64 0), (.int .i64 0), (.slice none 0 0)]⟩,
  ⟨none, .storen 3 (.tmp 11) (.tmp 36)⟩,
  ⟨none, .mov 12 (.tmp 37)⟩]
def judge_State_args_r6 : List GO := [
  ⟨none, .mov 38 (.tmp 12)⟩,
  ⟨none, .un 39 .not (.tmp 38)⟩,
  ⟨none, .mov 40 (.tmp 39)⟩,
  ⟨some (40, false), .loadn 41 3 (.tmp 10)⟩,
  ⟨some (40, false), .loadn 42 3 (.tmp 11)⟩,
  ⟨some (40, false), .call (some 43) 69 [(.tmp 41), (.tmp 42)]⟩,
  ⟨some (40, false), .un 44 .not (.tmp 43)⟩,
  ⟨none, .pick 45 (.tmp 40) (.const (.bool true)) (.tmp 44)⟩,
  ⟨none, .call (some 46) 118 [(.tmp 45), (.const (.int .i64 9))]⟩]
def judge_State_args_r7 : List GO := [
  ⟨none, .bin 47 .add 3 (.tmp 21) (.const (.int .i64 1))⟩,
  ⟨none, .mov 21 (.tmp 47)⟩]
def judge_State_args_b2 : LC := (.seq (.ops judge_State_args_r2) (.seq (.cond (.tmp 22) .skip (.exit 0)) (.seq (.block 1 (.seq (.ops judge_State_args_r3) (.seq (.ops judge_State_args_r4) (.seq (.ops judge_State_args_r5) (.ops judge_State_args_r6))))) (.ops judge_State_args_r7))))
def judge_State_args_lc : LC := (.seq (.ops judge_State_args_r0) (.seq (.ops judge_State_args_r1) (.block 0 (.loop judge_State_args_b2))))
@[reducible] def judge_State_args : FuncId := 138
theorem judge_State_args_low : lowF Try.prog Try.f138 = some judge_State_args_lc := by kernel_rfl
theorem judge_State_args_in {a0 a1 a2 a3 : Value} {w : World} {R : Ending → World → Prop} (h : judge_State_args_lc.wp Try.prog (retQ Try.prog [] R) (argEnv [a0, a1, a2, a3]) w) : Calls Try.prog judge_State_args ⟨[a0, a1, a2, a3]⟩ w R :=
  calls_of_low Try.func138 judge_State_args_low (by kernel_rfl) (by kernel_rfl) h

/- 140 -/
def types_Rename_r0 : List GO := [
  ⟨none, .box 2 65 (.tmp 0)⟩,
  ⟨none, .alloc 4 65 [(.int .i64 0), (.int .i64 0), (.slice none 0 0)]⟩,
  ⟨none, .mov 5 (.const (.bool false))⟩]
def types_Rename_r1 : List GO := [
  ⟨none, .fld 11 (.tmp 2) 0⟩,
  ⟨none, .load1 12 (.tmp 11)⟩,
  ⟨none, .fld 13 (.tmp 2) 1⟩,
  ⟨none, .load1 14 (.tmp 13)⟩,
  ⟨none, .build 15 [(.int .i64 0), (.int .i64 0), (.slice none 0 0)] [(0, (1, (.tmp 12))), (1, (1, (.tmp 14)))]⟩,
  ⟨none, .alloc 6 65 [(.int .i64 0), (.int .i64 0), (.slice none 0 0)]⟩,
  ⟨none, .storen 3 (.tmp 6) (.tmp 15)⟩]
def types_Rename_r2 : List GO := [
  ⟨none, .fld 16 (.tmp 2) 0⟩,
  ⟨none, .load1 17 (.tmp 16)⟩,
  ⟨none, .bin 18 .neq 3 (.tmp 17) (.const (.int .i64 1))⟩]
def types_Rename_r3 : List GO := [
  ⟨none, .fld 19 (.tmp 2) 1⟩,
  ⟨none, .load1 20 (.tmp 19)⟩,
  ⟨none, .bin 21 .lss 3 (.tmp 20) (.const (.int .i64 0))⟩,
  ⟨none, .mov 22 (.tmp 21)⟩,
  ⟨some (22, false), .fld 23 (.tmp 2) 1⟩,
  ⟨some (22, false), .load1 24 (.tmp 23)⟩,
  ⟨some (22, false), .mov 25 (.tmp 1)⟩,
  ⟨some (22, false), .len 26 (.tmp 25)⟩,
  ⟨some (22, false), .bin 27 .geq 3 (.tmp 24) (.tmp 26)⟩,
  ⟨none, .pick 28 (.tmp 22) (.const (.bool true)) (.tmp 27)⟩,
  ⟨none, .mov 29 (.tmp 28)⟩,
  ⟨some (29, false), .mov 30 (.tmp 1)⟩,
  ⟨some (29, false), .fld 31 (.tmp 2) 1⟩,
  ⟨some (29, false), .load1 32 (.tmp 31)⟩,
  ⟨some (29, false), .idx 33 1 (.tmp 30) (.tmp 32)⟩,
  ⟨some (29, false), .load1 34 (.tmp 33)⟩,
  ⟨some (29, false), .bin 35 .lss 3 (.tmp 34) (.const (.int .i64 0))⟩,
  ⟨none, .pick 36 (.tmp 29) (.const (.bool true)) (.tmp 35)⟩]
def types_Rename_r4 : List GO := [
  ⟨none, .build 37 [(.int .i64 0), (.int .i64 0), (.slice none 0 0)] []⟩,
  ⟨none, .storen 3 (.tmp 4) (.tmp 37)⟩,
  ⟨none, .mov 5 (.const (.bool false))⟩]
def types_Rename_r5 : List GO := [
  ⟨none, .mov 38 (.tmp 1)⟩,
  ⟨none, .fld 39 (.tmp 2) 1⟩,
  ⟨none, .load1 40 (.tmp 39)⟩,
  ⟨none, .idx 41 1 (.tmp 38) (.tmp 40)⟩,
  ⟨none, .load1 42 (.tmp 41)⟩,
  ⟨none, .fld 43 (.tmp 6) 1⟩,
  ⟨none, .store1 (.tmp 43) (.tmp 42)⟩]
def types_Rename_r6 : List GO := [
  ⟨none, .fld 44 (.tmp 2) 2⟩,
  ⟨none, .load1 45 (.tmp 44)⟩,
  ⟨none, .len 46 (.tmp 45)⟩,
  ⟨none, .mov 47 (.const (.int .i64 0))⟩]
def types_Rename_r7 : List GO := [
  ⟨none, .bin 48 .lss 3 (.tmp 47) (.tmp 46)⟩]
def types_Rename_r8 : List GO := [
  ⟨none, .idx 49 3 (.tmp 45) (.tmp 47)⟩,
  ⟨none, .loadn 50 3 (.tmp 49)⟩,
  ⟨none, .alloc 8 65 [(.int .i64 0), (.int .i64 0), (.slice none 0 0)]⟩,
  ⟨none, .storen 3 (.tmp 8) (.tmp 50)⟩]
def types_Rename_r9 : List GO := [
  ⟨none, .loadn 52 3 (.tmp 8)⟩,
  ⟨none, .mov 53 (.tmp 1)⟩,
  ⟨none, .call (some 54) 140 [(.tmp 52), (.tmp 53)]⟩,
  ⟨none, .mov 51 (.tmp 54)⟩,
  ⟨none, .ext 55 (.tmp 51) 0⟩,
  ⟨none, .ext 56 (.tmp 51) 1⟩,
  ⟨none, .alloc 9 65 [(.int .i64 0), (.int .i64 0), (.slice none 0 0)]⟩,
  ⟨none, .storen 3 (.tmp 9) (.tmp 55)⟩,
  ⟨none, .mov 10 (.tmp 56)⟩]
def types_Rename_r10 : List GO := [
  ⟨none, .mov 57 (.tmp 10)⟩,
  ⟨none, .un 58 .not (.tmp 57)⟩]
def types_Rename_r11 : List GO := [
  ⟨none, .build 59 [(.int .i64 0), (.int .i64 0), (.slice none 0 0)] []⟩,
  ⟨none, .storen 3 (.tmp 4) (.tmp 59)⟩,
  ⟨none, .mov 5 (.const (.bool false))⟩]
def types_Rename_r12 : List GO := [
  ⟨none, .fld 60 (.tmp 6) 2⟩,
  ⟨none, .load1 61 (.tmp 60)⟩,
  ⟨none, .loadn 62 3 (.tmp 9)⟩,
  ⟨none, .buildS 63 65 1 [(.int .i64 0), (.int .i64 0), (.slice none 0 0)] [(0, (3, (.tmp 62)))]⟩,
  ⟨none, .raw ⟨(some 64), (.call ⟨(.builtin .append), #[(.tmp 61), (.tmp 63)], #[28, 28]⟩), 28, "", #[], none⟩⟩,
  ⟨none, .fld 65 (.tmp 6) 2⟩,
  ⟨none, .store1 (.tmp 65) (.tmp 64)⟩]
def types_Rename_r13 : List GO := [
  ⟨none, .bin 66 .add 3 (.tmp 47) (.const (.int .i64 1))⟩,
  ⟨none, .mov 47 (.tmp 66)⟩]
def types_Rename_b7 : LC := (.seq (.ops types_Rename_r7) (.seq (.cond (.tmp 48) .skip (.exit 0)) (.seq (.block 1 (.seq (.ops types_Rename_r8) (.seq (.ops types_Rename_r9) (.seq (.seq (.ops types_Rename_r10) (.cond (.tmp 58) (.seq (.ops types_Rename_r11) .ret) .skip)) (.ops types_Rename_r12))))) (.ops types_Rename_r13))))
def types_Rename_r14 : List GO := [
  ⟨none, .loadn 67 3 (.tmp 6)⟩,
  ⟨none, .storen 3 (.tmp 4) (.tmp 67)⟩,
  ⟨none, .mov 5 (.const (.bool true))⟩]
def types_Rename_lc : LC := (.seq (.ops types_Rename_r0) (.seq (.ops types_Rename_r1) (.seq (.seq (.ops types_Rename_r2) (.cond (.tmp 18) (.seq (.seq (.ops types_Rename_r3) (.cond (.tmp 36) (.seq (.ops types_Rename_r4) .ret) .skip)) (.ops types_Rename_r5)) .skip)) (.seq (.seq (.ops types_Rename_r6) (.block 0 (.loop types_Rename_b7))) (.seq (.ops types_Rename_r14) .ret)))))
@[reducible] def types_Rename : FuncId := 140
theorem types_Rename_low : lowF Try.prog Try.f140 = some types_Rename_lc := by kernel_rfl
theorem types_Rename_in {a0 a1 : Value} {w : World} {R : Ending → World → Prop} (h : types_Rename_lc.wp Try.prog (retQ Try.prog [.cell 4 65, .tmp 5] R) (argEnv [a0, a1]) w) : Calls Try.prog types_Rename ⟨[a0, a1]⟩ w R :=
  calls_of_low Try.func140 types_Rename_low (by kernel_rfl) (by kernel_rfl) h

/- 144 -/
def held_Held_Pass_r0 : List GO := [
  ⟨none, .mov 4 (.const (.int .i64 0))⟩]
def held_Held_Pass_r1 : List GO := [
  ⟨none, .mov 8 (.tmp 0)⟩,
  ⟨none, .nilc 9 (.tmp 8)⟩,
  ⟨none, .fld 10 (.tmp 9) 0⟩,
  ⟨none, .load1 11 (.tmp 10)⟩,
  ⟨none, .len 12 (.tmp 11)⟩,
  ⟨none, .raw ⟨(some 13), (.makeSlice 127 (.tmp 12) (.tmp 12)), 127, "", #[], none⟩⟩,
  ⟨none, .mov 5 (.tmp 13)⟩]
def held_Held_Pass_r2 : List GO := [
  ⟨none, .mov 14 (.tmp 1)⟩,
  ⟨none, .len 15 (.tmp 14)⟩,
  ⟨none, .mov 16 (.const (.int .i64 0))⟩]
def held_Held_Pass_r3 : List GO := [
  ⟨none, .bin 17 .lss 3 (.tmp 16) (.tmp 15)⟩]
def held_Held_Pass_r4 : List GO := [
  ⟨none, .idx 18 1 (.tmp 14) (.tmp 16)⟩,
  ⟨none, .load1 19 (.tmp 18)⟩,
  ⟨none, .mov 7 (.tmp 19)⟩]
def held_Held_Pass_r5 : List GO := [
  ⟨none, .mov 20 (.tmp 0)⟩,
  ⟨none, .mov 21 (.tmp 7)⟩,
  ⟨none, .call (some 22) 38 [(.tmp 20), (.tmp 21)]⟩,
  ⟨none, .un 23 .not (.tmp 22)⟩]
def held_Held_Pass_r6 : List GO := [
  ⟨none, .mov 4 (.const (.int .i64 10))⟩]
def held_Held_Pass_r7 : List GO := [
  ⟨none, .mov 24 (.tmp 5)⟩,
  ⟨none, .mov 25 (.tmp 7)⟩,
  ⟨none, .idx 26 1 (.tmp 24) (.tmp 25)⟩,
  ⟨none, .load1 27 (.tmp 26)⟩]
def held_Held_Pass_r8 : List GO := [
  ⟨none, .mov 4 (.const (.int .i64 13))⟩]
def held_Held_Pass_r9 : List GO := [
  ⟨none, .mov 28 (.tmp 5)⟩,
  ⟨none, .mov 29 (.tmp 7)⟩,
  ⟨none, .idx 30 1 (.tmp 28) (.tmp 29)⟩,
  ⟨none, .store1 (.tmp 30) (.const (.bool true))⟩]
def held_Held_Pass_r10 : List GO := [
  ⟨none, .bin 31 .add 3 (.tmp 16) (.const (.int .i64 1))⟩,
  ⟨none, .mov 16 (.tmp 31)⟩]
def held_Held_Pass_b3 : LC := (.seq (.ops held_Held_Pass_r3) (.seq (.cond (.tmp 17) .skip (.exit 0)) (.seq (.block 1 (.seq (.ops held_Held_Pass_r4) (.seq (.seq (.ops held_Held_Pass_r5) (.cond (.tmp 23) (.seq (.ops held_Held_Pass_r6) .ret) .skip)) (.seq (.seq (.ops held_Held_Pass_r7) (.cond (.tmp 27) (.seq (.ops held_Held_Pass_r8) .ret) .skip)) (.ops held_Held_Pass_r9))))) (.ops held_Held_Pass_r10))))
def held_Held_Pass_r11 : List GO := [
  ⟨none, .mov 32 (.tmp 1)⟩,
  ⟨none, .len 33 (.tmp 32)⟩,
  ⟨none, .mov 34 (.tmp 0)⟩,
  ⟨none, .call (some 35) 39 [(.tmp 34)]⟩,
  ⟨none, .len 36 (.tmp 35)⟩,
  ⟨none, .bin 37 .lss 3 (.tmp 33) (.tmp 36)⟩]
def held_Held_Pass_r12 : List GO := [
  ⟨none, .mov 4 (.const (.int .i64 12))⟩]
def held_Held_Pass_r13 : List GO := [
  ⟨none, .mov 4 (.const (.int .i64 0))⟩]
def held_Held_Pass_lc : LC := (.seq (.ops held_Held_Pass_r0) (.seq (.ops held_Held_Pass_r1) (.seq (.seq (.ops held_Held_Pass_r2) (.block 0 (.loop held_Held_Pass_b3))) (.seq (.seq (.ops held_Held_Pass_r11) (.cond (.tmp 37) (.seq (.ops held_Held_Pass_r12) .ret) .skip)) (.seq (.ops held_Held_Pass_r13) .ret)))))
@[reducible] def held_Held_Pass : FuncId := 144
theorem held_Held_Pass_low : lowF Try.prog Try.f144 = some held_Held_Pass_lc := by kernel_rfl
theorem held_Held_Pass_in {a0 a1 : Value} {w : World} {R : Ending → World → Prop} (h : held_Held_Pass_lc.wp Try.prog (retQ Try.prog [.tmp 4] R) (argEnv [a0, a1]) w) : Calls Try.prog held_Held_Pass ⟨[a0, a1]⟩ w R :=
  calls_of_low Try.func144 held_Held_Pass_low (by kernel_rfl) (by kernel_rfl) h

end Go.Proofs.Ytanlkfeogoganaa