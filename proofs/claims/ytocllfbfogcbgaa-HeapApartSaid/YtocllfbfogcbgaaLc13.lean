/- The functions, lowered: printed by a program off the translation. -/
import Derived.Test.YtocllfbfogcbgaaProg
import Derived.Test.YtocllfbfogcbgaaLirStep
namespace Go.Proofs.Ytocllfbfogcbgaa
open Go.Lir

/- 10 -/
def Law_HeapDoes_r0 : List GO := [
  ⟨none, .box 5 85 (.tmp 2)⟩,
  ⟨none, .mov 6 (.const (.bool false))⟩]
def Law_HeapDoes_r1 : List GO := [
  ⟨none, .call (some 29) 52 []⟩,
  ⟨none, .un 30 .not (.tmp 29)⟩]
def Law_HeapDoes_r2 : List GO := [
  ⟨none, .mov 6 (.const (.bool false))⟩]
def Law_HeapDoes_r3 : List GO := [
  ⟨none, .mov 31 (.tmp 1)⟩,
  ⟨none, .len 32 (.tmp 31)⟩,
  ⟨none, .bin 33 .gtr 3 (.tmp 32) (.const (.int .i64 200))⟩,
  ⟨none, .mov 34 (.tmp 33)⟩,
  ⟨some (34, false), .mov 35 (.tmp 0)⟩,
  ⟨some (34, false), .bin 36 .lss 3 (.tmp 35) (.const (.int .i64 0))⟩,
  ⟨none, .pick 37 (.tmp 34) (.const (.bool true)) (.tmp 36)⟩,
  ⟨none, .mov 38 (.tmp 37)⟩,
  ⟨some (38, false), .mov 39 (.tmp 0)⟩,
  ⟨some (38, false), .bin 40 .gtr 3 (.tmp 39) (.const (.int .i64 1000))⟩,
  ⟨none, .pick 41 (.tmp 38) (.const (.bool true)) (.tmp 40)⟩]
def Law_HeapDoes_r4 : List GO := [
  ⟨none, .mov 6 (.const (.bool true))⟩]
def Law_HeapDoes_r5 : List GO := [
  ⟨none, .mov 42 (.tmp 0)⟩,
  ⟨none, .call (some 43) 53 [(.tmp 42)]⟩,
  ⟨none, .mov 44 (.tmp 0)⟩,
  ⟨none, .build 45 [(.slice none 0 0), (.int .i64 0)] [(1, (1, (.tmp 44)))]⟩,
  ⟨none, .box 46 91 (.tmp 45)⟩,
  ⟨none, .mov 7 (.tmp 43)⟩,
  ⟨none, .mov 8 (.tmp 46)⟩]
def Law_HeapDoes_r6 : List GO := [
  ⟨none, .loadn 47 4 (.tmp 5)⟩,
  ⟨none, .buildS 48 85 1 [(.int .i64 0), (.int .i64 0), (.int .i64 0), (.int .i64 0)] [(0, (4, (.tmp 47)))]⟩,
  ⟨none, .mov 9 (.tmp 48)⟩]
def Law_HeapDoes_r7 : List GO := [
  ⟨none, .mov 10 (.const (.int .i64 0))⟩]
def Law_HeapDoes_r8 : List GO := [
  ⟨none, .mov 49 (.tmp 10)⟩,
  ⟨none, .mov 50 (.tmp 1)⟩,
  ⟨none, .len 51 (.tmp 50)⟩,
  ⟨none, .bin 52 .lss 3 (.tmp 49) (.tmp 51)⟩]
def Law_HeapDoes_r9 : List GO := [
  ⟨none, .mov 55 (.tmp 1)⟩,
  ⟨none, .mov 56 (.tmp 10)⟩,
  ⟨none, .idx 57 5 (.tmp 55) (.tmp 56)⟩,
  ⟨none, .loadn 58 5 (.tmp 57)⟩,
  ⟨none, .alloc 11 94 [(.int .i64 0), (.int .i64 0), (.int .i64 0), (.int .i64 0), (.slice none 0 0)]⟩,
  ⟨none, .storen 5 (.tmp 11) (.tmp 58)⟩]
def Law_HeapDoes_r10 : List GO := [
  ⟨none, .fld 59 (.tmp 11) 4⟩,
  ⟨none, .load1 60 (.tmp 59)⟩,
  ⟨none, .len 61 (.tmp 60)⟩,
  ⟨none, .bin 62 .gtr 3 (.tmp 61) (.const (.int .i64 200))⟩]
def Law_HeapDoes_r11 : List GO := [
  ⟨none, .mov 6 (.const (.bool true))⟩]
def Law_HeapDoes_r12 : List GO := [
  ⟨none, .mov 63 (.tmp 9)⟩,
  ⟨none, .fld 64 (.tmp 11) 1⟩,
  ⟨none, .load1 65 (.tmp 64)⟩,
  ⟨none, .call (some 66) 54 [(.tmp 63), (.tmp 65)]⟩,
  ⟨none, .alloc 12 85 [(.int .i64 0), (.int .i64 0), (.int .i64 0), (.int .i64 0)]⟩,
  ⟨none, .storen 4 (.tmp 12) (.tmp 66)⟩]
def Law_HeapDoes_r13 : List GO := [
  ⟨none, .alloc 13 85 [(.int .i64 0), (.int .i64 0), (.int .i64 0), (.int .i64 0)]⟩]
def Law_HeapDoes_r14 : List GO := [
  ⟨none, .alloc 14 96 [(.int .i64 0), (.int .i64 0), (.int .i64 0), (.int .i64 0)]⟩]
def Law_HeapDoes_r15 : List GO := [
  ⟨none, .mov 15 (.const (.int .i64 0))⟩,
  ⟨none, .mov 16 (.const (.int .i64 0))⟩]
def Law_HeapDoes_r16 : List GO := [
  ⟨none, .fld 67 (.tmp 11) 0⟩,
  ⟨none, .load1 68 (.tmp 67)⟩]
def Law_HeapDoes_r17 : List GO := [
  ⟨none, .bin 70 .eql 3 (.tmp 68) (.const (.int .i64 0))⟩,
  ⟨none, .mov 69 (.tmp 70)⟩]
def Law_HeapDoes_r18 : List GO := [
  ⟨none, .mov 72 (.tmp 7)⟩,
  ⟨none, .call (some 73) 55 [(.tmp 72)]⟩,
  ⟨none, .mov 71 (.tmp 73)⟩,
  ⟨none, .ext 74 (.tmp 71) 0⟩,
  ⟨none, .ext 75 (.tmp 71) 1⟩,
  ⟨none, .alloc 17 96 [(.int .i64 0), (.int .i64 0), (.int .i64 0), (.int .i64 0)]⟩,
  ⟨none, .storen 4 (.tmp 17) (.tmp 74)⟩,
  ⟨none, .mov 18 (.tmp 75)⟩]
def Law_HeapDoes_r19 : List GO := [
  ⟨none, .mov 77 (.tmp 8)⟩,
  ⟨none, .call (some 78) 56 [(.tmp 77)]⟩,
  ⟨none, .mov 76 (.tmp 78)⟩,
  ⟨none, .ext 79 (.tmp 76) 0⟩,
  ⟨none, .ext 80 (.tmp 76) 1⟩,
  ⟨none, .alloc 19 85 [(.int .i64 0), (.int .i64 0), (.int .i64 0), (.int .i64 0)]⟩,
  ⟨none, .storen 4 (.tmp 19) (.tmp 79)⟩,
  ⟨none, .mov 20 (.tmp 80)⟩]
def Law_HeapDoes_r20 : List GO := [
  ⟨none, .mov 81 (.tmp 18)⟩,
  ⟨none, .mov 82 (.tmp 20)⟩,
  ⟨none, .bin 83 .neq 4 (.tmp 81) (.tmp 82)⟩]
def Law_HeapDoes_r21 : List GO := [
  ⟨none, .mov 6 (.const (.bool false))⟩]
def Law_HeapDoes_r22 : List GO := [
  ⟨none, .loadn 84 4 (.tmp 19)⟩,
  ⟨none, .loadn 85 4 (.tmp 17)⟩,
  ⟨none, .storen 4 (.tmp 13) (.tmp 84)⟩,
  ⟨none, .storen 4 (.tmp 14) (.tmp 85)⟩]
def Law_HeapDoes_e22 : List (List Nat) := [[], [], [0, 0], [1, 2, 0, 1, 2]]
def Law_HeapDoes_r23 : List GO := [
  ⟨none, .bin 87 .eql 3 (.tmp 68) (.const (.int .i64 1))⟩,
  ⟨none, .mov 86 (.tmp 87)⟩]
def Law_HeapDoes_r24 : List GO := [
  ⟨none, .mov 88 (.tmp 7)⟩,
  ⟨none, .loadn 89 4 (.tmp 12)⟩,
  ⟨none, .call (some 90) 58 [(.tmp 89)]⟩,
  ⟨none, .call (some 91) 57 [(.tmp 88), (.tmp 90)]⟩,
  ⟨none, .mov 92 (.tmp 8)⟩,
  ⟨none, .loadn 93 4 (.tmp 12)⟩,
  ⟨none, .call (some 94) 59 [(.tmp 92), (.tmp 93)]⟩,
  ⟨none, .bin 95 .neq 4 (.tmp 91) (.tmp 94)⟩]
def Law_HeapDoes_e24 : List (List Nat) := [[], [], [1], [0, 2, 2], [], [], [4, 5, 3], [3, 6]]
def Law_HeapDoes_r25 : List GO := [
  ⟨none, .mov 6 (.const (.bool false))⟩]
def Law_HeapDoes_r26 : List GO := [
  ⟨none, .bin 97 .eql 3 (.tmp 68) (.const (.int .i64 2))⟩,
  ⟨none, .mov 96 (.tmp 97)⟩]
def Law_HeapDoes_r27 : List GO := [
  ⟨none, .mov 21 (.const (.slice none 0 0))⟩]
def Law_HeapDoes_r28 : List GO := [
  ⟨none, .mov 22 (.const (.slice none 0 0))⟩]
def Law_HeapDoes_r29 : List GO := [
  ⟨none, .mov 23 (.const (.int .i64 0))⟩]
def Law_HeapDoes_r30 : List GO := [
  ⟨none, .mov 98 (.tmp 23)⟩,
  ⟨none, .fld 99 (.tmp 11) 4⟩,
  ⟨none, .load1 100 (.tmp 99)⟩,
  ⟨none, .len 101 (.tmp 100)⟩,
  ⟨none, .bin 102 .lss 3 (.tmp 98) (.tmp 101)⟩]
def Law_HeapDoes_r31 : List GO := [
  ⟨none, .mov 105 (.tmp 22)⟩,
  ⟨none, .mov 106 (.tmp 9)⟩,
  ⟨none, .fld 107 (.tmp 11) 4⟩,
  ⟨none, .load1 108 (.tmp 107)⟩,
  ⟨none, .mov 109 (.tmp 23)⟩,
  ⟨none, .idx 110 1 (.tmp 108) (.tmp 109)⟩,
  ⟨none, .load1 111 (.tmp 110)⟩,
  ⟨none, .call (some 112) 54 [(.tmp 106), (.tmp 111)]⟩,
  ⟨none, .buildS 113 85 1 [(.int .i64 0), (.int .i64 0), (.int .i64 0), (.int .i64 0)] [(0, (4, (.tmp 112)))]⟩,
  ⟨none, .raw ⟨(some 114), (.call ⟨(.builtin .append), #[(.tmp 105), (.tmp 113)], #[92, 92]⟩), 92, "", #[], none⟩⟩,
  ⟨none, .mov 22 (.tmp 114)⟩]
def Law_HeapDoes_r32 : List GO := [
  ⟨none, .mov 115 (.tmp 21)⟩,
  ⟨none, .mov 116 (.tmp 22)⟩,
  ⟨none, .mov 117 (.tmp 23)⟩,
  ⟨none, .idx 118 4 (.tmp 116) (.tmp 117)⟩,
  ⟨none, .loadn 119 4 (.tmp 118)⟩,
  ⟨none, .call (some 120) 58 [(.tmp 119)]⟩,
  ⟨none, .buildS 121 96 1 [(.int .i64 0), (.int .i64 0), (.int .i64 0), (.int .i64 0)] [(0, (4, (.tmp 120)))]⟩,
  ⟨none, .raw ⟨(some 122), (.call ⟨(.builtin .append), #[(.tmp 115), (.tmp 121)], #[104, 104]⟩), 104, "", #[], none⟩⟩,
  ⟨none, .mov 21 (.tmp 122)⟩]
def Law_HeapDoes_r33 : List GO := [
  ⟨none, .mov 103 (.tmp 23)⟩,
  ⟨none, .bin 104 .add 3 (.tmp 103) (.const (.int .i64 1))⟩,
  ⟨none, .mov 23 (.tmp 104)⟩]
def Law_HeapDoes_b30 : LC := (.seq (.seq (.ops Law_HeapDoes_r30) (.cond (.tmp 102) .skip (.exit 3))) (.seq (.block 4 (.seq (.ops Law_HeapDoes_r31) (.ops Law_HeapDoes_r32))) (.ops Law_HeapDoes_r33)))
def Law_HeapDoes_r34 : List GO := [
  ⟨none, .mov 124 (.tmp 7)⟩,
  ⟨none, .loadn 125 4 (.tmp 12)⟩,
  ⟨none, .call (some 126) 58 [(.tmp 125)]⟩,
  ⟨none, .mov 127 (.tmp 21)⟩,
  ⟨none, .call (some 128) 60 [(.tmp 124), (.tmp 126), (.tmp 127)]⟩,
  ⟨none, .mov 123 (.tmp 128)⟩,
  ⟨none, .ext 129 (.tmp 123) 0⟩,
  ⟨none, .ext 130 (.tmp 123) 1⟩,
  ⟨none, .storen 4 (.tmp 14) (.tmp 129)⟩,
  ⟨none, .mov 15 (.tmp 130)⟩]
def Law_HeapDoes_r35 : List GO := [
  ⟨none, .mov 132 (.tmp 8)⟩,
  ⟨none, .loadn 133 4 (.tmp 12)⟩,
  ⟨none, .mov 134 (.tmp 22)⟩,
  ⟨none, .call (some 135) 61 [(.tmp 132), (.tmp 133), (.tmp 134)]⟩,
  ⟨none, .mov 131 (.tmp 135)⟩,
  ⟨none, .ext 136 (.tmp 131) 0⟩,
  ⟨none, .ext 137 (.tmp 131) 1⟩,
  ⟨none, .storen 4 (.tmp 13) (.tmp 136)⟩,
  ⟨none, .mov 16 (.tmp 137)⟩]
def Law_HeapDoes_r36 : List GO := [
  ⟨none, .bin 139 .eql 3 (.tmp 68) (.const (.int .i64 3))⟩,
  ⟨none, .mov 138 (.tmp 139)⟩]
def Law_HeapDoes_r37 : List GO := [
  ⟨none, .fld 140 (.tmp 11) 3⟩,
  ⟨none, .load1 141 (.tmp 140)⟩,
  ⟨none, .bin 142 .lss 2 (.tmp 141) (.const (.int .i64 (-1000)))⟩,
  ⟨none, .mov 143 (.tmp 142)⟩,
  ⟨some (143, false), .fld 144 (.tmp 11) 3⟩,
  ⟨some (143, false), .load1 145 (.tmp 144)⟩,
  ⟨some (143, false), .bin 146 .gtr 2 (.tmp 145) (.const (.int .i64 1000))⟩,
  ⟨none, .pick 147 (.tmp 143) (.const (.bool true)) (.tmp 146)⟩]
def Law_HeapDoes_r38 : List GO := [
  ⟨none, .mov 6 (.const (.bool true))⟩]
def Law_HeapDoes_r39 : List GO := [
  ⟨none, .mov 149 (.tmp 7)⟩,
  ⟨none, .loadn 150 4 (.tmp 12)⟩,
  ⟨none, .call (some 151) 58 [(.tmp 150)]⟩,
  ⟨none, .fld 152 (.tmp 11) 3⟩,
  ⟨none, .load1 153 (.tmp 152)⟩,
  ⟨none, .call (some 154) 62 [(.tmp 149), (.tmp 151), (.tmp 153)]⟩,
  ⟨none, .mov 148 (.tmp 154)⟩,
  ⟨none, .ext 155 (.tmp 148) 0⟩,
  ⟨none, .ext 156 (.tmp 148) 1⟩,
  ⟨none, .storen 4 (.tmp 14) (.tmp 155)⟩,
  ⟨none, .mov 15 (.tmp 156)⟩]
def Law_HeapDoes_e39 : List (List Nat) := [[], [], [1], [], [3], [0, 2, 4, 2], [5], [6], [6], [7, 5, 0, 1, 2, 3, 4, 5, 6, 7], [8, 9, 0, 1, 2, 3, 4, 5, 6, 7, 8, 9]]
def Law_HeapDoes_r40 : List GO := [
  ⟨none, .mov 158 (.tmp 8)⟩,
  ⟨none, .loadn 159 4 (.tmp 12)⟩,
  ⟨none, .fld 160 (.tmp 11) 3⟩,
  ⟨none, .load1 161 (.tmp 160)⟩,
  ⟨none, .call (some 162) 63 [(.tmp 158), (.tmp 159), (.tmp 161)]⟩,
  ⟨none, .mov 157 (.tmp 162)⟩,
  ⟨none, .ext 163 (.tmp 157) 0⟩,
  ⟨none, .ext 164 (.tmp 157) 1⟩,
  ⟨none, .storen 4 (.tmp 13) (.tmp 163)⟩,
  ⟨none, .mov 16 (.tmp 164)⟩]
def Law_HeapDoes_r41 : List GO := [
  ⟨none, .bin 166 .eql 3 (.tmp 68) (.const (.int .i64 4))⟩,
  ⟨none, .mov 165 (.tmp 166)⟩]
def Law_HeapDoes_r42 : List GO := [
  ⟨none, .mov 168 (.tmp 7)⟩,
  ⟨none, .loadn 169 4 (.tmp 12)⟩,
  ⟨none, .call (some 170) 58 [(.tmp 169)]⟩,
  ⟨none, .fld 171 (.tmp 11) 3⟩,
  ⟨none, .load1 172 (.tmp 171)⟩,
  ⟨none, .call (some 173) 64 [(.tmp 168), (.tmp 170), (.tmp 172)]⟩,
  ⟨none, .mov 167 (.tmp 173)⟩,
  ⟨none, .ext 174 (.tmp 167) 0⟩,
  ⟨none, .ext 175 (.tmp 167) 1⟩,
  ⟨none, .storen 4 (.tmp 14) (.tmp 174)⟩,
  ⟨none, .mov 15 (.tmp 175)⟩]
def Law_HeapDoes_e42 : List (List Nat) := [[], [], [1], [], [3], [0, 2, 4, 2], [5], [6], [6], [7, 5, 0, 1, 2, 3, 4, 5, 6, 7], [8, 9, 0, 1, 2, 3, 4, 5, 6, 7, 8, 9]]
def Law_HeapDoes_r43 : List GO := [
  ⟨none, .mov 177 (.tmp 8)⟩,
  ⟨none, .loadn 178 4 (.tmp 12)⟩,
  ⟨none, .fld 179 (.tmp 11) 3⟩,
  ⟨none, .load1 180 (.tmp 179)⟩,
  ⟨none, .call (some 181) 65 [(.tmp 177), (.tmp 178), (.tmp 180)]⟩,
  ⟨none, .mov 176 (.tmp 181)⟩,
  ⟨none, .ext 182 (.tmp 176) 0⟩,
  ⟨none, .ext 183 (.tmp 176) 1⟩,
  ⟨none, .storen 4 (.tmp 13) (.tmp 182)⟩,
  ⟨none, .mov 16 (.tmp 183)⟩]
def Law_HeapDoes_r44 : List GO := [
  ⟨none, .bin 185 .eql 3 (.tmp 68) (.const (.int .i64 5))⟩,
  ⟨none, .mov 184 (.tmp 185)⟩]
def Law_HeapDoes_r45 : List GO := [
  ⟨none, .mov 186 (.tmp 9)⟩,
  ⟨none, .fld 187 (.tmp 11) 2⟩,
  ⟨none, .load1 188 (.tmp 187)⟩,
  ⟨none, .call (some 189) 54 [(.tmp 186), (.tmp 188)]⟩,
  ⟨none, .alloc 24 85 [(.int .i64 0), (.int .i64 0), (.int .i64 0), (.int .i64 0)]⟩,
  ⟨none, .storen 4 (.tmp 24) (.tmp 189)⟩]
def Law_HeapDoes_r46 : List GO := [
  ⟨none, .mov 190 (.tmp 7)⟩,
  ⟨none, .loadn 191 4 (.tmp 12)⟩,
  ⟨none, .call (some 192) 58 [(.tmp 191)]⟩,
  ⟨none, .fld 193 (.tmp 11) 3⟩,
  ⟨none, .load1 194 (.tmp 193)⟩,
  ⟨none, .loadn 195 4 (.tmp 24)⟩,
  ⟨none, .call (some 196) 58 [(.tmp 195)]⟩,
  ⟨none, .call (some 197) 66 [(.tmp 190), (.tmp 192), (.tmp 194), (.tmp 196)]⟩,
  ⟨none, .mov 198 (.tmp 8)⟩,
  ⟨none, .loadn 199 4 (.tmp 12)⟩,
  ⟨none, .fld 200 (.tmp 11) 3⟩,
  ⟨none, .load1 201 (.tmp 200)⟩,
  ⟨none, .loadn 202 4 (.tmp 24)⟩,
  ⟨none, .call (some 203) 67 [(.tmp 198), (.tmp 199), (.tmp 201), (.tmp 202)]⟩,
  ⟨none, .mov 15 (.tmp 197)⟩,
  ⟨none, .mov 16 (.tmp 203)⟩]
def Law_HeapDoes_e46 : List (List Nat) := [[], [], [1], [], [3], [], [5, 2], [0, 2, 4, 6, 6], [], [], [], [10], [], [8, 9, 11, 12, 7], [7, 13, 0, 1, 2, 3, 4, 5, 6, 7], [13, 14, 0, 1, 2, 3, 4, 5, 6, 7, 8, 9, 10, 11, 12, 13, 14]]
def Law_HeapDoes_r47 : List GO := [
  ⟨none, .bin 205 .eql 3 (.tmp 68) (.const (.int .i64 6))⟩,
  ⟨none, .mov 204 (.tmp 205)⟩]
def Law_HeapDoes_r48 : List GO := [
  ⟨none, .mov 207 (.tmp 7)⟩,
  ⟨none, .loadn 208 4 (.tmp 12)⟩,
  ⟨none, .call (some 209) 58 [(.tmp 208)]⟩,
  ⟨none, .call (some 210) 68 [(.tmp 207), (.tmp 209)]⟩,
  ⟨none, .mov 206 (.tmp 210)⟩,
  ⟨none, .ext 211 (.tmp 206) 0⟩,
  ⟨none, .ext 212 (.tmp 206) 1⟩,
  ⟨none, .mov 25 (.tmp 211)⟩,
  ⟨none, .mov 26 (.tmp 212)⟩]
def Law_HeapDoes_r49 : List GO := [
  ⟨none, .mov 214 (.tmp 8)⟩,
  ⟨none, .loadn 215 4 (.tmp 12)⟩,
  ⟨none, .call (some 216) 69 [(.tmp 214), (.tmp 215)]⟩,
  ⟨none, .mov 213 (.tmp 216)⟩,
  ⟨none, .ext 217 (.tmp 213) 0⟩,
  ⟨none, .ext 218 (.tmp 213) 1⟩,
  ⟨none, .mov 27 (.tmp 217)⟩,
  ⟨none, .mov 28 (.tmp 218)⟩]
def Law_HeapDoes_r50 : List GO := [
  ⟨none, .mov 219 (.tmp 25)⟩,
  ⟨none, .mov 220 (.tmp 27)⟩,
  ⟨none, .bin 221 .neq 3 (.tmp 219) (.tmp 220)⟩]
def Law_HeapDoes_r51 : List GO := [
  ⟨none, .mov 6 (.const (.bool false))⟩]
def Law_HeapDoes_r52 : List GO := [
  ⟨none, .mov 222 (.tmp 26)⟩,
  ⟨none, .mov 223 (.tmp 28)⟩,
  ⟨none, .mov 15 (.tmp 222)⟩,
  ⟨none, .mov 16 (.tmp 223)⟩]
def Law_HeapDoes_r53 : List GO := [
  ⟨none, .mov 224 (.tmp 15)⟩,
  ⟨none, .mov 225 (.tmp 16)⟩,
  ⟨none, .bin 226 .neq 3 (.tmp 224) (.tmp 225)⟩,
  ⟨none, .mov 227 (.tmp 226)⟩,
  ⟨some (227, false), .loadn 228 4 (.tmp 14)⟩,
  ⟨some (227, false), .loadn 229 4 (.tmp 13)⟩,
  ⟨some (227, false), .call (some 230) 58 [(.tmp 229)]⟩,
  ⟨some (227, false), .bin 231 .neq 96 (.tmp 228) (.tmp 230)⟩,
  ⟨none, .pick 232 (.tmp 227) (.const (.bool true)) (.tmp 231)⟩,
  ⟨none, .mov 233 (.tmp 232)⟩,
  ⟨some (233, false), .mov 234 (.tmp 7)⟩,
  ⟨some (233, false), .call (some 235) 70 [(.tmp 234)]⟩,
  ⟨some (233, false), .mov 236 (.tmp 8)⟩,
  ⟨some (233, false), .nilc 237 (.tmp 236)⟩,
  ⟨some (233, false), .fld 238 (.tmp 237) 1⟩,
  ⟨some (233, false), .load1 239 (.tmp 238)⟩,
  ⟨some (233, false), .bin 240 .neq 3 (.tmp 235) (.tmp 239)⟩,
  ⟨none, .pick 241 (.tmp 233) (.const (.bool true)) (.tmp 240)⟩,
  ⟨none, .mov 242 (.tmp 241)⟩,
  ⟨some (242, false), .mov 243 (.tmp 7)⟩,
  ⟨some (242, false), .call (some 244) 71 [(.tmp 243)]⟩,
  ⟨some (242, false), .mov 245 (.tmp 8)⟩,
  ⟨some (242, false), .call (some 246) 72 [(.tmp 245)]⟩,
  ⟨some (242, false), .bin 247 .neq 3 (.tmp 244) (.tmp 246)⟩,
  ⟨none, .pick 248 (.tmp 242) (.const (.bool true)) (.tmp 247)⟩]
def Law_HeapDoes_e53 : List (List Nat) := [[], [], [0, 1], [2], [3], [3], [5, 3, 3], [4, 6, 3], [3, 7], [8, 6], [9], [10, 9, 9], [9], [12, 9], [13, 9], [14, 9], [11, 15, 9], [9, 16], [17, 11], [18], [19, 18, 18], [18], [21, 20, 18], [20, 22, 18], [18, 23]]
def Law_HeapDoes_r54 : List GO := [
  ⟨none, .mov 6 (.const (.bool false))⟩]
def Law_HeapDoes_r55 : List GO := [
  ⟨none, .fld 249 (.tmp 13) 0⟩,
  ⟨none, .load1 250 (.tmp 249)⟩,
  ⟨none, .bin 251 .neq 3 (.tmp 250) (.const (.int .i64 0))⟩]
def Law_HeapDoes_r56 : List GO := [
  ⟨none, .mov 252 (.tmp 9)⟩,
  ⟨none, .loadn 253 4 (.tmp 13)⟩,
  ⟨none, .buildS 254 85 1 [(.int .i64 0), (.int .i64 0), (.int .i64 0), (.int .i64 0)] [(0, (4, (.tmp 253)))]⟩,
  ⟨none, .raw ⟨(some 255), (.call ⟨(.builtin .append), #[(.tmp 252), (.tmp 254)], #[92, 92]⟩), 92, "", #[], none⟩⟩,
  ⟨none, .mov 9 (.tmp 255)⟩]
def Law_HeapDoes_r57 : List GO := [
  ⟨none, .mov 53 (.tmp 10)⟩,
  ⟨none, .bin 54 .add 3 (.tmp 53) (.const (.int .i64 1))⟩,
  ⟨none, .mov 10 (.tmp 54)⟩]
def Law_HeapDoes_b8 : LC := (.seq (.seq (.ops Law_HeapDoes_r8) (.cond (.tmp 52) .skip (.exit 0))) (.seq (.block 1 (.seq (.ops Law_HeapDoes_r9) (.seq (.seq (.ops Law_HeapDoes_r10) (.cond (.tmp 62) (.seq (.ops Law_HeapDoes_r11) .ret) .skip)) (.seq (.ops Law_HeapDoes_r12) (.seq (.ops Law_HeapDoes_r13) (.seq (.ops Law_HeapDoes_r14) (.seq (.ops Law_HeapDoes_r15) (.seq (.seq (.ops Law_HeapDoes_r16) (.block 2 (.seq (.ops Law_HeapDoes_r17) (.cond (.tmp 69) (.seq (.ops Law_HeapDoes_r18) (.seq (.ops Law_HeapDoes_r19) (.seq (.seq (.ops Law_HeapDoes_r20) (.cond (.tmp 83) (.seq (.ops Law_HeapDoes_r21) .ret) .skip)) (.draw Law_HeapDoes_r22 Law_HeapDoes_e22)))) (.seq (.ops Law_HeapDoes_r23) (.cond (.tmp 86) (.seq (.draw Law_HeapDoes_r24 Law_HeapDoes_e24) (.cond (.tmp 95) (.seq (.ops Law_HeapDoes_r25) .ret) .skip)) (.seq (.ops Law_HeapDoes_r26) (.cond (.tmp 96) (.seq (.ops Law_HeapDoes_r27) (.seq (.ops Law_HeapDoes_r28) (.seq (.seq (.ops Law_HeapDoes_r29) (.block 3 (.loop Law_HeapDoes_b30))) (.seq (.ops Law_HeapDoes_r34) (.ops Law_HeapDoes_r35))))) (.seq (.ops Law_HeapDoes_r36) (.cond (.tmp 138) (.seq (.seq (.ops Law_HeapDoes_r37) (.cond (.tmp 147) (.seq (.ops Law_HeapDoes_r38) .ret) .skip)) (.seq (.draw Law_HeapDoes_r39 Law_HeapDoes_e39) (.ops Law_HeapDoes_r40))) (.seq (.ops Law_HeapDoes_r41) (.cond (.tmp 165) (.seq (.draw Law_HeapDoes_r42 Law_HeapDoes_e42) (.ops Law_HeapDoes_r43)) (.seq (.ops Law_HeapDoes_r44) (.cond (.tmp 184) (.seq (.ops Law_HeapDoes_r45) (.draw Law_HeapDoes_r46 Law_HeapDoes_e46)) (.seq (.ops Law_HeapDoes_r47) (.cond (.tmp 204) (.seq (.ops Law_HeapDoes_r48) (.seq (.ops Law_HeapDoes_r49) (.seq (.seq (.ops Law_HeapDoes_r50) (.cond (.tmp 221) (.seq (.ops Law_HeapDoes_r51) .ret) .skip)) (.ops Law_HeapDoes_r52)))) .skip)))))))))))))))) (.seq (.seq (.draw Law_HeapDoes_r53 Law_HeapDoes_e53) (.cond (.tmp 248) (.seq (.ops Law_HeapDoes_r54) .ret) .skip)) (.seq (.ops Law_HeapDoes_r55) (.cond (.tmp 251) (.ops Law_HeapDoes_r56) .skip))))))))))) (.ops Law_HeapDoes_r57)))
def Law_HeapDoes_r58 : List GO := [
  ⟨none, .mov 6 (.const (.bool true))⟩]
def Law_HeapDoes_lc : LC := (.seq (.ops Law_HeapDoes_r0) (.seq (.seq (.ops Law_HeapDoes_r1) (.cond (.tmp 30) (.seq (.ops Law_HeapDoes_r2) .ret) .skip)) (.seq (.seq (.ops Law_HeapDoes_r3) (.cond (.tmp 41) (.seq (.ops Law_HeapDoes_r4) .ret) .skip)) (.seq (.ops Law_HeapDoes_r5) (.seq (.ops Law_HeapDoes_r6) (.seq (.seq (.ops Law_HeapDoes_r7) (.block 0 (.loop Law_HeapDoes_b8))) (.seq (.ops Law_HeapDoes_r58) .ret)))))))
@[reducible] def Law_HeapDoes : FuncId := 10
theorem Law_HeapDoes_low : lowF Try.prog Try.f10 = some Law_HeapDoes_lc := by kernel_rfl
theorem Law_HeapDoes_in {a0 a1 a2 : Value} {w : World} {R : Ending → World → Prop} (h : Law_HeapDoes_lc.wp Try.prog (retQ Try.prog [.tmp 6] R) (argEnv [a0, a1, a2]) w) : Calls Try.prog Law_HeapDoes ⟨[a0, a1, a2]⟩ w R :=
  calls_of_low Try.func10 Law_HeapDoes_low (by kernel_rfl) (by kernel_rfl) h

/- 11 -/
def Law_HeapApart_r0 : List GO := [
  ⟨none, .mov 10 (.const (.bool false))⟩]
def Law_HeapApart_r1 : List GO := [
  ⟨none, .call (some 32) 52 []⟩,
  ⟨none, .un 33 .not (.tmp 32)⟩]
def Law_HeapApart_r2 : List GO := [
  ⟨none, .mov 10 (.const (.bool false))⟩]
def Law_HeapApart_r3 : List GO := [
  ⟨none, .mov 34 (.tmp 1)⟩,
  ⟨none, .len 35 (.tmp 34)⟩,
  ⟨none, .bin 36 .gtr 3 (.tmp 35) (.const (.int .i64 40))⟩,
  ⟨none, .mov 37 (.tmp 36)⟩,
  ⟨some (37, false), .mov 38 (.tmp 0)⟩,
  ⟨some (37, false), .bin 39 .lss 3 (.tmp 38) (.const (.int .i64 0))⟩,
  ⟨none, .pick 40 (.tmp 37) (.const (.bool true)) (.tmp 39)⟩,
  ⟨none, .mov 41 (.tmp 40)⟩,
  ⟨some (41, false), .mov 42 (.tmp 0)⟩,
  ⟨some (41, false), .bin 43 .gtr 3 (.tmp 42) (.const (.int .i64 1000))⟩,
  ⟨none, .pick 44 (.tmp 41) (.const (.bool true)) (.tmp 43)⟩]
def Law_HeapApart_r4 : List GO := [
  ⟨none, .mov 10 (.const (.bool true))⟩]
def Law_HeapApart_r5 : List GO := [
  ⟨none, .mov 45 (.tmp 0)⟩,
  ⟨none, .call (some 46) 53 [(.tmp 45)]⟩,
  ⟨none, .mov 11 (.tmp 46)⟩]
def Law_HeapApart_r6 : List GO := [
  ⟨none, .mov 12 (.const (.slice none 0 0))⟩]
def Law_HeapApart_r7 : List GO := [
  ⟨none, .mov 13 (.const (.slice none 0 0))⟩]
def Law_HeapApart_r8 : List GO := [
  ⟨none, .mov 48 (.tmp 11)⟩,
  ⟨none, .call (some 49) 55 [(.tmp 48)]⟩,
  ⟨none, .mov 47 (.tmp 49)⟩,
  ⟨none, .ext 50 (.tmp 47) 0⟩,
  ⟨none, .ext 51 (.tmp 47) 1⟩,
  ⟨none, .alloc 14 96 [(.int .i64 0), (.int .i64 0), (.int .i64 0), (.int .i64 0)]⟩,
  ⟨none, .storen 4 (.tmp 14) (.tmp 50)⟩,
  ⟨none, .mov 15 (.tmp 51)⟩]
def Law_HeapApart_r9 : List GO := [
  ⟨none, .mov 52 (.tmp 15)⟩,
  ⟨none, .un 53 .not (.tmp 52)⟩]
def Law_HeapApart_r10 : List GO := [
  ⟨none, .mov 10 (.const (.bool false))⟩]
def Law_HeapApart_r11 : List GO := [
  ⟨none, .mov 16 (.const (.int .i64 0))⟩]
def Law_HeapApart_r12 : List GO := [
  ⟨none, .mov 54 (.tmp 16)⟩,
  ⟨none, .mov 55 (.tmp 1)⟩,
  ⟨none, .len 56 (.tmp 55)⟩,
  ⟨none, .bin 57 .lss 3 (.tmp 54) (.tmp 56)⟩]
def Law_HeapApart_r13 : List GO := [
  ⟨none, .mov 60 (.tmp 1)⟩,
  ⟨none, .mov 61 (.tmp 16)⟩,
  ⟨none, .idx 62 1 (.tmp 60) (.tmp 61)⟩,
  ⟨none, .load1 63 (.tmp 62)⟩,
  ⟨none, .len 64 (.tmp 63)⟩,
  ⟨none, .bin 65 .gtr 3 (.tmp 64) (.const (.int .i64 100))⟩]
def Law_HeapApart_r14 : List GO := [
  ⟨none, .mov 10 (.const (.bool true))⟩]
def Law_HeapApart_r15 : List GO := [
  ⟨none, .mov 66 (.tmp 16)⟩,
  ⟨none, .bin 67 .rem 3 (.tmp 66) (.const (.int .i64 3))⟩,
  ⟨none, .bin 68 .eql 3 (.tmp 67) (.const (.int .i64 2))⟩]
def Law_HeapApart_r16 : List GO := [
  ⟨none, .mov 70 (.tmp 11)⟩,
  ⟨none, .call (some 71) 55 [(.tmp 70)]⟩,
  ⟨none, .mov 69 (.tmp 71)⟩,
  ⟨none, .ext 72 (.tmp 69) 0⟩,
  ⟨none, .ext 73 (.tmp 69) 1⟩,
  ⟨none, .alloc 17 96 [(.int .i64 0), (.int .i64 0), (.int .i64 0), (.int .i64 0)]⟩,
  ⟨none, .storen 4 (.tmp 17) (.tmp 72)⟩,
  ⟨none, .mov 18 (.tmp 73)⟩]
def Law_HeapApart_r17 : List GO := [
  ⟨none, .mov 74 (.tmp 18)⟩]
def Law_HeapApart_r18 : List GO := [
  ⟨none, .loadn 75 4 (.tmp 17)⟩,
  ⟨none, .storen 4 (.tmp 14) (.tmp 75)⟩]
def Law_HeapApart_r19 : List GO := [
  ⟨none, .mov 19 (.const (.slice none 0 0))⟩]
def Law_HeapApart_r20 : List GO := [
  ⟨none, .mov 20 (.const (.int .i64 0))⟩]
def Law_HeapApart_r21 : List GO := [
  ⟨none, .mov 76 (.tmp 20)⟩,
  ⟨none, .mov 77 (.tmp 1)⟩,
  ⟨none, .mov 78 (.tmp 16)⟩,
  ⟨none, .idx 79 1 (.tmp 77) (.tmp 78)⟩,
  ⟨none, .load1 80 (.tmp 79)⟩,
  ⟨none, .len 81 (.tmp 80)⟩,
  ⟨none, .bin 82 .lss 3 (.tmp 76) (.tmp 81)⟩]
def Law_HeapApart_r22 : List GO := [
  ⟨none, .mov 85 (.tmp 19)⟩,
  ⟨none, .mov 86 (.tmp 1)⟩,
  ⟨none, .mov 87 (.tmp 16)⟩,
  ⟨none, .idx 88 1 (.tmp 86) (.tmp 87)⟩,
  ⟨none, .load1 89 (.tmp 88)⟩,
  ⟨none, .mov 90 (.tmp 20)⟩,
  ⟨none, .idx 91 1 (.tmp 89) (.tmp 90)⟩,
  ⟨none, .load1 92 (.tmp 91)⟩,
  ⟨none, .build 93 [(.int .i64 0), (.int .i64 0), (.int .i64 0), (.int .i64 0)] [(0, (1, (.const (.int .i64 1)))), (3, (1, (.tmp 92)))]⟩,
  ⟨none, .buildS 94 96 1 [(.int .i64 0), (.int .i64 0), (.int .i64 0), (.int .i64 0)] [(0, (4, (.tmp 93)))]⟩,
  ⟨none, .raw ⟨(some 95), (.call ⟨(.builtin .append), #[(.tmp 85), (.tmp 94)], #[104, 104]⟩), 104, "", #[], none⟩⟩,
  ⟨none, .mov 19 (.tmp 95)⟩]
def Law_HeapApart_r23 : List GO := [
  ⟨none, .mov 83 (.tmp 20)⟩,
  ⟨none, .bin 84 .add 3 (.tmp 83) (.const (.int .i64 1))⟩,
  ⟨none, .mov 20 (.tmp 84)⟩]
def Law_HeapApart_b21 : LC := (.seq (.seq (.ops Law_HeapApart_r21) (.cond (.tmp 82) .skip (.exit 2))) (.seq (.block 3 (.ops Law_HeapApart_r22)) (.ops Law_HeapApart_r23)))
def Law_HeapApart_r24 : List GO := [
  ⟨none, .mov 97 (.tmp 11)⟩,
  ⟨none, .loadn 98 4 (.tmp 14)⟩,
  ⟨none, .mov 99 (.tmp 19)⟩,
  ⟨none, .call (some 100) 60 [(.tmp 97), (.tmp 98), (.tmp 99)]⟩,
  ⟨none, .mov 96 (.tmp 100)⟩,
  ⟨none, .ext 101 (.tmp 96) 0⟩,
  ⟨none, .ext 102 (.tmp 96) 1⟩,
  ⟨none, .alloc 21 96 [(.int .i64 0), (.int .i64 0), (.int .i64 0), (.int .i64 0)]⟩,
  ⟨none, .storen 4 (.tmp 21) (.tmp 101)⟩,
  ⟨none, .mov 22 (.tmp 102)⟩]
def Law_HeapApart_r25 : List GO := [
  ⟨none, .mov 103 (.tmp 22)⟩,
  ⟨none, .bin 104 .eql 3 (.tmp 103) (.const (.int .i64 0))⟩]
def Law_HeapApart_r26 : List GO := [
  ⟨none, .mov 105 (.tmp 12)⟩,
  ⟨none, .loadn 106 4 (.tmp 21)⟩,
  ⟨none, .buildS 107 96 1 [(.int .i64 0), (.int .i64 0), (.int .i64 0), (.int .i64 0)] [(0, (4, (.tmp 106)))]⟩,
  ⟨none, .raw ⟨(some 108), (.call ⟨(.builtin .append), #[(.tmp 105), (.tmp 107)], #[104, 104]⟩), 104, "", #[], none⟩⟩,
  ⟨none, .mov 12 (.tmp 108)⟩]
def Law_HeapApart_r27 : List GO := [
  ⟨none, .mov 109 (.tmp 13)⟩,
  ⟨none, .mov 110 (.tmp 1)⟩,
  ⟨none, .mov 111 (.tmp 16)⟩,
  ⟨none, .idx 112 1 (.tmp 110) (.tmp 111)⟩,
  ⟨none, .load1 113 (.tmp 112)⟩,
  ⟨none, .buildS 114 55 1 [(.slice none 0 0)] [(0, (1, (.tmp 113)))]⟩,
  ⟨none, .raw ⟨(some 115), (.call ⟨(.builtin .append), #[(.tmp 109), (.tmp 114)], #[118, 118]⟩), 118, "", #[], none⟩⟩,
  ⟨none, .mov 13 (.tmp 115)⟩]
def Law_HeapApart_r28 : List GO := [
  ⟨none, .mov 116 (.tmp 22)⟩,
  ⟨none, .bin 117 .neq 3 (.tmp 116) (.const (.int .i64 14))⟩]
def Law_HeapApart_r29 : List GO := [
  ⟨none, .mov 10 (.const (.bool false))⟩]
def Law_HeapApart_r30 : List GO := [
  ⟨none, .mov 58 (.tmp 16)⟩,
  ⟨none, .bin 59 .add 3 (.tmp 58) (.const (.int .i64 1))⟩,
  ⟨none, .mov 16 (.tmp 59)⟩]
def Law_HeapApart_b12 : LC := (.seq (.seq (.ops Law_HeapApart_r12) (.cond (.tmp 57) .skip (.exit 0))) (.seq (.block 1 (.seq (.seq (.ops Law_HeapApart_r13) (.cond (.tmp 65) (.seq (.ops Law_HeapApart_r14) .ret) .skip)) (.seq (.seq (.ops Law_HeapApart_r15) (.cond (.tmp 68) (.seq (.ops Law_HeapApart_r16) (.seq (.ops Law_HeapApart_r17) (.cond (.tmp 74) (.ops Law_HeapApart_r18) .skip))) .skip)) (.seq (.ops Law_HeapApart_r19) (.seq (.seq (.ops Law_HeapApart_r20) (.block 2 (.loop Law_HeapApart_b21))) (.seq (.ops Law_HeapApart_r24) (.seq (.ops Law_HeapApart_r25) (.cond (.tmp 104) (.seq (.ops Law_HeapApart_r26) (.ops Law_HeapApart_r27)) (.seq (.ops Law_HeapApart_r28) (.cond (.tmp 117) (.seq (.ops Law_HeapApart_r29) .ret) .skip)))))))))) (.ops Law_HeapApart_r30)))
def Law_HeapApart_r31 : List GO := [
  ⟨none, .mov 118 (.tmp 12)⟩,
  ⟨none, .len 119 (.tmp 118)⟩,
  ⟨none, .bin 120 .eql 3 (.tmp 119) (.const (.int .i64 0))⟩]
def Law_HeapApart_r32 : List GO := [
  ⟨none, .mov 10 (.const (.bool true))⟩]
def Law_HeapApart_r33 : List GO := [
  ⟨none, .mov 121 (.tmp 2)⟩,
  ⟨none, .conv 122 .u64 (.tmp 121)⟩,
  ⟨none, .mov 123 (.tmp 12)⟩,
  ⟨none, .len 124 (.tmp 123)⟩,
  ⟨none, .conv 125 .u64 (.tmp 124)⟩,
  ⟨none, .bin 126 .rem 119 (.tmp 122) (.tmp 125)⟩,
  ⟨none, .conv 127 .i64 (.tmp 126)⟩,
  ⟨none, .mov 23 (.tmp 127)⟩]
def Law_HeapApart_r34 : List GO := [
  ⟨none, .mov 24 (.const (.int .i64 (-1)))⟩]
def Law_HeapApart_r35 : List GO := [
  ⟨none, .mov 128 (.tmp 13)⟩,
  ⟨none, .mov 129 (.tmp 23)⟩,
  ⟨none, .idx 130 1 (.tmp 128) (.tmp 129)⟩,
  ⟨none, .load1 131 (.tmp 130)⟩,
  ⟨none, .len 132 (.tmp 131)⟩,
  ⟨none, .bin 133 .gtr 3 (.tmp 132) (.const (.int .i64 0))⟩]
def Law_HeapApart_r36 : List GO := [
  ⟨none, .mov 134 (.tmp 3)⟩,
  ⟨none, .conv 135 .u64 (.tmp 134)⟩,
  ⟨none, .mov 136 (.tmp 13)⟩,
  ⟨none, .mov 137 (.tmp 23)⟩,
  ⟨none, .idx 138 1 (.tmp 136) (.tmp 137)⟩,
  ⟨none, .load1 139 (.tmp 138)⟩,
  ⟨none, .len 140 (.tmp 139)⟩,
  ⟨none, .conv 141 .u64 (.tmp 140)⟩,
  ⟨none, .bin 142 .rem 119 (.tmp 135) (.tmp 141)⟩,
  ⟨none, .conv 143 .i64 (.tmp 142)⟩,
  ⟨none, .mov 24 (.tmp 143)⟩]
def Law_HeapApart_r37 : List GO := [
  ⟨none, .mov 144 (.tmp 11)⟩,
  ⟨none, .mov 145 (.tmp 12)⟩,
  ⟨none, .mov 146 (.tmp 23)⟩,
  ⟨none, .idx 147 4 (.tmp 145) (.tmp 146)⟩,
  ⟨none, .loadn 148 4 (.tmp 147)⟩,
  ⟨none, .mov 149 (.tmp 24)⟩,
  ⟨none, .mov 150 (.tmp 4)⟩,
  ⟨none, .build 151 [(.int .i64 0), (.int .i64 0), (.int .i64 0), (.int .i64 0)] [(0, (1, (.const (.int .i64 1)))), (3, (1, (.tmp 150)))]⟩,
  ⟨none, .call (some 152) 66 [(.tmp 144), (.tmp 148), (.tmp 149), (.tmp 151)]⟩,
  ⟨none, .bin 153 .neq 3 (.tmp 152) (.const (.int .i64 0))⟩]
def Law_HeapApart_r38 : List GO := [
  ⟨none, .mov 10 (.const (.bool false))⟩]
def Law_HeapApart_r39 : List GO := [
  ⟨none, .mov 25 (.const (.int .i64 0))⟩]
def Law_HeapApart_r40 : List GO := [
  ⟨none, .mov 154 (.tmp 25)⟩,
  ⟨none, .mov 155 (.tmp 12)⟩,
  ⟨none, .len 156 (.tmp 155)⟩,
  ⟨none, .bin 157 .lss 3 (.tmp 154) (.tmp 156)⟩]
def Law_HeapApart_r41 : List GO := [
  ⟨none, .mov 161 (.tmp 11)⟩,
  ⟨none, .mov 162 (.tmp 12)⟩,
  ⟨none, .mov 163 (.tmp 25)⟩,
  ⟨none, .idx 164 4 (.tmp 162) (.tmp 163)⟩,
  ⟨none, .loadn 165 4 (.tmp 164)⟩,
  ⟨none, .call (some 166) 68 [(.tmp 161), (.tmp 165)]⟩,
  ⟨none, .mov 160 (.tmp 166)⟩,
  ⟨none, .ext 167 (.tmp 160) 0⟩,
  ⟨none, .ext 168 (.tmp 160) 1⟩,
  ⟨none, .mov 26 (.tmp 167)⟩,
  ⟨none, .mov 27 (.tmp 168)⟩]
def Law_HeapApart_r42 : List GO := [
  ⟨none, .mov 169 (.tmp 27)⟩,
  ⟨none, .bin 170 .neq 3 (.tmp 169) (.const (.int .i64 0))⟩,
  ⟨none, .mov 171 (.tmp 170)⟩,
  ⟨some (171, false), .mov 172 (.tmp 26)⟩,
  ⟨some (171, false), .mov 173 (.tmp 13)⟩,
  ⟨some (171, false), .mov 174 (.tmp 25)⟩,
  ⟨some (171, false), .idx 175 1 (.tmp 173) (.tmp 174)⟩,
  ⟨some (171, false), .load1 176 (.tmp 175)⟩,
  ⟨some (171, false), .len 177 (.tmp 176)⟩,
  ⟨some (171, false), .bin 178 .neq 3 (.tmp 172) (.tmp 177)⟩,
  ⟨none, .pick 179 (.tmp 171) (.const (.bool true)) (.tmp 178)⟩]
def Law_HeapApart_r43 : List GO := [
  ⟨none, .mov 10 (.const (.bool false))⟩]
def Law_HeapApart_r44 : List GO := [
  ⟨none, .mov 28 (.const (.int .i64 0))⟩]
def Law_HeapApart_r45 : List GO := [
  ⟨none, .mov 180 (.tmp 28)⟩,
  ⟨none, .mov 181 (.tmp 13)⟩,
  ⟨none, .mov 182 (.tmp 25)⟩,
  ⟨none, .idx 183 1 (.tmp 181) (.tmp 182)⟩,
  ⟨none, .load1 184 (.tmp 183)⟩,
  ⟨none, .len 185 (.tmp 184)⟩,
  ⟨none, .bin 186 .lss 3 (.tmp 180) (.tmp 185)⟩]
def Law_HeapApart_r46 : List GO := [
  ⟨none, .mov 189 (.tmp 13)⟩,
  ⟨none, .mov 190 (.tmp 25)⟩,
  ⟨none, .idx 191 1 (.tmp 189) (.tmp 190)⟩,
  ⟨none, .load1 192 (.tmp 191)⟩,
  ⟨none, .mov 193 (.tmp 28)⟩,
  ⟨none, .idx 194 1 (.tmp 192) (.tmp 193)⟩,
  ⟨none, .load1 195 (.tmp 194)⟩,
  ⟨none, .mov 29 (.tmp 195)⟩]
def Law_HeapApart_r47 : List GO := [
  ⟨none, .mov 196 (.tmp 25)⟩,
  ⟨none, .mov 197 (.tmp 23)⟩,
  ⟨none, .bin 198 .eql 3 (.tmp 196) (.tmp 197)⟩,
  ⟨none, .mov 199 (.tmp 198)⟩,
  ⟨some (199, true), .mov 200 (.tmp 28)⟩,
  ⟨some (199, true), .mov 201 (.tmp 24)⟩,
  ⟨some (199, true), .bin 202 .eql 3 (.tmp 200) (.tmp 201)⟩,
  ⟨none, .pick 203 (.tmp 199) (.tmp 202) (.const (.bool false))⟩]
def Law_HeapApart_r48 : List GO := [
  ⟨none, .mov 204 (.tmp 4)⟩,
  ⟨none, .mov 29 (.tmp 204)⟩]
def Law_HeapApart_r49 : List GO := [
  ⟨none, .mov 206 (.tmp 11)⟩,
  ⟨none, .mov 207 (.tmp 12)⟩,
  ⟨none, .mov 208 (.tmp 25)⟩,
  ⟨none, .idx 209 4 (.tmp 207) (.tmp 208)⟩,
  ⟨none, .loadn 210 4 (.tmp 209)⟩,
  ⟨none, .mov 211 (.tmp 28)⟩,
  ⟨none, .call (some 212) 64 [(.tmp 206), (.tmp 210), (.tmp 211)]⟩,
  ⟨none, .mov 205 (.tmp 212)⟩,
  ⟨none, .ext 213 (.tmp 205) 0⟩,
  ⟨none, .ext 214 (.tmp 205) 1⟩,
  ⟨none, .alloc 30 96 [(.int .i64 0), (.int .i64 0), (.int .i64 0), (.int .i64 0)]⟩,
  ⟨none, .storen 4 (.tmp 30) (.tmp 213)⟩,
  ⟨none, .mov 31 (.tmp 214)⟩]
def Law_HeapApart_r50 : List GO := [
  ⟨none, .mov 215 (.tmp 31)⟩,
  ⟨none, .bin 216 .neq 3 (.tmp 215) (.const (.int .i64 0))⟩,
  ⟨none, .mov 217 (.tmp 216)⟩,
  ⟨some (217, false), .loadn 218 4 (.tmp 30)⟩,
  ⟨some (217, false), .mov 219 (.tmp 29)⟩,
  ⟨some (217, false), .build 220 [(.int .i64 0), (.int .i64 0), (.int .i64 0), (.int .i64 0)] [(0, (1, (.const (.int .i64 1)))), (3, (1, (.tmp 219)))]⟩,
  ⟨some (217, false), .bin 221 .neq 96 (.tmp 218) (.tmp 220)⟩,
  ⟨none, .pick 222 (.tmp 217) (.const (.bool true)) (.tmp 221)⟩]
def Law_HeapApart_r51 : List GO := [
  ⟨none, .mov 10 (.const (.bool false))⟩]
def Law_HeapApart_r52 : List GO := [
  ⟨none, .mov 187 (.tmp 28)⟩,
  ⟨none, .bin 188 .add 3 (.tmp 187) (.const (.int .i64 1))⟩,
  ⟨none, .mov 28 (.tmp 188)⟩]
def Law_HeapApart_b45 : LC := (.seq (.seq (.ops Law_HeapApart_r45) (.cond (.tmp 186) .skip (.exit 6))) (.seq (.block 7 (.seq (.ops Law_HeapApart_r46) (.seq (.seq (.ops Law_HeapApart_r47) (.cond (.tmp 203) (.ops Law_HeapApart_r48) .skip)) (.seq (.ops Law_HeapApart_r49) (.seq (.ops Law_HeapApart_r50) (.cond (.tmp 222) (.seq (.ops Law_HeapApart_r51) .ret) .skip)))))) (.ops Law_HeapApart_r52)))
def Law_HeapApart_r53 : List GO := [
  ⟨none, .mov 158 (.tmp 25)⟩,
  ⟨none, .bin 159 .add 3 (.tmp 158) (.const (.int .i64 1))⟩,
  ⟨none, .mov 25 (.tmp 159)⟩]
def Law_HeapApart_b40 : LC := (.seq (.seq (.ops Law_HeapApart_r40) (.cond (.tmp 157) .skip (.exit 4))) (.seq (.block 5 (.seq (.seq (.ops Law_HeapApart_r41) (.seq (.ops Law_HeapApart_r42) (.cond (.tmp 179) (.seq (.ops Law_HeapApart_r43) .ret) .skip))) (.seq (.ops Law_HeapApart_r44) (.block 6 (.loop Law_HeapApart_b45))))) (.ops Law_HeapApart_r53)))
def Law_HeapApart_r54 : List GO := [
  ⟨none, .mov 10 (.const (.bool true))⟩]
def Law_HeapApart_lc : LC := (.seq (.ops Law_HeapApart_r0) (.seq (.seq (.ops Law_HeapApart_r1) (.cond (.tmp 33) (.seq (.ops Law_HeapApart_r2) .ret) .skip)) (.seq (.seq (.ops Law_HeapApart_r3) (.cond (.tmp 44) (.seq (.ops Law_HeapApart_r4) .ret) .skip)) (.seq (.ops Law_HeapApart_r5) (.seq (.ops Law_HeapApart_r6) (.seq (.ops Law_HeapApart_r7) (.seq (.ops Law_HeapApart_r8) (.seq (.seq (.ops Law_HeapApart_r9) (.cond (.tmp 53) (.seq (.ops Law_HeapApart_r10) .ret) .skip)) (.seq (.seq (.ops Law_HeapApart_r11) (.block 0 (.loop Law_HeapApart_b12))) (.seq (.seq (.ops Law_HeapApart_r31) (.cond (.tmp 120) (.seq (.ops Law_HeapApart_r32) .ret) .skip)) (.seq (.ops Law_HeapApart_r33) (.seq (.ops Law_HeapApart_r34) (.seq (.seq (.ops Law_HeapApart_r35) (.cond (.tmp 133) (.seq (.ops Law_HeapApart_r36) (.seq (.ops Law_HeapApart_r37) (.cond (.tmp 153) (.seq (.ops Law_HeapApart_r38) .ret) .skip))) .skip)) (.seq (.seq (.ops Law_HeapApart_r39) (.block 4 (.loop Law_HeapApart_b40))) (.seq (.ops Law_HeapApart_r54) .ret)))))))))))))))
@[reducible] def Law_HeapApart : FuncId := 11
theorem Law_HeapApart_low : lowF Try.prog Try.f11 = some Law_HeapApart_lc := by kernel_rfl
theorem Law_HeapApart_in {a0 a1 a2 a3 a4 : Value} {w : World} {R : Ending → World → Prop} (h : Law_HeapApart_lc.wp Try.prog (retQ Try.prog [.tmp 10] R) (argEnv [a0, a1, a2, a3, a4]) w) : Calls Try.prog Law_HeapApart ⟨[a0, a1, a2, a3, a4]⟩ w R :=
  calls_of_low Try.func11 Law_HeapApart_low (by kernel_rfl) (by kernel_rfl) h

/- 12 -/
def Law_HeapGone_r0 : List GO := [
  ⟨none, .mov 6 (.const (.bool false))⟩]
def Law_HeapGone_r1 : List GO := [
  ⟨none, .call (some 32) 52 []⟩,
  ⟨none, .un 33 .not (.tmp 32)⟩]
def Law_HeapGone_r2 : List GO := [
  ⟨none, .mov 6 (.const (.bool false))⟩]
def Law_HeapGone_r3 : List GO := [
  ⟨none, .mov 34 (.tmp 1)⟩,
  ⟨none, .len 35 (.tmp 34)⟩,
  ⟨none, .bin 36 .gtr 3 (.tmp 35) (.const (.int .i64 100))⟩,
  ⟨none, .mov 37 (.tmp 36)⟩,
  ⟨some (37, false), .mov 38 (.tmp 2)⟩,
  ⟨some (37, false), .len 39 (.tmp 38)⟩,
  ⟨some (37, false), .bin 40 .gtr 3 (.tmp 39) (.const (.int .i64 100))⟩,
  ⟨none, .pick 41 (.tmp 37) (.const (.bool true)) (.tmp 40)⟩,
  ⟨none, .mov 42 (.tmp 41)⟩,
  ⟨some (42, false), .mov 43 (.tmp 0)⟩,
  ⟨some (42, false), .bin 44 .lss 3 (.tmp 43) (.const (.int .i64 0))⟩,
  ⟨none, .pick 45 (.tmp 42) (.const (.bool true)) (.tmp 44)⟩,
  ⟨none, .mov 46 (.tmp 45)⟩,
  ⟨some (46, false), .mov 47 (.tmp 0)⟩,
  ⟨some (46, false), .bin 48 .gtr 3 (.tmp 47) (.const (.int .i64 1000))⟩,
  ⟨none, .pick 49 (.tmp 46) (.const (.bool true)) (.tmp 48)⟩]
def Law_HeapGone_r4 : List GO := [
  ⟨none, .mov 6 (.const (.bool true))⟩]
def Law_HeapGone_r5 : List GO := [
  ⟨none, .mov 50 (.tmp 0)⟩,
  ⟨none, .call (some 51) 53 [(.tmp 50)]⟩,
  ⟨none, .mov 7 (.tmp 51)⟩]
def Law_HeapGone_r6 : List GO := [
  ⟨none, .mov 53 (.tmp 7)⟩,
  ⟨none, .call (some 54) 55 [(.tmp 53)]⟩,
  ⟨none, .mov 52 (.tmp 54)⟩,
  ⟨none, .ext 55 (.tmp 52) 0⟩,
  ⟨none, .ext 56 (.tmp 52) 1⟩,
  ⟨none, .alloc 8 96 [(.int .i64 0), (.int .i64 0), (.int .i64 0), (.int .i64 0)]⟩,
  ⟨none, .storen 4 (.tmp 8) (.tmp 55)⟩,
  ⟨none, .mov 9 (.tmp 56)⟩]
def Law_HeapGone_r7 : List GO := [
  ⟨none, .mov 58 (.tmp 7)⟩,
  ⟨none, .call (some 59) 55 [(.tmp 58)]⟩,
  ⟨none, .mov 57 (.tmp 59)⟩,
  ⟨none, .ext 60 (.tmp 57) 0⟩,
  ⟨none, .ext 61 (.tmp 57) 1⟩,
  ⟨none, .alloc 10 96 [(.int .i64 0), (.int .i64 0), (.int .i64 0), (.int .i64 0)]⟩,
  ⟨none, .storen 4 (.tmp 10) (.tmp 60)⟩,
  ⟨none, .mov 11 (.tmp 61)⟩]
def Law_HeapGone_r8 : List GO := [
  ⟨none, .mov 12 (.const (.slice none 0 0))⟩,
  ⟨none, .mov 13 (.const (.slice none 0 0))⟩]
def Law_HeapGone_r9 : List GO := [
  ⟨none, .mov 14 (.const (.int .i64 0))⟩]
def Law_HeapGone_r10 : List GO := [
  ⟨none, .mov 62 (.tmp 14)⟩,
  ⟨none, .mov 63 (.tmp 1)⟩,
  ⟨none, .len 64 (.tmp 63)⟩,
  ⟨none, .bin 65 .lss 3 (.tmp 62) (.tmp 64)⟩]
def Law_HeapGone_r11 : List GO := [
  ⟨none, .mov 68 (.tmp 12)⟩,
  ⟨none, .mov 69 (.tmp 1)⟩,
  ⟨none, .mov 70 (.tmp 14)⟩,
  ⟨none, .idx 71 1 (.tmp 69) (.tmp 70)⟩,
  ⟨none, .load1 72 (.tmp 71)⟩,
  ⟨none, .build 73 [(.int .i64 0), (.int .i64 0), (.int .i64 0), (.int .i64 0)] [(0, (1, (.const (.int .i64 1)))), (3, (1, (.tmp 72)))]⟩,
  ⟨none, .buildS 74 96 1 [(.int .i64 0), (.int .i64 0), (.int .i64 0), (.int .i64 0)] [(0, (4, (.tmp 73)))]⟩,
  ⟨none, .raw ⟨(some 75), (.call ⟨(.builtin .append), #[(.tmp 68), (.tmp 74)], #[104, 104]⟩), 104, "", #[], none⟩⟩,
  ⟨none, .mov 12 (.tmp 75)⟩]
def Law_HeapGone_r12 : List GO := [
  ⟨none, .mov 66 (.tmp 14)⟩,
  ⟨none, .bin 67 .add 3 (.tmp 66) (.const (.int .i64 1))⟩,
  ⟨none, .mov 14 (.tmp 67)⟩]
def Law_HeapGone_b10 : LC := (.seq (.seq (.ops Law_HeapGone_r10) (.cond (.tmp 65) .skip (.exit 0))) (.seq (.block 1 (.ops Law_HeapGone_r11)) (.ops Law_HeapGone_r12)))
def Law_HeapGone_r13 : List GO := [
  ⟨none, .mov 15 (.const (.int .i64 0))⟩]
def Law_HeapGone_r14 : List GO := [
  ⟨none, .mov 76 (.tmp 15)⟩,
  ⟨none, .mov 77 (.tmp 2)⟩,
  ⟨none, .len 78 (.tmp 77)⟩,
  ⟨none, .bin 79 .lss 3 (.tmp 76) (.tmp 78)⟩]
def Law_HeapGone_r15 : List GO := [
  ⟨none, .mov 82 (.tmp 13)⟩,
  ⟨none, .mov 83 (.tmp 2)⟩,
  ⟨none, .mov 84 (.tmp 15)⟩,
  ⟨none, .idx 85 1 (.tmp 83) (.tmp 84)⟩,
  ⟨none, .load1 86 (.tmp 85)⟩,
  ⟨none, .build 87 [(.int .i64 0), (.int .i64 0), (.int .i64 0), (.int .i64 0)] [(0, (1, (.const (.int .i64 1)))), (3, (1, (.tmp 86)))]⟩,
  ⟨none, .buildS 88 96 1 [(.int .i64 0), (.int .i64 0), (.int .i64 0), (.int .i64 0)] [(0, (4, (.tmp 87)))]⟩,
  ⟨none, .raw ⟨(some 89), (.call ⟨(.builtin .append), #[(.tmp 82), (.tmp 88)], #[104, 104]⟩), 104, "", #[], none⟩⟩,
  ⟨none, .mov 13 (.tmp 89)⟩]
def Law_HeapGone_r16 : List GO := [
  ⟨none, .mov 80 (.tmp 15)⟩,
  ⟨none, .bin 81 .add 3 (.tmp 80) (.const (.int .i64 1))⟩,
  ⟨none, .mov 15 (.tmp 81)⟩]
def Law_HeapGone_b14 : LC := (.seq (.seq (.ops Law_HeapGone_r14) (.cond (.tmp 79) .skip (.exit 2))) (.seq (.block 3 (.ops Law_HeapGone_r15)) (.ops Law_HeapGone_r16)))
def Law_HeapGone_r17 : List GO := [
  ⟨none, .mov 91 (.tmp 7)⟩,
  ⟨none, .loadn 92 4 (.tmp 10)⟩,
  ⟨none, .mov 93 (.tmp 13)⟩,
  ⟨none, .call (some 94) 60 [(.tmp 91), (.tmp 92), (.tmp 93)]⟩,
  ⟨none, .mov 90 (.tmp 94)⟩,
  ⟨none, .ext 95 (.tmp 90) 0⟩,
  ⟨none, .ext 96 (.tmp 90) 1⟩,
  ⟨none, .alloc 16 96 [(.int .i64 0), (.int .i64 0), (.int .i64 0), (.int .i64 0)]⟩,
  ⟨none, .storen 4 (.tmp 16) (.tmp 95)⟩,
  ⟨none, .mov 17 (.tmp 96)⟩]
def Law_HeapGone_r18 : List GO := [
  ⟨none, .mov 97 (.tmp 7)⟩,
  ⟨none, .call (some 98) 70 [(.tmp 97)]⟩,
  ⟨none, .mov 18 (.tmp 98)⟩]
def Law_HeapGone_r19 : List GO := [
  ⟨none, .mov 100 (.tmp 7)⟩,
  ⟨none, .loadn 101 4 (.tmp 8)⟩,
  ⟨none, .mov 102 (.tmp 12)⟩,
  ⟨none, .call (some 103) 60 [(.tmp 100), (.tmp 101), (.tmp 102)]⟩,
  ⟨none, .mov 99 (.tmp 103)⟩,
  ⟨none, .ext 104 (.tmp 99) 0⟩,
  ⟨none, .ext 105 (.tmp 99) 1⟩,
  ⟨none, .alloc 19 96 [(.int .i64 0), (.int .i64 0), (.int .i64 0), (.int .i64 0)]⟩,
  ⟨none, .storen 4 (.tmp 19) (.tmp 104)⟩,
  ⟨none, .mov 20 (.tmp 105)⟩]
def Law_HeapGone_r20 : List GO := [
  ⟨none, .mov 106 (.tmp 7)⟩,
  ⟨none, .loadn 107 4 (.tmp 8)⟩,
  ⟨none, .call (some 108) 57 [(.tmp 106), (.tmp 107)]⟩,
  ⟨none, .un 109 .not (.tmp 108)⟩,
  ⟨none, .mov 110 (.tmp 109)⟩,
  ⟨some (110, false), .mov 111 (.tmp 7)⟩,
  ⟨some (110, false), .loadn 112 4 (.tmp 8)⟩,
  ⟨some (110, false), .call (some 113) 57 [(.tmp 111), (.tmp 112)]⟩,
  ⟨none, .pick 114 (.tmp 110) (.const (.bool true)) (.tmp 113)⟩,
  ⟨none, .mov 115 (.tmp 114)⟩,
  ⟨some (115, false), .mov 116 (.tmp 7)⟩,
  ⟨some (115, false), .call (some 117) 70 [(.tmp 116)]⟩,
  ⟨some (115, false), .mov 118 (.tmp 18)⟩,
  ⟨some (115, false), .bin 119 .neq 3 (.tmp 117) (.tmp 118)⟩,
  ⟨none, .pick 120 (.tmp 115) (.const (.bool true)) (.tmp 119)⟩,
  ⟨none, .mov 121 (.tmp 120)⟩,
  ⟨some (121, false), .mov 122 (.tmp 7)⟩,
  ⟨some (121, false), .call (some 123) 71 [(.tmp 122)]⟩,
  ⟨some (121, false), .bin 124 .neq 3 (.tmp 123) (.const (.int .i64 1))⟩,
  ⟨none, .pick 125 (.tmp 121) (.const (.bool true)) (.tmp 124)⟩]
def Law_HeapGone_r21 : List GO := [
  ⟨none, .mov 6 (.const (.bool false))⟩]
def Law_HeapGone_r22 : List GO := [
  ⟨none, .mov 127 (.tmp 7)⟩,
  ⟨none, .loadn 128 4 (.tmp 19)⟩,
  ⟨none, .call (some 129) 64 [(.tmp 127), (.tmp 128), (.const (.int .i64 0))]⟩,
  ⟨none, .mov 126 (.tmp 129)⟩,
  ⟨none, .ext 130 (.tmp 126) 0⟩,
  ⟨none, .ext 131 (.tmp 126) 1⟩,
  ⟨none, .alloc 21 96 [(.int .i64 0), (.int .i64 0), (.int .i64 0), (.int .i64 0)]⟩,
  ⟨none, .storen 4 (.tmp 21) (.tmp 130)⟩,
  ⟨none, .mov 22 (.tmp 131)⟩]
def Law_HeapGone_r23 : List GO := [
  ⟨none, .mov 133 (.tmp 7)⟩,
  ⟨none, .loadn 134 4 (.tmp 19)⟩,
  ⟨none, .call (some 135) 68 [(.tmp 133), (.tmp 134)]⟩,
  ⟨none, .mov 132 (.tmp 135)⟩,
  ⟨none, .ext 136 (.tmp 132) 0⟩,
  ⟨none, .ext 137 (.tmp 132) 1⟩,
  ⟨none, .mov 23 (.tmp 136)⟩,
  ⟨none, .mov 24 (.tmp 137)⟩]
def Law_HeapGone_r24 : List GO := [
  ⟨none, .mov 139 (.tmp 7)⟩,
  ⟨none, .loadn 140 4 (.tmp 8)⟩,
  ⟨none, .call (some 141) 60 [(.tmp 139), (.tmp 140), (.const (.slice none 0 0))]⟩,
  ⟨none, .mov 138 (.tmp 141)⟩,
  ⟨none, .ext 142 (.tmp 138) 0⟩,
  ⟨none, .ext 143 (.tmp 138) 1⟩,
  ⟨none, .alloc 25 96 [(.int .i64 0), (.int .i64 0), (.int .i64 0), (.int .i64 0)]⟩,
  ⟨none, .storen 4 (.tmp 25) (.tmp 142)⟩,
  ⟨none, .mov 26 (.tmp 143)⟩]
def Law_HeapGone_r25 : List GO := [
  ⟨none, .mov 145 (.tmp 7)⟩,
  ⟨none, .loadn 146 4 (.tmp 8)⟩,
  ⟨none, .call (some 147) 62 [(.tmp 145), (.tmp 146), (.const (.int .i64 0))]⟩,
  ⟨none, .mov 144 (.tmp 147)⟩,
  ⟨none, .ext 148 (.tmp 144) 0⟩,
  ⟨none, .ext 149 (.tmp 144) 1⟩,
  ⟨none, .alloc 27 96 [(.int .i64 0), (.int .i64 0), (.int .i64 0), (.int .i64 0)]⟩,
  ⟨none, .storen 4 (.tmp 27) (.tmp 148)⟩,
  ⟨none, .mov 28 (.tmp 149)⟩]
def Law_HeapGone_r26 : List GO := [
  ⟨none, .mov 150 (.tmp 20)⟩,
  ⟨none, .bin 151 .eql 3 (.tmp 150) (.const (.int .i64 0))⟩,
  ⟨none, .mov 152 (.tmp 151)⟩,
  ⟨some (152, true), .mov 153 (.tmp 22)⟩,
  ⟨some (152, true), .bin 154 .neq 3 (.tmp 153) (.const (.int .i64 20))⟩,
  ⟨some (152, true), .mov 155 (.tmp 154)⟩,
  ⟨some (155, false), .mov 156 (.tmp 24)⟩,
  ⟨some (155, false), .bin 157 .neq 3 (.tmp 156) (.const (.int .i64 20))⟩,
  ⟨some (152, true), .pick 158 (.tmp 155) (.const (.bool true)) (.tmp 157)⟩,
  ⟨some (152, true), .mov 159 (.tmp 158)⟩,
  ⟨some (159, false), .mov 160 (.tmp 7)⟩,
  ⟨some (159, false), .loadn 161 4 (.tmp 19)⟩,
  ⟨some (159, false), .loadn 162 4 (.tmp 16)⟩,
  ⟨some (159, false), .call (some 163) 66 [(.tmp 160), (.tmp 161), (.const (.int .i64 0)), (.tmp 162)]⟩,
  ⟨some (159, false), .bin 164 .neq 3 (.tmp 163) (.const (.int .i64 20))⟩,
  ⟨some (152, true), .pick 165 (.tmp 159) (.const (.bool true)) (.tmp 164)⟩,
  ⟨none, .pick 166 (.tmp 152) (.tmp 165) (.const (.bool false))⟩,
  ⟨none, .mov 167 (.tmp 166)⟩,
  ⟨some (167, false), .mov 168 (.tmp 26)⟩,
  ⟨some (167, false), .bin 169 .neq 3 (.tmp 168) (.const (.int .i64 20))⟩,
  ⟨none, .pick 170 (.tmp 167) (.const (.bool true)) (.tmp 169)⟩,
  ⟨none, .mov 171 (.tmp 170)⟩,
  ⟨some (171, false), .mov 172 (.tmp 28)⟩,
  ⟨some (171, false), .bin 173 .neq 3 (.tmp 172) (.const (.int .i64 20))⟩,
  ⟨none, .pick 174 (.tmp 171) (.const (.bool true)) (.tmp 173)⟩]
def Law_HeapGone_r27 : List GO := [
  ⟨none, .mov 6 (.const (.bool false))⟩]
def Law_HeapGone_r28 : List GO := [
  ⟨none, .mov 29 (.const (.int .i64 0))⟩]
def Law_HeapGone_r29 : List GO := [
  ⟨none, .mov 175 (.tmp 29)⟩,
  ⟨none, .mov 176 (.tmp 2)⟩,
  ⟨none, .len 177 (.tmp 176)⟩,
  ⟨none, .bin 178 .lss 3 (.tmp 175) (.tmp 177)⟩,
  ⟨none, .mov 179 (.tmp 178)⟩,
  ⟨some (179, true), .mov 180 (.tmp 17)⟩,
  ⟨some (179, true), .bin 181 .eql 3 (.tmp 180) (.const (.int .i64 0))⟩,
  ⟨none, .pick 182 (.tmp 179) (.tmp 181) (.const (.bool false))⟩]
def Law_HeapGone_r30 : List GO := [
  ⟨none, .mov 186 (.tmp 7)⟩,
  ⟨none, .loadn 187 4 (.tmp 16)⟩,
  ⟨none, .mov 188 (.tmp 29)⟩,
  ⟨none, .call (some 189) 64 [(.tmp 186), (.tmp 187), (.tmp 188)]⟩,
  ⟨none, .mov 185 (.tmp 189)⟩,
  ⟨none, .ext 190 (.tmp 185) 0⟩,
  ⟨none, .ext 191 (.tmp 185) 1⟩,
  ⟨none, .alloc 30 96 [(.int .i64 0), (.int .i64 0), (.int .i64 0), (.int .i64 0)]⟩,
  ⟨none, .storen 4 (.tmp 30) (.tmp 190)⟩,
  ⟨none, .mov 31 (.tmp 191)⟩]
def Law_HeapGone_r31 : List GO := [
  ⟨none, .mov 192 (.tmp 31)⟩,
  ⟨none, .bin 193 .neq 3 (.tmp 192) (.const (.int .i64 0))⟩,
  ⟨none, .mov 194 (.tmp 193)⟩,
  ⟨some (194, false), .fld 195 (.tmp 30) 3⟩,
  ⟨some (194, false), .load1 196 (.tmp 195)⟩,
  ⟨some (194, false), .mov 197 (.tmp 2)⟩,
  ⟨some (194, false), .mov 198 (.tmp 29)⟩,
  ⟨some (194, false), .idx 199 1 (.tmp 197) (.tmp 198)⟩,
  ⟨some (194, false), .load1 200 (.tmp 199)⟩,
  ⟨some (194, false), .bin 201 .neq 2 (.tmp 196) (.tmp 200)⟩,
  ⟨none, .pick 202 (.tmp 194) (.const (.bool true)) (.tmp 201)⟩]
def Law_HeapGone_e31 : List (List Nat) := [[], [0], [1], [2], [3, 2], [2], [2], [5, 6, 2], [7, 2], [4, 8, 2], [2, 9]]
def Law_HeapGone_r32 : List GO := [
  ⟨none, .mov 6 (.const (.bool false))⟩]
def Law_HeapGone_r33 : List GO := [
  ⟨none, .mov 183 (.tmp 29)⟩,
  ⟨none, .bin 184 .add 3 (.tmp 183) (.const (.int .i64 1))⟩,
  ⟨none, .mov 29 (.tmp 184)⟩]
def Law_HeapGone_b29 : LC := (.seq (.seq (.ops Law_HeapGone_r29) (.cond (.tmp 182) .skip (.exit 4))) (.seq (.block 5 (.seq (.ops Law_HeapGone_r30) (.seq (.draw Law_HeapGone_r31 Law_HeapGone_e31) (.cond (.tmp 202) (.seq (.ops Law_HeapGone_r32) .ret) .skip)))) (.ops Law_HeapGone_r33)))
def Law_HeapGone_r34 : List GO := [
  ⟨none, .mov 6 (.const (.bool true))⟩]
def Law_HeapGone_lc : LC := (.seq (.ops Law_HeapGone_r0) (.seq (.seq (.ops Law_HeapGone_r1) (.cond (.tmp 33) (.seq (.ops Law_HeapGone_r2) .ret) .skip)) (.seq (.seq (.ops Law_HeapGone_r3) (.cond (.tmp 49) (.seq (.ops Law_HeapGone_r4) .ret) .skip)) (.seq (.ops Law_HeapGone_r5) (.seq (.ops Law_HeapGone_r6) (.seq (.ops Law_HeapGone_r7) (.seq (.ops Law_HeapGone_r8) (.seq (.seq (.ops Law_HeapGone_r9) (.block 0 (.loop Law_HeapGone_b10))) (.seq (.seq (.ops Law_HeapGone_r13) (.block 2 (.loop Law_HeapGone_b14))) (.seq (.ops Law_HeapGone_r17) (.seq (.ops Law_HeapGone_r18) (.seq (.ops Law_HeapGone_r19) (.seq (.seq (.ops Law_HeapGone_r20) (.cond (.tmp 125) (.seq (.ops Law_HeapGone_r21) .ret) .skip)) (.seq (.ops Law_HeapGone_r22) (.seq (.ops Law_HeapGone_r23) (.seq (.ops Law_HeapGone_r24) (.seq (.ops Law_HeapGone_r25) (.seq (.seq (.ops Law_HeapGone_r26) (.cond (.tmp 174) (.seq (.ops Law_HeapGone_r27) .ret) .skip)) (.seq (.seq (.ops Law_HeapGone_r28) (.block 4 (.loop Law_HeapGone_b29))) (.seq (.ops Law_HeapGone_r34) .ret))))))))))))))))))))
@[reducible] def Law_HeapGone : FuncId := 12
theorem Law_HeapGone_low : lowF Try.prog Try.f12 = some Law_HeapGone_lc := by kernel_rfl
theorem Law_HeapGone_in {a0 a1 a2 : Value} {w : World} {R : Ending → World → Prop} (h : Law_HeapGone_lc.wp Try.prog (retQ Try.prog [.tmp 6] R) (argEnv [a0, a1, a2]) w) : Calls Try.prog Law_HeapGone ⟨[a0, a1, a2]⟩ w R :=
  calls_of_low Try.func12 Law_HeapGone_low (by kernel_rfl) (by kernel_rfl) h

/- 52 -/
def Law_heapBegun_r0 : List GO := [
  ⟨none, .mov 0 (.const (.bool false))⟩]
def Law_heapBegun_r1 : List GO := [
  ⟨none, .call (some 12) 53 [(.const (.int .i64 1))]⟩,
  ⟨none, .mov 1 (.tmp 12)⟩]
def Law_heapBegun_r2 : List GO := [
  ⟨none, .mov 14 (.tmp 1)⟩,
  ⟨none, .call (some 15) 55 [(.tmp 14)]⟩,
  ⟨none, .mov 13 (.tmp 15)⟩,
  ⟨none, .ext 16 (.tmp 13) 0⟩,
  ⟨none, .ext 17 (.tmp 13) 1⟩,
  ⟨none, .alloc 2 96 [(.int .i64 0), (.int .i64 0), (.int .i64 0), (.int .i64 0)]⟩,
  ⟨none, .storen 4 (.tmp 2) (.tmp 16)⟩,
  ⟨none, .mov 3 (.tmp 17)⟩]
def Law_heapBegun_r3 : List GO := [
  ⟨none, .mov 19 (.tmp 1)⟩,
  ⟨none, .loadn 20 4 (.tmp 2)⟩,
  ⟨none, .build 21 [(.int .i64 0), (.int .i64 0), (.int .i64 0), (.int .i64 0)] [(0, (1, (.const (.int .i64 1)))), (3, (1, (.const (.int .i64 5))))]⟩,
  ⟨none, .buildS 22 96 1 [(.int .i64 0), (.int .i64 0), (.int .i64 0), (.int .i64 0)] [(0, (4, (.tmp 21)))]⟩,
  ⟨none, .call (some 23) 60 [(.tmp 19), (.tmp 20), (.tmp 22)]⟩,
  ⟨none, .mov 18 (.tmp 23)⟩,
  ⟨none, .ext 24 (.tmp 18) 0⟩,
  ⟨none, .ext 25 (.tmp 18) 1⟩,
  ⟨none, .alloc 4 96 [(.int .i64 0), (.int .i64 0), (.int .i64 0), (.int .i64 0)]⟩,
  ⟨none, .storen 4 (.tmp 4) (.tmp 24)⟩,
  ⟨none, .mov 5 (.tmp 25)⟩]
def Law_heapBegun_r4 : List GO := [
  ⟨none, .mov 27 (.tmp 1)⟩,
  ⟨none, .loadn 28 4 (.tmp 4)⟩,
  ⟨none, .call (some 29) 64 [(.tmp 27), (.tmp 28), (.const (.int .i64 0))]⟩,
  ⟨none, .mov 26 (.tmp 29)⟩,
  ⟨none, .ext 30 (.tmp 26) 0⟩,
  ⟨none, .ext 31 (.tmp 26) 1⟩,
  ⟨none, .alloc 6 96 [(.int .i64 0), (.int .i64 0), (.int .i64 0), (.int .i64 0)]⟩,
  ⟨none, .storen 4 (.tmp 6) (.tmp 30)⟩,
  ⟨none, .mov 7 (.tmp 31)⟩]
def Law_heapBegun_r5 : List GO := [
  ⟨none, .mov 33 (.tmp 1)⟩,
  ⟨none, .loadn 34 4 (.tmp 2)⟩,
  ⟨none, .call (some 35) 62 [(.tmp 33), (.tmp 34), (.const (.int .i64 15))]⟩,
  ⟨none, .mov 32 (.tmp 35)⟩,
  ⟨none, .ext 36 (.tmp 32) 0⟩,
  ⟨none, .ext 37 (.tmp 32) 1⟩,
  ⟨none, .alloc 8 96 [(.int .i64 0), (.int .i64 0), (.int .i64 0), (.int .i64 0)]⟩,
  ⟨none, .storen 4 (.tmp 8) (.tmp 36)⟩,
  ⟨none, .mov 9 (.tmp 37)⟩]
def Law_heapBegun_r6 : List GO := [
  ⟨none, .mov 39 (.tmp 1)⟩,
  ⟨none, .loadn 40 4 (.tmp 2)⟩,
  ⟨none, .call (some 41) 62 [(.tmp 39), (.tmp 40), (.const (.int .i64 14))]⟩,
  ⟨none, .mov 38 (.tmp 41)⟩,
  ⟨none, .ext 42 (.tmp 38) 0⟩,
  ⟨none, .ext 43 (.tmp 38) 1⟩,
  ⟨none, .alloc 10 96 [(.int .i64 0), (.int .i64 0), (.int .i64 0), (.int .i64 0)]⟩,
  ⟨none, .storen 4 (.tmp 10) (.tmp 42)⟩,
  ⟨none, .mov 11 (.tmp 43)⟩]
def Law_heapBegun_r7 : List GO := [
  ⟨none, .mov 44 (.tmp 3)⟩,
  ⟨none, .mov 45 (.tmp 44)⟩,
  ⟨some (45, true), .mov 46 (.tmp 5)⟩,
  ⟨some (45, true), .bin 47 .eql 3 (.tmp 46) (.const (.int .i64 0))⟩,
  ⟨none, .pick 48 (.tmp 45) (.tmp 47) (.const (.bool false))⟩,
  ⟨none, .mov 49 (.tmp 48)⟩,
  ⟨some (49, true), .mov 50 (.tmp 7)⟩,
  ⟨some (49, true), .bin 51 .eql 3 (.tmp 50) (.const (.int .i64 0))⟩,
  ⟨none, .pick 52 (.tmp 49) (.tmp 51) (.const (.bool false))⟩,
  ⟨none, .mov 53 (.tmp 52)⟩,
  ⟨some (53, true), .fld 54 (.tmp 6) 3⟩,
  ⟨some (53, true), .load1 55 (.tmp 54)⟩,
  ⟨some (53, true), .bin 56 .eql 2 (.tmp 55) (.const (.int .i64 5))⟩,
  ⟨none, .pick 57 (.tmp 53) (.tmp 56) (.const (.bool false))⟩,
  ⟨none, .mov 58 (.tmp 57)⟩,
  ⟨some (58, true), .mov 59 (.tmp 9)⟩,
  ⟨some (58, true), .bin 60 .eql 3 (.tmp 59) (.const (.int .i64 14))⟩,
  ⟨none, .pick 61 (.tmp 58) (.tmp 60) (.const (.bool false))⟩,
  ⟨none, .mov 62 (.tmp 61)⟩,
  ⟨some (62, true), .mov 63 (.tmp 11)⟩,
  ⟨some (62, true), .bin 64 .eql 3 (.tmp 63) (.const (.int .i64 0))⟩,
  ⟨none, .pick 65 (.tmp 62) (.tmp 64) (.const (.bool false))⟩,
  ⟨none, .mov 66 (.tmp 65)⟩,
  ⟨some (66, true), .mov 67 (.tmp 1)⟩,
  ⟨some (66, true), .loadn 68 4 (.tmp 2)⟩,
  ⟨some (66, true), .call (some 69) 57 [(.tmp 67), (.tmp 68)]⟩,
  ⟨none, .pick 70 (.tmp 66) (.tmp 69) (.const (.bool false))⟩,
  ⟨none, .mov 71 (.tmp 70)⟩,
  ⟨some (71, true), .mov 72 (.tmp 1)⟩,
  ⟨some (71, true), .call (some 73) 70 [(.tmp 72)]⟩,
  ⟨some (71, true), .bin 74 .eql 3 (.tmp 73) (.const (.int .i64 1))⟩,
  ⟨none, .pick 75 (.tmp 71) (.tmp 74) (.const (.bool false))⟩,
  ⟨none, .mov 76 (.tmp 75)⟩,
  ⟨some (76, true), .mov 77 (.tmp 1)⟩,
  ⟨some (76, true), .call (some 78) 71 [(.tmp 77)]⟩,
  ⟨some (76, true), .bin 79 .eql 3 (.tmp 78) (.const (.int .i64 0))⟩,
  ⟨none, .pick 80 (.tmp 76) (.tmp 79) (.const (.bool false))⟩,
  ⟨none, .mov 0 (.tmp 80)⟩]
def Law_heapBegun_lc : LC := (.seq (.ops Law_heapBegun_r0) (.seq (.ops Law_heapBegun_r1) (.seq (.ops Law_heapBegun_r2) (.seq (.ops Law_heapBegun_r3) (.seq (.ops Law_heapBegun_r4) (.seq (.ops Law_heapBegun_r5) (.seq (.ops Law_heapBegun_r6) (.seq (.ops Law_heapBegun_r7) .ret))))))))
@[reducible] def Law_heapBegun : FuncId := 52
theorem Law_heapBegun_low : lowF Try.prog Try.f52 = some Law_heapBegun_lc := by kernel_rfl
theorem Law_heapBegun_in {w : World} {R : Ending → World → Prop} (h : Law_heapBegun_lc.wp Try.prog (retQ Try.prog [.tmp 0] R) (argEnv []) w) : Calls Try.prog Law_heapBegun ⟨[]⟩ w R :=
  calls_of_low Try.func52 Law_heapBegun_low (by kernel_rfl) (by kernel_rfl) h

/- 53 -/
def heap_New_r0 : List GO := [
  ⟨none, .mov 2 (.const (.pointer none))⟩]
def heap_New_r1 : List GO := [
  ⟨none, .mov 3 (.tmp 0)⟩,
  ⟨none, .build 4 [(.slice none 0 0), (.int .i64 0), (.int .i64 0)] [(1, (1, (.tmp 3)))]⟩,
  ⟨none, .box 5 139 (.tmp 4)⟩,
  ⟨none, .mov 2 (.tmp 5)⟩]
def heap_New_lc : LC := (.seq (.ops heap_New_r0) (.seq (.ops heap_New_r1) .ret))
@[reducible] def heap_New : FuncId := 53
theorem heap_New_low : lowF Try.prog Try.f53 = some heap_New_lc := by kernel_rfl
theorem heap_New_in {a0 : Value} {w : World} {R : Ending → World → Prop} (h : heap_New_lc.wp Try.prog (retQ Try.prog [.tmp 2] R) (argEnv [a0]) w) : Calls Try.prog heap_New ⟨[a0]⟩ w R :=
  calls_of_low Try.func53 heap_New_low (by kernel_rfl) (by kernel_rfl) h

/- 54 -/
def Law_value_r0 : List GO := [
  ⟨none, .alloc 4 85 [(.int .i64 0), (.int .i64 0), (.int .i64 0), (.int .i64 0)]⟩]
def Law_value_r1 : List GO := [
  ⟨none, .mov 5 (.tmp 1)⟩,
  ⟨none, .bin 6 .geq 3 (.tmp 5) (.const (.int .i64 0))⟩,
  ⟨none, .mov 7 (.tmp 6)⟩,
  ⟨some (7, true), .mov 8 (.tmp 1)⟩,
  ⟨some (7, true), .mov 9 (.tmp 0)⟩,
  ⟨some (7, true), .len 10 (.tmp 9)⟩,
  ⟨some (7, true), .bin 11 .lss 3 (.tmp 8) (.tmp 10)⟩,
  ⟨none, .pick 12 (.tmp 7) (.tmp 11) (.const (.bool false))⟩]
def Law_value_r2 : List GO := [
  ⟨none, .mov 13 (.tmp 0)⟩,
  ⟨none, .mov 14 (.tmp 1)⟩,
  ⟨none, .idx 15 4 (.tmp 13) (.tmp 14)⟩,
  ⟨none, .loadn 16 4 (.tmp 15)⟩,
  ⟨none, .storen 4 (.tmp 4) (.tmp 16)⟩]
def Law_value_r3 : List GO := [
  ⟨none, .mov 17 (.tmp 1)⟩,
  ⟨none, .build 18 [(.int .i64 0), (.int .i64 0), (.int .i64 0), (.int .i64 0)] [(0, (1, (.const (.int .i64 1)))), (3, (1, (.tmp 17)))]⟩,
  ⟨none, .storen 4 (.tmp 4) (.tmp 18)⟩]
def Law_value_lc : LC := (.seq (.ops Law_value_r0) (.seq (.seq (.ops Law_value_r1) (.cond (.tmp 12) (.seq (.ops Law_value_r2) .ret) .skip)) (.seq (.ops Law_value_r3) .ret)))
@[reducible] def Law_value : FuncId := 54
theorem Law_value_low : lowF Try.prog Try.f54 = some Law_value_lc := by kernel_rfl
theorem Law_value_in {a0 a1 : Value} {w : World} {R : Ending → World → Prop} (h : Law_value_lc.wp Try.prog (retQ Try.prog [.cell 4 85] R) (argEnv [a0, a1]) w) : Calls Try.prog Law_value ⟨[a0, a1]⟩ w R :=
  calls_of_low Try.func54 Law_value_low (by kernel_rfl) (by kernel_rfl) h

/- 55 -/
def heap_Heap_Open_r0 : List GO := [
  ⟨none, .alloc 2 96 [(.int .i64 0), (.int .i64 0), (.int .i64 0), (.int .i64 0)]⟩,
  ⟨none, .mov 3 (.const (.bool false))⟩]
def heap_Heap_Open_r1 : List GO := [
  ⟨none, .mov 4 (.tmp 0)⟩,
  ⟨none, .nilc 5 (.tmp 4)⟩,
  ⟨none, .fld 6 (.tmp 5) 2⟩,
  ⟨none, .load1 7 (.tmp 6)⟩,
  ⟨none, .bin 8 .eql 3 (.tmp 7) (.const (.int .i64 16))⟩]
def heap_Heap_Open_r2 : List GO := [
  ⟨none, .build 9 [(.int .i64 0), (.int .i64 0), (.int .i64 0), (.int .i64 0)] []⟩,
  ⟨none, .storen 4 (.tmp 2) (.tmp 9)⟩,
  ⟨none, .mov 3 (.const (.bool false))⟩]
def heap_Heap_Open_r3 : List GO := [
  ⟨none, .mov 10 (.tmp 0)⟩,
  ⟨none, .nilc 11 (.tmp 10)⟩,
  ⟨none, .fld 12 (.tmp 11) 2⟩,
  ⟨none, .load1 13 (.tmp 12)⟩,
  ⟨none, .bin 14 .add 3 (.tmp 13) (.const (.int .i64 1))⟩,
  ⟨none, .nilc 15 (.tmp 10)⟩,
  ⟨none, .fld 16 (.tmp 15) 2⟩,
  ⟨none, .store1 (.tmp 16) (.tmp 14)⟩]
def heap_Heap_Open_r4 : List GO := [
  ⟨none, .mov 17 (.tmp 0)⟩,
  ⟨none, .mov 18 (.tmp 0)⟩,
  ⟨none, .nilc 19 (.tmp 18)⟩,
  ⟨none, .fld 20 (.tmp 19) 0⟩,
  ⟨none, .load1 21 (.tmp 20)⟩,
  ⟨none, .build 22 [(.bool false), (.slice none 0 0), (.int .i64 0), (.int .i64 0)] [(0, (1, (.const (.bool true))))]⟩,
  ⟨none, .buildS 23 142 1 [(.bool false), (.slice none 0 0), (.int .i64 0), (.int .i64 0)] [(0, (4, (.tmp 22)))]⟩,
  ⟨none, .raw ⟨(some 24), (.call ⟨(.builtin .append), #[(.tmp 21), (.tmp 23)], #[137, 137]⟩), 137, "", #[], none⟩⟩,
  ⟨none, .nilc 25 (.tmp 17)⟩,
  ⟨none, .fld 26 (.tmp 25) 0⟩,
  ⟨none, .store1 (.tmp 26) (.tmp 24)⟩]
def heap_Heap_Open_r5 : List GO := [
  ⟨none, .mov 27 (.tmp 0)⟩,
  ⟨none, .nilc 28 (.tmp 27)⟩,
  ⟨none, .fld 29 (.tmp 28) 0⟩,
  ⟨none, .load1 30 (.tmp 29)⟩,
  ⟨none, .len 31 (.tmp 30)⟩,
  ⟨none, .bin 32 .sub 3 (.tmp 31) (.const (.int .i64 1))⟩,
  ⟨none, .build 33 [(.int .i64 0), (.int .i64 0), (.int .i64 0), (.int .i64 0)] [(0, (1, (.const (.int .i64 2)))), (1, (1, (.tmp 32)))]⟩,
  ⟨none, .storen 4 (.tmp 2) (.tmp 33)⟩,
  ⟨none, .mov 3 (.const (.bool true))⟩]
def heap_Heap_Open_lc : LC := (.seq (.ops heap_Heap_Open_r0) (.seq (.seq (.ops heap_Heap_Open_r1) (.cond (.tmp 8) (.seq (.ops heap_Heap_Open_r2) .ret) .skip)) (.seq (.ops heap_Heap_Open_r3) (.seq (.ops heap_Heap_Open_r4) (.seq (.ops heap_Heap_Open_r5) .ret)))))
@[reducible] def heap_Heap_Open : FuncId := 55
theorem heap_Heap_Open_low : lowF Try.prog Try.f55 = some heap_Heap_Open_lc := by kernel_rfl
theorem heap_Heap_Open_in {a0 : Value} {w : World} {R : Ending → World → Prop} (h : heap_Heap_Open_lc.wp Try.prog (retQ Try.prog [.cell 2 96, .tmp 3] R) (argEnv [a0]) w) : Calls Try.prog heap_Heap_Open ⟨[a0]⟩ w R :=
  calls_of_low Try.func55 heap_Heap_Open_low (by kernel_rfl) (by kernel_rfl) h

/- 56 -/
def R_Things_Open_r0 : List GO := [
  ⟨none, .alloc 2 85 [(.int .i64 0), (.int .i64 0), (.int .i64 0), (.int .i64 0)]⟩,
  ⟨none, .mov 3 (.const (.bool false))⟩]
def R_Things_Open_r1 : List GO := [
  ⟨none, .mov 4 (.tmp 0)⟩,
  ⟨none, .call (some 5) 72 [(.tmp 4)]⟩,
  ⟨none, .bin 6 .geq 3 (.tmp 5) (.const (.int .i64 16))⟩]
def R_Things_Open_r2 : List GO := [
  ⟨none, .build 7 [(.int .i64 0), (.int .i64 0), (.int .i64 0), (.int .i64 0)] []⟩,
  ⟨none, .storen 4 (.tmp 2) (.tmp 7)⟩,
  ⟨none, .mov 3 (.const (.bool false))⟩]
def R_Things_Open_r3 : List GO := [
  ⟨none, .mov 8 (.tmp 0)⟩,
  ⟨none, .mov 9 (.tmp 0)⟩,
  ⟨none, .nilc 10 (.tmp 9)⟩,
  ⟨none, .fld 11 (.tmp 10) 0⟩,
  ⟨none, .load1 12 (.tmp 11)⟩,
  ⟨none, .build 13 [(.bool false), (.slice none 0 0), (.int .i64 0), (.int .i64 0)] [(0, (1, (.const (.bool true))))]⟩,
  ⟨none, .buildS 14 145 1 [(.bool false), (.slice none 0 0), (.int .i64 0), (.int .i64 0)] [(0, (4, (.tmp 13)))]⟩,
  ⟨none, .raw ⟨(some 15), (.call ⟨(.builtin .append), #[(.tmp 12), (.tmp 14)], #[89, 89]⟩), 89, "", #[], none⟩⟩,
  ⟨none, .nilc 16 (.tmp 8)⟩,
  ⟨none, .fld 17 (.tmp 16) 0⟩,
  ⟨none, .store1 (.tmp 17) (.tmp 15)⟩]
def R_Things_Open_r4 : List GO := [
  ⟨none, .mov 18 (.tmp 0)⟩,
  ⟨none, .nilc 19 (.tmp 18)⟩,
  ⟨none, .fld 20 (.tmp 19) 0⟩,
  ⟨none, .load1 21 (.tmp 20)⟩,
  ⟨none, .len 22 (.tmp 21)⟩,
  ⟨none, .bin 23 .sub 3 (.tmp 22) (.const (.int .i64 1))⟩,
  ⟨none, .build 24 [(.int .i64 0), (.int .i64 0), (.int .i64 0), (.int .i64 0)] [(0, (1, (.const (.int .i64 2)))), (1, (1, (.tmp 23)))]⟩,
  ⟨none, .storen 4 (.tmp 2) (.tmp 24)⟩,
  ⟨none, .mov 3 (.const (.bool true))⟩]
def R_Things_Open_lc : LC := (.seq (.ops R_Things_Open_r0) (.seq (.seq (.ops R_Things_Open_r1) (.cond (.tmp 6) (.seq (.ops R_Things_Open_r2) .ret) .skip)) (.seq (.ops R_Things_Open_r3) (.seq (.ops R_Things_Open_r4) .ret))))
@[reducible] def R_Things_Open : FuncId := 56
theorem R_Things_Open_low : lowF Try.prog Try.f56 = some R_Things_Open_lc := by kernel_rfl
theorem R_Things_Open_in {a0 : Value} {w : World} {R : Ending → World → Prop} (h : R_Things_Open_lc.wp Try.prog (retQ Try.prog [.cell 2 85, .tmp 3] R) (argEnv [a0]) w) : Calls Try.prog R_Things_Open ⟨[a0]⟩ w R :=
  calls_of_low Try.func56 R_Things_Open_low (by kernel_rfl) (by kernel_rfl) h

/- 57 -/
def heap_Heap_Shut_r0 : List GO := [
  ⟨none, .box 3 96 (.tmp 1)⟩,
  ⟨none, .mov 4 (.const (.bool false))⟩]
def heap_Heap_Shut_r1 : List GO := [
  ⟨none, .fld 6 (.tmp 3) 0⟩,
  ⟨none, .load1 7 (.tmp 6)⟩,
  ⟨none, .bin 8 .neq 3 (.tmp 7) (.const (.int .i64 2))⟩,
  ⟨none, .mov 9 (.tmp 8)⟩,
  ⟨some (9, false), .mov 10 (.tmp 0)⟩,
  ⟨some (9, false), .fld 11 (.tmp 3) 1⟩,
  ⟨some (9, false), .load1 12 (.tmp 11)⟩,
  ⟨some (9, false), .call (some 13) 85 [(.tmp 10), (.tmp 12)]⟩,
  ⟨some (9, false), .un 14 .not (.tmp 13)⟩,
  ⟨none, .pick 15 (.tmp 9) (.const (.bool true)) (.tmp 14)⟩]
def heap_Heap_Shut_r2 : List GO := [
  ⟨none, .mov 4 (.const (.bool false))⟩]
def heap_Heap_Shut_r3 : List GO := [
  ⟨none, .mov 16 (.tmp 0)⟩,
  ⟨none, .nilc 17 (.tmp 16)⟩,
  ⟨none, .fld 18 (.tmp 17) 0⟩,
  ⟨none, .load1 19 (.tmp 18)⟩,
  ⟨none, .fld 20 (.tmp 3) 1⟩,
  ⟨none, .load1 21 (.tmp 20)⟩,
  ⟨none, .idx 22 4 (.tmp 19) (.tmp 21)⟩,
  ⟨none, .mov 5 (.tmp 22)⟩]
def heap_Heap_Shut_e3 : List (List Nat) := [[], [0], [1], [2], [], [4], [3, 5], [6, 0, 1, 2, 3, 4, 5, 6]]
def heap_Heap_Shut_r4 : List GO := [
  ⟨none, .mov 23 (.tmp 0)⟩,
  ⟨none, .nilc 24 (.tmp 23)⟩,
  ⟨none, .fld 25 (.tmp 24) 1⟩,
  ⟨none, .load1 26 (.tmp 25)⟩,
  ⟨none, .mov 27 (.tmp 5)⟩,
  ⟨none, .nilc 28 (.tmp 27)⟩,
  ⟨none, .fld 29 (.tmp 28) 2⟩,
  ⟨none, .load1 30 (.tmp 29)⟩,
  ⟨none, .bin 31 .add 3 (.tmp 26) (.tmp 30)⟩,
  ⟨none, .nilc 32 (.tmp 23)⟩,
  ⟨none, .fld 33 (.tmp 32) 1⟩,
  ⟨none, .store1 (.tmp 33) (.tmp 31)⟩]
def heap_Heap_Shut_e4 : List (List Nat) := [[], [0], [1], [2], [], [4], [5], [6], [3, 7], [0, 0, 1, 2, 3, 4, 5, 6, 7, 8], [9, 0, 1, 2, 3, 4, 5, 6, 7, 8], [10, 8, 0, 1, 2, 3, 4, 5, 6, 7, 8]]
def heap_Heap_Shut_r5 : List GO := [
  ⟨none, .mov 34 (.tmp 5)⟩,
  ⟨none, .build 35 [(.bool false), (.slice none 0 0), (.int .i64 0), (.int .i64 0)] []⟩,
  ⟨none, .nilc 36 (.tmp 34)⟩,
  ⟨none, .storen 4 (.tmp 36) (.tmp 35)⟩]
def heap_Heap_Shut_r6 : List GO := [
  ⟨none, .mov 37 (.tmp 0)⟩,
  ⟨none, .nilc 38 (.tmp 37)⟩,
  ⟨none, .fld 39 (.tmp 38) 2⟩,
  ⟨none, .load1 40 (.tmp 39)⟩,
  ⟨none, .bin 41 .sub 3 (.tmp 40) (.const (.int .i64 1))⟩,
  ⟨none, .nilc 42 (.tmp 37)⟩,
  ⟨none, .fld 43 (.tmp 42) 2⟩,
  ⟨none, .store1 (.tmp 43) (.tmp 41)⟩]
def heap_Heap_Shut_r7 : List GO := [
  ⟨none, .mov 4 (.const (.bool true))⟩]
def heap_Heap_Shut_lc : LC := (.seq (.ops heap_Heap_Shut_r0) (.seq (.seq (.ops heap_Heap_Shut_r1) (.cond (.tmp 15) (.seq (.ops heap_Heap_Shut_r2) .ret) .skip)) (.seq (.draw heap_Heap_Shut_r3 heap_Heap_Shut_e3) (.seq (.draw heap_Heap_Shut_r4 heap_Heap_Shut_e4) (.seq (.ops heap_Heap_Shut_r5) (.seq (.ops heap_Heap_Shut_r6) (.seq (.ops heap_Heap_Shut_r7) .ret)))))))
@[reducible] def heap_Heap_Shut : FuncId := 57
theorem heap_Heap_Shut_low : lowF Try.prog Try.f57 = some heap_Heap_Shut_lc := by kernel_rfl
theorem heap_Heap_Shut_in {a0 a1 : Value} {w : World} {R : Ending → World → Prop} (h : heap_Heap_Shut_lc.wp Try.prog (retQ Try.prog [.tmp 4] R) (argEnv [a0, a1]) w) : Calls Try.prog heap_Heap_Shut ⟨[a0, a1]⟩ w R :=
  calls_of_low Try.func57 heap_Heap_Shut_low (by kernel_rfl) (by kernel_rfl) h

/- 58 -/
def Law_from_r0 : List GO := [
  ⟨none, .box 1 85 (.tmp 0)⟩,
  ⟨none, .alloc 2 96 [(.int .i64 0), (.int .i64 0), (.int .i64 0), (.int .i64 0)]⟩]
def Law_from_r1 : List GO := [
  ⟨none, .fld 3 (.tmp 1) 0⟩,
  ⟨none, .load1 4 (.tmp 3)⟩,
  ⟨none, .fld 5 (.tmp 1) 1⟩,
  ⟨none, .load1 6 (.tmp 5)⟩,
  ⟨none, .fld 7 (.tmp 1) 2⟩,
  ⟨none, .load1 8 (.tmp 7)⟩,
  ⟨none, .fld 9 (.tmp 1) 3⟩,
  ⟨none, .load1 10 (.tmp 9)⟩,
  ⟨none, .build 11 [(.int .i64 0), (.int .i64 0), (.int .i64 0), (.int .i64 0)] [(0, (1, (.tmp 4))), (1, (1, (.tmp 6))), (2, (1, (.tmp 8))), (3, (1, (.tmp 10)))]⟩,
  ⟨none, .storen 4 (.tmp 2) (.tmp 11)⟩]
def Law_from_lc : LC := (.seq (.ops Law_from_r0) (.seq (.ops Law_from_r1) .ret))
@[reducible] def Law_from : FuncId := 58
theorem Law_from_low : lowF Try.prog Try.f58 = some Law_from_lc := by kernel_rfl
theorem Law_from_in {a0 : Value} {w : World} {R : Ending → World → Prop} (h : Law_from_lc.wp Try.prog (retQ Try.prog [.cell 2 96] R) (argEnv [a0]) w) : Calls Try.prog Law_from ⟨[a0]⟩ w R :=
  calls_of_low Try.func58 Law_from_low (by kernel_rfl) (by kernel_rfl) h

/- 59 -/
def R_Things_Shut_r0 : List GO := [
  ⟨none, .box 3 85 (.tmp 1)⟩,
  ⟨none, .mov 4 (.const (.bool false))⟩]
def R_Things_Shut_r1 : List GO := [
  ⟨none, .fld 5 (.tmp 3) 0⟩,
  ⟨none, .load1 6 (.tmp 5)⟩,
  ⟨none, .bin 7 .neq 3 (.tmp 6) (.const (.int .i64 2))⟩,
  ⟨none, .mov 8 (.tmp 7)⟩,
  ⟨some (8, false), .mov 9 (.tmp 0)⟩,
  ⟨some (8, false), .fld 10 (.tmp 3) 1⟩,
  ⟨some (8, false), .load1 11 (.tmp 10)⟩,
  ⟨some (8, false), .call (some 12) 86 [(.tmp 9), (.tmp 11)]⟩,
  ⟨some (8, false), .un 13 .not (.tmp 12)⟩,
  ⟨none, .pick 14 (.tmp 8) (.const (.bool true)) (.tmp 13)⟩]
def R_Things_Shut_r2 : List GO := [
  ⟨none, .mov 4 (.const (.bool false))⟩]
def R_Things_Shut_r3 : List GO := [
  ⟨none, .mov 15 (.tmp 0)⟩,
  ⟨none, .nilc 16 (.tmp 15)⟩,
  ⟨none, .fld 17 (.tmp 16) 1⟩,
  ⟨none, .load1 18 (.tmp 17)⟩,
  ⟨none, .mov 19 (.tmp 0)⟩,
  ⟨none, .nilc 20 (.tmp 19)⟩,
  ⟨none, .fld 21 (.tmp 20) 0⟩,
  ⟨none, .load1 22 (.tmp 21)⟩,
  ⟨none, .fld 23 (.tmp 3) 1⟩,
  ⟨none, .load1 24 (.tmp 23)⟩,
  ⟨none, .idx 25 4 (.tmp 22) (.tmp 24)⟩,
  ⟨none, .fld 26 (.tmp 25) 2⟩,
  ⟨none, .load1 27 (.tmp 26)⟩,
  ⟨none, .bin 28 .add 3 (.tmp 18) (.tmp 27)⟩,
  ⟨none, .nilc 29 (.tmp 15)⟩,
  ⟨none, .fld 30 (.tmp 29) 1⟩,
  ⟨none, .store1 (.tmp 30) (.tmp 28)⟩]
def R_Things_Shut_e3 : List (List Nat) := [[], [0], [1], [2], [], [4], [5], [6], [], [8], [7, 9], [10], [11], [3, 12], [0, 0, 1, 2, 3, 4, 5, 6, 7, 8, 9, 10, 11, 12, 13], [14, 0, 1, 2, 3, 4, 5, 6, 7, 8, 9, 10, 11, 12, 13], [15, 13, 0, 1, 2, 3, 4, 5, 6, 7, 8, 9, 10, 11, 12, 13]]
def R_Things_Shut_r4 : List GO := [
  ⟨none, .mov 31 (.tmp 0)⟩,
  ⟨none, .nilc 32 (.tmp 31)⟩,
  ⟨none, .fld 33 (.tmp 32) 0⟩,
  ⟨none, .load1 34 (.tmp 33)⟩,
  ⟨none, .fld 35 (.tmp 3) 1⟩,
  ⟨none, .load1 36 (.tmp 35)⟩,
  ⟨none, .build 37 [(.bool false), (.slice none 0 0), (.int .i64 0), (.int .i64 0)] []⟩,
  ⟨none, .idx 38 4 (.tmp 34) (.tmp 36)⟩,
  ⟨none, .storen 4 (.tmp 38) (.tmp 37)⟩]
def R_Things_Shut_e4 : List (List Nat) := [[], [0], [1], [2], [], [4], [], [3, 5, 0, 1, 2, 3, 4, 5, 6], [7, 6, 0, 1, 2, 3, 4, 5, 6]]
def R_Things_Shut_r5 : List GO := [
  ⟨none, .mov 4 (.const (.bool true))⟩]
def R_Things_Shut_lc : LC := (.seq (.ops R_Things_Shut_r0) (.seq (.seq (.ops R_Things_Shut_r1) (.cond (.tmp 14) (.seq (.ops R_Things_Shut_r2) .ret) .skip)) (.seq (.draw R_Things_Shut_r3 R_Things_Shut_e3) (.seq (.draw R_Things_Shut_r4 R_Things_Shut_e4) (.seq (.ops R_Things_Shut_r5) .ret)))))
@[reducible] def R_Things_Shut : FuncId := 59
theorem R_Things_Shut_low : lowF Try.prog Try.f59 = some R_Things_Shut_lc := by kernel_rfl
theorem R_Things_Shut_in {a0 a1 : Value} {w : World} {R : Ending → World → Prop} (h : R_Things_Shut_lc.wp Try.prog (retQ Try.prog [.tmp 4] R) (argEnv [a0, a1]) w) : Calls Try.prog R_Things_Shut ⟨[a0, a1]⟩ w R :=
  calls_of_low Try.func59 R_Things_Shut_low (by kernel_rfl) (by kernel_rfl) h

/- 60 -/
def heap_Heap_Tuple_r0 : List GO := [
  ⟨none, .box 4 96 (.tmp 1)⟩,
  ⟨none, .alloc 6 96 [(.int .i64 0), (.int .i64 0), (.int .i64 0), (.int .i64 0)]⟩,
  ⟨none, .mov 7 (.const (.int .i64 0))⟩]
def heap_Heap_Tuple_r1 : List GO := [
  ⟨none, .mov 8 (.tmp 0)⟩,
  ⟨none, .loadn 9 4 (.tmp 4)⟩,
  ⟨none, .mov 10 (.tmp 2)⟩,
  ⟨none, .len 11 (.tmp 10)⟩,
  ⟨none, .mnx 12 true (.tmp 11) (.const (.int .i64 1))⟩,
  ⟨none, .mov 13 (.tmp 2)⟩,
  ⟨none, .call (some 14) 88 [(.tmp 13)]⟩,
  ⟨none, .build 15 [(.bool false), (.slice none 0 0)] [(1, (1, (.tmp 14)))]⟩,
  ⟨none, .call (some 16) 87 [(.tmp 8), (.tmp 9), (.const (.int .i64 3)), (.tmp 12), (.tmp 15)]⟩,
  ⟨none, .ext 17 (.tmp 16) 0⟩,
  ⟨none, .ext 18 (.tmp 16) 1⟩,
  ⟨none, .storen 4 (.tmp 6) (.tmp 17)⟩,
  ⟨none, .mov 7 (.tmp 18)⟩]
def heap_Heap_Tuple_e1 : List (List Nat) := [[], [], [], [2], [3], [], [5], [6], [0, 1, 4, 7, 6], [8], [8], [9, 8, 0, 1, 2, 3, 4, 5, 6, 7, 8, 9, 10], [10, 11, 0, 1, 2, 3, 4, 5, 6, 7, 8, 9, 10, 11]]
def heap_Heap_Tuple_lc : LC := (.seq (.ops heap_Heap_Tuple_r0) (.seq (.draw heap_Heap_Tuple_r1 heap_Heap_Tuple_e1) .ret))
@[reducible] def heap_Heap_Tuple : FuncId := 60
theorem heap_Heap_Tuple_low : lowF Try.prog Try.f60 = some heap_Heap_Tuple_lc := by kernel_rfl
theorem heap_Heap_Tuple_in {a0 a1 a2 : Value} {w : World} {R : Ending → World → Prop} (h : heap_Heap_Tuple_lc.wp Try.prog (retQ Try.prog [.cell 6 96, .tmp 7] R) (argEnv [a0, a1, a2]) w) : Calls Try.prog heap_Heap_Tuple ⟨[a0, a1, a2]⟩ w R :=
  calls_of_low Try.func60 heap_Heap_Tuple_low (by kernel_rfl) (by kernel_rfl) h

/- 61 -/
def R_Things_Tuple_r0 : List GO := [
  ⟨none, .box 4 85 (.tmp 1)⟩,
  ⟨none, .alloc 6 85 [(.int .i64 0), (.int .i64 0), (.int .i64 0), (.int .i64 0)]⟩,
  ⟨none, .mov 7 (.const (.int .i64 0))⟩]
def R_Things_Tuple_r1 : List GO := [
  ⟨none, .mov 8 (.const (.slice none 0 0))⟩]
def R_Things_Tuple_r2 : List GO := [
  ⟨none, .mov 10 (.tmp 2)⟩,
  ⟨none, .len 11 (.tmp 10)⟩,
  ⟨none, .mov 9 (.tmp 11)⟩]
def R_Things_Tuple_r3 : List GO := [
  ⟨none, .mov 12 (.tmp 9)⟩,
  ⟨none, .bin 13 .eql 3 (.tmp 12) (.const (.int .i64 0))⟩]
def R_Things_Tuple_r4 : List GO := [
  ⟨none, .mov 9 (.const (.int .i64 1))⟩]
def R_Things_Tuple_r5 : List GO := [
  ⟨none, .mov 14 (.tmp 0)⟩,
  ⟨none, .loadn 15 4 (.tmp 4)⟩,
  ⟨none, .mov 16 (.tmp 8)⟩,
  ⟨none, .mov 17 (.tmp 2)⟩,
  ⟨none, .raw ⟨(some 18), (.call ⟨(.builtin .append), #[(.tmp 16), (.tmp 17)], #[92, 92]⟩), 92, "", #[], none⟩⟩,
  ⟨none, .build 19 [(.bool false), (.slice none 0 0)] [(1, (1, (.tmp 18)))]⟩,
  ⟨none, .mov 20 (.tmp 9)⟩,
  ⟨none, .call (some 21) 89 [(.tmp 14), (.tmp 15), (.tmp 19), (.tmp 20)]⟩,
  ⟨none, .ext 22 (.tmp 21) 0⟩,
  ⟨none, .ext 23 (.tmp 21) 1⟩,
  ⟨none, .storen 4 (.tmp 6) (.tmp 22)⟩,
  ⟨none, .mov 7 (.tmp 23)⟩]
def R_Things_Tuple_e5 : List (List Nat) := [[], [], [], [], [2, 3], [4], [], [0, 1, 5, 6, 4], [7], [7], [8, 7, 0, 1, 2, 3, 4, 5, 6, 7, 8, 9], [9, 10, 0, 1, 2, 3, 4, 5, 6, 7, 8, 9, 10]]
def R_Things_Tuple_lc : LC := (.seq (.ops R_Things_Tuple_r0) (.seq (.ops R_Things_Tuple_r1) (.seq (.ops R_Things_Tuple_r2) (.seq (.seq (.ops R_Things_Tuple_r3) (.cond (.tmp 13) (.ops R_Things_Tuple_r4) .skip)) (.seq (.draw R_Things_Tuple_r5 R_Things_Tuple_e5) .ret)))))
@[reducible] def R_Things_Tuple : FuncId := 61
theorem R_Things_Tuple_low : lowF Try.prog Try.f61 = some R_Things_Tuple_lc := by kernel_rfl
theorem R_Things_Tuple_in {a0 a1 a2 : Value} {w : World} {R : Ending → World → Prop} (h : R_Things_Tuple_lc.wp Try.prog (retQ Try.prog [.cell 6 85, .tmp 7] R) (argEnv [a0, a1, a2]) w) : Calls Try.prog R_Things_Tuple ⟨[a0, a1, a2]⟩ w R :=
  calls_of_low Try.func61 R_Things_Tuple_low (by kernel_rfl) (by kernel_rfl) h

/- 62 -/
def heap_Heap_Array_r0 : List GO := [
  ⟨none, .box 4 96 (.tmp 1)⟩,
  ⟨none, .alloc 6 96 [(.int .i64 0), (.int .i64 0), (.int .i64 0), (.int .i64 0)]⟩,
  ⟨none, .mov 7 (.const (.int .i64 0))⟩]
def heap_Heap_Array_r1 : List GO := [
  ⟨none, .mov 9 (.tmp 2)⟩,
  ⟨none, .bin 10 .lss 3 (.tmp 9) (.const (.int .i64 0))⟩,
  ⟨none, .mov 11 (.tmp 10)⟩,
  ⟨some (11, false), .mov 12 (.tmp 2)⟩,
  ⟨some (11, false), .bin 13 .gtr 3 (.tmp 12) (.const (.int .i64 15))⟩,
  ⟨none, .pick 14 (.tmp 11) (.const (.bool true)) (.tmp 13)⟩]
def heap_Heap_Array_r2 : List GO := [
  ⟨none, .build 15 [(.int .i64 0), (.int .i64 0), (.int .i64 0), (.int .i64 0)] []⟩,
  ⟨none, .storen 4 (.tmp 6) (.tmp 15)⟩,
  ⟨none, .mov 7 (.const (.int .i64 1))⟩]
def heap_Heap_Array_r3 : List GO := [
  ⟨none, .build 16 [(.bool false), (.slice none 0 0)] [(0, (1, (.const (.bool true))))]⟩,
  ⟨none, .alloc 8 150 [(.bool false), (.slice none 0 0)]⟩,
  ⟨none, .storen 2 (.tmp 8) (.tmp 16)⟩]
def heap_Heap_Array_r4 : List GO := [
  ⟨none, .mov 17 (.tmp 2)⟩,
  ⟨none, .mov 18 (.const (.int .i64 0))⟩]
def heap_Heap_Array_r5 : List GO := [
  ⟨none, .bin 19 .lss 3 (.tmp 18) (.tmp 17)⟩]
def heap_Heap_Array_r6 : List GO := [
  ⟨none, .fld 20 (.tmp 8) 1⟩,
  ⟨none, .load1 21 (.tmp 20)⟩,
  ⟨none, .build 22 [(.int .i64 0), (.int .i64 0), (.int .i64 0), (.int .i64 0)] [(0, (1, (.const (.int .i64 1))))]⟩,
  ⟨none, .buildS 23 96 1 [(.int .i64 0), (.int .i64 0), (.int .i64 0), (.int .i64 0)] [(0, (4, (.tmp 22)))]⟩,
  ⟨none, .raw ⟨(some 24), (.call ⟨(.builtin .append), #[(.tmp 21), (.tmp 23)], #[104, 104]⟩), 104, "", #[], none⟩⟩,
  ⟨none, .fld 25 (.tmp 8) 1⟩,
  ⟨none, .store1 (.tmp 25) (.tmp 24)⟩]
def heap_Heap_Array_r7 : List GO := [
  ⟨none, .bin 26 .add 3 (.tmp 18) (.const (.int .i64 1))⟩,
  ⟨none, .mov 18 (.tmp 26)⟩]
def heap_Heap_Array_b5 : LC := (.seq (.ops heap_Heap_Array_r5) (.seq (.cond (.tmp 19) .skip (.exit 0)) (.seq (.block 1 (.ops heap_Heap_Array_r6)) (.ops heap_Heap_Array_r7))))
def heap_Heap_Array_r8 : List GO := [
  ⟨none, .mov 27 (.tmp 0)⟩,
  ⟨none, .loadn 28 4 (.tmp 4)⟩,
  ⟨none, .mov 29 (.tmp 2)⟩,
  ⟨none, .bin 30 .add 3 (.const (.int .i64 1)) (.tmp 29)⟩,
  ⟨none, .loadn 31 2 (.tmp 8)⟩,
  ⟨none, .call (some 32) 87 [(.tmp 27), (.tmp 28), (.const (.int .i64 4)), (.tmp 30), (.tmp 31)]⟩,
  ⟨none, .ext 33 (.tmp 32) 0⟩,
  ⟨none, .ext 34 (.tmp 32) 1⟩,
  ⟨none, .storen 4 (.tmp 6) (.tmp 33)⟩,
  ⟨none, .mov 7 (.tmp 34)⟩]
def heap_Heap_Array_lc : LC := (.seq (.ops heap_Heap_Array_r0) (.seq (.seq (.ops heap_Heap_Array_r1) (.cond (.tmp 14) (.seq (.ops heap_Heap_Array_r2) .ret) .skip)) (.seq (.ops heap_Heap_Array_r3) (.seq (.seq (.ops heap_Heap_Array_r4) (.block 0 (.loop heap_Heap_Array_b5))) (.seq (.ops heap_Heap_Array_r8) .ret)))))
@[reducible] def heap_Heap_Array : FuncId := 62
theorem heap_Heap_Array_low : lowF Try.prog Try.f62 = some heap_Heap_Array_lc := by kernel_rfl
theorem heap_Heap_Array_in {a0 a1 a2 : Value} {w : World} {R : Ending → World → Prop} (h : heap_Heap_Array_lc.wp Try.prog (retQ Try.prog [.cell 6 96, .tmp 7] R) (argEnv [a0, a1, a2]) w) : Calls Try.prog heap_Heap_Array ⟨[a0, a1, a2]⟩ w R :=
  calls_of_low Try.func62 heap_Heap_Array_low (by kernel_rfl) (by kernel_rfl) h

/- 63 -/
def R_Things_NewArray_r0 : List GO := [
  ⟨none, .box 4 85 (.tmp 1)⟩,
  ⟨none, .alloc 6 85 [(.int .i64 0), (.int .i64 0), (.int .i64 0), (.int .i64 0)]⟩,
  ⟨none, .mov 7 (.const (.int .i64 0))⟩]
def R_Things_NewArray_r1 : List GO := [
  ⟨none, .mov 10 (.tmp 2)⟩,
  ⟨none, .bin 11 .lss 3 (.tmp 10) (.const (.int .i64 0))⟩,
  ⟨none, .mov 12 (.tmp 11)⟩,
  ⟨some (12, false), .mov 13 (.tmp 2)⟩,
  ⟨some (12, false), .bin 14 .gtr 3 (.tmp 13) (.const (.int .i64 15))⟩,
  ⟨none, .pick 15 (.tmp 12) (.const (.bool true)) (.tmp 14)⟩]
def R_Things_NewArray_r2 : List GO := [
  ⟨none, .build 16 [(.int .i64 0), (.int .i64 0), (.int .i64 0), (.int .i64 0)] []⟩,
  ⟨none, .storen 4 (.tmp 6) (.tmp 16)⟩,
  ⟨none, .mov 7 (.const (.int .i64 1))⟩]
def R_Things_NewArray_r3 : List GO := [
  ⟨none, .build 17 [(.bool false), (.slice none 0 0)] [(0, (1, (.const (.bool true))))]⟩,
  ⟨none, .alloc 8 153 [(.bool false), (.slice none 0 0)]⟩,
  ⟨none, .storen 2 (.tmp 8) (.tmp 17)⟩]
def R_Things_NewArray_r4 : List GO := [
  ⟨none, .mov 9 (.const (.int .i64 0))⟩]
def R_Things_NewArray_r5 : List GO := [
  ⟨none, .mov 18 (.tmp 9)⟩,
  ⟨none, .mov 19 (.tmp 2)⟩,
  ⟨none, .bin 20 .lss 3 (.tmp 18) (.tmp 19)⟩]
def R_Things_NewArray_r6 : List GO := [
  ⟨none, .fld 23 (.tmp 8) 1⟩,
  ⟨none, .load1 24 (.tmp 23)⟩,
  ⟨none, .build 25 [(.int .i64 0), (.int .i64 0), (.int .i64 0), (.int .i64 0)] [(0, (1, (.const (.int .i64 1))))]⟩,
  ⟨none, .buildS 26 85 1 [(.int .i64 0), (.int .i64 0), (.int .i64 0), (.int .i64 0)] [(0, (4, (.tmp 25)))]⟩,
  ⟨none, .raw ⟨(some 27), (.call ⟨(.builtin .append), #[(.tmp 24), (.tmp 26)], #[92, 92]⟩), 92, "", #[], none⟩⟩,
  ⟨none, .fld 28 (.tmp 8) 1⟩,
  ⟨none, .store1 (.tmp 28) (.tmp 27)⟩]
def R_Things_NewArray_r7 : List GO := [
  ⟨none, .mov 21 (.tmp 9)⟩,
  ⟨none, .bin 22 .add 3 (.tmp 21) (.const (.int .i64 1))⟩,
  ⟨none, .mov 9 (.tmp 22)⟩]
def R_Things_NewArray_b5 : LC := (.seq (.seq (.ops R_Things_NewArray_r5) (.cond (.tmp 20) .skip (.exit 0))) (.seq (.block 1 (.ops R_Things_NewArray_r6)) (.ops R_Things_NewArray_r7)))
def R_Things_NewArray_r8 : List GO := [
  ⟨none, .mov 29 (.tmp 0)⟩,
  ⟨none, .loadn 30 4 (.tmp 4)⟩,
  ⟨none, .loadn 31 2 (.tmp 8)⟩,
  ⟨none, .mov 32 (.tmp 2)⟩,
  ⟨none, .bin 33 .add 3 (.tmp 32) (.const (.int .i64 1))⟩,
  ⟨none, .call (some 34) 89 [(.tmp 29), (.tmp 30), (.tmp 31), (.tmp 33)]⟩,
  ⟨none, .ext 35 (.tmp 34) 0⟩,
  ⟨none, .ext 36 (.tmp 34) 1⟩,
  ⟨none, .storen 4 (.tmp 6) (.tmp 35)⟩,
  ⟨none, .mov 7 (.tmp 36)⟩]
def R_Things_NewArray_lc : LC := (.seq (.ops R_Things_NewArray_r0) (.seq (.seq (.ops R_Things_NewArray_r1) (.cond (.tmp 15) (.seq (.ops R_Things_NewArray_r2) .ret) .skip)) (.seq (.ops R_Things_NewArray_r3) (.seq (.seq (.ops R_Things_NewArray_r4) (.block 0 (.loop R_Things_NewArray_b5))) (.seq (.ops R_Things_NewArray_r8) .ret)))))
@[reducible] def R_Things_NewArray : FuncId := 63
theorem R_Things_NewArray_low : lowF Try.prog Try.f63 = some R_Things_NewArray_lc := by kernel_rfl
theorem R_Things_NewArray_in {a0 a1 a2 : Value} {w : World} {R : Ending → World → Prop} (h : R_Things_NewArray_lc.wp Try.prog (retQ Try.prog [.cell 6 85, .tmp 7] R) (argEnv [a0, a1, a2]) w) : Calls Try.prog R_Things_NewArray ⟨[a0, a1, a2]⟩ w R :=
  calls_of_low Try.func63 R_Things_NewArray_low (by kernel_rfl) (by kernel_rfl) h

/- 64 -/
def heap_Heap_Get_r0 : List GO := [
  ⟨none, .box 4 96 (.tmp 1)⟩,
  ⟨none, .alloc 6 96 [(.int .i64 0), (.int .i64 0), (.int .i64 0), (.int .i64 0)]⟩,
  ⟨none, .mov 7 (.const (.int .i64 0))⟩]
def heap_Heap_Get_r1 : List GO := [
  ⟨none, .mov 9 (.tmp 0)⟩,
  ⟨none, .loadn 10 4 (.tmp 4)⟩,
  ⟨none, .call (some 11) 90 [(.tmp 9), (.tmp 10)]⟩,
  ⟨none, .mov 8 (.tmp 11)⟩]
def heap_Heap_Get_r2 : List GO := [
  ⟨none, .mov 12 (.tmp 8)⟩,
  ⟨none, .bin 13 .eql 154 (.tmp 12) (.const (.pointer none))⟩]
def heap_Heap_Get_r3 : List GO := [
  ⟨none, .build 14 [(.int .i64 0), (.int .i64 0), (.int .i64 0), (.int .i64 0)] []⟩,
  ⟨none, .storen 4 (.tmp 6) (.tmp 14)⟩,
  ⟨none, .mov 7 (.const (.int .i64 20))⟩]
def heap_Heap_Get_r4 : List GO := [
  ⟨none, .mov 15 (.tmp 2)⟩,
  ⟨none, .bin 16 .lss 2 (.tmp 15) (.const (.int .i64 0))⟩,
  ⟨none, .mov 17 (.tmp 16)⟩,
  ⟨some (17, false), .mov 18 (.tmp 2)⟩,
  ⟨some (17, false), .mov 19 (.tmp 8)⟩,
  ⟨some (17, false), .nilc 20 (.tmp 19)⟩,
  ⟨some (17, false), .fld 21 (.tmp 20) 1⟩,
  ⟨some (17, false), .load1 22 (.tmp 21)⟩,
  ⟨some (17, false), .len 23 (.tmp 22)⟩,
  ⟨some (17, false), .bin 24 .geq 2 (.tmp 18) (.tmp 23)⟩,
  ⟨none, .pick 25 (.tmp 17) (.const (.bool true)) (.tmp 24)⟩]
def heap_Heap_Get_r5 : List GO := [
  ⟨none, .build 26 [(.int .i64 0), (.int .i64 0), (.int .i64 0), (.int .i64 0)] []⟩,
  ⟨none, .storen 4 (.tmp 6) (.tmp 26)⟩,
  ⟨none, .mov 7 (.const (.int .i64 1))⟩]
def heap_Heap_Get_r6 : List GO := [
  ⟨none, .mov 27 (.tmp 8)⟩,
  ⟨none, .nilc 28 (.tmp 27)⟩,
  ⟨none, .fld 29 (.tmp 28) 1⟩,
  ⟨none, .load1 30 (.tmp 29)⟩,
  ⟨none, .mov 31 (.tmp 2)⟩,
  ⟨none, .idx 32 4 (.tmp 30) (.tmp 31)⟩,
  ⟨none, .loadn 33 4 (.tmp 32)⟩,
  ⟨none, .storen 4 (.tmp 6) (.tmp 33)⟩,
  ⟨none, .mov 7 (.const (.int .i64 0))⟩]
def heap_Heap_Get_lc : LC := (.seq (.ops heap_Heap_Get_r0) (.seq (.ops heap_Heap_Get_r1) (.seq (.seq (.ops heap_Heap_Get_r2) (.cond (.tmp 13) (.seq (.ops heap_Heap_Get_r3) .ret) .skip)) (.seq (.seq (.ops heap_Heap_Get_r4) (.cond (.tmp 25) (.seq (.ops heap_Heap_Get_r5) .ret) .skip)) (.seq (.ops heap_Heap_Get_r6) .ret)))))
@[reducible] def heap_Heap_Get : FuncId := 64
theorem heap_Heap_Get_low : lowF Try.prog Try.f64 = some heap_Heap_Get_lc := by kernel_rfl
theorem heap_Heap_Get_in {a0 a1 a2 : Value} {w : World} {R : Ending → World → Prop} (h : heap_Heap_Get_lc.wp Try.prog (retQ Try.prog [.cell 6 96, .tmp 7] R) (argEnv [a0, a1, a2]) w) : Calls Try.prog heap_Heap_Get ⟨[a0, a1, a2]⟩ w R :=
  calls_of_low Try.func64 heap_Heap_Get_low (by kernel_rfl) (by kernel_rfl) h

/- 65 -/
def R_Things_Get_r0 : List GO := [
  ⟨none, .box 4 85 (.tmp 1)⟩,
  ⟨none, .alloc 6 85 [(.int .i64 0), (.int .i64 0), (.int .i64 0), (.int .i64 0)]⟩,
  ⟨none, .mov 7 (.const (.int .i64 0))⟩]
def R_Things_Get_r1 : List GO := [
  ⟨none, .mov 10 (.tmp 0)⟩,
  ⟨none, .loadn 11 4 (.tmp 4)⟩,
  ⟨none, .call (some 12) 91 [(.tmp 10), (.tmp 11)]⟩,
  ⟨none, .mov 8 (.tmp 12)⟩]
def R_Things_Get_r2 : List GO := [
  ⟨none, .mov 13 (.tmp 8)⟩,
  ⟨none, .bin 14 .eql 156 (.tmp 13) (.const (.pointer none))⟩]
def R_Things_Get_r3 : List GO := [
  ⟨none, .build 15 [(.int .i64 0), (.int .i64 0), (.int .i64 0), (.int .i64 0)] []⟩,
  ⟨none, .storen 4 (.tmp 6) (.tmp 15)⟩,
  ⟨none, .mov 7 (.const (.int .i64 20))⟩]
def R_Things_Get_r4 : List GO := [
  ⟨none, .mov 9 (.const (.int .i64 0))⟩]
def R_Things_Get_r5 : List GO := [
  ⟨none, .mov 16 (.tmp 9)⟩,
  ⟨none, .mov 17 (.tmp 8)⟩,
  ⟨none, .nilc 18 (.tmp 17)⟩,
  ⟨none, .fld 19 (.tmp 18) 1⟩,
  ⟨none, .load1 20 (.tmp 19)⟩,
  ⟨none, .len 21 (.tmp 20)⟩,
  ⟨none, .bin 22 .lss 3 (.tmp 16) (.tmp 21)⟩]
def R_Things_Get_r6 : List GO := [
  ⟨none, .mov 25 (.tmp 9)⟩,
  ⟨none, .mov 26 (.tmp 2)⟩,
  ⟨none, .bin 27 .eql 2 (.tmp 25) (.tmp 26)⟩]
def R_Things_Get_r7 : List GO := [
  ⟨none, .mov 28 (.tmp 8)⟩,
  ⟨none, .nilc 29 (.tmp 28)⟩,
  ⟨none, .fld 30 (.tmp 29) 1⟩,
  ⟨none, .load1 31 (.tmp 30)⟩,
  ⟨none, .mov 32 (.tmp 9)⟩,
  ⟨none, .idx 33 4 (.tmp 31) (.tmp 32)⟩,
  ⟨none, .loadn 34 4 (.tmp 33)⟩,
  ⟨none, .storen 4 (.tmp 6) (.tmp 34)⟩,
  ⟨none, .mov 7 (.const (.int .i64 0))⟩]
def R_Things_Get_r8 : List GO := [
  ⟨none, .mov 23 (.tmp 9)⟩,
  ⟨none, .bin 24 .add 3 (.tmp 23) (.const (.int .i64 1))⟩,
  ⟨none, .mov 9 (.tmp 24)⟩]
def R_Things_Get_b5 : LC := (.seq (.seq (.ops R_Things_Get_r5) (.cond (.tmp 22) .skip (.exit 0))) (.seq (.block 1 (.seq (.ops R_Things_Get_r6) (.cond (.tmp 27) (.seq (.ops R_Things_Get_r7) .ret) .skip))) (.ops R_Things_Get_r8)))
def R_Things_Get_r9 : List GO := [
  ⟨none, .build 35 [(.int .i64 0), (.int .i64 0), (.int .i64 0), (.int .i64 0)] []⟩,
  ⟨none, .storen 4 (.tmp 6) (.tmp 35)⟩,
  ⟨none, .mov 7 (.const (.int .i64 1))⟩]
def R_Things_Get_lc : LC := (.seq (.ops R_Things_Get_r0) (.seq (.ops R_Things_Get_r1) (.seq (.seq (.ops R_Things_Get_r2) (.cond (.tmp 14) (.seq (.ops R_Things_Get_r3) .ret) .skip)) (.seq (.seq (.ops R_Things_Get_r4) (.block 0 (.loop R_Things_Get_b5))) (.seq (.ops R_Things_Get_r9) .ret)))))
@[reducible] def R_Things_Get : FuncId := 65
theorem R_Things_Get_low : lowF Try.prog Try.f65 = some R_Things_Get_lc := by kernel_rfl
theorem R_Things_Get_in {a0 a1 a2 : Value} {w : World} {R : Ending → World → Prop} (h : R_Things_Get_lc.wp Try.prog (retQ Try.prog [.cell 6 85, .tmp 7] R) (argEnv [a0, a1, a2]) w) : Calls Try.prog R_Things_Get ⟨[a0, a1, a2]⟩ w R :=
  calls_of_low Try.func65 R_Things_Get_low (by kernel_rfl) (by kernel_rfl) h

/- 66 -/
def heap_Heap_Set_r0 : List GO := [
  ⟨none, .box 5 96 (.tmp 1)⟩,
  ⟨none, .box 7 96 (.tmp 3)⟩,
  ⟨none, .mov 8 (.const (.int .i64 0))⟩]
def heap_Heap_Set_r1 : List GO := [
  ⟨none, .mov 10 (.tmp 0)⟩,
  ⟨none, .loadn 11 4 (.tmp 5)⟩,
  ⟨none, .call (some 12) 90 [(.tmp 10), (.tmp 11)]⟩,
  ⟨none, .mov 9 (.tmp 12)⟩]
def heap_Heap_Set_r2 : List GO := [
  ⟨none, .mov 13 (.tmp 9)⟩,
  ⟨none, .bin 14 .eql 154 (.tmp 13) (.const (.pointer none))⟩,
  ⟨none, .mov 15 (.tmp 14)⟩,
  ⟨some (15, false), .mov 16 (.tmp 9)⟩,
  ⟨some (15, false), .nilc 17 (.tmp 16)⟩,
  ⟨some (15, false), .fld 18 (.tmp 17) 0⟩,
  ⟨some (15, false), .load1 19 (.tmp 18)⟩,
  ⟨some (15, false), .mov 20 (.tmp 19)⟩,
  ⟨some (20, true), .fld 21 (.tmp 7) 0⟩,
  ⟨some (20, true), .load1 22 (.tmp 21)⟩,
  ⟨some (20, true), .bin 23 .neq 3 (.tmp 22) (.const (.int .i64 1))⟩,
  ⟨some (15, false), .pick 24 (.tmp 20) (.tmp 23) (.const (.bool false))⟩,
  ⟨none, .pick 25 (.tmp 15) (.const (.bool true)) (.tmp 24)⟩]
def heap_Heap_Set_r3 : List GO := [
  ⟨none, .mov 8 (.const (.int .i64 20))⟩]
def heap_Heap_Set_r4 : List GO := [
  ⟨none, .mov 26 (.tmp 2)⟩,
  ⟨none, .bin 27 .lss 2 (.tmp 26) (.const (.int .i64 0))⟩,
  ⟨none, .mov 28 (.tmp 27)⟩,
  ⟨some (28, false), .mov 29 (.tmp 2)⟩,
  ⟨some (28, false), .mov 30 (.tmp 9)⟩,
  ⟨some (28, false), .nilc 31 (.tmp 30)⟩,
  ⟨some (28, false), .fld 32 (.tmp 31) 1⟩,
  ⟨some (28, false), .load1 33 (.tmp 32)⟩,
  ⟨some (28, false), .len 34 (.tmp 33)⟩,
  ⟨some (28, false), .bin 35 .geq 2 (.tmp 29) (.tmp 34)⟩,
  ⟨none, .pick 36 (.tmp 28) (.const (.bool true)) (.tmp 35)⟩]
def heap_Heap_Set_r5 : List GO := [
  ⟨none, .mov 8 (.const (.int .i64 1))⟩]
def heap_Heap_Set_r6 : List GO := [
  ⟨none, .mov 37 (.tmp 9)⟩,
  ⟨none, .nilc 38 (.tmp 37)⟩,
  ⟨none, .fld 39 (.tmp 38) 1⟩,
  ⟨none, .load1 40 (.tmp 39)⟩,
  ⟨none, .mov 41 (.tmp 2)⟩,
  ⟨none, .loadn 42 4 (.tmp 7)⟩,
  ⟨none, .idx 43 4 (.tmp 40) (.tmp 41)⟩,
  ⟨none, .storen 4 (.tmp 43) (.tmp 42)⟩]
def heap_Heap_Set_e6 : List (List Nat) := [[], [0], [1], [2], [], [], [3, 4, 0, 1, 2, 3, 4, 5], [6, 5, 0, 1, 2, 3, 4, 5]]
def heap_Heap_Set_r7 : List GO := [
  ⟨none, .mov 8 (.const (.int .i64 0))⟩]
def heap_Heap_Set_lc : LC := (.seq (.ops heap_Heap_Set_r0) (.seq (.ops heap_Heap_Set_r1) (.seq (.seq (.ops heap_Heap_Set_r2) (.cond (.tmp 25) (.seq (.ops heap_Heap_Set_r3) .ret) .skip)) (.seq (.seq (.ops heap_Heap_Set_r4) (.cond (.tmp 36) (.seq (.ops heap_Heap_Set_r5) .ret) .skip)) (.seq (.draw heap_Heap_Set_r6 heap_Heap_Set_e6) (.seq (.ops heap_Heap_Set_r7) .ret))))))
@[reducible] def heap_Heap_Set : FuncId := 66
theorem heap_Heap_Set_low : lowF Try.prog Try.f66 = some heap_Heap_Set_lc := by kernel_rfl
theorem heap_Heap_Set_in {a0 a1 a2 a3 : Value} {w : World} {R : Ending → World → Prop} (h : heap_Heap_Set_lc.wp Try.prog (retQ Try.prog [.tmp 8] R) (argEnv [a0, a1, a2, a3]) w) : Calls Try.prog heap_Heap_Set ⟨[a0, a1, a2, a3]⟩ w R :=
  calls_of_low Try.func66 heap_Heap_Set_low (by kernel_rfl) (by kernel_rfl) h

/- 67 -/
def R_Things_Set_r0 : List GO := [
  ⟨none, .box 5 85 (.tmp 1)⟩,
  ⟨none, .box 7 85 (.tmp 3)⟩,
  ⟨none, .mov 8 (.const (.int .i64 0))⟩]
def R_Things_Set_r1 : List GO := [
  ⟨none, .mov 11 (.tmp 0)⟩,
  ⟨none, .loadn 12 4 (.tmp 5)⟩,
  ⟨none, .call (some 13) 91 [(.tmp 11), (.tmp 12)]⟩,
  ⟨none, .mov 9 (.tmp 13)⟩]
def R_Things_Set_r2 : List GO := [
  ⟨none, .mov 14 (.tmp 9)⟩,
  ⟨none, .bin 15 .eql 156 (.tmp 14) (.const (.pointer none))⟩,
  ⟨none, .mov 16 (.tmp 15)⟩,
  ⟨some (16, false), .mov 17 (.tmp 9)⟩,
  ⟨some (16, false), .nilc 18 (.tmp 17)⟩,
  ⟨some (16, false), .fld 19 (.tmp 18) 0⟩,
  ⟨some (16, false), .load1 20 (.tmp 19)⟩,
  ⟨some (16, false), .mov 21 (.tmp 20)⟩,
  ⟨some (21, true), .fld 22 (.tmp 7) 0⟩,
  ⟨some (21, true), .load1 23 (.tmp 22)⟩,
  ⟨some (21, true), .bin 24 .neq 3 (.tmp 23) (.const (.int .i64 1))⟩,
  ⟨some (16, false), .pick 25 (.tmp 21) (.tmp 24) (.const (.bool false))⟩,
  ⟨none, .pick 26 (.tmp 16) (.const (.bool true)) (.tmp 25)⟩]
def R_Things_Set_r3 : List GO := [
  ⟨none, .mov 8 (.const (.int .i64 20))⟩]
def R_Things_Set_r4 : List GO := [
  ⟨none, .mov 10 (.const (.int .i64 0))⟩]
def R_Things_Set_r5 : List GO := [
  ⟨none, .mov 27 (.tmp 10)⟩,
  ⟨none, .mov 28 (.tmp 9)⟩,
  ⟨none, .nilc 29 (.tmp 28)⟩,
  ⟨none, .fld 30 (.tmp 29) 1⟩,
  ⟨none, .load1 31 (.tmp 30)⟩,
  ⟨none, .len 32 (.tmp 31)⟩,
  ⟨none, .bin 33 .lss 3 (.tmp 27) (.tmp 32)⟩]
def R_Things_Set_r6 : List GO := [
  ⟨none, .mov 36 (.tmp 10)⟩,
  ⟨none, .mov 37 (.tmp 2)⟩,
  ⟨none, .bin 38 .eql 2 (.tmp 36) (.tmp 37)⟩]
def R_Things_Set_r7 : List GO := [
  ⟨none, .mov 39 (.tmp 9)⟩,
  ⟨none, .nilc 40 (.tmp 39)⟩,
  ⟨none, .fld 41 (.tmp 40) 1⟩,
  ⟨none, .load1 42 (.tmp 41)⟩,
  ⟨none, .mov 43 (.tmp 10)⟩,
  ⟨none, .loadn 44 4 (.tmp 7)⟩,
  ⟨none, .idx 45 4 (.tmp 42) (.tmp 43)⟩,
  ⟨none, .storen 4 (.tmp 45) (.tmp 44)⟩]
def R_Things_Set_e7 : List (List Nat) := [[], [0], [1], [2], [], [], [3, 4, 0, 1, 2, 3, 4, 5], [6, 5, 0, 1, 2, 3, 4, 5]]
def R_Things_Set_r8 : List GO := [
  ⟨none, .mov 8 (.const (.int .i64 0))⟩]
def R_Things_Set_r9 : List GO := [
  ⟨none, .mov 34 (.tmp 10)⟩,
  ⟨none, .bin 35 .add 3 (.tmp 34) (.const (.int .i64 1))⟩,
  ⟨none, .mov 10 (.tmp 35)⟩]
def R_Things_Set_b5 : LC := (.seq (.seq (.ops R_Things_Set_r5) (.cond (.tmp 33) .skip (.exit 0))) (.seq (.block 1 (.seq (.ops R_Things_Set_r6) (.cond (.tmp 38) (.seq (.draw R_Things_Set_r7 R_Things_Set_e7) (.seq (.ops R_Things_Set_r8) .ret)) .skip))) (.ops R_Things_Set_r9)))
def R_Things_Set_r10 : List GO := [
  ⟨none, .mov 8 (.const (.int .i64 1))⟩]
def R_Things_Set_lc : LC := (.seq (.ops R_Things_Set_r0) (.seq (.ops R_Things_Set_r1) (.seq (.seq (.ops R_Things_Set_r2) (.cond (.tmp 26) (.seq (.ops R_Things_Set_r3) .ret) .skip)) (.seq (.seq (.ops R_Things_Set_r4) (.block 0 (.loop R_Things_Set_b5))) (.seq (.ops R_Things_Set_r10) .ret)))))
@[reducible] def R_Things_Set : FuncId := 67
theorem R_Things_Set_low : lowF Try.prog Try.f67 = some R_Things_Set_lc := by kernel_rfl
theorem R_Things_Set_in {a0 a1 a2 a3 : Value} {w : World} {R : Ending → World → Prop} (h : R_Things_Set_lc.wp Try.prog (retQ Try.prog [.tmp 8] R) (argEnv [a0, a1, a2, a3]) w) : Calls Try.prog R_Things_Set ⟨[a0, a1, a2, a3]⟩ w R :=
  calls_of_low Try.func67 R_Things_Set_low (by kernel_rfl) (by kernel_rfl) h

/- 68 -/
def heap_Heap_Len_r0 : List GO := [
  ⟨none, .box 3 96 (.tmp 1)⟩,
  ⟨none, .mov 4 (.const (.int .i64 0))⟩,
  ⟨none, .mov 5 (.const (.int .i64 0))⟩]
def heap_Heap_Len_r1 : List GO := [
  ⟨none, .mov 7 (.tmp 0)⟩,
  ⟨none, .loadn 8 4 (.tmp 3)⟩,
  ⟨none, .call (some 9) 90 [(.tmp 7), (.tmp 8)]⟩,
  ⟨none, .mov 6 (.tmp 9)⟩]
def heap_Heap_Len_r2 : List GO := [
  ⟨none, .mov 10 (.tmp 6)⟩,
  ⟨none, .bin 11 .eql 154 (.tmp 10) (.const (.pointer none))⟩]
def heap_Heap_Len_r3 : List GO := [
  ⟨none, .mov 4 (.const (.int .i64 0))⟩,
  ⟨none, .mov 5 (.const (.int .i64 20))⟩]
def heap_Heap_Len_r4 : List GO := [
  ⟨none, .mov 12 (.tmp 6)⟩,
  ⟨none, .nilc 13 (.tmp 12)⟩,
  ⟨none, .fld 14 (.tmp 13) 1⟩,
  ⟨none, .load1 15 (.tmp 14)⟩,
  ⟨none, .len 16 (.tmp 15)⟩,
  ⟨none, .mov 4 (.tmp 16)⟩,
  ⟨none, .mov 5 (.const (.int .i64 0))⟩]
def heap_Heap_Len_lc : LC := (.seq (.ops heap_Heap_Len_r0) (.seq (.ops heap_Heap_Len_r1) (.seq (.seq (.ops heap_Heap_Len_r2) (.cond (.tmp 11) (.seq (.ops heap_Heap_Len_r3) .ret) .skip)) (.seq (.ops heap_Heap_Len_r4) .ret))))
@[reducible] def heap_Heap_Len : FuncId := 68
theorem heap_Heap_Len_low : lowF Try.prog Try.f68 = some heap_Heap_Len_lc := by kernel_rfl
theorem heap_Heap_Len_in {a0 a1 : Value} {w : World} {R : Ending → World → Prop} (h : heap_Heap_Len_lc.wp Try.prog (retQ Try.prog [.tmp 4, .tmp 5] R) (argEnv [a0, a1]) w) : Calls Try.prog heap_Heap_Len ⟨[a0, a1]⟩ w R :=
  calls_of_low Try.func68 heap_Heap_Len_low (by kernel_rfl) (by kernel_rfl) h

/- 69 -/
def R_Things_Len_r0 : List GO := [
  ⟨none, .box 3 85 (.tmp 1)⟩,
  ⟨none, .mov 4 (.const (.int .i64 0))⟩,
  ⟨none, .mov 5 (.const (.int .i64 0))⟩]
def R_Things_Len_r1 : List GO := [
  ⟨none, .mov 7 (.tmp 0)⟩,
  ⟨none, .loadn 8 4 (.tmp 3)⟩,
  ⟨none, .call (some 9) 91 [(.tmp 7), (.tmp 8)]⟩,
  ⟨none, .mov 6 (.tmp 9)⟩]
def R_Things_Len_r2 : List GO := [
  ⟨none, .mov 10 (.tmp 6)⟩,
  ⟨none, .bin 11 .eql 156 (.tmp 10) (.const (.pointer none))⟩]
def R_Things_Len_r3 : List GO := [
  ⟨none, .mov 4 (.const (.int .i64 0))⟩,
  ⟨none, .mov 5 (.const (.int .i64 20))⟩]
def R_Things_Len_r4 : List GO := [
  ⟨none, .mov 12 (.tmp 6)⟩,
  ⟨none, .nilc 13 (.tmp 12)⟩,
  ⟨none, .fld 14 (.tmp 13) 1⟩,
  ⟨none, .load1 15 (.tmp 14)⟩,
  ⟨none, .len 16 (.tmp 15)⟩,
  ⟨none, .mov 4 (.tmp 16)⟩,
  ⟨none, .mov 5 (.const (.int .i64 0))⟩]
def R_Things_Len_lc : LC := (.seq (.ops R_Things_Len_r0) (.seq (.ops R_Things_Len_r1) (.seq (.seq (.ops R_Things_Len_r2) (.cond (.tmp 11) (.seq (.ops R_Things_Len_r3) .ret) .skip)) (.seq (.ops R_Things_Len_r4) .ret))))
@[reducible] def R_Things_Len : FuncId := 69
theorem R_Things_Len_low : lowF Try.prog Try.f69 = some R_Things_Len_lc := by kernel_rfl
theorem R_Things_Len_in {a0 a1 : Value} {w : World} {R : Ending → World → Prop} (h : R_Things_Len_lc.wp Try.prog (retQ Try.prog [.tmp 4, .tmp 5] R) (argEnv [a0, a1]) w) : Calls Try.prog R_Things_Len ⟨[a0, a1]⟩ w R :=
  calls_of_low Try.func69 R_Things_Len_low (by kernel_rfl) (by kernel_rfl) h

/- 70 -/
def heap_Heap_Pages_r0 : List GO := [
  ⟨none, .mov 2 (.const (.int .i64 0))⟩]
def heap_Heap_Pages_r1 : List GO := [
  ⟨none, .mov 3 (.tmp 0)⟩,
  ⟨none, .nilc 4 (.tmp 3)⟩,
  ⟨none, .fld 5 (.tmp 4) 1⟩,
  ⟨none, .load1 6 (.tmp 5)⟩,
  ⟨none, .mov 2 (.tmp 6)⟩]
def heap_Heap_Pages_lc : LC := (.seq (.ops heap_Heap_Pages_r0) (.seq (.ops heap_Heap_Pages_r1) .ret))
@[reducible] def heap_Heap_Pages : FuncId := 70
theorem heap_Heap_Pages_low : lowF Try.prog Try.f70 = some heap_Heap_Pages_lc := by kernel_rfl
theorem heap_Heap_Pages_in {a0 : Value} {w : World} {R : Ending → World → Prop} (h : heap_Heap_Pages_lc.wp Try.prog (retQ Try.prog [.tmp 2] R) (argEnv [a0]) w) : Calls Try.prog heap_Heap_Pages ⟨[a0]⟩ w R :=
  calls_of_low Try.func70 heap_Heap_Pages_low (by kernel_rfl) (by kernel_rfl) h

/- 71 -/
def heap_Heap_Live_r0 : List GO := [
  ⟨none, .mov 2 (.const (.int .i64 0))⟩]
def heap_Heap_Live_r1 : List GO := [
  ⟨none, .mov 3 (.tmp 0)⟩,
  ⟨none, .nilc 4 (.tmp 3)⟩,
  ⟨none, .fld 5 (.tmp 4) 2⟩,
  ⟨none, .load1 6 (.tmp 5)⟩,
  ⟨none, .mov 2 (.tmp 6)⟩]
def heap_Heap_Live_lc : LC := (.seq (.ops heap_Heap_Live_r0) (.seq (.ops heap_Heap_Live_r1) .ret))
@[reducible] def heap_Heap_Live : FuncId := 71
theorem heap_Heap_Live_low : lowF Try.prog Try.f71 = some heap_Heap_Live_lc := by kernel_rfl
theorem heap_Heap_Live_in {a0 : Value} {w : World} {R : Ending → World → Prop} (h : heap_Heap_Live_lc.wp Try.prog (retQ Try.prog [.tmp 2] R) (argEnv [a0]) w) : Calls Try.prog heap_Heap_Live ⟨[a0]⟩ w R :=
  calls_of_low Try.func71 heap_Heap_Live_low (by kernel_rfl) (by kernel_rfl) h

/- 72 -/
def R_Things_Live_r0 : List GO := [
  ⟨none, .mov 2 (.const (.int .i64 0))⟩]
def R_Things_Live_r1 : List GO := [
  ⟨none, .mov 3 (.const (.int .i64 0))⟩]
def R_Things_Live_r2 : List GO := [
  ⟨none, .mov 4 (.const (.int .i64 0))⟩]
def R_Things_Live_r3 : List GO := [
  ⟨none, .mov 5 (.tmp 4)⟩,
  ⟨none, .mov 6 (.tmp 0)⟩,
  ⟨none, .nilc 7 (.tmp 6)⟩,
  ⟨none, .fld 8 (.tmp 7) 0⟩,
  ⟨none, .load1 9 (.tmp 8)⟩,
  ⟨none, .len 10 (.tmp 9)⟩,
  ⟨none, .bin 11 .lss 3 (.tmp 5) (.tmp 10)⟩]
def R_Things_Live_r4 : List GO := [
  ⟨none, .mov 14 (.tmp 0)⟩,
  ⟨none, .nilc 15 (.tmp 14)⟩,
  ⟨none, .fld 16 (.tmp 15) 0⟩,
  ⟨none, .load1 17 (.tmp 16)⟩,
  ⟨none, .mov 18 (.tmp 4)⟩,
  ⟨none, .idx 19 4 (.tmp 17) (.tmp 18)⟩,
  ⟨none, .fld 20 (.tmp 19) 0⟩,
  ⟨none, .load1 21 (.tmp 20)⟩]
def R_Things_Live_r5 : List GO := [
  ⟨none, .mov 22 (.tmp 3)⟩,
  ⟨none, .bin 23 .add 3 (.tmp 22) (.const (.int .i64 1))⟩,
  ⟨none, .mov 3 (.tmp 23)⟩]
def R_Things_Live_r6 : List GO := [
  ⟨none, .mov 12 (.tmp 4)⟩,
  ⟨none, .bin 13 .add 3 (.tmp 12) (.const (.int .i64 1))⟩,
  ⟨none, .mov 4 (.tmp 13)⟩]
def R_Things_Live_b3 : LC := (.seq (.seq (.ops R_Things_Live_r3) (.cond (.tmp 11) .skip (.exit 0))) (.seq (.block 1 (.seq (.ops R_Things_Live_r4) (.cond (.tmp 21) (.ops R_Things_Live_r5) .skip))) (.ops R_Things_Live_r6)))
def R_Things_Live_r7 : List GO := [
  ⟨none, .mov 24 (.tmp 3)⟩,
  ⟨none, .mov 2 (.tmp 24)⟩]
def R_Things_Live_lc : LC := (.seq (.ops R_Things_Live_r0) (.seq (.ops R_Things_Live_r1) (.seq (.seq (.ops R_Things_Live_r2) (.block 0 (.loop R_Things_Live_b3))) (.seq (.ops R_Things_Live_r7) .ret))))
@[reducible] def R_Things_Live : FuncId := 72
theorem R_Things_Live_low : lowF Try.prog Try.f72 = some R_Things_Live_lc := by kernel_rfl
theorem R_Things_Live_in {a0 : Value} {w : World} {R : Ending → World → Prop} (h : R_Things_Live_lc.wp Try.prog (retQ Try.prog [.tmp 2] R) (argEnv [a0]) w) : Calls Try.prog R_Things_Live ⟨[a0]⟩ w R :=
  calls_of_low Try.func72 R_Things_Live_low (by kernel_rfl) (by kernel_rfl) h

/- 85 -/
def heap_Heap_has_r0 : List GO := [
  ⟨none, .mov 4 (.const (.bool false))⟩]
def heap_Heap_has_r1 : List GO := [
  ⟨none, .mov 5 (.tmp 1)⟩,
  ⟨none, .bin 6 .geq 3 (.tmp 5) (.const (.int .i64 0))⟩,
  ⟨none, .mov 7 (.tmp 6)⟩,
  ⟨some (7, true), .mov 8 (.tmp 1)⟩,
  ⟨some (7, true), .mov 9 (.tmp 0)⟩,
  ⟨some (7, true), .nilc 10 (.tmp 9)⟩,
  ⟨some (7, true), .fld 11 (.tmp 10) 0⟩,
  ⟨some (7, true), .load1 12 (.tmp 11)⟩,
  ⟨some (7, true), .len 13 (.tmp 12)⟩,
  ⟨some (7, true), .bin 14 .lss 3 (.tmp 8) (.tmp 13)⟩,
  ⟨none, .pick 15 (.tmp 7) (.tmp 14) (.const (.bool false))⟩,
  ⟨none, .mov 16 (.tmp 15)⟩,
  ⟨some (16, true), .mov 17 (.tmp 0)⟩,
  ⟨some (16, true), .nilc 18 (.tmp 17)⟩,
  ⟨some (16, true), .fld 19 (.tmp 18) 0⟩,
  ⟨some (16, true), .load1 20 (.tmp 19)⟩,
  ⟨some (16, true), .mov 21 (.tmp 1)⟩,
  ⟨some (16, true), .idx 22 4 (.tmp 20) (.tmp 21)⟩,
  ⟨some (16, true), .fld 23 (.tmp 22) 0⟩,
  ⟨some (16, true), .load1 24 (.tmp 23)⟩,
  ⟨none, .pick 25 (.tmp 16) (.tmp 24) (.const (.bool false))⟩,
  ⟨none, .mov 4 (.tmp 25)⟩]
def heap_Heap_has_lc : LC := (.seq (.ops heap_Heap_has_r0) (.seq (.ops heap_Heap_has_r1) .ret))
@[reducible] def heap_Heap_has : FuncId := 85
theorem heap_Heap_has_low : lowF Try.prog Try.f85 = some heap_Heap_has_lc := by kernel_rfl
theorem heap_Heap_has_in {a0 a1 : Value} {w : World} {R : Ending → World → Prop} (h : heap_Heap_has_lc.wp Try.prog (retQ Try.prog [.tmp 4] R) (argEnv [a0, a1]) w) : Calls Try.prog heap_Heap_has ⟨[a0, a1]⟩ w R :=
  calls_of_low Try.func85 heap_Heap_has_low (by kernel_rfl) (by kernel_rfl) h

/- 86 -/
def R_Things_has_r0 : List GO := [
  ⟨none, .mov 4 (.const (.bool false))⟩]
def R_Things_has_r1 : List GO := [
  ⟨none, .mov 5 (.tmp 1)⟩,
  ⟨none, .bin 6 .geq 3 (.tmp 5) (.const (.int .i64 0))⟩,
  ⟨none, .mov 7 (.tmp 6)⟩,
  ⟨some (7, true), .mov 8 (.tmp 1)⟩,
  ⟨some (7, true), .mov 9 (.tmp 0)⟩,
  ⟨some (7, true), .nilc 10 (.tmp 9)⟩,
  ⟨some (7, true), .fld 11 (.tmp 10) 0⟩,
  ⟨some (7, true), .load1 12 (.tmp 11)⟩,
  ⟨some (7, true), .len 13 (.tmp 12)⟩,
  ⟨some (7, true), .bin 14 .lss 3 (.tmp 8) (.tmp 13)⟩,
  ⟨none, .pick 15 (.tmp 7) (.tmp 14) (.const (.bool false))⟩,
  ⟨none, .mov 16 (.tmp 15)⟩,
  ⟨some (16, true), .mov 17 (.tmp 0)⟩,
  ⟨some (16, true), .nilc 18 (.tmp 17)⟩,
  ⟨some (16, true), .fld 19 (.tmp 18) 0⟩,
  ⟨some (16, true), .load1 20 (.tmp 19)⟩,
  ⟨some (16, true), .mov 21 (.tmp 1)⟩,
  ⟨some (16, true), .idx 22 4 (.tmp 20) (.tmp 21)⟩,
  ⟨some (16, true), .fld 23 (.tmp 22) 0⟩,
  ⟨some (16, true), .load1 24 (.tmp 23)⟩,
  ⟨none, .pick 25 (.tmp 16) (.tmp 24) (.const (.bool false))⟩,
  ⟨none, .mov 4 (.tmp 25)⟩]
def R_Things_has_lc : LC := (.seq (.ops R_Things_has_r0) (.seq (.ops R_Things_has_r1) .ret))
@[reducible] def R_Things_has : FuncId := 86
theorem R_Things_has_low : lowF Try.prog Try.f86 = some R_Things_has_lc := by kernel_rfl
theorem R_Things_has_in {a0 a1 : Value} {w : World} {R : Ending → World → Prop} (h : R_Things_has_lc.wp Try.prog (retQ Try.prog [.tmp 4] R) (argEnv [a0, a1]) w) : Calls Try.prog R_Things_has ⟨[a0, a1]⟩ w R :=
  calls_of_low Try.func86 R_Things_has_low (by kernel_rfl) (by kernel_rfl) h

/- 87 -/
def heap_Heap_put_r0 : List GO := [
  ⟨none, .box 6 96 (.tmp 1)⟩,
  ⟨none, .box 9 150 (.tmp 4)⟩,
  ⟨none, .alloc 10 96 [(.int .i64 0), (.int .i64 0), (.int .i64 0), (.int .i64 0)]⟩,
  ⟨none, .mov 11 (.const (.int .i64 0))⟩]
def heap_Heap_put_r1 : List GO := [
  ⟨none, .fld 14 (.tmp 6) 0⟩,
  ⟨none, .load1 15 (.tmp 14)⟩,
  ⟨none, .bin 16 .neq 3 (.tmp 15) (.const (.int .i64 2))⟩,
  ⟨none, .mov 17 (.tmp 16)⟩,
  ⟨some (17, false), .mov 18 (.tmp 0)⟩,
  ⟨some (17, false), .fld 19 (.tmp 6) 1⟩,
  ⟨some (17, false), .load1 20 (.tmp 19)⟩,
  ⟨some (17, false), .call (some 21) 85 [(.tmp 18), (.tmp 20)]⟩,
  ⟨some (17, false), .un 22 .not (.tmp 21)⟩,
  ⟨none, .pick 23 (.tmp 17) (.const (.bool true)) (.tmp 22)⟩]
def heap_Heap_put_r2 : List GO := [
  ⟨none, .build 24 [(.int .i64 0), (.int .i64 0), (.int .i64 0), (.int .i64 0)] []⟩,
  ⟨none, .storen 4 (.tmp 10) (.tmp 24)⟩,
  ⟨none, .mov 11 (.const (.int .i64 20))⟩]
def heap_Heap_put_r3 : List GO := [
  ⟨none, .mov 25 (.tmp 0)⟩,
  ⟨none, .nilc 26 (.tmp 25)⟩,
  ⟨none, .fld 27 (.tmp 26) 0⟩,
  ⟨none, .load1 28 (.tmp 27)⟩,
  ⟨none, .fld 29 (.tmp 6) 1⟩,
  ⟨none, .load1 30 (.tmp 29)⟩,
  ⟨none, .idx 31 4 (.tmp 28) (.tmp 30)⟩,
  ⟨none, .mov 12 (.tmp 31)⟩]
def heap_Heap_put_e3 : List (List Nat) := [[], [0], [1], [2], [], [4], [3, 5], [6, 0, 1, 2, 3, 4, 5, 6]]
def heap_Heap_put_r4 : List GO := [
  ⟨none, .mov 32 (.tmp 0)⟩,
  ⟨none, .mov 33 (.tmp 12)⟩,
  ⟨none, .mov 34 (.tmp 3)⟩,
  ⟨none, .call (some 35) 92 [(.tmp 32), (.tmp 33), (.tmp 34)]⟩,
  ⟨none, .mov 13 (.tmp 35)⟩]
def heap_Heap_put_r5 : List GO := [
  ⟨none, .mov 36 (.tmp 13)⟩,
  ⟨none, .bin 37 .neq 3 (.tmp 36) (.const (.int .i64 0))⟩]
def heap_Heap_put_r6 : List GO := [
  ⟨none, .build 38 [(.int .i64 0), (.int .i64 0), (.int .i64 0), (.int .i64 0)] []⟩,
  ⟨none, .mov 39 (.tmp 13)⟩,
  ⟨none, .storen 4 (.tmp 10) (.tmp 38)⟩,
  ⟨none, .mov 11 (.tmp 39)⟩]
def heap_Heap_put_r7 : List GO := [
  ⟨none, .mov 40 (.tmp 12)⟩,
  ⟨none, .mov 41 (.tmp 12)⟩,
  ⟨none, .nilc 42 (.tmp 41)⟩,
  ⟨none, .fld 43 (.tmp 42) 1⟩,
  ⟨none, .load1 44 (.tmp 43)⟩,
  ⟨none, .loadn 45 2 (.tmp 9)⟩,
  ⟨none, .buildS 46 150 1 [(.bool false), (.slice none 0 0)] [(0, (2, (.tmp 45)))]⟩,
  ⟨none, .raw ⟨(some 47), (.call ⟨(.builtin .append), #[(.tmp 44), (.tmp 46)], #[140, 140]⟩), 140, "", #[], none⟩⟩,
  ⟨none, .nilc 48 (.tmp 40)⟩,
  ⟨none, .fld 49 (.tmp 48) 1⟩,
  ⟨none, .store1 (.tmp 49) (.tmp 47)⟩]
def heap_Heap_put_e7 : List (List Nat) := [[], [], [1], [2], [3], [], [5], [4, 6], [0, 0, 1, 2, 3, 4, 5, 6, 7], [8, 0, 1, 2, 3, 4, 5, 6, 7], [9, 7, 7, 0, 1, 2, 3, 4, 5, 6, 7]]
def heap_Heap_put_r8 : List GO := [
  ⟨none, .mov 50 (.tmp 2)⟩,
  ⟨none, .fld 51 (.tmp 6) 1⟩,
  ⟨none, .load1 52 (.tmp 51)⟩,
  ⟨none, .mov 53 (.tmp 12)⟩,
  ⟨none, .nilc 54 (.tmp 53)⟩,
  ⟨none, .fld 55 (.tmp 54) 1⟩,
  ⟨none, .load1 56 (.tmp 55)⟩,
  ⟨none, .len 57 (.tmp 56)⟩,
  ⟨none, .bin 58 .sub 3 (.tmp 57) (.const (.int .i64 1))⟩,
  ⟨none, .build 59 [(.int .i64 0), (.int .i64 0), (.int .i64 0), (.int .i64 0)] [(0, (1, (.tmp 50))), (1, (1, (.tmp 52))), (2, (1, (.tmp 58)))]⟩,
  ⟨none, .storen 4 (.tmp 10) (.tmp 59)⟩,
  ⟨none, .mov 11 (.const (.int .i64 0))⟩]
def heap_Heap_put_e8 : List (List Nat) := [[], [], [1], [], [3], [4], [5], [6], [7], [0, 2, 8], [9, 0, 1, 2, 3, 4, 5, 6, 7, 8, 9], [10, 0, 1, 2, 3, 4, 5, 6, 7, 8, 9, 10]]
def heap_Heap_put_lc : LC := (.seq (.ops heap_Heap_put_r0) (.seq (.seq (.ops heap_Heap_put_r1) (.cond (.tmp 23) (.seq (.ops heap_Heap_put_r2) .ret) .skip)) (.seq (.draw heap_Heap_put_r3 heap_Heap_put_e3) (.seq (.seq (.ops heap_Heap_put_r4) (.seq (.ops heap_Heap_put_r5) (.cond (.tmp 37) (.seq (.ops heap_Heap_put_r6) .ret) .skip))) (.seq (.draw heap_Heap_put_r7 heap_Heap_put_e7) (.seq (.draw heap_Heap_put_r8 heap_Heap_put_e8) .ret))))))
@[reducible] def heap_Heap_put : FuncId := 87
theorem heap_Heap_put_low : lowF Try.prog Try.f87 = some heap_Heap_put_lc := by kernel_rfl
theorem heap_Heap_put_in {a0 a1 a2 a3 a4 : Value} {w : World} {R : Ending → World → Prop} (h : heap_Heap_put_lc.wp Try.prog (retQ Try.prog [.cell 10 96, .tmp 11] R) (argEnv [a0, a1, a2, a3, a4]) w) : Calls Try.prog heap_Heap_put ⟨[a0, a1, a2, a3, a4]⟩ w R :=
  calls_of_low Try.func87 heap_Heap_put_low (by kernel_rfl) (by kernel_rfl) h

/- 88 -/
def slices_Clone_heap_Val_heap_Val_r0 : List GO := [
  ⟨none, .mov 2 (.const (.slice none 0 0))⟩]
def slices_Clone_heap_Val_heap_Val_r1 : List GO := [
  ⟨none, .mov 3 (.tmp 0)⟩,
  ⟨none, .bin 4 .eql 104 (.tmp 3) (.const (.slice none 0 0))⟩]
def slices_Clone_heap_Val_heap_Val_r2 : List GO := [
  ⟨none, .mov 2 (.const (.slice none 0 0))⟩]
def slices_Clone_heap_Val_heap_Val_r3 : List GO := [
  ⟨none, .raw ⟨(some 5), (.buildSlice 104 0 #[]), 104, "", #[], none⟩⟩,
  ⟨none, .mov 6 (.tmp 0)⟩,
  ⟨none, .raw ⟨(some 7), (.call ⟨(.builtin .append), #[(.tmp 5), (.tmp 6)], #[104, 104]⟩), 104, "", #[], none⟩⟩,
  ⟨none, .mov 2 (.tmp 7)⟩]
def slices_Clone_heap_Val_heap_Val_lc : LC := (.seq (.ops slices_Clone_heap_Val_heap_Val_r0) (.seq (.seq (.ops slices_Clone_heap_Val_heap_Val_r1) (.cond (.tmp 4) (.seq (.ops slices_Clone_heap_Val_heap_Val_r2) .ret) .skip)) (.seq (.ops slices_Clone_heap_Val_heap_Val_r3) .ret)))
@[reducible] def slices_Clone_heap_Val_heap_Val : FuncId := 88
theorem slices_Clone_heap_Val_heap_Val_low : lowF Try.prog Try.f88 = some slices_Clone_heap_Val_heap_Val_lc := by kernel_rfl
theorem slices_Clone_heap_Val_heap_Val_in {a0 : Value} {w : World} {R : Ending → World → Prop} (h : slices_Clone_heap_Val_heap_Val_lc.wp Try.prog (retQ Try.prog [.tmp 2] R) (argEnv [a0]) w) : Calls Try.prog slices_Clone_heap_Val_heap_Val ⟨[a0]⟩ w R :=
  calls_of_low Try.func88 slices_Clone_heap_Val_heap_Val_low (by kernel_rfl) (by kernel_rfl) h

/- 89 -/
def R_Things_Put_r0 : List GO := [
  ⟨none, .box 5 85 (.tmp 1)⟩,
  ⟨none, .box 6 153 (.tmp 2)⟩,
  ⟨none, .alloc 8 85 [(.int .i64 0), (.int .i64 0), (.int .i64 0), (.int .i64 0)]⟩,
  ⟨none, .mov 9 (.const (.int .i64 0))⟩]
def R_Things_Put_r1 : List GO := [
  ⟨none, .fld 12 (.tmp 5) 0⟩,
  ⟨none, .load1 13 (.tmp 12)⟩,
  ⟨none, .bin 14 .neq 3 (.tmp 13) (.const (.int .i64 2))⟩,
  ⟨none, .mov 15 (.tmp 14)⟩,
  ⟨some (15, false), .mov 16 (.tmp 0)⟩,
  ⟨some (15, false), .fld 17 (.tmp 5) 1⟩,
  ⟨some (15, false), .load1 18 (.tmp 17)⟩,
  ⟨some (15, false), .call (some 19) 86 [(.tmp 16), (.tmp 18)]⟩,
  ⟨some (15, false), .un 20 .not (.tmp 19)⟩,
  ⟨none, .pick 21 (.tmp 15) (.const (.bool true)) (.tmp 20)⟩]
def R_Things_Put_r2 : List GO := [
  ⟨none, .build 22 [(.int .i64 0), (.int .i64 0), (.int .i64 0), (.int .i64 0)] []⟩,
  ⟨none, .storen 4 (.tmp 8) (.tmp 22)⟩,
  ⟨none, .mov 9 (.const (.int .i64 20))⟩]
def R_Things_Put_r3 : List GO := [
  ⟨none, .mov 23 (.tmp 0)⟩,
  ⟨none, .nilc 24 (.tmp 23)⟩,
  ⟨none, .fld 25 (.tmp 24) 0⟩,
  ⟨none, .load1 26 (.tmp 25)⟩,
  ⟨none, .fld 27 (.tmp 5) 1⟩,
  ⟨none, .load1 28 (.tmp 27)⟩,
  ⟨none, .idx 29 4 (.tmp 26) (.tmp 28)⟩,
  ⟨none, .mov 10 (.tmp 29)⟩]
def R_Things_Put_e3 : List (List Nat) := [[], [0], [1], [2], [], [4], [3, 5], [6, 0, 1, 2, 3, 4, 5, 6]]
def R_Things_Put_r4 : List GO := [
  ⟨none, .mov 30 (.tmp 10)⟩,
  ⟨none, .nilc 31 (.tmp 30)⟩,
  ⟨none, .fld 32 (.tmp 31) 2⟩,
  ⟨none, .load1 33 (.tmp 32)⟩,
  ⟨none, .bin 34 .eql 3 (.tmp 33) (.const (.int .i64 0))⟩,
  ⟨none, .mov 35 (.tmp 34)⟩,
  ⟨some (35, false), .mov 36 (.tmp 3)⟩,
  ⟨some (35, false), .mov 37 (.tmp 10)⟩,
  ⟨some (35, false), .nilc 38 (.tmp 37)⟩,
  ⟨some (35, false), .fld 39 (.tmp 38) 3⟩,
  ⟨some (35, false), .load1 40 (.tmp 39)⟩,
  ⟨some (35, false), .bin 41 .sub 3 (.const (.int .i64 16)) (.tmp 40)⟩,
  ⟨some (35, false), .bin 42 .gtr 3 (.tmp 36) (.tmp 41)⟩,
  ⟨none, .pick 43 (.tmp 35) (.const (.bool true)) (.tmp 42)⟩]
def R_Things_Put_r5 : List GO := [
  ⟨none, .mov 44 (.tmp 0)⟩,
  ⟨none, .nilc 45 (.tmp 44)⟩,
  ⟨none, .fld 46 (.tmp 45) 1⟩,
  ⟨none, .load1 47 (.tmp 46)⟩,
  ⟨none, .bin 48 .eql 3 (.tmp 47) (.const (.int .i64 0))⟩]
def R_Things_Put_r6 : List GO := [
  ⟨none, .build 49 [(.int .i64 0), (.int .i64 0), (.int .i64 0), (.int .i64 0)] []⟩,
  ⟨none, .storen 4 (.tmp 8) (.tmp 49)⟩,
  ⟨none, .mov 9 (.const (.int .i64 14))⟩]
def R_Things_Put_r7 : List GO := [
  ⟨none, .mov 50 (.tmp 0)⟩,
  ⟨none, .nilc 51 (.tmp 50)⟩,
  ⟨none, .fld 52 (.tmp 51) 1⟩,
  ⟨none, .load1 53 (.tmp 52)⟩,
  ⟨none, .bin 54 .sub 3 (.tmp 53) (.const (.int .i64 1))⟩,
  ⟨none, .nilc 55 (.tmp 50)⟩,
  ⟨none, .fld 56 (.tmp 55) 1⟩,
  ⟨none, .store1 (.tmp 56) (.tmp 54)⟩]
def R_Things_Put_r8 : List GO := [
  ⟨none, .mov 57 (.tmp 10)⟩,
  ⟨none, .nilc 58 (.tmp 57)⟩,
  ⟨none, .fld 59 (.tmp 58) 2⟩,
  ⟨none, .load1 60 (.tmp 59)⟩,
  ⟨none, .bin 61 .add 3 (.tmp 60) (.const (.int .i64 1))⟩,
  ⟨none, .nilc 62 (.tmp 57)⟩,
  ⟨none, .fld 63 (.tmp 62) 2⟩,
  ⟨none, .store1 (.tmp 63) (.tmp 61)⟩]
def R_Things_Put_r9 : List GO := [
  ⟨none, .mov 64 (.tmp 10)⟩,
  ⟨none, .nilc 65 (.tmp 64)⟩,
  ⟨none, .fld 66 (.tmp 65) 3⟩,
  ⟨none, .store1 (.tmp 66) (.const (.int .i64 0))⟩]
def R_Things_Put_r10 : List GO := [
  ⟨none, .mov 67 (.tmp 10)⟩,
  ⟨none, .nilc 68 (.tmp 67)⟩,
  ⟨none, .fld 69 (.tmp 68) 3⟩,
  ⟨none, .load1 70 (.tmp 69)⟩,
  ⟨none, .mov 71 (.tmp 3)⟩,
  ⟨none, .bin 72 .add 3 (.tmp 70) (.tmp 71)⟩,
  ⟨none, .nilc 73 (.tmp 67)⟩,
  ⟨none, .fld 74 (.tmp 73) 3⟩,
  ⟨none, .store1 (.tmp 74) (.tmp 72)⟩]
def R_Things_Put_r11 : List GO := [
  ⟨none, .mov 75 (.tmp 10)⟩,
  ⟨none, .mov 76 (.tmp 10)⟩,
  ⟨none, .nilc 77 (.tmp 76)⟩,
  ⟨none, .fld 78 (.tmp 77) 1⟩,
  ⟨none, .load1 79 (.tmp 78)⟩,
  ⟨none, .loadn 80 2 (.tmp 6)⟩,
  ⟨none, .buildS 81 153 1 [(.bool false), (.slice none 0 0)] [(0, (2, (.tmp 80)))]⟩,
  ⟨none, .raw ⟨(some 82), (.call ⟨(.builtin .append), #[(.tmp 79), (.tmp 81)], #[143, 143]⟩), 143, "", #[], none⟩⟩,
  ⟨none, .nilc 83 (.tmp 75)⟩,
  ⟨none, .fld 84 (.tmp 83) 1⟩,
  ⟨none, .store1 (.tmp 84) (.tmp 82)⟩]
def R_Things_Put_e11 : List (List Nat) := [[], [], [1], [2], [3], [], [5], [4, 6], [0, 0, 1, 2, 3, 4, 5, 6, 7], [8, 0, 1, 2, 3, 4, 5, 6, 7], [9, 7, 7, 0, 1, 2, 3, 4, 5, 6, 7]]
def R_Things_Put_r12 : List GO := [
  ⟨none, .mov 11 (.const (.int .i64 3))⟩]
def R_Things_Put_r13 : List GO := [
  ⟨none, .fld 85 (.tmp 6) 0⟩,
  ⟨none, .load1 86 (.tmp 85)⟩]
def R_Things_Put_r14 : List GO := [
  ⟨none, .mov 11 (.const (.int .i64 4))⟩]
def R_Things_Put_r15 : List GO := [
  ⟨none, .mov 87 (.tmp 11)⟩,
  ⟨none, .fld 88 (.tmp 5) 1⟩,
  ⟨none, .load1 89 (.tmp 88)⟩,
  ⟨none, .mov 90 (.tmp 10)⟩,
  ⟨none, .nilc 91 (.tmp 90)⟩,
  ⟨none, .fld 92 (.tmp 91) 1⟩,
  ⟨none, .load1 93 (.tmp 92)⟩,
  ⟨none, .len 94 (.tmp 93)⟩,
  ⟨none, .bin 95 .sub 3 (.tmp 94) (.const (.int .i64 1))⟩,
  ⟨none, .build 96 [(.int .i64 0), (.int .i64 0), (.int .i64 0), (.int .i64 0)] [(0, (1, (.tmp 87))), (1, (1, (.tmp 89))), (2, (1, (.tmp 95)))]⟩,
  ⟨none, .storen 4 (.tmp 8) (.tmp 96)⟩,
  ⟨none, .mov 9 (.const (.int .i64 0))⟩]
def R_Things_Put_e15 : List (List Nat) := [[], [], [1], [], [3], [4], [5], [6], [7], [0, 2, 8], [9, 0, 1, 2, 3, 4, 5, 6, 7, 8, 9], [10, 0, 1, 2, 3, 4, 5, 6, 7, 8, 9, 10]]
def R_Things_Put_lc : LC := (.seq (.ops R_Things_Put_r0) (.seq (.seq (.ops R_Things_Put_r1) (.cond (.tmp 21) (.seq (.ops R_Things_Put_r2) .ret) .skip)) (.seq (.draw R_Things_Put_r3 R_Things_Put_e3) (.seq (.seq (.ops R_Things_Put_r4) (.cond (.tmp 43) (.seq (.seq (.ops R_Things_Put_r5) (.cond (.tmp 48) (.seq (.ops R_Things_Put_r6) .ret) .skip)) (.seq (.ops R_Things_Put_r7) (.seq (.ops R_Things_Put_r8) (.ops R_Things_Put_r9)))) .skip)) (.seq (.ops R_Things_Put_r10) (.seq (.draw R_Things_Put_r11 R_Things_Put_e11) (.seq (.ops R_Things_Put_r12) (.seq (.seq (.ops R_Things_Put_r13) (.cond (.tmp 86) (.ops R_Things_Put_r14) .skip)) (.seq (.draw R_Things_Put_r15 R_Things_Put_e15) .ret)))))))))
@[reducible] def R_Things_Put : FuncId := 89
theorem R_Things_Put_low : lowF Try.prog Try.f89 = some R_Things_Put_lc := by kernel_rfl
theorem R_Things_Put_in {a0 a1 a2 a3 : Value} {w : World} {R : Ending → World → Prop} (h : R_Things_Put_lc.wp Try.prog (retQ Try.prog [.cell 8 85, .tmp 9] R) (argEnv [a0, a1, a2, a3]) w) : Calls Try.prog R_Things_Put ⟨[a0, a1, a2, a3]⟩ w R :=
  calls_of_low Try.func89 R_Things_Put_low (by kernel_rfl) (by kernel_rfl) h

/- 90 -/
def heap_Heap_at_r0 : List GO := [
  ⟨none, .box 3 96 (.tmp 1)⟩,
  ⟨none, .mov 4 (.const (.pointer none))⟩]
def heap_Heap_at_r1 : List GO := [
  ⟨none, .fld 6 (.tmp 3) 0⟩,
  ⟨none, .load1 7 (.tmp 6)⟩,
  ⟨none, .bin 8 .neq 3 (.tmp 7) (.const (.int .i64 3))⟩,
  ⟨none, .mov 9 (.tmp 8)⟩,
  ⟨some (9, true), .fld 10 (.tmp 3) 0⟩,
  ⟨some (9, true), .load1 11 (.tmp 10)⟩,
  ⟨some (9, true), .bin 12 .neq 3 (.tmp 11) (.const (.int .i64 4))⟩,
  ⟨none, .pick 13 (.tmp 9) (.tmp 12) (.const (.bool false))⟩,
  ⟨none, .mov 14 (.tmp 13)⟩,
  ⟨some (14, false), .mov 15 (.tmp 0)⟩,
  ⟨some (14, false), .fld 16 (.tmp 3) 1⟩,
  ⟨some (14, false), .load1 17 (.tmp 16)⟩,
  ⟨some (14, false), .call (some 18) 85 [(.tmp 15), (.tmp 17)]⟩,
  ⟨some (14, false), .un 19 .not (.tmp 18)⟩,
  ⟨none, .pick 20 (.tmp 14) (.const (.bool true)) (.tmp 19)⟩,
  ⟨none, .mov 21 (.tmp 20)⟩,
  ⟨some (21, false), .fld 22 (.tmp 3) 2⟩,
  ⟨some (21, false), .load1 23 (.tmp 22)⟩,
  ⟨some (21, false), .bin 24 .lss 3 (.tmp 23) (.const (.int .i64 0))⟩,
  ⟨none, .pick 25 (.tmp 21) (.const (.bool true)) (.tmp 24)⟩,
  ⟨none, .mov 26 (.tmp 25)⟩,
  ⟨some (26, false), .fld 27 (.tmp 3) 2⟩,
  ⟨some (26, false), .load1 28 (.tmp 27)⟩,
  ⟨some (26, false), .mov 29 (.tmp 0)⟩,
  ⟨some (26, false), .nilc 30 (.tmp 29)⟩,
  ⟨some (26, false), .fld 31 (.tmp 30) 0⟩,
  ⟨some (26, false), .load1 32 (.tmp 31)⟩,
  ⟨some (26, false), .fld 33 (.tmp 3) 1⟩,
  ⟨some (26, false), .load1 34 (.tmp 33)⟩,
  ⟨some (26, false), .idx 35 4 (.tmp 32) (.tmp 34)⟩,
  ⟨some (26, false), .fld 36 (.tmp 35) 1⟩,
  ⟨some (26, false), .load1 37 (.tmp 36)⟩,
  ⟨some (26, false), .len 38 (.tmp 37)⟩,
  ⟨some (26, false), .bin 39 .geq 3 (.tmp 28) (.tmp 38)⟩,
  ⟨none, .pick 40 (.tmp 26) (.const (.bool true)) (.tmp 39)⟩]
def heap_Heap_at_e1 : List (List Nat) := [[], [0], [1], [2], [3], [4, 3], [5, 3], [3, 6], [7, 3], [8], [8], [10, 8], [9, 11, 8, 8], [12, 8], [8, 13], [14, 12], [15], [16, 15], [17, 15], [15, 18], [19, 15], [20], [21, 20], [20], [23, 20], [24, 20], [25, 20], [20], [27, 20], [26, 28, 20], [29, 20], [30, 20], [31, 20], [22, 32, 20], [20, 33]]
def heap_Heap_at_r2 : List GO := [
  ⟨none, .mov 4 (.const (.pointer none))⟩]
def heap_Heap_at_r3 : List GO := [
  ⟨none, .mov 41 (.tmp 0)⟩,
  ⟨none, .nilc 42 (.tmp 41)⟩,
  ⟨none, .fld 43 (.tmp 42) 0⟩,
  ⟨none, .load1 44 (.tmp 43)⟩,
  ⟨none, .fld 45 (.tmp 3) 1⟩,
  ⟨none, .load1 46 (.tmp 45)⟩,
  ⟨none, .idx 47 4 (.tmp 44) (.tmp 46)⟩,
  ⟨none, .fld 48 (.tmp 47) 1⟩,
  ⟨none, .load1 49 (.tmp 48)⟩,
  ⟨none, .fld 50 (.tmp 3) 2⟩,
  ⟨none, .load1 51 (.tmp 50)⟩,
  ⟨none, .idx 52 2 (.tmp 49) (.tmp 51)⟩,
  ⟨none, .mov 5 (.tmp 52)⟩]
def heap_Heap_at_e3 : List (List Nat) := [[], [0], [1], [2], [], [4], [3, 5], [6], [7], [], [9], [8, 10], [11, 0, 1, 2, 3, 4, 5, 6, 7, 8, 9, 10, 11]]
def heap_Heap_at_r4 : List GO := [
  ⟨none, .mov 53 (.tmp 5)⟩,
  ⟨none, .nilc 54 (.tmp 53)⟩,
  ⟨none, .fld 55 (.tmp 54) 0⟩,
  ⟨none, .load1 56 (.tmp 55)⟩,
  ⟨none, .fld 57 (.tmp 3) 0⟩,
  ⟨none, .load1 58 (.tmp 57)⟩,
  ⟨none, .bin 59 .eql 3 (.tmp 58) (.const (.int .i64 4))⟩,
  ⟨none, .bin 60 .neq 4 (.tmp 56) (.tmp 59)⟩]
def heap_Heap_at_e4 : List (List Nat) := [[], [0], [1], [2], [], [4], [5], [3, 6]]
def heap_Heap_at_r5 : List GO := [
  ⟨none, .mov 4 (.const (.pointer none))⟩]
def heap_Heap_at_r6 : List GO := [
  ⟨none, .mov 61 (.tmp 5)⟩,
  ⟨none, .mov 4 (.tmp 61)⟩]
def heap_Heap_at_lc : LC := (.seq (.ops heap_Heap_at_r0) (.seq (.seq (.draw heap_Heap_at_r1 heap_Heap_at_e1) (.cond (.tmp 40) (.seq (.ops heap_Heap_at_r2) .ret) .skip)) (.seq (.draw heap_Heap_at_r3 heap_Heap_at_e3) (.seq (.seq (.draw heap_Heap_at_r4 heap_Heap_at_e4) (.cond (.tmp 60) (.seq (.ops heap_Heap_at_r5) .ret) .skip)) (.seq (.ops heap_Heap_at_r6) .ret)))))
@[reducible] def heap_Heap_at : FuncId := 90
theorem heap_Heap_at_low : lowF Try.prog Try.f90 = some heap_Heap_at_lc := by kernel_rfl
theorem heap_Heap_at_in {a0 a1 : Value} {w : World} {R : Ending → World → Prop} (h : heap_Heap_at_lc.wp Try.prog (retQ Try.prog [.tmp 4] R) (argEnv [a0, a1]) w) : Calls Try.prog heap_Heap_at ⟨[a0, a1]⟩ w R :=
  calls_of_low Try.func90 heap_Heap_at_low (by kernel_rfl) (by kernel_rfl) h

/- 91 -/
def R_Things_thing_r0 : List GO := [
  ⟨none, .box 3 85 (.tmp 1)⟩,
  ⟨none, .mov 4 (.const (.pointer none))⟩]
def R_Things_thing_r1 : List GO := [
  ⟨none, .fld 6 (.tmp 3) 0⟩,
  ⟨none, .load1 7 (.tmp 6)⟩,
  ⟨none, .bin 8 .neq 3 (.tmp 7) (.const (.int .i64 3))⟩,
  ⟨none, .mov 9 (.tmp 8)⟩,
  ⟨some (9, true), .fld 10 (.tmp 3) 0⟩,
  ⟨some (9, true), .load1 11 (.tmp 10)⟩,
  ⟨some (9, true), .bin 12 .neq 3 (.tmp 11) (.const (.int .i64 4))⟩,
  ⟨none, .pick 13 (.tmp 9) (.tmp 12) (.const (.bool false))⟩,
  ⟨none, .mov 14 (.tmp 13)⟩,
  ⟨some (14, false), .mov 15 (.tmp 0)⟩,
  ⟨some (14, false), .fld 16 (.tmp 3) 1⟩,
  ⟨some (14, false), .load1 17 (.tmp 16)⟩,
  ⟨some (14, false), .call (some 18) 86 [(.tmp 15), (.tmp 17)]⟩,
  ⟨some (14, false), .un 19 .not (.tmp 18)⟩,
  ⟨none, .pick 20 (.tmp 14) (.const (.bool true)) (.tmp 19)⟩,
  ⟨none, .mov 21 (.tmp 20)⟩,
  ⟨some (21, false), .fld 22 (.tmp 3) 2⟩,
  ⟨some (21, false), .load1 23 (.tmp 22)⟩,
  ⟨some (21, false), .bin 24 .lss 3 (.tmp 23) (.const (.int .i64 0))⟩,
  ⟨none, .pick 25 (.tmp 21) (.const (.bool true)) (.tmp 24)⟩,
  ⟨none, .mov 26 (.tmp 25)⟩,
  ⟨some (26, false), .fld 27 (.tmp 3) 2⟩,
  ⟨some (26, false), .load1 28 (.tmp 27)⟩,
  ⟨some (26, false), .mov 29 (.tmp 0)⟩,
  ⟨some (26, false), .nilc 30 (.tmp 29)⟩,
  ⟨some (26, false), .fld 31 (.tmp 30) 0⟩,
  ⟨some (26, false), .load1 32 (.tmp 31)⟩,
  ⟨some (26, false), .fld 33 (.tmp 3) 1⟩,
  ⟨some (26, false), .load1 34 (.tmp 33)⟩,
  ⟨some (26, false), .idx 35 4 (.tmp 32) (.tmp 34)⟩,
  ⟨some (26, false), .fld 36 (.tmp 35) 1⟩,
  ⟨some (26, false), .load1 37 (.tmp 36)⟩,
  ⟨some (26, false), .len 38 (.tmp 37)⟩,
  ⟨some (26, false), .bin 39 .geq 3 (.tmp 28) (.tmp 38)⟩,
  ⟨none, .pick 40 (.tmp 26) (.const (.bool true)) (.tmp 39)⟩]
def R_Things_thing_e1 : List (List Nat) := [[], [0], [1], [2], [3], [4, 3], [5, 3], [3, 6], [7, 3], [8], [8], [10, 8], [9, 11, 8, 8], [12, 8], [8, 13], [14, 12], [15], [16, 15], [17, 15], [15, 18], [19, 15], [20], [21, 20], [20], [23, 20], [24, 20], [25, 20], [20], [27, 20], [26, 28, 20], [29, 20], [30, 20], [31, 20], [22, 32, 20], [20, 33]]
def R_Things_thing_r2 : List GO := [
  ⟨none, .mov 4 (.const (.pointer none))⟩]
def R_Things_thing_r3 : List GO := [
  ⟨none, .mov 41 (.tmp 0)⟩,
  ⟨none, .nilc 42 (.tmp 41)⟩,
  ⟨none, .fld 43 (.tmp 42) 0⟩,
  ⟨none, .load1 44 (.tmp 43)⟩,
  ⟨none, .fld 45 (.tmp 3) 1⟩,
  ⟨none, .load1 46 (.tmp 45)⟩,
  ⟨none, .idx 47 4 (.tmp 44) (.tmp 46)⟩,
  ⟨none, .fld 48 (.tmp 47) 1⟩,
  ⟨none, .load1 49 (.tmp 48)⟩,
  ⟨none, .fld 50 (.tmp 3) 2⟩,
  ⟨none, .load1 51 (.tmp 50)⟩,
  ⟨none, .idx 52 2 (.tmp 49) (.tmp 51)⟩,
  ⟨none, .mov 5 (.tmp 52)⟩]
def R_Things_thing_e3 : List (List Nat) := [[], [0], [1], [2], [], [4], [3, 5], [6], [7], [], [9], [8, 10], [11, 0, 1, 2, 3, 4, 5, 6, 7, 8, 9, 10, 11]]
def R_Things_thing_r4 : List GO := [
  ⟨none, .mov 53 (.tmp 5)⟩,
  ⟨none, .nilc 54 (.tmp 53)⟩,
  ⟨none, .fld 55 (.tmp 54) 0⟩,
  ⟨none, .load1 56 (.tmp 55)⟩,
  ⟨none, .fld 57 (.tmp 3) 0⟩,
  ⟨none, .load1 58 (.tmp 57)⟩,
  ⟨none, .bin 59 .eql 3 (.tmp 58) (.const (.int .i64 4))⟩,
  ⟨none, .bin 60 .neq 4 (.tmp 56) (.tmp 59)⟩]
def R_Things_thing_e4 : List (List Nat) := [[], [0], [1], [2], [], [4], [5], [3, 6]]
def R_Things_thing_r5 : List GO := [
  ⟨none, .mov 4 (.const (.pointer none))⟩]
def R_Things_thing_r6 : List GO := [
  ⟨none, .mov 61 (.tmp 5)⟩,
  ⟨none, .mov 4 (.tmp 61)⟩]
def R_Things_thing_lc : LC := (.seq (.ops R_Things_thing_r0) (.seq (.seq (.draw R_Things_thing_r1 R_Things_thing_e1) (.cond (.tmp 40) (.seq (.ops R_Things_thing_r2) .ret) .skip)) (.seq (.draw R_Things_thing_r3 R_Things_thing_e3) (.seq (.seq (.draw R_Things_thing_r4 R_Things_thing_e4) (.cond (.tmp 60) (.seq (.ops R_Things_thing_r5) .ret) .skip)) (.seq (.ops R_Things_thing_r6) .ret)))))
@[reducible] def R_Things_thing : FuncId := 91
theorem R_Things_thing_low : lowF Try.prog Try.f91 = some R_Things_thing_lc := by kernel_rfl
theorem R_Things_thing_in {a0 a1 : Value} {w : World} {R : Ending → World → Prop} (h : R_Things_thing_lc.wp Try.prog (retQ Try.prog [.tmp 4] R) (argEnv [a0, a1]) w) : Calls Try.prog R_Things_thing ⟨[a0, a1]⟩ w R :=
  calls_of_low Try.func91 R_Things_thing_low (by kernel_rfl) (by kernel_rfl) h

/- 92 -/
def heap_Heap_room_r0 : List GO := [
  ⟨none, .mov 6 (.const (.int .i64 0))⟩]
def heap_Heap_room_r1 : List GO := [
  ⟨none, .mov 7 (.tmp 1)⟩,
  ⟨none, .nilc 8 (.tmp 7)⟩,
  ⟨none, .fld 9 (.tmp 8) 2⟩,
  ⟨none, .load1 10 (.tmp 9)⟩,
  ⟨none, .bin 11 .eql 3 (.tmp 10) (.const (.int .i64 0))⟩,
  ⟨none, .mov 12 (.tmp 11)⟩,
  ⟨some (12, false), .mov 13 (.tmp 1)⟩,
  ⟨some (12, false), .nilc 14 (.tmp 13)⟩,
  ⟨some (12, false), .fld 15 (.tmp 14) 3⟩,
  ⟨some (12, false), .load1 16 (.tmp 15)⟩,
  ⟨some (12, false), .mov 17 (.tmp 2)⟩,
  ⟨some (12, false), .bin 18 .add 3 (.tmp 16) (.tmp 17)⟩,
  ⟨some (12, false), .bin 19 .gtr 3 (.tmp 18) (.const (.int .i64 16))⟩,
  ⟨none, .pick 20 (.tmp 12) (.const (.bool true)) (.tmp 19)⟩]
def heap_Heap_room_r2 : List GO := [
  ⟨none, .mov 21 (.tmp 0)⟩,
  ⟨none, .nilc 22 (.tmp 21)⟩,
  ⟨none, .fld 23 (.tmp 22) 1⟩,
  ⟨none, .load1 24 (.tmp 23)⟩,
  ⟨none, .bin 25 .eql 3 (.tmp 24) (.const (.int .i64 0))⟩]
def heap_Heap_room_r3 : List GO := [
  ⟨none, .mov 6 (.const (.int .i64 14))⟩]
def heap_Heap_room_r4 : List GO := [
  ⟨none, .mov 26 (.tmp 0)⟩,
  ⟨none, .nilc 27 (.tmp 26)⟩,
  ⟨none, .fld 28 (.tmp 27) 1⟩,
  ⟨none, .load1 29 (.tmp 28)⟩,
  ⟨none, .bin 30 .sub 3 (.tmp 29) (.const (.int .i64 1))⟩,
  ⟨none, .nilc 31 (.tmp 26)⟩,
  ⟨none, .fld 32 (.tmp 31) 1⟩,
  ⟨none, .store1 (.tmp 32) (.tmp 30)⟩]
def heap_Heap_room_r5 : List GO := [
  ⟨none, .mov 33 (.tmp 1)⟩,
  ⟨none, .nilc 34 (.tmp 33)⟩,
  ⟨none, .fld 35 (.tmp 34) 2⟩,
  ⟨none, .load1 36 (.tmp 35)⟩,
  ⟨none, .bin 37 .add 3 (.tmp 36) (.const (.int .i64 1))⟩,
  ⟨none, .nilc 38 (.tmp 33)⟩,
  ⟨none, .fld 39 (.tmp 38) 2⟩,
  ⟨none, .store1 (.tmp 39) (.tmp 37)⟩]
def heap_Heap_room_r6 : List GO := [
  ⟨none, .mov 40 (.tmp 1)⟩,
  ⟨none, .nilc 41 (.tmp 40)⟩,
  ⟨none, .fld 42 (.tmp 41) 3⟩,
  ⟨none, .store1 (.tmp 42) (.const (.int .i64 0))⟩]
def heap_Heap_room_r7 : List GO := [
  ⟨none, .mov 43 (.tmp 1)⟩,
  ⟨none, .nilc 44 (.tmp 43)⟩,
  ⟨none, .fld 45 (.tmp 44) 3⟩,
  ⟨none, .load1 46 (.tmp 45)⟩,
  ⟨none, .mov 47 (.tmp 2)⟩,
  ⟨none, .bin 48 .add 3 (.tmp 46) (.tmp 47)⟩,
  ⟨none, .nilc 49 (.tmp 43)⟩,
  ⟨none, .fld 50 (.tmp 49) 3⟩,
  ⟨none, .store1 (.tmp 50) (.tmp 48)⟩]
def heap_Heap_room_r8 : List GO := [
  ⟨none, .mov 6 (.const (.int .i64 0))⟩]
def heap_Heap_room_lc : LC := (.seq (.ops heap_Heap_room_r0) (.seq (.seq (.ops heap_Heap_room_r1) (.cond (.tmp 20) (.seq (.seq (.ops heap_Heap_room_r2) (.cond (.tmp 25) (.seq (.ops heap_Heap_room_r3) .ret) .skip)) (.seq (.ops heap_Heap_room_r4) (.seq (.ops heap_Heap_room_r5) (.ops heap_Heap_room_r6)))) .skip)) (.seq (.ops heap_Heap_room_r7) (.seq (.ops heap_Heap_room_r8) .ret))))
@[reducible] def heap_Heap_room : FuncId := 92
theorem heap_Heap_room_low : lowF Try.prog Try.f92 = some heap_Heap_room_lc := by kernel_rfl
theorem heap_Heap_room_in {a0 a1 a2 : Value} {w : World} {R : Ending → World → Prop} (h : heap_Heap_room_lc.wp Try.prog (retQ Try.prog [.tmp 6] R) (argEnv [a0, a1, a2]) w) : Calls Try.prog heap_Heap_room ⟨[a0, a1, a2]⟩ w R :=
  calls_of_low Try.func92 heap_Heap_room_low (by kernel_rfl) (by kernel_rfl) h

end Go.Proofs.Ytocllfbfogcbgaa