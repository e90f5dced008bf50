/- The functions, lowered: printed by a program off the translation. -/
import Derived.Test.YtocllfbfogcbgaaProg
import Derived.Test.YtocllfbfogcbgaaLirStep
namespace Go.Proofs.Ytocllfbfogcbgaa
open Go.Lir

/- 5 -/
def Law_HeldDoes_r0 : List GO := [
  ⟨none, .mov 4 (.const (.bool false))⟩]
def Law_HeldDoes_r1 : List GO := [
  ⟨none, .call (some 11) 17 []⟩,
  ⟨none, .un 12 .not (.tmp 11)⟩]
def Law_HeldDoes_r2 : List GO := [
  ⟨none, .mov 4 (.const (.bool false))⟩]
def Law_HeldDoes_r3 : List GO := [
  ⟨none, .mov 13 (.tmp 1)⟩,
  ⟨none, .len 14 (.tmp 13)⟩,
  ⟨none, .bin 15 .gtr 3 (.tmp 14) (.const (.int .i64 300))⟩]
def Law_HeldDoes_r4 : List GO := [
  ⟨none, .mov 4 (.const (.bool true))⟩]
def Law_HeldDoes_r5 : List GO := [
  ⟨none, .mov 16 (.tmp 0)⟩,
  ⟨none, .call (some 17) 18 [(.tmp 16)]⟩,
  ⟨none, .mov 18 (.tmp 0)⟩,
  ⟨none, .call (some 19) 19 [(.tmp 18)]⟩,
  ⟨none, .mov 5 (.tmp 17)⟩,
  ⟨none, .mov 6 (.tmp 19)⟩]
def Law_HeldDoes_r6 : List GO := [
  ⟨none, .mov 7 (.const (.int .i64 0))⟩]
def Law_HeldDoes_r7 : List GO := [
  ⟨none, .mov 20 (.tmp 7)⟩,
  ⟨none, .mov 21 (.tmp 1)⟩,
  ⟨none, .len 22 (.tmp 21)⟩,
  ⟨none, .bin 23 .lss 3 (.tmp 20) (.tmp 22)⟩]
def Law_HeldDoes_r8 : List GO := [
  ⟨none, .mov 26 (.tmp 1)⟩,
  ⟨none, .mov 27 (.tmp 7)⟩,
  ⟨none, .idx 28 3 (.tmp 26) (.tmp 27)⟩,
  ⟨none, .loadn 29 3 (.tmp 28)⟩,
  ⟨none, .alloc 8 34 [(.int .i64 0), (.int .i64 0), (.slice none 0 0)]⟩,
  ⟨none, .storen 3 (.tmp 8) (.tmp 29)⟩]
def Law_HeldDoes_r9 : List GO := [
  ⟨none, .fld 30 (.tmp 8) 2⟩,
  ⟨none, .load1 31 (.tmp 30)⟩,
  ⟨none, .len 32 (.tmp 31)⟩,
  ⟨none, .bin 33 .gtr 3 (.tmp 32) (.const (.int .i64 1000))⟩]
def Law_HeldDoes_r10 : List GO := [
  ⟨none, .mov 4 (.const (.bool true))⟩]
def Law_HeldDoes_r11 : List GO := [
  ⟨none, .fld 34 (.tmp 8) 0⟩,
  ⟨none, .load1 35 (.tmp 34)⟩]
def Law_HeldDoes_r12 : List GO := [
  ⟨none, .bin 37 .eql 3 (.tmp 35) (.const (.int .i64 0))⟩,
  ⟨none, .mov 36 (.tmp 37)⟩]
def Law_HeldDoes_r13 : List GO := [
  ⟨none, .mov 9 (.const (.int .i64 (-1)))⟩]
def Law_HeldDoes_r14 : List GO := [
  ⟨none, .mov 38 (.tmp 6)⟩,
  ⟨none, .nilc 39 (.tmp 38)⟩,
  ⟨none, .fld 40 (.tmp 39) 0⟩,
  ⟨none, .load1 41 (.tmp 40)⟩,
  ⟨none, .len 42 (.tmp 41)⟩,
  ⟨none, .bin 43 .lss 3 (.tmp 42) (.const (.int .i64 16))⟩]
def Law_HeldDoes_r15 : List GO := [
  ⟨none, .mov 44 (.tmp 6)⟩,
  ⟨none, .nilc 45 (.tmp 44)⟩,
  ⟨none, .fld 46 (.tmp 45) 0⟩,
  ⟨none, .load1 47 (.tmp 46)⟩,
  ⟨none, .len 48 (.tmp 47)⟩,
  ⟨none, .mov 9 (.tmp 48)⟩]
def Law_HeldDoes_r16 : List GO := [
  ⟨none, .mov 49 (.tmp 6)⟩,
  ⟨none, .mov 50 (.tmp 6)⟩,
  ⟨none, .nilc 51 (.tmp 50)⟩,
  ⟨none, .fld 52 (.tmp 51) 0⟩,
  ⟨none, .load1 53 (.tmp 52)⟩,
  ⟨none, .buildS 54 4 1 [(.bool false)] [(0, (1, (.const (.bool true))))]⟩,
  ⟨none, .raw ⟨(some 55), (.call ⟨(.builtin .append), #[(.tmp 53), (.tmp 54)], #[35, 35]⟩), 35, "", #[], none⟩⟩,
  ⟨none, .nilc 56 (.tmp 49)⟩,
  ⟨none, .fld 57 (.tmp 56) 0⟩,
  ⟨none, .store1 (.tmp 57) (.tmp 55)⟩]
def Law_HeldDoes_r17 : List GO := [
  ⟨none, .mov 58 (.tmp 5)⟩,
  ⟨none, .call (some 59) 20 [(.tmp 58)]⟩,
  ⟨none, .mov 60 (.tmp 9)⟩,
  ⟨none, .bin 61 .neq 3 (.tmp 59) (.tmp 60)⟩]
def Law_HeldDoes_r18 : List GO := [
  ⟨none, .mov 4 (.const (.bool false))⟩]
def Law_HeldDoes_r19 : List GO := [
  ⟨none, .bin 63 .eql 3 (.tmp 35) (.const (.int .i64 1))⟩,
  ⟨none, .mov 62 (.tmp 63)⟩]
def Law_HeldDoes_r20 : List GO := [
  ⟨none, .mov 64 (.tmp 6)⟩,
  ⟨none, .fld 65 (.tmp 8) 1⟩,
  ⟨none, .load1 66 (.tmp 65)⟩,
  ⟨none, .call (some 67) 21 [(.tmp 64), (.tmp 66)]⟩,
  ⟨none, .mov 10 (.tmp 67)⟩]
def Law_HeldDoes_r21 : List GO := [
  ⟨none, .mov 68 (.tmp 10)⟩]
def Law_HeldDoes_r22 : List GO := [
  ⟨none, .mov 69 (.tmp 6)⟩,
  ⟨none, .nilc 70 (.tmp 69)⟩,
  ⟨none, .fld 71 (.tmp 70) 0⟩,
  ⟨none, .load1 72 (.tmp 71)⟩,
  ⟨none, .fld 73 (.tmp 8) 1⟩,
  ⟨none, .load1 74 (.tmp 73)⟩,
  ⟨none, .idx 75 1 (.tmp 72) (.tmp 74)⟩,
  ⟨none, .store1 (.tmp 75) (.const (.bool false))⟩]
def Law_HeldDoes_e22 : List (List Nat) := [[], [0], [1], [2], [], [4], [3, 5, 0, 1, 2, 3, 4, 5], [6, 0, 1, 2, 3, 4, 5]]
def Law_HeldDoes_r23 : List GO := [
  ⟨none, .mov 76 (.tmp 5)⟩,
  ⟨none, .fld 77 (.tmp 8) 1⟩,
  ⟨none, .load1 78 (.tmp 77)⟩,
  ⟨none, .call (some 79) 22 [(.tmp 76), (.tmp 78)]⟩,
  ⟨none, .mov 80 (.tmp 10)⟩,
  ⟨none, .bin 81 .neq 4 (.tmp 79) (.tmp 80)⟩]
def Law_HeldDoes_r24 : List GO := [
  ⟨none, .mov 4 (.const (.bool false))⟩]
def Law_HeldDoes_r25 : List GO := [
  ⟨none, .bin 83 .eql 3 (.tmp 35) (.const (.int .i64 2))⟩,
  ⟨none, .mov 82 (.tmp 83)⟩]
def Law_HeldDoes_r26 : List GO := [
  ⟨none, .mov 84 (.tmp 5)⟩,
  ⟨none, .fld 85 (.tmp 8) 2⟩,
  ⟨none, .load1 86 (.tmp 85)⟩,
  ⟨none, .call (some 87) 23 [(.tmp 84), (.tmp 86)]⟩,
  ⟨none, .mov 88 (.tmp 6)⟩,
  ⟨none, .fld 89 (.tmp 8) 2⟩,
  ⟨none, .load1 90 (.tmp 89)⟩,
  ⟨none, .call (some 91) 24 [(.tmp 88), (.tmp 90)]⟩,
  ⟨none, .bin 92 .neq 3 (.tmp 87) (.tmp 91)⟩]
def Law_HeldDoes_e26 : List (List Nat) := [[], [], [1], [0, 2], [], [], [5], [4, 6, 3], [3, 7]]
def Law_HeldDoes_r27 : List GO := [
  ⟨none, .mov 4 (.const (.bool false))⟩]
def Law_HeldDoes_r28 : List GO := [
  ⟨none, .mov 93 (.tmp 5)⟩,
  ⟨none, .fld 94 (.tmp 8) 1⟩,
  ⟨none, .load1 95 (.tmp 94)⟩,
  ⟨none, .call (some 96) 25 [(.tmp 93), (.tmp 95)]⟩,
  ⟨none, .mov 97 (.tmp 6)⟩,
  ⟨none, .fld 98 (.tmp 8) 1⟩,
  ⟨none, .load1 99 (.tmp 98)⟩,
  ⟨none, .call (some 100) 21 [(.tmp 97), (.tmp 99)]⟩,
  ⟨none, .bin 101 .neq 4 (.tmp 96) (.tmp 100)⟩,
  ⟨none, .mov 102 (.tmp 101)⟩,
  ⟨some (102, false), .mov 103 (.tmp 5)⟩,
  ⟨some (102, false), .call (some 104) 26 [(.tmp 103)]⟩,
  ⟨some (102, false), .mov 105 (.tmp 6)⟩,
  ⟨some (102, false), .nilc 106 (.tmp 105)⟩,
  ⟨some (102, false), .fld 107 (.tmp 106) 0⟩,
  ⟨some (102, false), .load1 108 (.tmp 107)⟩,
  ⟨some (102, false), .len 109 (.tmp 108)⟩,
  ⟨some (102, false), .bin 110 .neq 3 (.tmp 104) (.tmp 109)⟩,
  ⟨none, .pick 111 (.tmp 102) (.const (.bool true)) (.tmp 110)⟩,
  ⟨none, .mov 112 (.tmp 111)⟩,
  ⟨some (112, false), .mov 113 (.tmp 5)⟩,
  ⟨some (112, false), .call (some 114) 28 [(.tmp 113)]⟩,
  ⟨some (112, false), .mov 115 (.tmp 6)⟩,
  ⟨some (112, false), .call (some 116) 29 [(.tmp 115)]⟩,
  ⟨some (112, false), .call (some 117) 27 [(.tmp 114), (.tmp 116)]⟩,
  ⟨some (112, false), .un 118 .not (.tmp 117)⟩,
  ⟨none, .pick 119 (.tmp 112) (.const (.bool true)) (.tmp 118)⟩]
def Law_HeldDoes_e28 : List (List Nat) := [[], [], [1], [0, 2], [], [], [5], [4, 6, 3], [3, 7], [8, 7], [9], [10, 9, 9], [9], [12, 9], [13, 9], [14, 9], [15, 9], [11, 16, 9], [9, 17], [18, 11], [19], [20, 19, 19], [19], [22, 21, 19], [21, 23, 23, 19], [24, 19], [19, 25]]
def Law_HeldDoes_r29 : List GO := [
  ⟨none, .mov 4 (.const (.bool false))⟩]
def Law_HeldDoes_r30 : List GO := [
  ⟨none, .mov 24 (.tmp 7)⟩,
  ⟨none, .bin 25 .add 3 (.tmp 24) (.const (.int .i64 1))⟩,
  ⟨none, .mov 7 (.tmp 25)⟩]
def Law_HeldDoes_b7 : LC := (.seq (.seq (.ops Law_HeldDoes_r7) (.cond (.tmp 23) .skip (.exit 0))) (.seq (.block 1 (.seq (.ops Law_HeldDoes_r8) (.seq (.seq (.ops Law_HeldDoes_r9) (.cond (.tmp 33) (.seq (.ops Law_HeldDoes_r10) .ret) .skip)) (.seq (.seq (.ops Law_HeldDoes_r11) (.block 2 (.seq (.ops Law_HeldDoes_r12) (.cond (.tmp 36) (.seq (.ops Law_HeldDoes_r13) (.seq (.seq (.ops Law_HeldDoes_r14) (.cond (.tmp 43) (.seq (.ops Law_HeldDoes_r15) (.ops Law_HeldDoes_r16)) .skip)) (.seq (.ops Law_HeldDoes_r17) (.cond (.tmp 61) (.seq (.ops Law_HeldDoes_r18) .ret) .skip)))) (.seq (.ops Law_HeldDoes_r19) (.cond (.tmp 62) (.seq (.ops Law_HeldDoes_r20) (.seq (.seq (.ops Law_HeldDoes_r21) (.cond (.tmp 68) (.draw Law_HeldDoes_r22 Law_HeldDoes_e22) .skip)) (.seq (.ops Law_HeldDoes_r23) (.cond (.tmp 81) (.seq (.ops Law_HeldDoes_r24) .ret) .skip)))) (.seq (.ops Law_HeldDoes_r25) (.cond (.tmp 82) (.seq (.draw Law_HeldDoes_r26 Law_HeldDoes_e26) (.cond (.tmp 92) (.seq (.ops Law_HeldDoes_r27) .ret) .skip)) .skip)))))))) (.seq (.draw Law_HeldDoes_r28 Law_HeldDoes_e28) (.cond (.tmp 119) (.seq (.ops Law_HeldDoes_r29) .ret) .skip)))))) (.ops Law_HeldDoes_r30)))
def Law_HeldDoes_r31 : List GO := [
  ⟨none, .mov 120 (.tmp 5)⟩,
  ⟨none, .mov 121 (.tmp 5)⟩,
  ⟨none, .call (some 122) 28 [(.tmp 121)]⟩,
  ⟨none, .call (some 123) 23 [(.tmp 120), (.tmp 122)]⟩,
  ⟨none, .bin 124 .eql 3 (.tmp 123) (.const (.int .i64 0))⟩,
  ⟨none, .mov 125 (.tmp 124)⟩,
  ⟨some (125, true), .mov 126 (.tmp 5)⟩,
  ⟨some (125, true), .call (some 127) 28 [(.tmp 126)]⟩,
  ⟨some (125, true), .len 128 (.tmp 127)⟩,
  ⟨some (125, true), .mov 129 (.tmp 5)⟩,
  ⟨some (125, true), .call (some 130) 26 [(.tmp 129)]⟩,
  ⟨some (125, true), .bin 131 .leq 3 (.tmp 128) (.tmp 130)⟩,
  ⟨none, .pick 132 (.tmp 125) (.tmp 131) (.const (.bool false))⟩,
  ⟨none, .mov 4 (.tmp 132)⟩]
def Law_HeldDoes_lc : LC := (.seq (.ops Law_HeldDoes_r0) (.seq (.seq (.ops Law_HeldDoes_r1) (.cond (.tmp 12) (.seq (.ops Law_HeldDoes_r2) .ret) .skip)) (.seq (.seq (.ops Law_HeldDoes_r3) (.cond (.tmp 15) (.seq (.ops Law_HeldDoes_r4) .ret) .skip)) (.seq (.ops Law_HeldDoes_r5) (.seq (.seq (.ops Law_HeldDoes_r6) (.block 0 (.loop Law_HeldDoes_b7))) (.seq (.ops Law_HeldDoes_r31) .ret))))))
@[reducible] def Law_HeldDoes : FuncId := 5
theorem Law_HeldDoes_low : lowF Try.prog Try.f5 = some Law_HeldDoes_lc := by kernel_rfl
theorem Law_HeldDoes_in {a0 a1 : Value} {w : World} {R : Ending → World → Prop} (h : Law_HeldDoes_lc.wp Try.prog (retQ Try.prog [.tmp 4] R) (argEnv [a0, a1]) w) : Calls Try.prog Law_HeldDoes ⟨[a0, a1]⟩ w R :=
  calls_of_low Try.func5 Law_HeldDoes_low (by kernel_rfl) (by kernel_rfl) h

/- 17 -/
def Law_heldBegun_r0 : List GO := [
  ⟨none, .mov 0 (.const (.bool false))⟩]
def Law_heldBegun_r1 : List GO := [
  ⟨none, .call (some 2) 18 [(.const (.int .i64 2))]⟩,
  ⟨none, .mov 1 (.tmp 2)⟩]
def Law_heldBegun_r2 : List GO := [
  ⟨none, .mov 3 (.tmp 1)⟩,
  ⟨none, .call (some 4) 20 [(.tmp 3)]⟩,
  ⟨none, .bin 5 .eql 3 (.tmp 4) (.const (.int .i64 2))⟩,
  ⟨none, .mov 6 (.tmp 5)⟩,
  ⟨some (6, true), .mov 7 (.tmp 1)⟩,
  ⟨some (6, true), .call (some 8) 22 [(.tmp 7), (.const (.int .i64 1))]⟩,
  ⟨none, .pick 9 (.tmp 6) (.tmp 8) (.const (.bool false))⟩,
  ⟨none, .mov 10 (.tmp 9)⟩,
  ⟨some (10, true), .mov 11 (.tmp 1)⟩,
  ⟨some (10, true), .call (some 12) 22 [(.tmp 11), (.const (.int .i64 1))]⟩,
  ⟨some (10, true), .un 13 .not (.tmp 12)⟩,
  ⟨none, .pick 14 (.tmp 10) (.tmp 13) (.const (.bool false))⟩,
  ⟨none, .mov 15 (.tmp 14)⟩,
  ⟨some (15, true), .mov 16 (.tmp 1)⟩,
  ⟨some (15, true), .call (some 17) 28 [(.tmp 16)]⟩,
  ⟨some (15, true), .buildS 18 3 2 [(.int .i64 0), (.int .i64 0)] [(0, (1, (.const (.int .i64 0)))), (1, (1, (.const (.int .i64 2))))]⟩,
  ⟨some (15, true), .call (some 19) 27 [(.tmp 17), (.tmp 18)]⟩,
  ⟨none, .pick 20 (.tmp 15) (.tmp 19) (.const (.bool false))⟩,
  ⟨none, .mov 21 (.tmp 20)⟩,
  ⟨some (21, true), .mov 22 (.tmp 1)⟩,
  ⟨some (21, true), .buildS 23 3 2 [(.int .i64 0), (.int .i64 0)] [(0, (1, (.const (.int .i64 2)))), (1, (1, (.const (.int .i64 0))))]⟩,
  ⟨some (21, true), .call (some 24) 23 [(.tmp 22), (.tmp 23)]⟩,
  ⟨some (21, true), .bin 25 .eql 3 (.tmp 24) (.const (.int .i64 0))⟩,
  ⟨none, .pick 26 (.tmp 21) (.tmp 25) (.const (.bool false))⟩,
  ⟨none, .mov 27 (.tmp 26)⟩,
  ⟨some (27, true), .mov 28 (.tmp 1)⟩,
  ⟨some (27, true), .buildS 29 3 1 [(.int .i64 0)] [(0, (1, (.const (.int .i64 0))))]⟩,
  ⟨some (27, true), .call (some 30) 23 [(.tmp 28), (.tmp 29)]⟩,
  ⟨some (27, true), .bin 31 .eql 3 (.tmp 30) (.const (.int .i64 12))⟩,
  ⟨none, .pick 32 (.tmp 27) (.tmp 31) (.const (.bool false))⟩,
  ⟨none, .mov 0 (.tmp 32)⟩]
def Law_heldBegun_lc : LC := (.seq (.ops Law_heldBegun_r0) (.seq (.ops Law_heldBegun_r1) (.seq (.ops Law_heldBegun_r2) .ret)))
@[reducible] def Law_heldBegun : FuncId := 17
theorem Law_heldBegun_low : lowF Try.prog Try.f17 = some Law_heldBegun_lc := by kernel_rfl
theorem Law_heldBegun_in {w : World} {R : Ending → World → Prop} (h : Law_heldBegun_lc.wp Try.prog (retQ Try.prog [.tmp 0] R) (argEnv []) w) : Calls Try.prog Law_heldBegun ⟨[]⟩ w R :=
  calls_of_low Try.func17 Law_heldBegun_low (by kernel_rfl) (by kernel_rfl) h

/- 18 -/
def held_New_r0 : List GO := [
  ⟨none, .mov 2 (.const (.pointer none))⟩]
def held_New_r1 : List GO := [
  ⟨none, .build 4 [(.slice none 0 0)] []⟩,
  ⟨none, .box 5 132 (.tmp 4)⟩,
  ⟨none, .mov 3 (.tmp 5)⟩]
def held_New_r2 : List GO := [
  ⟨none, .mov 6 (.tmp 0)⟩,
  ⟨none, .mnx 7 false (.tmp 6) (.const (.int .i64 16))⟩,
  ⟨none, .mov 8 (.const (.int .i64 0))⟩]
def held_New_r3 : List GO := [
  ⟨none, .bin 9 .lss 3 (.tmp 8) (.tmp 7)⟩]
def held_New_r4 : List GO := [
  ⟨none, .mov 10 (.tmp 3)⟩,
  ⟨none, .mov 11 (.tmp 3)⟩,
  ⟨none, .nilc 12 (.tmp 11)⟩,
  ⟨none, .fld 13 (.tmp 12) 0⟩,
  ⟨none, .load1 14 (.tmp 13)⟩,
  ⟨none, .buildS 15 4 1 [(.bool false)] [(0, (1, (.const (.bool true))))]⟩,
  ⟨none, .raw ⟨(some 16), (.call ⟨(.builtin .append), #[(.tmp 14), (.tmp 15)], #[35, 35]⟩), 35, "", #[], none⟩⟩,
  ⟨none, .nilc 17 (.tmp 10)⟩,
  ⟨none, .fld 18 (.tmp 17) 0⟩,
  ⟨none, .store1 (.tmp 18) (.tmp 16)⟩]
def held_New_r5 : List GO := [
  ⟨none, .bin 19 .add 3 (.tmp 8) (.const (.int .i64 1))⟩,
  ⟨none, .mov 8 (.tmp 19)⟩]
def held_New_b3 : LC := (.seq (.ops held_New_r3) (.seq (.cond (.tmp 9) .skip (.exit 0)) (.seq (.block 1 (.ops held_New_r4)) (.ops held_New_r5))))
def held_New_r6 : List GO := [
  ⟨none, .mov 20 (.tmp 3)⟩,
  ⟨none, .mov 2 (.tmp 20)⟩]
def held_New_lc : LC := (.seq (.ops held_New_r0) (.seq (.ops held_New_r1) (.seq (.seq (.ops held_New_r2) (.block 0 (.loop held_New_b3))) (.seq (.ops held_New_r6) .ret))))
@[reducible] def held_New : FuncId := 18
theorem held_New_low : lowF Try.prog Try.f18 = some held_New_lc := by kernel_rfl
theorem held_New_in {a0 : Value} {w : World} {R : Ending → World → Prop} (h : held_New_lc.wp Try.prog (retQ Try.prog [.tmp 2] R) (argEnv [a0]) w) : Calls Try.prog held_New ⟨[a0]⟩ w R :=
  calls_of_low Try.func18 held_New_low (by kernel_rfl) (by kernel_rfl) h

/- 19 -/
def R_NewHolds_r0 : List GO := [
  ⟨none, .mov 2 (.const (.pointer none))⟩]
def R_NewHolds_r1 : List GO := [
  ⟨none, .build 5 [(.slice none 0 0)] []⟩,
  ⟨none, .box 6 37 (.tmp 5)⟩,
  ⟨none, .mov 3 (.tmp 6)⟩]
def R_NewHolds_r2 : List GO := [
  ⟨none, .mov 4 (.const (.int .i64 0))⟩]
def R_NewHolds_r3 : List GO := [
  ⟨none, .mov 7 (.tmp 4)⟩,
  ⟨none, .mov 8 (.tmp 0)⟩,
  ⟨none, .bin 9 .lss 3 (.tmp 7) (.tmp 8)⟩,
  ⟨none, .mov 10 (.tmp 9)⟩,
  ⟨some (10, true), .mov 11 (.tmp 4)⟩,
  ⟨some (10, true), .bin 12 .lss 3 (.tmp 11) (.const (.int .i64 16))⟩,
  ⟨none, .pick 13 (.tmp 10) (.tmp 12) (.const (.bool false))⟩]
def R_NewHolds_r4 : List GO := [
  ⟨none, .mov 16 (.tmp 3)⟩,
  ⟨none, .mov 17 (.tmp 3)⟩,
  ⟨none, .nilc 18 (.tmp 17)⟩,
  ⟨none, .fld 19 (.tmp 18) 0⟩,
  ⟨none, .load1 20 (.tmp 19)⟩,
  ⟨none, .buildS 21 4 1 [(.bool false)] [(0, (1, (.const (.bool true))))]⟩,
  ⟨none, .raw ⟨(some 22), (.call ⟨(.builtin .append), #[(.tmp 20), (.tmp 21)], #[35, 35]⟩), 35, "", #[], none⟩⟩,
  ⟨none, .nilc 23 (.tmp 16)⟩,
  ⟨none, .fld 24 (.tmp 23) 0⟩,
  ⟨none, .store1 (.tmp 24) (.tmp 22)⟩]
def R_NewHolds_r5 : List GO := [
  ⟨none, .mov 14 (.tmp 4)⟩,
  ⟨none, .bin 15 .add 3 (.tmp 14) (.const (.int .i64 1))⟩,
  ⟨none, .mov 4 (.tmp 15)⟩]
def R_NewHolds_b3 : LC := (.seq (.seq (.ops R_NewHolds_r3) (.cond (.tmp 13) .skip (.exit 0))) (.seq (.block 1 (.ops R_NewHolds_r4)) (.ops R_NewHolds_r5)))
def R_NewHolds_r6 : List GO := [
  ⟨none, .mov 25 (.tmp 3)⟩,
  ⟨none, .mov 2 (.tmp 25)⟩]
def R_NewHolds_lc : LC := (.seq (.ops R_NewHolds_r0) (.seq (.ops R_NewHolds_r1) (.seq (.seq (.ops R_NewHolds_r2) (.block 0 (.loop R_NewHolds_b3))) (.seq (.ops R_NewHolds_r6) .ret))))
@[reducible] def R_NewHolds : FuncId := 19
theorem R_NewHolds_low : lowF Try.prog Try.f19 = some R_NewHolds_lc := by kernel_rfl
theorem R_NewHolds_in {a0 : Value} {w : World} {R : Ending → World → Prop} (h : R_NewHolds_lc.wp Try.prog (retQ Try.prog [.tmp 2] R) (argEnv [a0]) w) : Calls Try.prog R_NewHolds ⟨[a0]⟩ w R :=
  calls_of_low Try.func19 R_NewHolds_low (by kernel_rfl) (by kernel_rfl) h

/- 20 -/
def held_Held_Open_r0 : List GO := [
  ⟨none, .mov 2 (.const (.int .i64 0))⟩]
def held_Held_Open_r1 : List GO := [
  ⟨none, .mov 3 (.tmp 0)⟩,
  ⟨none, .nilc 4 (.tmp 3)⟩,
  ⟨none, .fld 5 (.tmp 4) 0⟩,
  ⟨none, .load1 6 (.tmp 5)⟩,
  ⟨none, .len 7 (.tmp 6)⟩,
  ⟨none, .bin 8 .eql 3 (.tmp 7) (.const (.int .i64 16))⟩]
def held_Held_Open_r2 : List GO := [
  ⟨none, .mov 2 (.const (.int .i64 (-1)))⟩]
def held_Held_Open_r3 : List GO := [
  ⟨none, .mov 9 (.tmp 0)⟩,
  ⟨none, .mov 10 (.tmp 0)⟩,
  ⟨none, .nilc 11 (.tmp 10)⟩,
  ⟨none, .fld 12 (.tmp 11) 0⟩,
  ⟨none, .load1 13 (.tmp 12)⟩,
  ⟨none, .buildS 14 4 1 [(.bool false)] [(0, (1, (.const (.bool true))))]⟩,
  ⟨none, .raw ⟨(some 15), (.call ⟨(.builtin .append), #[(.tmp 13), (.tmp 14)], #[35, 35]⟩), 35, "", #[], none⟩⟩,
  ⟨none, .nilc 16 (.tmp 9)⟩,
  ⟨none, .fld 17 (.tmp 16) 0⟩,
  ⟨none, .store1 (.tmp 17) (.tmp 15)⟩]
def held_Held_Open_r4 : List GO := [
  ⟨none, .mov 18 (.tmp 0)⟩,
  ⟨none, .nilc 19 (.tmp 18)⟩,
  ⟨none, .fld 20 (.tmp 19) 0⟩,
  ⟨none, .load1 21 (.tmp 20)⟩,
  ⟨none, .len 22 (.tmp 21)⟩,
  ⟨none, .bin 23 .sub 3 (.tmp 22) (.const (.int .i64 1))⟩,
  ⟨none, .mov 2 (.tmp 23)⟩]
def held_Held_Open_lc : LC := (.seq (.ops held_Held_Open_r0) (.seq (.seq (.ops held_Held_Open_r1) (.cond (.tmp 8) (.seq (.ops held_Held_Open_r2) .ret) .skip)) (.seq (.ops held_Held_Open_r3) (.seq (.ops held_Held_Open_r4) .ret))))
@[reducible] def held_Held_Open : FuncId := 20
theorem held_Held_Open_low : lowF Try.prog Try.f20 = some held_Held_Open_lc := by kernel_rfl
theorem held_Held_Open_in {a0 : Value} {w : World} {R : Ending → World → Prop} (h : held_Held_Open_lc.wp Try.prog (retQ Try.prog [.tmp 2] R) (argEnv [a0]) w) : Calls Try.prog held_Held_Open ⟨[a0]⟩ w R :=
  calls_of_low Try.func20 held_Held_Open_low (by kernel_rfl) (by kernel_rfl) h

/- 21 -/
def R_Holds_Has_r0 : List GO := [
  ⟨none, .mov 4 (.const (.bool false))⟩]
def R_Holds_Has_r1 : List GO := [
  ⟨none, .mov 5 (.tmp 1)⟩,
  ⟨none, .bin 6 .geq 3 (.tmp 5) (.const (.int .i64 0))⟩,
  ⟨none, .mov 7 (.tmp 6)⟩,
  ⟨some (7, true), .mov 8 (.tmp 1)⟩,
  ⟨some (7, true), .mov 9 (.tmp 0)⟩,
  ⟨some (7, true), .nilc 10 (.tmp 9)⟩,
  ⟨some (7, true), .fld 11 (.tmp 10) 0⟩,
  ⟨some (7, true), .load1 12 (.tmp 11)⟩,
  ⟨some (7, true), .len 13 (.tmp 12)⟩,
  ⟨some (7, true), .bin 14 .lss 3 (.tmp 8) (.tmp 13)⟩,
  ⟨none, .pick 15 (.tmp 7) (.tmp 14) (.const (.bool false))⟩,
  ⟨none, .mov 16 (.tmp 15)⟩,
  ⟨some (16, true), .mov 17 (.tmp 0)⟩,
  ⟨some (16, true), .nilc 18 (.tmp 17)⟩,
  ⟨some (16, true), .fld 19 (.tmp 18) 0⟩,
  ⟨some (16, true), .load1 20 (.tmp 19)⟩,
  ⟨some (16, true), .mov 21 (.tmp 1)⟩,
  ⟨some (16, true), .idx 22 1 (.tmp 20) (.tmp 21)⟩,
  ⟨some (16, true), .load1 23 (.tmp 22)⟩,
  ⟨none, .pick 24 (.tmp 16) (.tmp 23) (.const (.bool false))⟩,
  ⟨none, .mov 4 (.tmp 24)⟩]
def R_Holds_Has_lc : LC := (.seq (.ops R_Holds_Has_r0) (.seq (.ops R_Holds_Has_r1) .ret))
@[reducible] def R_Holds_Has : FuncId := 21
theorem R_Holds_Has_low : lowF Try.prog Try.f21 = some R_Holds_Has_lc := by kernel_rfl
theorem R_Holds_Has_in {a0 a1 : Value} {w : World} {R : Ending → World → Prop} (h : R_Holds_Has_lc.wp Try.prog (retQ Try.prog [.tmp 4] R) (argEnv [a0, a1]) w) : Calls Try.prog R_Holds_Has ⟨[a0, a1]⟩ w R :=
  calls_of_low Try.func21 R_Holds_Has_low (by kernel_rfl) (by kernel_rfl) h

/- 22 -/
def held_Held_Shut_r0 : List GO := [
  ⟨none, .mov 4 (.const (.bool false))⟩]
def held_Held_Shut_r1 : List GO := [
  ⟨none, .mov 6 (.tmp 0)⟩,
  ⟨none, .mov 7 (.tmp 1)⟩,
  ⟨none, .call (some 8) 25 [(.tmp 6), (.tmp 7)]⟩,
  ⟨none, .mov 5 (.tmp 8)⟩]
def held_Held_Shut_r2 : List GO := [
  ⟨none, .mov 9 (.tmp 5)⟩]
def held_Held_Shut_r3 : List GO := [
  ⟨none, .mov 10 (.tmp 0)⟩,
  ⟨none, .nilc 11 (.tmp 10)⟩,
  ⟨none, .fld 12 (.tmp 11) 0⟩,
  ⟨none, .load1 13 (.tmp 12)⟩,
  ⟨none, .mov 14 (.tmp 1)⟩,
  ⟨none, .idx 15 1 (.tmp 13) (.tmp 14)⟩,
  ⟨none, .store1 (.tmp 15) (.const (.bool false))⟩]
def held_Held_Shut_r4 : List GO := [
  ⟨none, .mov 16 (.tmp 5)⟩,
  ⟨none, .mov 4 (.tmp 16)⟩]
def held_Held_Shut_lc : LC := (.seq (.ops held_Held_Shut_r0) (.seq (.ops held_Held_Shut_r1) (.seq (.seq (.ops held_Held_Shut_r2) (.cond (.tmp 9) (.ops held_Held_Shut_r3) .skip)) (.seq (.ops held_Held_Shut_r4) .ret))))
@[reducible] def held_Held_Shut : FuncId := 22
theorem held_Held_Shut_low : lowF Try.prog Try.f22 = some held_Held_Shut_lc := by kernel_rfl
theorem held_Held_Shut_in {a0 a1 : Value} {w : World} {R : Ending → World → Prop} (h : held_Held_Shut_lc.wp Try.prog (retQ Try.prog [.tmp 4] R) (argEnv [a0, a1]) w) : Calls Try.prog held_Held_Shut ⟨[a0, a1]⟩ w R :=
  calls_of_low Try.func22 held_Held_Shut_low (by kernel_rfl) (by kernel_rfl) h

/- 23 -/
def held_Held_Pass_r0 : List GO := [
  ⟨none, .mov 4 (.const (.int .i64 0))⟩]
def held_Held_Pass_r1 : List GO := [
  ⟨none, .mov 8 (.tmp 0)⟩,
  ⟨none, .nilc 9 (.tmp 8)⟩,
  ⟨none, .fld 10 (.tmp 9) 0⟩,
  ⟨none, .load1 11 (.tmp 10)⟩,
  ⟨none, .len 12 (.tmp 11)⟩,
  ⟨none, .raw ⟨(some 13), (.makeSlice 35 (.tmp 12) (.tmp 12)), 35, "", #[], none⟩⟩,
  ⟨none, .mov 5 (.tmp 13)⟩]
def held_Held_Pass_r2 : List GO := [
  ⟨none, .mov 14 (.tmp 1)⟩,
  ⟨none, .len 15 (.tmp 14)⟩,
  ⟨none, .mov 16 (.const (.int .i64 0))⟩]
def held_Held_Pass_r3 : List GO := [
  ⟨none, .bin 17 .lss 3 (.tmp 16) (.tmp 15)⟩]
def held_Held_Pass_r4 : List GO := [
  ⟨none, .idx 18 1 (.tmp 14) (.tmp 16)⟩,
  ⟨none, .load1 19 (.tmp 18)⟩,
  ⟨none, .mov 7 (.tmp 19)⟩]
def held_Held_Pass_r5 : List GO := [
  ⟨none, .mov 20 (.tmp 0)⟩,
  ⟨none, .mov 21 (.tmp 7)⟩,
  ⟨none, .call (some 22) 25 [(.tmp 20), (.tmp 21)]⟩,
  ⟨none, .un 23 .not (.tmp 22)⟩]
def held_Held_Pass_r6 : List GO := [
  ⟨none, .mov 4 (.const (.int .i64 10))⟩]
def held_Held_Pass_r7 : List GO := [
  ⟨none, .mov 24 (.tmp 5)⟩,
  ⟨none, .mov 25 (.tmp 7)⟩,
  ⟨none, .idx 26 1 (.tmp 24) (.tmp 25)⟩,
  ⟨none, .load1 27 (.tmp 26)⟩]
def held_Held_Pass_r8 : List GO := [
  ⟨none, .mov 4 (.const (.int .i64 13))⟩]
def held_Held_Pass_r9 : List GO := [
  ⟨none, .mov 28 (.tmp 5)⟩,
  ⟨none, .mov 29 (.tmp 7)⟩,
  ⟨none, .idx 30 1 (.tmp 28) (.tmp 29)⟩,
  ⟨none, .store1 (.tmp 30) (.const (.bool true))⟩]
def held_Held_Pass_r10 : List GO := [
  ⟨none, .bin 31 .add 3 (.tmp 16) (.const (.int .i64 1))⟩,
  ⟨none, .mov 16 (.tmp 31)⟩]
def held_Held_Pass_b3 : LC := (.seq (.ops held_Held_Pass_r3) (.seq (.cond (.tmp 17) .skip (.exit 0)) (.seq (.block 1 (.seq (.ops held_Held_Pass_r4) (.seq (.seq (.ops held_Held_Pass_r5) (.cond (.tmp 23) (.seq (.ops held_Held_Pass_r6) .ret) .skip)) (.seq (.seq (.ops held_Held_Pass_r7) (.cond (.tmp 27) (.seq (.ops held_Held_Pass_r8) .ret) .skip)) (.ops held_Held_Pass_r9))))) (.ops held_Held_Pass_r10))))
def held_Held_Pass_r11 : List GO := [
  ⟨none, .mov 32 (.tmp 1)⟩,
  ⟨none, .len 33 (.tmp 32)⟩,
  ⟨none, .mov 34 (.tmp 0)⟩,
  ⟨none, .call (some 35) 28 [(.tmp 34)]⟩,
  ⟨none, .len 36 (.tmp 35)⟩,
  ⟨none, .bin 37 .lss 3 (.tmp 33) (.tmp 36)⟩]
def held_Held_Pass_r12 : List GO := [
  ⟨none, .mov 4 (.const (.int .i64 12))⟩]
def held_Held_Pass_r13 : List GO := [
  ⟨none, .mov 4 (.const (.int .i64 0))⟩]
def held_Held_Pass_lc : LC := (.seq (.ops held_Held_Pass_r0) (.seq (.ops held_Held_Pass_r1) (.seq (.seq (.ops held_Held_Pass_r2) (.block 0 (.loop held_Held_Pass_b3))) (.seq (.seq (.ops held_Held_Pass_r11) (.cond (.tmp 37) (.seq (.ops held_Held_Pass_r12) .ret) .skip)) (.seq (.ops held_Held_Pass_r13) .ret)))))
@[reducible] def held_Held_Pass : FuncId := 23
theorem held_Held_Pass_low : lowF Try.prog Try.f23 = some held_Held_Pass_lc := by kernel_rfl
theorem held_Held_Pass_in {a0 a1 : Value} {w : World} {R : Ending → World → Prop} (h : held_Held_Pass_lc.wp Try.prog (retQ Try.prog [.tmp 4] R) (argEnv [a0, a1]) w) : Calls Try.prog held_Held_Pass ⟨[a0, a1]⟩ w R :=
  calls_of_low Try.func23 held_Held_Pass_low (by kernel_rfl) (by kernel_rfl) h

/- 24 -/
def R_Holds_Pass_r0 : List GO := [
  ⟨none, .mov 4 (.const (.int .i64 0))⟩]
def R_Holds_Pass_r1 : List GO := [
  ⟨none, .mov 5 (.const (.int .i64 0))⟩]
def R_Holds_Pass_r2 : List GO := [
  ⟨none, .mov 8 (.tmp 5)⟩,
  ⟨none, .mov 9 (.tmp 1)⟩,
  ⟨none, .len 10 (.tmp 9)⟩,
  ⟨none, .bin 11 .lss 3 (.tmp 8) (.tmp 10)⟩]
def R_Holds_Pass_r3 : List GO := [
  ⟨none, .mov 14 (.tmp 0)⟩,
  ⟨none, .mov 15 (.tmp 1)⟩,
  ⟨none, .mov 16 (.tmp 5)⟩,
  ⟨none, .idx 17 1 (.tmp 15) (.tmp 16)⟩,
  ⟨none, .load1 18 (.tmp 17)⟩,
  ⟨none, .call (some 19) 21 [(.tmp 14), (.tmp 18)]⟩,
  ⟨none, .un 20 .not (.tmp 19)⟩]
def R_Holds_Pass_r4 : List GO := [
  ⟨none, .mov 4 (.const (.int .i64 10))⟩]
def R_Holds_Pass_r5 : List GO := [
  ⟨none, .mov 21 (.tmp 1)⟩,
  ⟨none, .mov 22 (.tmp 5)⟩,
  ⟨none, .sub 23 1 (.tmp 21) none (some (.tmp 22)) none⟩,
  ⟨none, .mov 24 (.tmp 1)⟩,
  ⟨none, .mov 25 (.tmp 5)⟩,
  ⟨none, .idx 26 1 (.tmp 24) (.tmp 25)⟩,
  ⟨none, .load1 27 (.tmp 26)⟩,
  ⟨none, .call (some 28) 44 [(.tmp 23), (.tmp 27)]⟩]
def R_Holds_Pass_e5 : List (List Nat) := [[], [], [0, 1], [], [], [3, 4], [5], [2, 6]]
def R_Holds_Pass_r6 : List GO := [
  ⟨none, .mov 4 (.const (.int .i64 13))⟩]
def R_Holds_Pass_r7 : List GO := [
  ⟨none, .mov 12 (.tmp 5)⟩,
  ⟨none, .bin 13 .add 3 (.tmp 12) (.const (.int .i64 1))⟩,
  ⟨none, .mov 5 (.tmp 13)⟩]
def R_Holds_Pass_b2 : LC := (.seq (.seq (.ops R_Holds_Pass_r2) (.cond (.tmp 11) .skip (.exit 0))) (.seq (.block 1 (.seq (.seq (.ops R_Holds_Pass_r3) (.cond (.tmp 20) (.seq (.ops R_Holds_Pass_r4) .ret) .skip)) (.seq (.draw R_Holds_Pass_r5 R_Holds_Pass_e5) (.cond (.tmp 28) (.seq (.ops R_Holds_Pass_r6) .ret) .skip)))) (.ops R_Holds_Pass_r7)))
def R_Holds_Pass_r8 : List GO := [
  ⟨none, .mov 29 (.tmp 0)⟩,
  ⟨none, .call (some 30) 29 [(.tmp 29)]⟩,
  ⟨none, .mov 6 (.tmp 30)⟩]
def R_Holds_Pass_r9 : List GO := [
  ⟨none, .mov 7 (.const (.int .i64 0))⟩]
def R_Holds_Pass_r10 : List GO := [
  ⟨none, .mov 31 (.tmp 7)⟩,
  ⟨none, .mov 32 (.tmp 6)⟩,
  ⟨none, .len 33 (.tmp 32)⟩,
  ⟨none, .bin 34 .lss 3 (.tmp 31) (.tmp 33)⟩]
def R_Holds_Pass_r11 : List GO := [
  ⟨none, .mov 37 (.tmp 1)⟩,
  ⟨none, .mov 38 (.tmp 6)⟩,
  ⟨none, .mov 39 (.tmp 7)⟩,
  ⟨none, .idx 40 1 (.tmp 38) (.tmp 39)⟩,
  ⟨none, .load1 41 (.tmp 40)⟩,
  ⟨none, .call (some 42) 44 [(.tmp 37), (.tmp 41)]⟩,
  ⟨none, .un 43 .not (.tmp 42)⟩]
def R_Holds_Pass_r12 : List GO := [
  ⟨none, .mov 4 (.const (.int .i64 12))⟩]
def R_Holds_Pass_r13 : List GO := [
  ⟨none, .mov 35 (.tmp 7)⟩,
  ⟨none, .bin 36 .add 3 (.tmp 35) (.const (.int .i64 1))⟩,
  ⟨none, .mov 7 (.tmp 36)⟩]
def R_Holds_Pass_b10 : LC := (.seq (.seq (.ops R_Holds_Pass_r10) (.cond (.tmp 34) .skip (.exit 2))) (.seq (.block 3 (.seq (.ops R_Holds_Pass_r11) (.cond (.tmp 43) (.seq (.ops R_Holds_Pass_r12) .ret) .skip))) (.ops R_Holds_Pass_r13)))
def R_Holds_Pass_r14 : List GO := [
  ⟨none, .mov 4 (.const (.int .i64 0))⟩]
def R_Holds_Pass_lc : LC := (.seq (.ops R_Holds_Pass_r0) (.seq (.seq (.ops R_Holds_Pass_r1) (.block 0 (.loop R_Holds_Pass_b2))) (.seq (.ops R_Holds_Pass_r8) (.seq (.seq (.ops R_Holds_Pass_r9) (.block 2 (.loop R_Holds_Pass_b10))) (.seq (.ops R_Holds_Pass_r14) .ret)))))
@[reducible] def R_Holds_Pass : FuncId := 24
theorem R_Holds_Pass_low : lowF Try.prog Try.f24 = some R_Holds_Pass_lc := by kernel_rfl
theorem R_Holds_Pass_in {a0 a1 : Value} {w : World} {R : Ending → World → Prop} (h : R_Holds_Pass_lc.wp Try.prog (retQ Try.prog [.tmp 4] R) (argEnv [a0, a1]) w) : Calls Try.prog R_Holds_Pass ⟨[a0, a1]⟩ w R :=
  calls_of_low Try.func24 R_Holds_Pass_low (by kernel_rfl) (by kernel_rfl) h

/- 25 -/
def held_Held_Has_r0 : List GO := [
  ⟨none, .mov 4 (.const (.bool false))⟩]
def held_Held_Has_r1 : List GO := [
  ⟨none, .mov 5 (.tmp 1)⟩,
  ⟨none, .bin 6 .geq 3 (.tmp 5) (.const (.int .i64 0))⟩,
  ⟨none, .mov 7 (.tmp 6)⟩,
  ⟨some (7, true), .mov 8 (.tmp 1)⟩,
  ⟨some (7, true), .mov 9 (.tmp 0)⟩,
  ⟨some (7, true), .nilc 10 (.tmp 9)⟩,
  ⟨some (7, true), .fld 11 (.tmp 10) 0⟩,
  ⟨some (7, true), .load1 12 (.tmp 11)⟩,
  ⟨some (7, true), .len 13 (.tmp 12)⟩,
  ⟨some (7, true), .bin 14 .lss 3 (.tmp 8) (.tmp 13)⟩,
  ⟨none, .pick 15 (.tmp 7) (.tmp 14) (.const (.bool false))⟩,
  ⟨none, .mov 16 (.tmp 15)⟩,
  ⟨some (16, true), .mov 17 (.tmp 0)⟩,
  ⟨some (16, true), .nilc 18 (.tmp 17)⟩,
  ⟨some (16, true), .fld 19 (.tmp 18) 0⟩,
  ⟨some (16, true), .load1 20 (.tmp 19)⟩,
  ⟨some (16, true), .mov 21 (.tmp 1)⟩,
  ⟨some (16, true), .idx 22 1 (.tmp 20) (.tmp 21)⟩,
  ⟨some (16, true), .load1 23 (.tmp 22)⟩,
  ⟨none, .pick 24 (.tmp 16) (.tmp 23) (.const (.bool false))⟩,
  ⟨none, .mov 4 (.tmp 24)⟩]
def held_Held_Has_lc : LC := (.seq (.ops held_Held_Has_r0) (.seq (.ops held_Held_Has_r1) .ret))
@[reducible] def held_Held_Has : FuncId := 25
theorem held_Held_Has_low : lowF Try.prog Try.f25 = some held_Held_Has_lc := by kernel_rfl
theorem held_Held_Has_in {a0 a1 : Value} {w : World} {R : Ending → World → Prop} (h : held_Held_Has_lc.wp Try.prog (retQ Try.prog [.tmp 4] R) (argEnv [a0, a1]) w) : Calls Try.prog held_Held_Has ⟨[a0, a1]⟩ w R :=
  calls_of_low Try.func25 held_Held_Has_low (by kernel_rfl) (by kernel_rfl) h

/- 26 -/
def held_Held_Len_r0 : List GO := [
  ⟨none, .mov 2 (.const (.int .i64 0))⟩]
def held_Held_Len_r1 : List GO := [
  ⟨none, .mov 3 (.tmp 0)⟩,
  ⟨none, .nilc 4 (.tmp 3)⟩,
  ⟨none, .fld 5 (.tmp 4) 0⟩,
  ⟨none, .load1 6 (.tmp 5)⟩,
  ⟨none, .len 7 (.tmp 6)⟩,
  ⟨none, .mov 2 (.tmp 7)⟩]
def held_Held_Len_lc : LC := (.seq (.ops held_Held_Len_r0) (.seq (.ops held_Held_Len_r1) .ret))
@[reducible] def held_Held_Len : FuncId := 26
theorem held_Held_Len_low : lowF Try.prog Try.f26 = some held_Held_Len_lc := by kernel_rfl
theorem held_Held_Len_in {a0 : Value} {w : World} {R : Ending → World → Prop} (h : held_Held_Len_lc.wp Try.prog (retQ Try.prog [.tmp 2] R) (argEnv [a0]) w) : Calls Try.prog held_Held_Len ⟨[a0]⟩ w R :=
  calls_of_low Try.func26 held_Held_Len_low (by kernel_rfl) (by kernel_rfl) h

/- 27 -/
def R_SameInts_r0 : List GO := [
  ⟨none, .mov 4 (.const (.bool false))⟩]
def R_SameInts_r1 : List GO := [
  ⟨none, .mov 6 (.tmp 0)⟩,
  ⟨none, .len 7 (.tmp 6)⟩,
  ⟨none, .mov 8 (.tmp 1)⟩,
  ⟨none, .len 9 (.tmp 8)⟩,
  ⟨none, .bin 10 .neq 3 (.tmp 7) (.tmp 9)⟩]
def R_SameInts_r2 : List GO := [
  ⟨none, .mov 4 (.const (.bool false))⟩]
def R_SameInts_r3 : List GO := [
  ⟨none, .mov 5 (.const (.int .i64 0))⟩]
def R_SameInts_r4 : List GO := [
  ⟨none, .mov 11 (.tmp 5)⟩,
  ⟨none, .mov 12 (.tmp 0)⟩,
  ⟨none, .len 13 (.tmp 12)⟩,
  ⟨none, .bin 14 .lss 3 (.tmp 11) (.tmp 13)⟩]
def R_SameInts_r5 : List GO := [
  ⟨none, .mov 17 (.tmp 0)⟩,
  ⟨none, .mov 18 (.tmp 5)⟩,
  ⟨none, .idx 19 1 (.tmp 17) (.tmp 18)⟩,
  ⟨none, .load1 20 (.tmp 19)⟩,
  ⟨none, .mov 21 (.tmp 1)⟩,
  ⟨none, .mov 22 (.tmp 5)⟩,
  ⟨none, .idx 23 1 (.tmp 21) (.tmp 22)⟩,
  ⟨none, .load1 24 (.tmp 23)⟩,
  ⟨none, .bin 25 .neq 3 (.tmp 20) (.tmp 24)⟩]
def R_SameInts_e5 : List (List Nat) := [[], [], [0, 1], [2], [], [], [4, 5], [6], [3, 7]]
def R_SameInts_r6 : List GO := [
  ⟨none, .mov 4 (.const (.bool false))⟩]
def R_SameInts_r7 : List GO := [
  ⟨none, .mov 15 (.tmp 5)⟩,
  ⟨none, .bin 16 .add 3 (.tmp 15) (.const (.int .i64 1))⟩,
  ⟨none, .mov 5 (.tmp 16)⟩]
def R_SameInts_b4 : LC := (.seq (.seq (.ops R_SameInts_r4) (.cond (.tmp 14) .skip (.exit 0))) (.seq (.block 1 (.seq (.draw R_SameInts_r5 R_SameInts_e5) (.cond (.tmp 25) (.seq (.ops R_SameInts_r6) .ret) .skip))) (.ops R_SameInts_r7)))
def R_SameInts_r8 : List GO := [
  ⟨none, .mov 4 (.const (.bool true))⟩]
def R_SameInts_lc : LC := (.seq (.ops R_SameInts_r0) (.seq (.seq (.ops R_SameInts_r1) (.cond (.tmp 10) (.seq (.ops R_SameInts_r2) .ret) .skip)) (.seq (.seq (.ops R_SameInts_r3) (.block 0 (.loop R_SameInts_b4))) (.seq (.ops R_SameInts_r8) .ret))))
@[reducible] def R_SameInts : FuncId := 27
theorem R_SameInts_low : lowF Try.prog Try.f27 = some R_SameInts_lc := by kernel_rfl
theorem R_SameInts_in {a0 a1 : Value} {w : World} {R : Ending → World → Prop} (h : R_SameInts_lc.wp Try.prog (retQ Try.prog [.tmp 4] R) (argEnv [a0, a1]) w) : Calls Try.prog R_SameInts ⟨[a0, a1]⟩ w R :=
  calls_of_low Try.func27 R_SameInts_low (by kernel_rfl) (by kernel_rfl) h

/- 28 -/
def held_Held_List_r0 : List GO := [
  ⟨none, .mov 2 (.const (.slice none 0 0))⟩]
def held_Held_List_r1 : List GO := [
  ⟨none, .mov 3 (.const (.slice none 0 0))⟩]
def held_Held_List_r2 : List GO := [
  ⟨none, .mov 6 (.tmp 0)⟩,
  ⟨none, .nilc 7 (.tmp 6)⟩,
  ⟨none, .fld 8 (.tmp 7) 0⟩,
  ⟨none, .load1 9 (.tmp 8)⟩,
  ⟨none, .len 10 (.tmp 9)⟩,
  ⟨none, .mov 11 (.const (.int .i64 0))⟩]
def held_Held_List_r3 : List GO := [
  ⟨none, .bin 12 .lss 3 (.tmp 11) (.tmp 10)⟩]
def held_Held_List_r4 : List GO := [
  ⟨none, .mov 13 (.tmp 11)⟩,
  ⟨none, .idx 14 1 (.tmp 9) (.tmp 11)⟩,
  ⟨none, .load1 15 (.tmp 14)⟩,
  ⟨none, .mov 4 (.tmp 13)⟩,
  ⟨none, .mov 5 (.tmp 15)⟩]
def held_Held_List_r5 : List GO := [
  ⟨none, .mov 16 (.tmp 5)⟩]
def held_Held_List_r6 : List GO := [
  ⟨none, .mov 17 (.tmp 3)⟩,
  ⟨none, .mov 18 (.tmp 4)⟩,
  ⟨none, .buildS 19 3 1 [(.int .i64 0)] [(0, (1, (.tmp 18)))]⟩,
  ⟨none, .raw ⟨(some 20), (.call ⟨(.builtin .append), #[(.tmp 17), (.tmp 19)], #[32, 32]⟩), 32, "", #[], none⟩⟩,
  ⟨none, .mov 3 (.tmp 20)⟩]
def held_Held_List_r7 : List GO := [
  ⟨none, .bin 21 .add 3 (.tmp 11) (.const (.int .i64 1))⟩,
  ⟨none, .mov 11 (.tmp 21)⟩]
def held_Held_List_b3 : LC := (.seq (.ops held_Held_List_r3) (.seq (.cond (.tmp 12) .skip (.exit 0)) (.seq (.block 1 (.seq (.ops held_Held_List_r4) (.seq (.ops held_Held_List_r5) (.cond (.tmp 16) (.ops held_Held_List_r6) .skip)))) (.ops held_Held_List_r7))))
def held_Held_List_r8 : List GO := [
  ⟨none, .mov 22 (.tmp 3)⟩,
  ⟨none, .mov 2 (.tmp 22)⟩]
def held_Held_List_lc : LC := (.seq (.ops held_Held_List_r0) (.seq (.ops held_Held_List_r1) (.seq (.seq (.ops held_Held_List_r2) (.block 0 (.loop held_Held_List_b3))) (.seq (.ops held_Held_List_r8) .ret))))
@[reducible] def held_Held_List : FuncId := 28
theorem held_Held_List_low : lowF Try.prog Try.f28 = some held_Held_List_lc := by kernel_rfl
theorem held_Held_List_in {a0 : Value} {w : World} {R : Ending → World → Prop} (h : held_Held_List_lc.wp Try.prog (retQ Try.prog [.tmp 2] R) (argEnv [a0]) w) : Calls Try.prog held_Held_List ⟨[a0]⟩ w R :=
  calls_of_low Try.func28 held_Held_List_low (by kernel_rfl) (by kernel_rfl) h

/- 29 -/
def R_Holds_List_r0 : List GO := [
  ⟨none, .mov 2 (.const (.slice none 0 0))⟩]
def R_Holds_List_r1 : List GO := [
  ⟨none, .mov 3 (.const (.slice none 0 0))⟩]
def R_Holds_List_r2 : List GO := [
  ⟨none, .mov 4 (.const (.int .i64 0))⟩]
def R_Holds_List_r3 : List GO := [
  ⟨none, .mov 5 (.tmp 4)⟩,
  ⟨none, .mov 6 (.tmp 0)⟩,
  ⟨none, .nilc 7 (.tmp 6)⟩,
  ⟨none, .fld 8 (.tmp 7) 0⟩,
  ⟨none, .load1 9 (.tmp 8)⟩,
  ⟨none, .len 10 (.tmp 9)⟩,
  ⟨none, .bin 11 .lss 3 (.tmp 5) (.tmp 10)⟩]
def R_Holds_List_r4 : List GO := [
  ⟨none, .mov 14 (.tmp 0)⟩,
  ⟨none, .nilc 15 (.tmp 14)⟩,
  ⟨none, .fld 16 (.tmp 15) 0⟩,
  ⟨none, .load1 17 (.tmp 16)⟩,
  ⟨none, .mov 18 (.tmp 4)⟩,
  ⟨none, .idx 19 1 (.tmp 17) (.tmp 18)⟩,
  ⟨none, .load1 20 (.tmp 19)⟩]
def R_Holds_List_r5 : List GO := [
  ⟨none, .mov 21 (.tmp 3)⟩,
  ⟨none, .mov 22 (.tmp 4)⟩,
  ⟨none, .buildS 23 3 1 [(.int .i64 0)] [(0, (1, (.tmp 22)))]⟩,
  ⟨none, .raw ⟨(some 24), (.call ⟨(.builtin .append), #[(.tmp 21), (.tmp 23)], #[32, 32]⟩), 32, "", #[], none⟩⟩,
  ⟨none, .mov 3 (.tmp 24)⟩]
def R_Holds_List_r6 : List GO := [
  ⟨none, .mov 12 (.tmp 4)⟩,
  ⟨none, .bin 13 .add 3 (.tmp 12) (.const (.int .i64 1))⟩,
  ⟨none, .mov 4 (.tmp 13)⟩]
def R_Holds_List_b3 : LC := (.seq (.seq (.ops R_Holds_List_r3) (.cond (.tmp 11) .skip (.exit 0))) (.seq (.block 1 (.seq (.ops R_Holds_List_r4) (.cond (.tmp 20) (.ops R_Holds_List_r5) .skip))) (.ops R_Holds_List_r6)))
def R_Holds_List_r7 : List GO := [
  ⟨none, .mov 25 (.tmp 3)⟩,
  ⟨none, .mov 2 (.tmp 25)⟩]
def R_Holds_List_lc : LC := (.seq (.ops R_Holds_List_r0) (.seq (.ops R_Holds_List_r1) (.seq (.seq (.ops R_Holds_List_r2) (.block 0 (.loop R_Holds_List_b3))) (.seq (.ops R_Holds_List_r7) .ret))))
@[reducible] def R_Holds_List : FuncId := 29
theorem R_Holds_List_low : lowF Try.prog Try.f29 = some R_Holds_List_lc := by kernel_rfl
theorem R_Holds_List_in {a0 : Value} {w : World} {R : Ending → World → Prop} (h : R_Holds_List_lc.wp Try.prog (retQ Try.prog [.tmp 2] R) (argEnv [a0]) w) : Calls Try.prog R_Holds_List ⟨[a0]⟩ w R :=
  calls_of_low Try.func29 R_Holds_List_low (by kernel_rfl) (by kernel_rfl) h

/- 44 -/
def R_In_r0 : List GO := [
  ⟨none, .mov 4 (.const (.bool false))⟩]
def R_In_r1 : List GO := [
  ⟨none, .mov 5 (.const (.int .i64 0))⟩]
def R_In_r2 : List GO := [
  ⟨none, .mov 6 (.tmp 5)⟩,
  ⟨none, .mov 7 (.tmp 0)⟩,
  ⟨none, .len 8 (.tmp 7)⟩,
  ⟨none, .bin 9 .lss 3 (.tmp 6) (.tmp 8)⟩]
def R_In_r3 : List GO := [
  ⟨none, .mov 12 (.tmp 0)⟩,
  ⟨none, .mov 13 (.tmp 5)⟩,
  ⟨none, .idx 14 1 (.tmp 12) (.tmp 13)⟩,
  ⟨none, .load1 15 (.tmp 14)⟩,
  ⟨none, .mov 16 (.tmp 1)⟩,
  ⟨none, .bin 17 .eql 3 (.tmp 15) (.tmp 16)⟩]
def R_In_r4 : List GO := [
  ⟨none, .mov 4 (.const (.bool true))⟩]
def R_In_r5 : List GO := [
  ⟨none, .mov 10 (.tmp 5)⟩,
  ⟨none, .bin 11 .add 3 (.tmp 10) (.const (.int .i64 1))⟩,
  ⟨none, .mov 5 (.tmp 11)⟩]
def R_In_b2 : LC := (.seq (.seq (.ops R_In_r2) (.cond (.tmp 9) .skip (.exit 0))) (.seq (.block 1 (.seq (.ops R_In_r3) (.cond (.tmp 17) (.seq (.ops R_In_r4) .ret) .skip))) (.ops R_In_r5)))
def R_In_r6 : List GO := [
  ⟨none, .mov 4 (.const (.bool false))⟩]
def R_In_lc : LC := (.seq (.ops R_In_r0) (.seq (.seq (.ops R_In_r1) (.block 0 (.loop R_In_b2))) (.seq (.ops R_In_r6) .ret)))
@[reducible] def R_In : FuncId := 44
theorem R_In_low : lowF Try.prog Try.f44 = some R_In_lc := by kernel_rfl
theorem R_In_in {a0 a1 : Value} {w : World} {R : Ending → World → Prop} (h : R_In_lc.wp Try.prog (retQ Try.prog [.tmp 4] R) (argEnv [a0, a1]) w) : Calls Try.prog R_In ⟨[a0, a1]⟩ w R :=
  calls_of_low Try.func44 R_In_low (by kernel_rfl) (by kernel_rfl) h

end Go.Proofs.Ytocllfbfogcbgaa