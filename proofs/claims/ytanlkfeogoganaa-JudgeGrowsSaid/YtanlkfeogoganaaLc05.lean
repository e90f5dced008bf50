/- The functions, lowered: printed by a program off the translation. -/
import Derived.Test.YtanlkfeogoganaaProg
import Derived.Test.YtanlkfeogoganaaLirStep
namespace Go.Proofs.Ytanlkfeogoganaa
open Go.Lir
set_option maxRecDepth 100000

/- 3 -/
/- 4 -/
/- 10 -/
/- 11 -/
def R_GreatModule_r0 : List GO := [
  ⟨none, .box 1 24 (.tmp 0)⟩,
  ⟨none, .mov 2 (.const (.bool false))⟩]
def R_GreatModule_r1 : List GO := [
  ⟨none, .fld 8 (.tmp 1) 0⟩,
  ⟨none, .load1 9 (.tmp 8)⟩,
  ⟨none, .len 10 (.tmp 9)⟩,
  ⟨none, .bin 11 .gtr 3 (.tmp 10) (.const (.int .i64 20))⟩]
def R_GreatModule_r2 : List GO := [
  ⟨none, .mov 2 (.const (.bool true))⟩]
def R_GreatModule_r3 : List GO := [
  ⟨none, .mov 3 (.const (.int .i64 0))⟩]
def R_GreatModule_r4 : List GO := [
  ⟨none, .mov 12 (.tmp 3)⟩,
  ⟨none, .fld 13 (.tmp 1) 0⟩,
  ⟨none, .load1 14 (.tmp 13)⟩,
  ⟨none, .len 15 (.tmp 14)⟩,
  ⟨none, .bin 16 .lss 3 (.tmp 12) (.tmp 15)⟩]
def R_GreatModule_r5 : List GO := [
  ⟨none, .fld 19 (.tmp 1) 0⟩,
  ⟨none, .load1 20 (.tmp 19)⟩,
  ⟨none, .mov 21 (.tmp 3)⟩,
  ⟨none, .idx 22 4 (.tmp 20) (.tmp 21)⟩,
  ⟨none, .loadn 23 4 (.tmp 22)⟩,
  ⟨none, .alloc 4 31 [(.int .i64 0), (.slice none 0 0), (.slice none 0 0), (.slice none 0 0)]⟩,
  ⟨none, .storen 4 (.tmp 4) (.tmp 23)⟩]
def R_GreatModule_r6 : List GO := [
  ⟨none, .fld 24 (.tmp 4) 3⟩,
  ⟨none, .load1 25 (.tmp 24)⟩,
  ⟨none, .len 26 (.tmp 25)⟩,
  ⟨none, .bin 27 .gtr 3 (.tmp 26) (.const (.int .i64 30))⟩,
  ⟨none, .mov 28 (.tmp 27)⟩,
  ⟨some (28, false), .fld 29 (.tmp 4) 1⟩,
  ⟨some (28, false), .load1 30 (.tmp 29)⟩,
  ⟨some (28, false), .call (some 31) 46 [(.tmp 30)]⟩,
  ⟨none, .pick 32 (.tmp 28) (.const (.bool true)) (.tmp 31)⟩,
  ⟨none, .mov 33 (.tmp 32)⟩,
  ⟨some (33, false), .fld 34 (.tmp 4) 2⟩,
  ⟨some (33, false), .load1 35 (.tmp 34)⟩,
  ⟨some (33, false), .call (some 36) 46 [(.tmp 35)]⟩,
  ⟨none, .pick 37 (.tmp 33) (.const (.bool true)) (.tmp 36)⟩]
def R_GreatModule_r7 : List GO := [
  ⟨none, .mov 2 (.const (.bool true))⟩]
def R_GreatModule_r8 : List GO := [
  ⟨none, .mov 5 (.const (.int .i64 0))⟩]
def R_GreatModule_r9 : List GO := [
  ⟨none, .mov 38 (.tmp 5)⟩,
  ⟨none, .fld 39 (.tmp 4) 3⟩,
  ⟨none, .load1 40 (.tmp 39)⟩,
  ⟨none, .len 41 (.tmp 40)⟩,
  ⟨none, .bin 42 .lss 3 (.tmp 38) (.tmp 41)⟩]
def R_GreatModule_r10 : List GO := [
  ⟨none, .fld 45 (.tmp 4) 3⟩,
  ⟨none, .load1 46 (.tmp 45)⟩,
  ⟨none, .mov 47 (.tmp 5)⟩,
  ⟨none, .idx 48 12 (.tmp 46) (.tmp 47)⟩,
  ⟨none, .loadn 49 12 (.tmp 48)⟩,
  ⟨none, .alloc 6 77 [(.int .i64 0), (.slice none 0 0), (.slice none 0 0), (.int .i64 0), (.int .i64 0), (.int .i64 0), (.slice none 0 0), (.slice none 0 0), (.int .i64 0), (.slice none 0 0), (.slice none 0 0), (.slice none 0 0)]⟩,
  ⟨none, .storen 12 (.tmp 6) (.tmp 49)⟩]
def R_GreatModule_r11 : List GO := [
  ⟨none, .fld 50 (.tmp 6) 2⟩,
  ⟨none, .load1 51 (.tmp 50)⟩,
  ⟨none, .len 52 (.tmp 51)⟩,
  ⟨none, .bin 53 .gtr 3 (.tmp 52) (.const (.int .i64 200))⟩,
  ⟨none, .mov 54 (.tmp 53)⟩,
  ⟨some (54, false), .fld 55 (.tmp 6) 1⟩,
  ⟨some (54, false), .load1 56 (.tmp 55)⟩,
  ⟨some (54, false), .call (some 57) 46 [(.tmp 56)]⟩,
  ⟨none, .pick 58 (.tmp 54) (.const (.bool true)) (.tmp 57)⟩,
  ⟨none, .mov 59 (.tmp 58)⟩,
  ⟨some (59, false), .fld 60 (.tmp 6) 3⟩,
  ⟨some (59, false), .fld 61 (.tmp 60) 8⟩,
  ⟨some (59, false), .load1 62 (.tmp 61)⟩,
  ⟨some (59, false), .len 63 (.tmp 62)⟩,
  ⟨some (59, false), .bin 64 .gtr 3 (.tmp 63) (.const (.int .i64 300))⟩,
  ⟨none, .pick 65 (.tmp 59) (.const (.bool true)) (.tmp 64)⟩,
  ⟨none, .mov 66 (.tmp 65)⟩,
  ⟨some (66, false), .fld 67 (.tmp 6) 3⟩,
  ⟨some (66, false), .fld 68 (.tmp 67) 2⟩,
  ⟨some (66, false), .fld 69 (.tmp 68) 1⟩,
  ⟨some (66, false), .load1 70 (.tmp 69)⟩,
  ⟨some (66, false), .len 71 (.tmp 70)⟩,
  ⟨some (66, false), .bin 72 .gtr 3 (.tmp 71) (.const (.int .i64 300))⟩,
  ⟨none, .pick 73 (.tmp 66) (.const (.bool true)) (.tmp 72)⟩,
  ⟨none, .mov 74 (.tmp 73)⟩,
  ⟨some (74, false), .fld 75 (.tmp 6) 3⟩,
  ⟨some (74, false), .fld 76 (.tmp 75) 2⟩,
  ⟨some (74, false), .fld 77 (.tmp 76) 2⟩,
  ⟨some (74, false), .load1 78 (.tmp 77)⟩,
  ⟨some (74, false), .len 79 (.tmp 78)⟩,
  ⟨some (74, false), .bin 80 .gtr 3 (.tmp 79) (.const (.int .i64 300))⟩,
  ⟨none, .pick 81 (.tmp 74) (.const (.bool true)) (.tmp 80)⟩,
  ⟨none, .mov 82 (.tmp 81)⟩,
  ⟨some (82, false), .fld 83 (.tmp 6) 3⟩,
  ⟨some (82, false), .fld 84 (.tmp 83) 5⟩,
  ⟨some (82, false), .fld 85 (.tmp 84) 1⟩,
  ⟨some (82, false), .load1 86 (.tmp 85)⟩,
  ⟨some (82, false), .len 87 (.tmp 86)⟩,
  ⟨some (82, false), .bin 88 .gtr 3 (.tmp 87) (.const (.int .i64 300))⟩,
  ⟨none, .pick 89 (.tmp 82) (.const (.bool true)) (.tmp 88)⟩,
  ⟨none, .mov 90 (.tmp 89)⟩,
  ⟨some (90, false), .fld 91 (.tmp 6) 3⟩,
  ⟨some (90, false), .fld 92 (.tmp 91) 5⟩,
  ⟨some (90, false), .fld 93 (.tmp 92) 2⟩,
  ⟨some (90, false), .load1 94 (.tmp 93)⟩,
  ⟨some (90, false), .len 95 (.tmp 94)⟩,
  ⟨some (90, false), .bin 96 .gtr 3 (.tmp 95) (.const (.int .i64 300))⟩,
  ⟨none, .pick 97 (.tmp 90) (.const (.bool true)) (.tmp 96)⟩]
def R_GreatModule_r12 : List GO := [
  ⟨none, .mov 2 (.const (.bool true))⟩]
def R_GreatModule_r13 : List GO := [
  ⟨none, .mov 7 (.const (.int .i64 0))⟩]
def R_GreatModule_r14 : List GO := [
  ⟨none, .mov 98 (.tmp 7)⟩,
  ⟨none, .fld 99 (.tmp 6) 2⟩,
  ⟨none, .load1 100 (.tmp 99)⟩,
  ⟨none, .len 101 (.tmp 100)⟩,
  ⟨none, .bin 102 .lss 3 (.tmp 98) (.tmp 101)⟩]
def R_GreatModule_r15 : List GO := [
  ⟨none, .fld 105 (.tmp 6) 2⟩,
  ⟨none, .load1 106 (.tmp 105)⟩,
  ⟨none, .mov 107 (.tmp 7)⟩,
  ⟨none, .idx 108 8 (.tmp 106) (.tmp 107)⟩,
  ⟨none, .fld 109 (.tmp 108) 6⟩,
  ⟨none, .load1 110 (.tmp 109)⟩,
  ⟨none, .len 111 (.tmp 110)⟩,
  ⟨none, .bin 112 .gtr 3 (.tmp 111) (.const (.int .i64 300))⟩,
  ⟨none, .mov 113 (.tmp 112)⟩,
  ⟨some (113, false), .fld 114 (.tmp 6) 2⟩,
  ⟨some (113, false), .load1 115 (.tmp 114)⟩,
  ⟨some (113, false), .mov 116 (.tmp 7)⟩,
  ⟨some (113, false), .idx 117 8 (.tmp 115) (.tmp 116)⟩,
  ⟨some (113, false), .fld 118 (.tmp 117) 7⟩,
  ⟨some (113, false), .load1 119 (.tmp 118)⟩,
  ⟨some (113, false), .len 120 (.tmp 119)⟩,
  ⟨some (113, false), .bin 121 .gtr 3 (.tmp 120) (.const (.int .i64 300))⟩,
  ⟨none, .pick 122 (.tmp 113) (.const (.bool true)) (.tmp 121)⟩]
def R_GreatModule_r16 : List GO := [
  ⟨none, .mov 2 (.const (.bool true))⟩]
def R_GreatModule_r17 : List GO := [
  ⟨none, .mov 103 (.tmp 7)⟩,
  ⟨none, .bin 104 .add 3 (.tmp 103) (.const (.int .i64 1))⟩,
  ⟨none, .mov 7 (.tmp 104)⟩]
def R_GreatModule_b14 : LC := (.seq (.seq (.ops R_GreatModule_r14) (.cond (.tmp 102) .skip (.exit 4))) (.seq (.block 5 (.seq (.ops R_GreatModule_r15) (.cond (.tmp 122) (.seq (.ops R_GreatModule_r16) .ret) .skip))) (.ops R_GreatModule_r17)))
def R_GreatModule_r18 : List GO := [
  ⟨none, .mov 43 (.tmp 5)⟩,
  ⟨none, .bin 44 .add 3 (.tmp 43) (.const (.int .i64 1))⟩,
  ⟨none, .mov 5 (.tmp 44)⟩]
def R_GreatModule_b9 : LC := (.seq (.seq (.ops R_GreatModule_r9) (.cond (.tmp 42) .skip (.exit 2))) (.seq (.block 3 (.seq (.ops R_GreatModule_r10) (.seq (.seq (.ops R_GreatModule_r11) (.cond (.tmp 97) (.seq (.ops R_GreatModule_r12) .ret) .skip)) (.seq (.ops R_GreatModule_r13) (.block 4 (.loop R_GreatModule_b14)))))) (.ops R_GreatModule_r18)))
def R_GreatModule_r19 : List GO := [
  ⟨none, .mov 17 (.tmp 3)⟩,
  ⟨none, .bin 18 .add 3 (.tmp 17) (.const (.int .i64 1))⟩,
  ⟨none, .mov 3 (.tmp 18)⟩]
def R_GreatModule_b4 : LC := (.seq (.seq (.ops R_GreatModule_r4) (.cond (.tmp 16) .skip (.exit 0))) (.seq (.block 1 (.seq (.ops R_GreatModule_r5) (.seq (.seq (.ops R_GreatModule_r6) (.cond (.tmp 37) (.seq (.ops R_GreatModule_r7) .ret) .skip)) (.seq (.ops R_GreatModule_r8) (.block 2 (.loop R_GreatModule_b9)))))) (.ops R_GreatModule_r19)))
def R_GreatModule_r20 : List GO := [
  ⟨none, .mov 2 (.const (.bool false))⟩]
def R_GreatModule_lc : LC := (.seq (.ops R_GreatModule_r0) (.seq (.seq (.ops R_GreatModule_r1) (.cond (.tmp 11) (.seq (.ops R_GreatModule_r2) .ret) .skip)) (.seq (.seq (.ops R_GreatModule_r3) (.block 0 (.loop R_GreatModule_b4))) (.seq (.ops R_GreatModule_r20) .ret))))
@[reducible] def R_GreatModule : FuncId := 11
theorem R_GreatModule_low : lowF Try.prog Try.f11 = some R_GreatModule_lc := by kernel_rfl
theorem R_GreatModule_in {a0 : Value} {w : World} {R : Ending → World → Prop} (h : R_GreatModule_lc.wp Try.prog (retQ Try.prog [.tmp 2] R) (argEnv [a0]) w) : Calls Try.prog R_GreatModule ⟨[a0]⟩ w R :=
  calls_of_low Try.func11 R_GreatModule_low (by kernel_rfl) (by kernel_rfl) h

/- 12 -/
def code_Ins_r0 : List GO := [
  ⟨none, .box 2 24 (.tmp 0)⟩,
  ⟨none, .box 3 27 (.tmp 1)⟩,
  ⟨none, .mov 4 (.const (.int .i64 0))⟩]
def code_Ins_r1 : List GO := [
  ⟨none, .loadn 6 1 (.tmp 2)⟩,
  ⟨none, .build 7 [(.slice none 0 0), (.int .i64 0), (.int .i64 0), (.int .i64 0)] [(0, (1, (.tmp 6)))]⟩,
  ⟨none, .box 8 83 (.tmp 7)⟩,
  ⟨none, .mov 5 (.tmp 8)⟩]
def code_Ins_r2 : List GO := [
  ⟨none, .mov 9 (.tmp 5)⟩,
  ⟨none, .loadn 10 8 (.tmp 3)⟩,
  ⟨none, .call (some 11) 47 [(.tmp 9), (.tmp 10)]⟩]
def code_Ins_r3 : List GO := [
  ⟨none, .mov 12 (.tmp 5)⟩,
  ⟨none, .nilc 13 (.tmp 12)⟩,
  ⟨none, .fld 14 (.tmp 13) 1⟩,
  ⟨none, .fld 15 (.tmp 14) 0⟩,
  ⟨none, .load1 16 (.tmp 15)⟩,
  ⟨none, .mov 4 (.tmp 16)⟩]
def code_Ins_lc : LC := (.seq (.ops code_Ins_r0) (.seq (.ops code_Ins_r1) (.seq (.ops code_Ins_r2) (.seq (.ops code_Ins_r3) .ret))))
@[reducible] def code_Ins : FuncId := 12
theorem code_Ins_low : lowF Try.prog Try.f12 = some code_Ins_lc := by kernel_rfl
theorem code_Ins_in {a0 a1 : Value} {w : World} {R : Ending → World → Prop} (h : code_Ins_lc.wp Try.prog (retQ Try.prog [.tmp 4] R) (argEnv [a0, a1]) w) : Calls Try.prog code_Ins ⟨[a0, a1]⟩ w R :=
  calls_of_low Try.func12 code_Ins_low (by kernel_rfl) (by kernel_rfl) h

/- 13 -/
/- 14 -/
def code_End_r0 : List GO := [
  ⟨none, .box 2 31 (.tmp 0)⟩,
  ⟨none, .box 3 35 (.tmp 1)⟩,
  ⟨none, .mov 4 (.const (.int .i64 0))⟩]
def code_End_r1 : List GO := [
  ⟨none, .build 6 [(.slice none 0 0), (.int .i64 0), (.int .i64 0), (.int .i64 0)] []⟩,
  ⟨none, .box 7 83 (.tmp 6)⟩,
  ⟨none, .mov 5 (.tmp 7)⟩]
def code_End_r2 : List GO := [
  ⟨none, .mov 8 (.tmp 5)⟩,
  ⟨none, .loadn 9 4 (.tmp 2)⟩,
  ⟨none, .loadn 10 9 (.tmp 3)⟩,
  ⟨none, .call (some 11) 49 [(.tmp 8), (.tmp 9), (.tmp 10)]⟩]
def code_End_r3 : List GO := [
  ⟨none, .mov 12 (.tmp 5)⟩,
  ⟨none, .nilc 13 (.tmp 12)⟩,
  ⟨none, .fld 14 (.tmp 13) 1⟩,
  ⟨none, .fld 15 (.tmp 14) 0⟩,
  ⟨none, .load1 16 (.tmp 15)⟩,
  ⟨none, .mov 4 (.tmp 16)⟩]
def code_End_lc : LC := (.seq (.ops code_End_r0) (.seq (.ops code_End_r1) (.seq (.ops code_End_r2) (.seq (.ops code_End_r3) .ret))))
@[reducible] def code_End : FuncId := 14
theorem code_End_low : lowF Try.prog Try.f14 = some code_End_lc := by kernel_rfl
theorem code_End_in {a0 a1 : Value} {w : World} {R : Ending → World → Prop} (h : code_End_lc.wp Try.prog (retQ Try.prog [.tmp 4] R) (argEnv [a0, a1]) w) : Calls Try.prog code_End ⟨[a0, a1]⟩ w R :=
  calls_of_low Try.func14 code_End_low (by kernel_rfl) (by kernel_rfl) h

/- 15 -/
/- 16 -/
def code_FuncAt_r0 : List GO := [
  ⟨none, .mov 2 (.const (.int .i64 0))⟩]
def code_FuncAt_r1 : List GO := [
  ⟨none, .mov 3 (.tmp 0)⟩,
  ⟨none, .bin 4 .mul 3 (.tmp 3) (.const (.int .i64 10000))⟩,
  ⟨none, .bin 5 .add 3 (.tmp 4) (.const (.int .i64 9999))⟩,
  ⟨none, .mov 2 (.tmp 5)⟩]
def code_FuncAt_lc : LC := (.seq (.ops code_FuncAt_r0) (.seq (.ops code_FuncAt_r1) .ret))
@[reducible] def code_FuncAt : FuncId := 16
theorem code_FuncAt_low : lowF Try.prog Try.f16 = some code_FuncAt_lc := by kernel_rfl
theorem code_FuncAt_in {a0 : Value} {w : World} {R : Ending → World → Prop} (h : code_FuncAt_lc.wp Try.prog (retQ Try.prog [.tmp 2] R) (argEnv [a0]) w) : Calls Try.prog code_FuncAt ⟨[a0]⟩ w R :=
  calls_of_low Try.func16 code_FuncAt_low (by kernel_rfl) (by kernel_rfl) h

/- 17 -/
/- 18 -/
def code_BlockAt_r0 : List GO := [
  ⟨none, .mov 4 (.const (.int .i64 0))⟩]
def code_BlockAt_r1 : List GO := [
  ⟨none, .mov 5 (.tmp 0)⟩,
  ⟨none, .bin 6 .mul 3 (.tmp 5) (.const (.int .i64 10000))⟩,
  ⟨none, .mov 7 (.tmp 1)⟩,
  ⟨none, .bin 8 .mul 3 (.tmp 7) (.const (.int .i64 100))⟩,
  ⟨none, .bin 9 .add 3 (.tmp 6) (.tmp 8)⟩,
  ⟨none, .bin 10 .add 3 (.tmp 9) (.const (.int .i64 90))⟩,
  ⟨none, .mov 4 (.tmp 10)⟩]
def code_BlockAt_lc : LC := (.seq (.ops code_BlockAt_r0) (.seq (.ops code_BlockAt_r1) .ret))
@[reducible] def code_BlockAt : FuncId := 18
theorem code_BlockAt_low : lowF Try.prog Try.f18 = some code_BlockAt_lc := by kernel_rfl
theorem code_BlockAt_in {a0 a1 : Value} {w : World} {R : Ending → World → Prop} (h : code_BlockAt_lc.wp Try.prog (retQ Try.prog [.tmp 4] R) (argEnv [a0, a1]) w) : Calls Try.prog code_BlockAt ⟨[a0, a1]⟩ w R :=
  calls_of_low Try.func18 code_BlockAt_low (by kernel_rfl) (by kernel_rfl) h

/- 19 -/
/- 20 -/
def code_EndAt_r0 : List GO := [
  ⟨none, .mov 4 (.const (.int .i64 0))⟩]
def code_EndAt_r1 : List GO := [
  ⟨none, .mov 5 (.tmp 0)⟩,
  ⟨none, .bin 6 .mul 3 (.tmp 5) (.const (.int .i64 10000))⟩,
  ⟨none, .mov 7 (.tmp 1)⟩,
  ⟨none, .bin 8 .mul 3 (.tmp 7) (.const (.int .i64 100))⟩,
  ⟨none, .bin 9 .add 3 (.tmp 6) (.tmp 8)⟩,
  ⟨none, .bin 10 .add 3 (.tmp 9) (.const (.int .i64 91))⟩,
  ⟨none, .mov 4 (.tmp 10)⟩]
def code_EndAt_lc : LC := (.seq (.ops code_EndAt_r0) (.seq (.ops code_EndAt_r1) .ret))
@[reducible] def code_EndAt : FuncId := 20
theorem code_EndAt_low : lowF Try.prog Try.f20 = some code_EndAt_lc := by kernel_rfl
theorem code_EndAt_in {a0 a1 : Value} {w : World} {R : Ending → World → Prop} (h : code_EndAt_lc.wp Try.prog (retQ Try.prog [.tmp 4] R) (argEnv [a0, a1]) w) : Calls Try.prog code_EndAt ⟨[a0, a1]⟩ w R :=
  calls_of_low Try.func20 code_EndAt_low (by kernel_rfl) (by kernel_rfl) h

/- 21 -/
/- 22 -/
def code_InsAt_r0 : List GO := [
  ⟨none, .mov 6 (.const (.int .i64 0))⟩]
def code_InsAt_r1 : List GO := [
  ⟨none, .mov 7 (.tmp 0)⟩,
  ⟨none, .bin 8 .mul 3 (.tmp 7) (.const (.int .i64 10000))⟩,
  ⟨none, .mov 9 (.tmp 1)⟩,
  ⟨none, .bin 10 .mul 3 (.tmp 9) (.const (.int .i64 100))⟩,
  ⟨none, .bin 11 .add 3 (.tmp 8) (.tmp 10)⟩,
  ⟨none, .mov 12 (.tmp 2)⟩,
  ⟨none, .bin 13 .add 3 (.tmp 11) (.tmp 12)⟩,
  ⟨none, .mov 6 (.tmp 13)⟩]
def code_InsAt_lc : LC := (.seq (.ops code_InsAt_r0) (.seq (.ops code_InsAt_r1) .ret))
@[reducible] def code_InsAt : FuncId := 22
theorem code_InsAt_low : lowF Try.prog Try.f22 = some code_InsAt_lc := by kernel_rfl
theorem code_InsAt_in {a0 a1 a2 : Value} {w : World} {R : Ending → World → Prop} (h : code_InsAt_lc.wp Try.prog (retQ Try.prog [.tmp 6] R) (argEnv [a0, a1, a2]) w) : Calls Try.prog code_InsAt ⟨[a0, a1, a2]⟩ w R :=
  calls_of_low Try.func22 code_InsAt_low (by kernel_rfl) (by kernel_rfl) h

/- 23 -/
/- 24 -/
/- 25 -/
def code_Check_r0 : List GO := [
  ⟨none, .box 1 24 (.tmp 0)⟩,
  ⟨none, .alloc 2 47 [(.int .i64 0), (.int .i64 0)]⟩]
def code_Check_r1 : List GO := [
  ⟨none, .loadn 7 1 (.tmp 1)⟩,
  ⟨none, .build 8 [(.slice none 0 0), (.int .i64 0), (.int .i64 0), (.int .i64 0)] [(0, (1, (.tmp 7))), (3, (1, (.const (.int .i64 (-1)))))]⟩,
  ⟨none, .box 9 83 (.tmp 8)⟩,
  ⟨none, .mov 3 (.tmp 9)⟩]
def code_Check_r2 : List GO := [
  ⟨none, .mov 10 (.tmp 3)⟩,
  ⟨none, .fld 11 (.tmp 1) 0⟩,
  ⟨none, .load1 12 (.tmp 11)⟩,
  ⟨none, .len 13 (.tmp 12)⟩,
  ⟨none, .bin 14 .eql 3 (.tmp 13) (.const (.int .i64 0))⟩,
  ⟨none, .mov 15 (.tmp 14)⟩,
  ⟨some (15, false), .fld 16 (.tmp 1) 0⟩,
  ⟨some (15, false), .load1 17 (.tmp 16)⟩,
  ⟨some (15, false), .len 18 (.tmp 17)⟩,
  ⟨some (15, false), .bin 19 .gtr 3 (.tmp 18) (.const (.int .i64 8))⟩,
  ⟨none, .pick 20 (.tmp 15) (.const (.bool true)) (.tmp 19)⟩,
  ⟨none, .call (some 21) 54 [(.tmp 10), (.tmp 20), (.const (.int .i64 2))]⟩]
def code_Check_r3 : List GO := [
  ⟨none, .mov 4 (.const (.int .i64 0))⟩]
def code_Check_r4 : List GO := [
  ⟨none, .mov 22 (.tmp 4)⟩,
  ⟨none, .fld 23 (.tmp 1) 0⟩,
  ⟨none, .load1 24 (.tmp 23)⟩,
  ⟨none, .len 25 (.tmp 24)⟩,
  ⟨none, .bin 26 .lss 3 (.tmp 22) (.tmp 25)⟩,
  ⟨none, .mov 27 (.tmp 26)⟩,
  ⟨some (27, true), .mov 28 (.tmp 3)⟩,
  ⟨some (27, true), .nilc 29 (.tmp 28)⟩,
  ⟨some (27, true), .fld 30 (.tmp 29) 1⟩,
  ⟨some (27, true), .fld 31 (.tmp 30) 0⟩,
  ⟨some (27, true), .load1 32 (.tmp 31)⟩,
  ⟨some (27, true), .bin 33 .eql 3 (.tmp 32) (.const (.int .i64 0))⟩,
  ⟨none, .pick 34 (.tmp 27) (.tmp 33) (.const (.bool false))⟩]
def code_Check_r5 : List GO := [
  ⟨none, .fld 37 (.tmp 1) 0⟩,
  ⟨none, .load1 38 (.tmp 37)⟩,
  ⟨none, .mov 39 (.tmp 4)⟩,
  ⟨none, .idx 40 4 (.tmp 38) (.tmp 39)⟩,
  ⟨none, .loadn 41 4 (.tmp 40)⟩,
  ⟨none, .alloc 5 31 [(.int .i64 0), (.slice none 0 0), (.slice none 0 0), (.slice none 0 0)]⟩,
  ⟨none, .storen 4 (.tmp 5) (.tmp 41)⟩]
def code_Check_r6 : List GO := [
  ⟨none, .mov 42 (.tmp 3)⟩,
  ⟨none, .mov 43 (.tmp 4)⟩,
  ⟨none, .call (some 44) 16 [(.tmp 43)]⟩,
  ⟨none, .nilc 45 (.tmp 42)⟩,
  ⟨none, .fld 46 (.tmp 45) 3⟩,
  ⟨none, .store1 (.tmp 46) (.tmp 44)⟩]
def code_Check_r7 : List GO := [
  ⟨none, .mov 47 (.tmp 3)⟩,
  ⟨none, .fld 48 (.tmp 5) 0⟩,
  ⟨none, .load1 49 (.tmp 48)⟩,
  ⟨none, .bin 50 .lss 3 (.tmp 49) (.const (.int .i64 0))⟩,
  ⟨none, .mov 51 (.tmp 50)⟩,
  ⟨some (51, false), .fld 52 (.tmp 5) 0⟩,
  ⟨some (51, false), .load1 53 (.tmp 52)⟩,
  ⟨some (51, false), .bin 54 .gtr 3 (.tmp 53) (.const (.int .i64 6))⟩,
  ⟨none, .pick 55 (.tmp 51) (.const (.bool true)) (.tmp 54)⟩,
  ⟨none, .call (some 56) 54 [(.tmp 47), (.tmp 55), (.const (.int .i64 1))]⟩]
def code_Check_r8 : List GO := [
  ⟨none, .mov 57 (.tmp 3)⟩,
  ⟨none, .fld 58 (.tmp 5) 1⟩,
  ⟨none, .load1 59 (.tmp 58)⟩,
  ⟨none, .fld 60 (.tmp 5) 0⟩,
  ⟨none, .load1 61 (.tmp 60)⟩,
  ⟨none, .call (some 62) 55 [(.tmp 57), (.tmp 59), (.tmp 61)]⟩]
def code_Check_r9 : List GO := [
  ⟨none, .mov 63 (.tmp 3)⟩,
  ⟨none, .fld 64 (.tmp 5) 2⟩,
  ⟨none, .load1 65 (.tmp 64)⟩,
  ⟨none, .fld 66 (.tmp 5) 0⟩,
  ⟨none, .load1 67 (.tmp 66)⟩,
  ⟨none, .call (some 68) 55 [(.tmp 63), (.tmp 65), (.tmp 67)]⟩]
def code_Check_r10 : List GO := [
  ⟨none, .mov 69 (.tmp 3)⟩,
  ⟨none, .fld 70 (.tmp 5) 3⟩,
  ⟨none, .load1 71 (.tmp 70)⟩,
  ⟨none, .len 72 (.tmp 71)⟩,
  ⟨none, .bin 73 .eql 3 (.tmp 72) (.const (.int .i64 0))⟩,
  ⟨none, .mov 74 (.tmp 73)⟩,
  ⟨some (74, false), .fld 75 (.tmp 5) 3⟩,
  ⟨some (74, false), .load1 76 (.tmp 75)⟩,
  ⟨some (74, false), .len 77 (.tmp 76)⟩,
  ⟨some (74, false), .bin 78 .gtr 3 (.tmp 77) (.const (.int .i64 12))⟩,
  ⟨none, .pick 79 (.tmp 74) (.const (.bool true)) (.tmp 78)⟩,
  ⟨none, .call (some 80) 54 [(.tmp 69), (.tmp 79), (.const (.int .i64 2))]⟩]
def code_Check_r11 : List GO := [
  ⟨none, .mov 81 (.tmp 3)⟩,
  ⟨none, .mov 82 (.tmp 4)⟩,
  ⟨none, .bin 83 .eql 3 (.tmp 82) (.const (.int .i64 0))⟩,
  ⟨none, .mov 84 (.tmp 83)⟩,
  ⟨some (84, true), .fld 85 (.tmp 5) 0⟩,
  ⟨some (84, true), .load1 86 (.tmp 85)⟩,
  ⟨some (84, true), .bin 87 .gtr 3 (.tmp 86) (.const (.int .i64 0))⟩,
  ⟨some (84, true), .mov 88 (.tmp 87)⟩,
  ⟨some (88, false), .fld 89 (.tmp 5) 1⟩,
  ⟨some (88, false), .load1 90 (.tmp 89)⟩,
  ⟨some (88, false), .len 91 (.tmp 90)⟩,
  ⟨some (88, false), .bin 92 .gtr 3 (.tmp 91) (.const (.int .i64 0))⟩,
  ⟨some (84, true), .pick 93 (.tmp 88) (.const (.bool true)) (.tmp 92)⟩,
  ⟨some (84, true), .mov 94 (.tmp 93)⟩,
  ⟨some (94, false), .fld 95 (.tmp 5) 2⟩,
  ⟨some (94, false), .load1 96 (.tmp 95)⟩,
  ⟨some (94, false), .call (some 97) 56 [(.tmp 96), (.func 57)]⟩,
  ⟨some (84, true), .pick 98 (.tmp 94) (.const (.bool true)) (.tmp 97)⟩,
  ⟨none, .pick 99 (.tmp 84) (.tmp 98) (.const (.bool false))⟩,
  ⟨none, .call (some 100) 54 [(.tmp 81), (.tmp 99), (.const (.int .i64 18))]⟩]
def code_Check_r12 : List GO := [
  ⟨none, .mov 6 (.const (.int .i64 0))⟩]
def code_Check_r13 : List GO := [
  ⟨none, .mov 101 (.tmp 6)⟩,
  ⟨none, .fld 102 (.tmp 5) 3⟩,
  ⟨none, .load1 103 (.tmp 102)⟩,
  ⟨none, .len 104 (.tmp 103)⟩,
  ⟨none, .bin 105 .lss 3 (.tmp 101) (.tmp 104)⟩,
  ⟨none, .mov 106 (.tmp 105)⟩,
  ⟨some (106, true), .mov 107 (.tmp 3)⟩,
  ⟨some (106, true), .nilc 108 (.tmp 107)⟩,
  ⟨some (106, true), .fld 109 (.tmp 108) 1⟩,
  ⟨some (106, true), .fld 110 (.tmp 109) 0⟩,
  ⟨some (106, true), .load1 111 (.tmp 110)⟩,
  ⟨some (106, true), .bin 112 .eql 3 (.tmp 111) (.const (.int .i64 0))⟩,
  ⟨none, .pick 113 (.tmp 106) (.tmp 112) (.const (.bool false))⟩]
def code_Check_r14 : List GO := [
  ⟨none, .mov 116 (.tmp 3)⟩,
  ⟨none, .mov 117 (.tmp 4)⟩,
  ⟨none, .mov 118 (.tmp 6)⟩,
  ⟨none, .call (some 119) 58 [(.tmp 116), (.tmp 117), (.tmp 118)]⟩]
def code_Check_r15 : List GO := [
  ⟨none, .mov 114 (.tmp 6)⟩,
  ⟨none, .bin 115 .add 3 (.tmp 114) (.const (.int .i64 1))⟩,
  ⟨none, .mov 6 (.tmp 115)⟩]
def code_Check_b13 : LC := (.seq (.seq (.ops code_Check_r13) (.cond (.tmp 113) .skip (.exit 2))) (.seq (.block 3 (.ops code_Check_r14)) (.ops code_Check_r15)))
def code_Check_r16 : List GO := [
  ⟨none, .mov 35 (.tmp 4)⟩,
  ⟨none, .bin 36 .add 3 (.tmp 35) (.const (.int .i64 1))⟩,
  ⟨none, .mov 4 (.tmp 36)⟩]
def code_Check_b4 : LC := (.seq (.seq (.ops code_Check_r4) (.cond (.tmp 34) .skip (.exit 0))) (.seq (.block 1 (.seq (.ops code_Check_r5) (.seq (.ops code_Check_r6) (.seq (.ops code_Check_r7) (.seq (.ops code_Check_r8) (.seq (.ops code_Check_r9) (.seq (.ops code_Check_r10) (.seq (.ops code_Check_r11) (.seq (.ops code_Check_r12) (.block 2 (.loop code_Check_b13))))))))))) (.ops code_Check_r16)))
def code_Check_r17 : List GO := [
  ⟨none, .mov 120 (.tmp 3)⟩,
  ⟨none, .nilc 121 (.tmp 120)⟩,
  ⟨none, .fld 122 (.tmp 121) 1⟩,
  ⟨none, .loadn 123 2 (.tmp 122)⟩,
  ⟨none, .storen 2 (.tmp 2) (.tmp 123)⟩]
def code_Check_lc : LC := (.seq (.ops code_Check_r0) (.seq (.ops code_Check_r1) (.seq (.ops code_Check_r2) (.seq (.seq (.ops code_Check_r3) (.block 0 (.loop code_Check_b4))) (.seq (.ops code_Check_r17) .ret)))))
@[reducible] def code_Check : FuncId := 25
theorem code_Check_low : lowF Try.prog Try.f25 = some code_Check_lc := by kernel_rfl
theorem code_Check_in {a0 : Value} {w : World} {R : Ending → World → Prop} (h : code_Check_lc.wp Try.prog (retQ Try.prog [.cell 2 47] R) (argEnv [a0]) w) : Calls Try.prog code_Check ⟨[a0]⟩ w R :=
  calls_of_low Try.func25 code_Check_low (by kernel_rfl) (by kernel_rfl) h

/- 26 -/
/- 27 -/
/- 28 -/
def code_Own_r0 : List GO := [
  ⟨none, .box 1 24 (.tmp 0)⟩,
  ⟨none, .alloc 2 24 [(.slice none 0 0)]⟩]
def code_Own_r1 : List GO := [
  ⟨none, .alloc 3 24 [(.slice none 0 0)]⟩]
def code_Own_r2 : List GO := [
  ⟨none, .fld 12 (.tmp 1) 0⟩,
  ⟨none, .load1 13 (.tmp 12)⟩,
  ⟨none, .len 14 (.tmp 13)⟩,
  ⟨none, .mov 15 (.const (.int .i64 0))⟩]
def code_Own_r3 : List GO := [
  ⟨none, .bin 16 .lss 3 (.tmp 15) (.tmp 14)⟩]
def code_Own_r4 : List GO := [
  ⟨none, .idx 17 4 (.tmp 13) (.tmp 15)⟩,
  ⟨none, .loadn 18 4 (.tmp 17)⟩,
  ⟨none, .alloc 5 31 [(.int .i64 0), (.slice none 0 0), (.slice none 0 0), (.slice none 0 0)]⟩,
  ⟨none, .storen 4 (.tmp 5) (.tmp 18)⟩]
def code_Own_r5 : List GO := [
  ⟨none, .fld 19 (.tmp 5) 0⟩,
  ⟨none, .load1 20 (.tmp 19)⟩,
  ⟨none, .fld 21 (.tmp 5) 1⟩,
  ⟨none, .load1 22 (.tmp 21)⟩,
  ⟨none, .call (some 23) 63 [(.tmp 22)]⟩,
  ⟨none, .fld 24 (.tmp 5) 2⟩,
  ⟨none, .load1 25 (.tmp 24)⟩,
  ⟨none, .call (some 26) 63 [(.tmp 25)]⟩,
  ⟨none, .build 27 [(.int .i64 0), (.slice none 0 0), (.slice none 0 0), (.slice none 0 0)] [(0, (1, (.tmp 20))), (1, (1, (.tmp 23))), (2, (1, (.tmp 26)))]⟩,
  ⟨none, .alloc 6 31 [(.int .i64 0), (.slice none 0 0), (.slice none 0 0), (.slice none 0 0)]⟩,
  ⟨none, .storen 4 (.tmp 6) (.tmp 27)⟩]
def code_Own_e5 : List (List Nat) := [[], [0], [], [2], [3], [], [5], [6, 4], [1, 4, 7], [], [9, 8, 7, 0, 1, 2, 3, 4, 5, 6, 7, 8, 9]]
def code_Own_r6 : List GO := [
  ⟨none, .fld 28 (.tmp 5) 3⟩,
  ⟨none, .load1 29 (.tmp 28)⟩,
  ⟨none, .len 30 (.tmp 29)⟩,
  ⟨none, .mov 31 (.const (.int .i64 0))⟩]
def code_Own_r7 : List GO := [
  ⟨none, .bin 32 .lss 3 (.tmp 31) (.tmp 30)⟩]
def code_Own_r8 : List GO := [
  ⟨none, .idx 33 12 (.tmp 29) (.tmp 31)⟩,
  ⟨none, .loadn 34 12 (.tmp 33)⟩,
  ⟨none, .alloc 8 77 [(.int .i64 0), (.slice none 0 0), (.slice none 0 0), (.int .i64 0), (.int .i64 0), (.int .i64 0), (.slice none 0 0), (.slice none 0 0), (.int .i64 0), (.slice none 0 0), (.slice none 0 0), (.slice none 0 0)]⟩,
  ⟨none, .storen 12 (.tmp 8) (.tmp 34)⟩]
def code_Own_r9 : List GO := [
  ⟨none, .fld 35 (.tmp 8) 0⟩,
  ⟨none, .load1 36 (.tmp 35)⟩,
  ⟨none, .fld 37 (.tmp 8) 1⟩,
  ⟨none, .load1 38 (.tmp 37)⟩,
  ⟨none, .call (some 39) 63 [(.tmp 38)]⟩,
  ⟨none, .fld 40 (.tmp 8) 3⟩,
  ⟨none, .loadn 41 9 (.tmp 40)⟩,
  ⟨none, .build 42 [(.int .i64 0), (.slice none 0 0), (.slice none 0 0), (.int .i64 0), (.int .i64 0), (.int .i64 0), (.slice none 0 0), (.slice none 0 0), (.int .i64 0), (.slice none 0 0), (.slice none 0 0), (.slice none 0 0)] [(0, (1, (.tmp 36))), (1, (1, (.tmp 39))), (3, (9, (.tmp 41)))]⟩,
  ⟨none, .alloc 9 77 [(.int .i64 0), (.slice none 0 0), (.slice none 0 0), (.int .i64 0), (.int .i64 0), (.int .i64 0), (.slice none 0 0), (.slice none 0 0), (.int .i64 0), (.slice none 0 0), (.slice none 0 0), (.slice none 0 0)]⟩,
  ⟨none, .storen 12 (.tmp 9) (.tmp 42)⟩]
def code_Own_e9 : List (List Nat) := [[], [0], [], [2], [3], [], [5], [1, 4, 6], [], [8, 7, 4, 0, 1, 2, 3, 4, 5, 6, 7, 8]]
def code_Own_r10 : List GO := [
  ⟨none, .fld 43 (.tmp 8) 3⟩,
  ⟨none, .fld 44 (.tmp 43) 2⟩,
  ⟨none, .loadn 45 3 (.tmp 44)⟩,
  ⟨none, .call (some 46) 64 [(.tmp 45)]⟩,
  ⟨none, .fld 47 (.tmp 8) 3⟩,
  ⟨none, .fld 48 (.tmp 47) 5⟩,
  ⟨none, .loadn 49 3 (.tmp 48)⟩,
  ⟨none, .call (some 50) 64 [(.tmp 49)]⟩,
  ⟨none, .fld 51 (.tmp 8) 3⟩,
  ⟨none, .fld 52 (.tmp 51) 8⟩,
  ⟨none, .load1 53 (.tmp 52)⟩,
  ⟨none, .call (some 54) 65 [(.tmp 53)]⟩,
  ⟨none, .fld 55 (.tmp 9) 3⟩,
  ⟨none, .fld 56 (.tmp 55) 2⟩,
  ⟨none, .storen 3 (.tmp 56) (.tmp 46)⟩,
  ⟨none, .fld 57 (.tmp 9) 3⟩,
  ⟨none, .fld 58 (.tmp 57) 5⟩,
  ⟨none, .storen 3 (.tmp 58) (.tmp 50)⟩,
  ⟨none, .fld 59 (.tmp 9) 3⟩,
  ⟨none, .fld 60 (.tmp 59) 8⟩,
  ⟨none, .store1 (.tmp 60) (.tmp 54)⟩]
def code_Own_e10 : List (List Nat) := [[], [0], [1], [2], [], [4], [5], [6, 3], [], [8], [9], [10, 7], [0, 1, 2, 3], [12, 0, 1, 2, 3], [13, 3, 11, 0, 1, 2, 3], [0, 1, 2, 3, 4, 5, 6, 7, 12, 13, 14], [15, 0, 1, 2, 3, 4, 5, 6, 7, 12, 13, 14], [16, 7, 14, 0, 1, 2, 3, 4, 5, 6, 7, 12, 13, 14], [0, 1, 2, 3, 4, 5, 6, 7, 8, 9, 10, 11, 12, 13, 14, 15, 16, 17], [18, 0, 1, 2, 3, 4, 5, 6, 7, 8, 9, 10, 11, 12, 13, 14, 15, 16, 17], [19, 11, 17, 0, 1, 2, 3, 4, 5, 6, 7, 8, 9, 10, 11, 12, 13, 14, 15, 16, 17]]
def code_Own_r11 : List GO := [
  ⟨none, .fld 61 (.tmp 8) 2⟩,
  ⟨none, .load1 62 (.tmp 61)⟩,
  ⟨none, .len 63 (.tmp 62)⟩,
  ⟨none, .mov 64 (.const (.int .i64 0))⟩]
def code_Own_r12 : List GO := [
  ⟨none, .bin 65 .lss 3 (.tmp 64) (.tmp 63)⟩]
def code_Own_r13 : List GO := [
  ⟨none, .idx 66 8 (.tmp 62) (.tmp 64)⟩,
  ⟨none, .loadn 67 8 (.tmp 66)⟩,
  ⟨none, .alloc 11 27 [(.int .i64 0), (.int .i64 0), (.int .i64 0), (.int .i64 0), (.int .i64 0), (.int .i64 0), (.slice none 0 0), (.slice none 0 0)]⟩,
  ⟨none, .storen 8 (.tmp 11) (.tmp 67)⟩]
def code_Own_r14 : List GO := [
  ⟨none, .fld 68 (.tmp 11) 6⟩,
  ⟨none, .load1 69 (.tmp 68)⟩,
  ⟨none, .call (some 70) 65 [(.tmp 69)]⟩,
  ⟨none, .fld 71 (.tmp 11) 7⟩,
  ⟨none, .load1 72 (.tmp 71)⟩,
  ⟨none, .call (some 73) 65 [(.tmp 72)]⟩,
  ⟨none, .fld 74 (.tmp 11) 6⟩,
  ⟨none, .store1 (.tmp 74) (.tmp 70)⟩,
  ⟨none, .fld 75 (.tmp 11) 7⟩,
  ⟨none, .store1 (.tmp 75) (.tmp 73)⟩]
def code_Own_e14 : List (List Nat) := [[], [0], [1], [], [3], [4, 2], [0, 1, 2, 3, 4], [6, 2, 5, 0, 1, 2, 3, 4], [0, 1, 2, 3, 4, 5, 6, 7], [8, 5, 7, 0, 1, 2, 3, 4, 5, 6, 7]]
def code_Own_r15 : List GO := [
  ⟨none, .fld 76 (.tmp 9) 2⟩,
  ⟨none, .load1 77 (.tmp 76)⟩,
  ⟨none, .loadn 78 8 (.tmp 11)⟩,
  ⟨none, .buildS 79 27 1 [(.int .i64 0), (.int .i64 0), (.int .i64 0), (.int .i64 0), (.int .i64 0), (.int .i64 0), (.slice none 0 0), (.slice none 0 0)] [(0, (8, (.tmp 78)))]⟩,
  ⟨none, .raw ⟨(some 80), (.call ⟨(.builtin .append), #[(.tmp 77), (.tmp 79)], #[58, 58]⟩), 58, "", #[], none⟩⟩,
  ⟨none, .fld 81 (.tmp 9) 2⟩,
  ⟨none, .store1 (.tmp 81) (.tmp 80)⟩]
def code_Own_r16 : List GO := [
  ⟨none, .bin 82 .add 3 (.tmp 64) (.const (.int .i64 1))⟩,
  ⟨none, .mov 64 (.tmp 82)⟩]
def code_Own_b12 : LC := (.seq (.ops code_Own_r12) (.seq (.cond (.tmp 65) .skip (.exit 4)) (.seq (.block 5 (.seq (.ops code_Own_r13) (.seq (.draw code_Own_r14 code_Own_e14) (.ops code_Own_r15)))) (.ops code_Own_r16))))
def code_Own_r17 : List GO := [
  ⟨none, .fld 83 (.tmp 6) 3⟩,
  ⟨none, .load1 84 (.tmp 83)⟩,
  ⟨none, .loadn 85 12 (.tmp 9)⟩,
  ⟨none, .buildS 86 77 1 [(.int .i64 0), (.slice none 0 0), (.slice none 0 0), (.int .i64 0), (.int .i64 0), (.int .i64 0), (.slice none 0 0), (.slice none 0 0), (.int .i64 0), (.slice none 0 0), (.slice none 0 0), (.slice none 0 0)] [(0, (12, (.tmp 85)))]⟩,
  ⟨none, .raw ⟨(some 87), (.call ⟨(.builtin .append), #[(.tmp 84), (.tmp 86)], #[29, 29]⟩), 29, "", #[], none⟩⟩,
  ⟨none, .fld 88 (.tmp 6) 3⟩,
  ⟨none, .store1 (.tmp 88) (.tmp 87)⟩]
def code_Own_r18 : List GO := [
  ⟨none, .bin 89 .add 3 (.tmp 31) (.const (.int .i64 1))⟩,
  ⟨none, .mov 31 (.tmp 89)⟩]
def code_Own_b7 : LC := (.seq (.ops code_Own_r7) (.seq (.cond (.tmp 32) .skip (.exit 2)) (.seq (.block 3 (.seq (.ops code_Own_r8) (.seq (.draw code_Own_r9 code_Own_e9) (.seq (.draw code_Own_r10 code_Own_e10) (.seq (.seq (.ops code_Own_r11) (.block 4 (.loop code_Own_b12))) (.ops code_Own_r17)))))) (.ops code_Own_r18))))
def code_Own_r19 : List GO := [
  ⟨none, .fld 90 (.tmp 3) 0⟩,
  ⟨none, .load1 91 (.tmp 90)⟩,
  ⟨none, .loadn 92 4 (.tmp 6)⟩,
  ⟨none, .buildS 93 31 1 [(.int .i64 0), (.slice none 0 0), (.slice none 0 0), (.slice none 0 0)] [(0, (4, (.tmp 92)))]⟩,
  ⟨none, .raw ⟨(some 94), (.call ⟨(.builtin .append), #[(.tmp 91), (.tmp 93)], #[22, 22]⟩), 22, "", #[], none⟩⟩,
  ⟨none, .fld 95 (.tmp 3) 0⟩,
  ⟨none, .store1 (.tmp 95) (.tmp 94)⟩]
def code_Own_r20 : List GO := [
  ⟨none, .bin 96 .add 3 (.tmp 15) (.const (.int .i64 1))⟩,
  ⟨none, .mov 15 (.tmp 96)⟩]
def code_Own_b3 : LC := (.seq (.ops code_Own_r3) (.seq (.cond (.tmp 16) .skip (.exit 0)) (.seq (.block 1 (.seq (.ops code_Own_r4) (.seq (.draw code_Own_r5 code_Own_e5) (.seq (.seq (.ops code_Own_r6) (.block 2 (.loop code_Own_b7))) (.ops code_Own_r19))))) (.ops code_Own_r20))))
def code_Own_r21 : List GO := [
  ⟨none, .loadn 97 1 (.tmp 3)⟩,
  ⟨none, .storen 1 (.tmp 2) (.tmp 97)⟩]
def code_Own_lc : LC := (.seq (.ops code_Own_r0) (.seq (.ops code_Own_r1) (.seq (.seq (.ops code_Own_r2) (.block 0 (.loop code_Own_b3))) (.seq (.ops code_Own_r21) .ret))))
@[reducible] def code_Own : FuncId := 28
theorem code_Own_low : lowF Try.prog Try.f28 = some code_Own_lc := by kernel_rfl
theorem code_Own_in {a0 : Value} {w : World} {R : Ending → World → Prop} (h : code_Own_lc.wp Try.prog (retQ Try.prog [.cell 2 24] R) (argEnv [a0]) w) : Calls Try.prog code_Own ⟨[a0]⟩ w R :=
  calls_of_low Try.func28 code_Own_low (by kernel_rfl) (by kernel_rfl) h

/- 29 -/
/- 41 -/
def R_SameTypes_r0 : List GO := [
  ⟨none, .mov 4 (.const (.bool false))⟩]
def R_SameTypes_r1 : List GO := [
  ⟨none, .mov 6 (.tmp 0)⟩,
  ⟨none, .len 7 (.tmp 6)⟩,
  ⟨none, .mov 8 (.tmp 1)⟩,
  ⟨none, .len 9 (.tmp 8)⟩,
  ⟨none, .bin 10 .neq 3 (.tmp 7) (.tmp 9)⟩]
def R_SameTypes_r2 : List GO := [
  ⟨none, .mov 4 (.const (.bool false))⟩]
def R_SameTypes_r3 : List GO := [
  ⟨none, .mov 5 (.const (.int .i64 0))⟩]
def R_SameTypes_r4 : List GO := [
  ⟨none, .mov 11 (.tmp 5)⟩,
  ⟨none, .mov 12 (.tmp 0)⟩,
  ⟨none, .len 13 (.tmp 12)⟩,
  ⟨none, .bin 14 .lss 3 (.tmp 11) (.tmp 13)⟩]
def R_SameTypes_r5 : List GO := [
  ⟨none, .mov 17 (.tmp 0)⟩,
  ⟨none, .mov 18 (.tmp 5)⟩,
  ⟨none, .idx 19 3 (.tmp 17) (.tmp 18)⟩,
  ⟨none, .loadn 20 3 (.tmp 19)⟩,
  ⟨none, .mov 21 (.tmp 1)⟩,
  ⟨none, .mov 22 (.tmp 5)⟩,
  ⟨none, .idx 23 3 (.tmp 21) (.tmp 22)⟩,
  ⟨none, .loadn 24 3 (.tmp 23)⟩,
  ⟨none, .call (some 25) 87 [(.tmp 20), (.tmp 24)]⟩,
  ⟨none, .un 26 .not (.tmp 25)⟩]
def R_SameTypes_e5 : List (List Nat) := [[], [], [0, 1], [2], [], [], [4, 5], [6], [3, 7], [8]]
def R_SameTypes_r6 : List GO := [
  ⟨none, .mov 4 (.const (.bool false))⟩]
def R_SameTypes_r7 : List GO := [
  ⟨none, .mov 15 (.tmp 5)⟩,
  ⟨none, .bin 16 .add 3 (.tmp 15) (.const (.int .i64 1))⟩,
  ⟨none, .mov 5 (.tmp 16)⟩]
def R_SameTypes_b4 : LC := (.seq (.seq (.ops R_SameTypes_r4) (.cond (.tmp 14) .skip (.exit 0))) (.seq (.block 1 (.seq (.draw R_SameTypes_r5 R_SameTypes_e5) (.cond (.tmp 26) (.seq (.ops R_SameTypes_r6) .ret) .skip))) (.ops R_SameTypes_r7)))
def R_SameTypes_r8 : List GO := [
  ⟨none, .mov 4 (.const (.bool true))⟩]
def R_SameTypes_lc : LC := (.seq (.ops R_SameTypes_r0) (.seq (.seq (.ops R_SameTypes_r1) (.cond (.tmp 10) (.seq (.ops R_SameTypes_r2) .ret) .skip)) (.seq (.seq (.ops R_SameTypes_r3) (.block 0 (.loop R_SameTypes_b4))) (.seq (.ops R_SameTypes_r8) .ret))))
@[reducible] def R_SameTypes : FuncId := 41
theorem R_SameTypes_low : lowF Try.prog Try.f41 = some R_SameTypes_lc := by kernel_rfl
theorem R_SameTypes_in {a0 a1 : Value} {w : World} {R : Ending → World → Prop} (h : R_SameTypes_lc.wp Try.prog (retQ Try.prog [.tmp 4] R) (argEnv [a0, a1]) w) : Calls Try.prog R_SameTypes ⟨[a0, a1]⟩ w R :=
  calls_of_low Try.func41 R_SameTypes_low (by kernel_rfl) (by kernel_rfl) h

/- 42 -/
def R_SameInts_r0 : List GO := [
  ⟨none, .mov 4 (.const (.bool false))⟩]
def R_SameInts_r1 : List GO := [
  ⟨none, .mov 6 (.tmp 0)⟩,
  ⟨none, .len 7 (.tmp 6)⟩,
  ⟨none, .mov 8 (.tmp 1)⟩,
  ⟨none, .len 9 (.tmp 8)⟩,
  ⟨none, .bin 10 .neq 3 (.tmp 7) (.tmp 9)⟩]
def R_SameInts_r2 : List GO := [
  ⟨none, .mov 4 (.const (.bool false))⟩]
def R_SameInts_r3 : List GO := [
  ⟨none, .mov 5 (.const (.int .i64 0))⟩]
def R_SameInts_r4 : List GO := [
  ⟨none, .mov 11 (.tmp 5)⟩,
  ⟨none, .mov 12 (.tmp 0)⟩,
  ⟨none, .len 13 (.tmp 12)⟩,
  ⟨none, .bin 14 .lss 3 (.tmp 11) (.tmp 13)⟩]
def R_SameInts_r5 : List GO := [
  ⟨none, .mov 17 (.tmp 0)⟩,
  ⟨none, .mov 18 (.tmp 5)⟩,
  ⟨none, .idx 19 1 (.tmp 17) (.tmp 18)⟩,
  ⟨none, .load1 20 (.tmp 19)⟩,
  ⟨none, .mov 21 (.tmp 1)⟩,
  ⟨none, .mov 22 (.tmp 5)⟩,
  ⟨none, .idx 23 1 (.tmp 21) (.tmp 22)⟩,
  ⟨none, .load1 24 (.tmp 23)⟩,
  ⟨none, .bin 25 .neq 3 (.tmp 20) (.tmp 24)⟩]
def R_SameInts_e5 : List (List Nat) := [[], [], [0, 1], [2], [], [], [4, 5], [6], [3, 7]]
def R_SameInts_r6 : List GO := [
  ⟨none, .mov 4 (.const (.bool false))⟩]
def R_SameInts_r7 : List GO := [
  ⟨none, .mov 15 (.tmp 5)⟩,
  ⟨none, .bin 16 .add 3 (.tmp 15) (.const (.int .i64 1))⟩,
  ⟨none, .mov 5 (.tmp 16)⟩]
def R_SameInts_b4 : LC := (.seq (.seq (.ops R_SameInts_r4) (.cond (.tmp 14) .skip (.exit 0))) (.seq (.block 1 (.seq (.draw R_SameInts_r5 R_SameInts_e5) (.cond (.tmp 25) (.seq (.ops R_SameInts_r6) .ret) .skip))) (.ops R_SameInts_r7)))
def R_SameInts_r8 : List GO := [
  ⟨none, .mov 4 (.const (.bool true))⟩]
def R_SameInts_lc : LC := (.seq (.ops R_SameInts_r0) (.seq (.seq (.ops R_SameInts_r1) (.cond (.tmp 10) (.seq (.ops R_SameInts_r2) .ret) .skip)) (.seq (.seq (.ops R_SameInts_r3) (.block 0 (.loop R_SameInts_b4))) (.seq (.ops R_SameInts_r8) .ret))))
@[reducible] def R_SameInts : FuncId := 42
theorem R_SameInts_low : lowF Try.prog Try.f42 = some R_SameInts_lc := by kernel_rfl
theorem R_SameInts_in {a0 a1 : Value} {w : World} {R : Ending → World → Prop} (h : R_SameInts_lc.wp Try.prog (retQ Try.prog [.tmp 4] R) (argEnv [a0, a1]) w) : Calls Try.prog R_SameInts ⟨[a0, a1]⟩ w R :=
  calls_of_low Try.func42 R_SameInts_low (by kernel_rfl) (by kernel_rfl) h

/- 45 -/
def Law_least_r0 : List GO := [
  ⟨none, .alloc 0 24 [(.slice none 0 0)]⟩]
def Law_least_r1 : List GO := [
  ⟨none, .build 1 [(.int .i64 0), (.int .i64 0), (.int .i64 0), (.slice none 0 0), (.slice none 0 0), (.int .i64 0), (.slice none 0 0), (.slice none 0 0), (.slice none 0 0)] [(0, (1, (.const (.int .i64 3))))]⟩,
  ⟨none, .build 2 [(.int .i64 0), (.slice none 0 0), (.slice none 0 0), (.int .i64 0), (.int .i64 0), (.int .i64 0), (.slice none 0 0), (.slice none 0 0), (.int .i64 0), (.slice none 0 0), (.slice none 0 0), (.slice none 0 0)] [(3, (9, (.tmp 1)))]⟩,
  ⟨none, .buildS 3 77 1 [(.int .i64 0), (.slice none 0 0), (.slice none 0 0), (.int .i64 0), (.int .i64 0), (.int .i64 0), (.slice none 0 0), (.slice none 0 0), (.int .i64 0), (.slice none 0 0), (.slice none 0 0), (.slice none 0 0)] [(0, (12, (.tmp 2)))]⟩,
  ⟨none, .build 4 [(.int .i64 0), (.slice none 0 0), (.slice none 0 0), (.slice none 0 0)] [(3, (1, (.tmp 3)))]⟩,
  ⟨none, .buildS 5 31 1 [(.int .i64 0), (.slice none 0 0), (.slice none 0 0), (.slice none 0 0)] [(0, (4, (.tmp 4)))]⟩,
  ⟨none, .build 6 [(.slice none 0 0)] [(0, (1, (.tmp 5)))]⟩,
  ⟨none, .storen 1 (.tmp 0) (.tmp 6)⟩]
def Law_least_lc : LC := (.seq (.ops Law_least_r0) (.seq (.ops Law_least_r1) .ret))
@[reducible] def Law_least : FuncId := 45
theorem Law_least_low : lowF Try.prog Try.f45 = some Law_least_lc := by kernel_rfl
theorem Law_least_in {w : World} {R : Ending → World → Prop} (h : Law_least_lc.wp Try.prog (retQ Try.prog [.cell 0 24] R) (argEnv []) w) : Calls Try.prog Law_least ⟨[]⟩ w R :=
  calls_of_low Try.func45 Law_least_low (by kernel_rfl) (by kernel_rfl) h

/- 46 -/
def R_greatTypes_r0 : List GO := [
  ⟨none, .mov 2 (.const (.bool false))⟩]
def R_greatTypes_r1 : List GO := [
  ⟨none, .mov 4 (.tmp 0)⟩,
  ⟨none, .len 5 (.tmp 4)⟩,
  ⟨none, .bin 6 .gtr 3 (.tmp 5) (.const (.int .i64 200))⟩]
def R_greatTypes_r2 : List GO := [
  ⟨none, .mov 2 (.const (.bool true))⟩]
def R_greatTypes_r3 : List GO := [
  ⟨none, .mov 3 (.const (.int .i64 0))⟩]
def R_greatTypes_r4 : List GO := [
  ⟨none, .mov 7 (.tmp 3)⟩,
  ⟨none, .mov 8 (.tmp 0)⟩,
  ⟨none, .len 9 (.tmp 8)⟩,
  ⟨none, .bin 10 .lss 3 (.tmp 7) (.tmp 9)⟩]
def R_greatTypes_r5 : List GO := [
  ⟨none, .mov 13 (.tmp 0)⟩,
  ⟨none, .mov 14 (.tmp 3)⟩,
  ⟨none, .idx 15 3 (.tmp 13) (.tmp 14)⟩,
  ⟨none, .loadn 16 3 (.tmp 15)⟩,
  ⟨none, .call (some 17) 89 [(.tmp 16)]⟩]
def R_greatTypes_r6 : List GO := [
  ⟨none, .mov 2 (.const (.bool true))⟩]
def R_greatTypes_r7 : List GO := [
  ⟨none, .mov 11 (.tmp 3)⟩,
  ⟨none, .bin 12 .add 3 (.tmp 11) (.const (.int .i64 1))⟩,
  ⟨none, .mov 3 (.tmp 12)⟩]
def R_greatTypes_b4 : LC := (.seq (.seq (.ops R_greatTypes_r4) (.cond (.tmp 10) .skip (.exit 0))) (.seq (.block 1 (.seq (.ops R_greatTypes_r5) (.cond (.tmp 17) (.seq (.ops R_greatTypes_r6) .ret) .skip))) (.ops R_greatTypes_r7)))
def R_greatTypes_r8 : List GO := [
  ⟨none, .mov 2 (.const (.bool false))⟩]
def R_greatTypes_lc : LC := (.seq (.ops R_greatTypes_r0) (.seq (.seq (.ops R_greatTypes_r1) (.cond (.tmp 6) (.seq (.ops R_greatTypes_r2) .ret) .skip)) (.seq (.seq (.ops R_greatTypes_r3) (.block 0 (.loop R_greatTypes_b4))) (.seq (.ops R_greatTypes_r8) .ret))))
@[reducible] def R_greatTypes : FuncId := 46
theorem R_greatTypes_low : lowF Try.prog Try.f46 = some R_greatTypes_lc := by kernel_rfl
theorem R_greatTypes_in {a0 : Value} {w : World} {R : Ending → World → Prop} (h : R_greatTypes_lc.wp Try.prog (retQ Try.prog [.tmp 2] R) (argEnv [a0]) w) : Calls Try.prog R_greatTypes ⟨[a0]⟩ w R :=
  calls_of_low Try.func46 R_greatTypes_low (by kernel_rfl) (by kernel_rfl) h

/- 47 -/
def code_judge_ins_r0 : List GO := [
  ⟨none, .box 3 27 (.tmp 1)⟩]
def code_judge_ins_r1 : List GO := [
  ⟨none, .mov 5 (.tmp 0)⟩,
  ⟨none, .fld 6 (.tmp 3) 0⟩,
  ⟨none, .load1 7 (.tmp 6)⟩,
  ⟨none, .bin 8 .lss 3 (.tmp 7) (.const (.int .i64 1))⟩,
  ⟨none, .mov 9 (.tmp 8)⟩,
  ⟨some (9, false), .fld 10 (.tmp 3) 0⟩,
  ⟨some (9, false), .load1 11 (.tmp 10)⟩,
  ⟨some (9, false), .bin 12 .gtr 3 (.tmp 11) (.const (.int .i64 14))⟩,
  ⟨none, .pick 13 (.tmp 9) (.const (.bool true)) (.tmp 12)⟩,
  ⟨none, .call (some 14) 54 [(.tmp 5), (.tmp 13), (.const (.int .i64 3))]⟩]
def code_judge_ins_r2 : List GO := [
  ⟨none, .fld 15 (.tmp 3) 0⟩,
  ⟨none, .load1 16 (.tmp 15)⟩,
  ⟨none, .call (some 17) 90 [(.tmp 16)]⟩,
  ⟨none, .mov 4 (.tmp 17)⟩]
def code_judge_ins_r3 : List GO := [
  ⟨none, .mov 18 (.tmp 0)⟩,
  ⟨none, .mov 19 (.tmp 4)⟩,
  ⟨none, .call (some 20) 91 [(.tmp 19), (.const (.int .u8 97))]⟩,
  ⟨none, .un 21 .not (.tmp 20)⟩,
  ⟨none, .mov 22 (.tmp 21)⟩,
  ⟨some (22, true), .fld 23 (.tmp 3) 1⟩,
  ⟨some (22, true), .load1 24 (.tmp 23)⟩,
  ⟨some (22, true), .bin 25 .neq 3 (.tmp 24) (.const (.int .i64 0))⟩,
  ⟨none, .pick 26 (.tmp 22) (.tmp 25) (.const (.bool false))⟩,
  ⟨none, .mov 27 (.tmp 26)⟩,
  ⟨some (27, false), .mov 28 (.tmp 4)⟩,
  ⟨some (27, false), .call (some 29) 91 [(.tmp 28), (.const (.int .u8 98))]⟩,
  ⟨some (27, false), .un 30 .not (.tmp 29)⟩,
  ⟨some (27, false), .mov 31 (.tmp 30)⟩,
  ⟨some (31, true), .fld 32 (.tmp 3) 2⟩,
  ⟨some (31, true), .load1 33 (.tmp 32)⟩,
  ⟨some (31, true), .bin 34 .neq 3 (.tmp 33) (.const (.int .i64 0))⟩,
  ⟨some (27, false), .pick 35 (.tmp 31) (.tmp 34) (.const (.bool false))⟩,
  ⟨none, .pick 36 (.tmp 27) (.const (.bool true)) (.tmp 35)⟩,
  ⟨none, .mov 37 (.tmp 36)⟩,
  ⟨some (37, false), .mov 38 (.tmp 4)⟩,
  ⟨some (37, false), .call (some 39) 91 [(.tmp 38), (.const (.int .u8 99))]⟩,
  ⟨some (37, false), .un 40 .not (.tmp 39)⟩,
  ⟨some (37, false), .mov 41 (.tmp 40)⟩,
  ⟨some (41, true), .fld 42 (.tmp 3) 3⟩,
  ⟨some (41, true), .load1 43 (.tmp 42)⟩,
  ⟨some (41, true), .bin 44 .neq 3 (.tmp 43) (.const (.int .i64 0))⟩,
  ⟨some (37, false), .pick 45 (.tmp 41) (.tmp 44) (.const (.bool false))⟩,
  ⟨none, .pick 46 (.tmp 37) (.const (.bool true)) (.tmp 45)⟩,
  ⟨none, .mov 47 (.tmp 46)⟩,
  ⟨some (47, false), .mov 48 (.tmp 4)⟩,
  ⟨some (47, false), .call (some 49) 91 [(.tmp 48), (.const (.int .u8 107))]⟩,
  ⟨some (47, false), .un 50 .not (.tmp 49)⟩,
  ⟨some (47, false), .mov 51 (.tmp 50)⟩,
  ⟨some (51, true), .fld 52 (.tmp 3) 4⟩,
  ⟨some (51, true), .load1 53 (.tmp 52)⟩,
  ⟨some (51, true), .bin 54 .neq 3 (.tmp 53) (.const (.int .i64 0))⟩,
  ⟨some (47, false), .pick 55 (.tmp 51) (.tmp 54) (.const (.bool false))⟩,
  ⟨none, .pick 56 (.tmp 47) (.const (.bool true)) (.tmp 55)⟩,
  ⟨none, .mov 57 (.tmp 56)⟩,
  ⟨some (57, false), .mov 58 (.tmp 4)⟩,
  ⟨some (57, false), .call (some 59) 91 [(.tmp 58), (.const (.int .u8 110))]⟩,
  ⟨some (57, false), .un 60 .not (.tmp 59)⟩,
  ⟨some (57, false), .mov 61 (.tmp 60)⟩,
  ⟨some (61, true), .fld 62 (.tmp 3) 5⟩,
  ⟨some (61, true), .load1 63 (.tmp 62)⟩,
  ⟨some (61, true), .bin 64 .neq 2 (.tmp 63) (.const (.int .i64 0))⟩,
  ⟨some (57, false), .pick 65 (.tmp 61) (.tmp 64) (.const (.bool false))⟩,
  ⟨none, .pick 66 (.tmp 57) (.const (.bool true)) (.tmp 65)⟩,
  ⟨none, .mov 67 (.tmp 66)⟩,
  ⟨some (67, false), .mov 68 (.tmp 4)⟩,
  ⟨some (67, false), .call (some 69) 91 [(.tmp 68), (.const (.int .u8 103))]⟩,
  ⟨some (67, false), .un 70 .not (.tmp 69)⟩,
  ⟨some (67, false), .mov 71 (.tmp 70)⟩,
  ⟨some (71, true), .fld 72 (.tmp 3) 6⟩,
  ⟨some (71, true), .load1 73 (.tmp 72)⟩,
  ⟨some (71, true), .len 74 (.tmp 73)⟩,
  ⟨some (71, true), .bin 75 .gtr 3 (.tmp 74) (.const (.int .i64 0))⟩,
  ⟨some (67, false), .pick 76 (.tmp 71) (.tmp 75) (.const (.bool false))⟩,
  ⟨none, .pick 77 (.tmp 67) (.const (.bool true)) (.tmp 76)⟩,
  ⟨none, .mov 78 (.tmp 77)⟩,
  ⟨some (78, false), .mov 79 (.tmp 4)⟩,
  ⟨some (78, false), .call (some 80) 91 [(.tmp 79), (.const (.int .u8 114))]⟩,
  ⟨some (78, false), .un 81 .not (.tmp 80)⟩,
  ⟨some (78, false), .mov 82 (.tmp 81)⟩,
  ⟨some (82, true), .fld 83 (.tmp 3) 7⟩,
  ⟨some (82, true), .load1 84 (.tmp 83)⟩,
  ⟨some (82, true), .len 85 (.tmp 84)⟩,
  ⟨some (82, true), .bin 86 .gtr 3 (.tmp 85) (.const (.int .i64 0))⟩,
  ⟨some (78, false), .pick 87 (.tmp 82) (.tmp 86) (.const (.bool false))⟩,
  ⟨none, .pick 88 (.tmp 78) (.const (.bool true)) (.tmp 87)⟩,
  ⟨none, .call (some 89) 54 [(.tmp 18), (.tmp 88), (.const (.int .i64 4))]⟩]
def code_judge_ins_r4 : List GO := [
  ⟨none, .fld 90 (.tmp 3) 0⟩,
  ⟨none, .load1 91 (.tmp 90)⟩]
def code_judge_ins_r5 : List GO := [
  ⟨none, .bin 93 .eql 3 (.tmp 91) (.const (.int .i64 2))⟩,
  ⟨none, .mov 92 (.tmp 93)⟩]
def code_judge_ins_r6 : List GO := [
  ⟨none, .mov 94 (.tmp 0)⟩,
  ⟨none, .fld 95 (.tmp 3) 4⟩,
  ⟨none, .load1 96 (.tmp 95)⟩,
  ⟨none, .bin 97 .lss 3 (.tmp 96) (.const (.int .i64 1))⟩,
  ⟨none, .mov 98 (.tmp 97)⟩,
  ⟨some (98, false), .fld 99 (.tmp 3) 4⟩,
  ⟨some (98, false), .load1 100 (.tmp 99)⟩,
  ⟨some (98, false), .bin 101 .gtr 3 (.tmp 100) (.const (.int .i64 9))⟩,
  ⟨none, .pick 102 (.tmp 98) (.const (.bool true)) (.tmp 101)⟩,
  ⟨none, .call (some 103) 54 [(.tmp 94), (.tmp 102), (.const (.int .i64 1))]⟩]
def code_judge_ins_r7 : List GO := [
  ⟨none, .bin 105 .eql 3 (.tmp 91) (.const (.int .i64 5))⟩,
  ⟨none, .mov 104 (.tmp 105)⟩]
def code_judge_ins_r8 : List GO := [
  ⟨none, .mov 106 (.tmp 0)⟩,
  ⟨none, .fld 107 (.tmp 3) 7⟩,
  ⟨none, .load1 108 (.tmp 107)⟩,
  ⟨none, .len 109 (.tmp 108)⟩,
  ⟨none, .bin 110 .gtr 3 (.tmp 109) (.const (.int .i64 8))⟩,
  ⟨none, .call (some 111) 54 [(.tmp 106), (.tmp 110), (.const (.int .i64 2))]⟩]
def code_judge_ins_r9 : List GO := [
  ⟨none, .bin 113 .eql 3 (.tmp 91) (.const (.int .i64 6))⟩,
  ⟨none, .mov 112 (.tmp 113)⟩]
def code_judge_ins_r10 : List GO := [
  ⟨none, .bin 114 .eql 3 (.tmp 91) (.const (.int .i64 7))⟩,
  ⟨none, .mov 112 (.tmp 114)⟩]
def code_judge_ins_r11 : List GO := [
  ⟨none, .mov 115 (.tmp 0)⟩,
  ⟨none, .fld 116 (.tmp 3) 4⟩,
  ⟨none, .load1 117 (.tmp 116)⟩,
  ⟨none, .bin 118 .lss 3 (.tmp 117) (.const (.int .i64 0))⟩,
  ⟨none, .mov 119 (.tmp 118)⟩,
  ⟨some (119, false), .fld 120 (.tmp 3) 4⟩,
  ⟨some (119, false), .load1 121 (.tmp 120)⟩,
  ⟨some (119, false), .bin 122 .geq 3 (.tmp 121) (.const (.int .i64 8))⟩,
  ⟨none, .pick 123 (.tmp 119) (.const (.bool true)) (.tmp 122)⟩,
  ⟨none, .call (some 124) 54 [(.tmp 115), (.tmp 123), (.const (.int .i64 1))]⟩]
def code_judge_ins_r12 : List GO := [
  ⟨none, .bin 126 .eql 3 (.tmp 91) (.const (.int .i64 14))⟩,
  ⟨none, .mov 125 (.tmp 126)⟩]
def code_judge_ins_r13 : List GO := [
  ⟨none, .mov 127 (.tmp 0)⟩,
  ⟨none, .fld 128 (.tmp 3) 4⟩,
  ⟨none, .load1 129 (.tmp 128)⟩,
  ⟨none, .bin 130 .lss 3 (.tmp 129) (.const (.int .i64 0))⟩,
  ⟨none, .mov 131 (.tmp 130)⟩,
  ⟨some (131, false), .fld 132 (.tmp 3) 4⟩,
  ⟨some (131, false), .load1 133 (.tmp 132)⟩,
  ⟨some (131, false), .mov 134 (.tmp 0)⟩,
  ⟨some (131, false), .nilc 135 (.tmp 134)⟩,
  ⟨some (131, false), .fld 136 (.tmp 135) 0⟩,
  ⟨some (131, false), .fld 137 (.tmp 136) 0⟩,
  ⟨some (131, false), .load1 138 (.tmp 137)⟩,
  ⟨some (131, false), .len 139 (.tmp 138)⟩,
  ⟨some (131, false), .bin 140 .geq 3 (.tmp 133) (.tmp 139)⟩,
  ⟨none, .pick 141 (.tmp 131) (.const (.bool true)) (.tmp 140)⟩,
  ⟨none, .call (some 142) 54 [(.tmp 127), (.tmp 141), (.const (.int .i64 1))]⟩]
def code_judge_ins_e13 : List (List Nat) := [[], [], [1], [2], [3], [4], [5, 4], [4], [7, 4], [8, 4], [9, 4], [10, 4], [11, 4], [6, 12, 4], [4, 13], [0, 14, 4]]
def code_judge_ins_r14 : List GO := [
  ⟨none, .mov 143 (.tmp 0)⟩,
  ⟨none, .fld 144 (.tmp 3) 6⟩,
  ⟨none, .load1 145 (.tmp 144)⟩,
  ⟨none, .len 146 (.tmp 145)⟩,
  ⟨none, .bin 147 .gtr 3 (.tmp 146) (.const (.int .i64 6))⟩,
  ⟨none, .mov 148 (.tmp 147)⟩,
  ⟨some (148, false), .fld 149 (.tmp 3) 7⟩,
  ⟨some (148, false), .load1 150 (.tmp 149)⟩,
  ⟨some (148, false), .len 151 (.tmp 150)⟩,
  ⟨some (148, false), .bin 152 .gtr 3 (.tmp 151) (.const (.int .i64 8))⟩,
  ⟨none, .pick 153 (.tmp 148) (.const (.bool true)) (.tmp 152)⟩,
  ⟨none, .call (some 154) 54 [(.tmp 143), (.tmp 153), (.const (.int .i64 2))]⟩]
def code_judge_ins_lc : LC := (.seq (.ops code_judge_ins_r0) (.seq (.ops code_judge_ins_r1) (.seq (.ops code_judge_ins_r2) (.seq (.ops code_judge_ins_r3) (.seq (.ops code_judge_ins_r4) (.block 0 (.seq (.ops code_judge_ins_r5) (.cond (.tmp 92) (.ops code_judge_ins_r6) (.seq (.ops code_judge_ins_r7) (.cond (.tmp 104) (.ops code_judge_ins_r8) (.seq (.seq (.ops code_judge_ins_r9) (.cond (.tmp 112) .skip (.ops code_judge_ins_r10))) (.cond (.tmp 112) (.ops code_judge_ins_r11) (.seq (.ops code_judge_ins_r12) (.cond (.tmp 125) (.seq (.draw code_judge_ins_r13 code_judge_ins_e13) (.ops code_judge_ins_r14)) .skip))))))))))))))
@[reducible] def code_judge_ins : FuncId := 47
theorem code_judge_ins_low : lowF Try.prog Try.f47 = some code_judge_ins_lc := by kernel_rfl
theorem code_judge_ins_in {a0 a1 : Value} {w : World} {R : Ending → World → Prop} (h : code_judge_ins_lc.wp Try.prog (retQ Try.prog [] R) (argEnv [a0, a1]) w) : Calls Try.prog code_judge_ins ⟨[a0, a1]⟩ w R :=
  calls_of_low Try.func47 code_judge_ins_low (by kernel_rfl) (by kernel_rfl) h

/- 48 -/
/- 49 -/
def code_judge_end_r0 : List GO := [
  ⟨none, .box 4 31 (.tmp 1)⟩,
  ⟨none, .box 5 35 (.tmp 2)⟩]
def code_judge_end_r1 : List GO := [
  ⟨none, .mov 6 (.tmp 0)⟩,
  ⟨none, .fld 7 (.tmp 5) 0⟩,
  ⟨none, .load1 8 (.tmp 7)⟩,
  ⟨none, .bin 9 .lss 3 (.tmp 8) (.const (.int .i64 1))⟩,
  ⟨none, .mov 10 (.tmp 9)⟩,
  ⟨some (10, false), .fld 11 (.tmp 5) 0⟩,
  ⟨some (10, false), .load1 12 (.tmp 11)⟩,
  ⟨some (10, false), .bin 13 .gtr 3 (.tmp 12) (.const (.int .i64 3))⟩,
  ⟨none, .pick 14 (.tmp 10) (.const (.bool true)) (.tmp 13)⟩,
  ⟨none, .call (some 15) 54 [(.tmp 6), (.tmp 14), (.const (.int .i64 3))]⟩]
def code_judge_end_r2 : List GO := [
  ⟨none, .mov 16 (.tmp 0)⟩,
  ⟨none, .fld 17 (.tmp 5) 0⟩,
  ⟨none, .load1 18 (.tmp 17)⟩,
  ⟨none, .bin 19 .neq 3 (.tmp 18) (.const (.int .i64 2))⟩,
  ⟨none, .mov 20 (.tmp 19)⟩,
  ⟨some (20, true), .fld 21 (.tmp 5) 1⟩,
  ⟨some (20, true), .load1 22 (.tmp 21)⟩,
  ⟨some (20, true), .bin 23 .neq 3 (.tmp 22) (.const (.int .i64 0))⟩,
  ⟨none, .pick 24 (.tmp 20) (.tmp 23) (.const (.bool false))⟩,
  ⟨none, .mov 25 (.tmp 24)⟩,
  ⟨some (25, false), .fld 26 (.tmp 5) 0⟩,
  ⟨some (25, false), .load1 27 (.tmp 26)⟩,
  ⟨some (25, false), .bin 28 .neq 3 (.tmp 27) (.const (.int .i64 3))⟩,
  ⟨some (25, false), .mov 29 (.tmp 28)⟩,
  ⟨some (29, true), .fld 30 (.tmp 5) 8⟩,
  ⟨some (29, true), .load1 31 (.tmp 30)⟩,
  ⟨some (29, true), .len 32 (.tmp 31)⟩,
  ⟨some (29, true), .bin 33 .gtr 3 (.tmp 32) (.const (.int .i64 0))⟩,
  ⟨some (25, false), .pick 34 (.tmp 29) (.tmp 33) (.const (.bool false))⟩,
  ⟨none, .pick 35 (.tmp 25) (.const (.bool true)) (.tmp 34)⟩,
  ⟨none, .call (some 36) 54 [(.tmp 16), (.tmp 35), (.const (.int .i64 4))]⟩]
def code_judge_end_r3 : List GO := [
  ⟨none, .mov 37 (.tmp 0)⟩,
  ⟨none, .fld 38 (.tmp 5) 8⟩,
  ⟨none, .load1 39 (.tmp 38)⟩,
  ⟨none, .len 40 (.tmp 39)⟩,
  ⟨none, .bin 41 .gtr 3 (.tmp 40) (.const (.int .i64 8))⟩,
  ⟨none, .call (some 42) 54 [(.tmp 37), (.tmp 41), (.const (.int .i64 2))]⟩]
def code_judge_end_r4 : List GO := [
  ⟨none, .mov 43 (.tmp 0)⟩,
  ⟨none, .loadn 44 4 (.tmp 4)⟩,
  ⟨none, .fld 45 (.tmp 5) 2⟩,
  ⟨none, .loadn 46 3 (.tmp 45)⟩,
  ⟨none, .fld 47 (.tmp 5) 0⟩,
  ⟨none, .load1 48 (.tmp 47)⟩,
  ⟨none, .bin 49 .neq 3 (.tmp 48) (.const (.int .i64 3))⟩,
  ⟨none, .call (some 50) 92 [(.tmp 43), (.tmp 44), (.tmp 46), (.tmp 49)]⟩]
def code_judge_end_r5 : List GO := [
  ⟨none, .mov 51 (.tmp 0)⟩,
  ⟨none, .loadn 52 4 (.tmp 4)⟩,
  ⟨none, .fld 53 (.tmp 5) 5⟩,
  ⟨none, .loadn 54 3 (.tmp 53)⟩,
  ⟨none, .fld 55 (.tmp 5) 0⟩,
  ⟨none, .load1 56 (.tmp 55)⟩,
  ⟨none, .bin 57 .eql 3 (.tmp 56) (.const (.int .i64 2))⟩,
  ⟨none, .call (some 58) 92 [(.tmp 51), (.tmp 52), (.tmp 54), (.tmp 57)]⟩]
def code_judge_end_lc : LC := (.seq (.ops code_judge_end_r0) (.seq (.ops code_judge_end_r1) (.seq (.ops code_judge_end_r2) (.seq (.ops code_judge_end_r3) (.seq (.ops code_judge_end_r4) (.ops code_judge_end_r5))))))
@[reducible] def code_judge_end : FuncId := 49
theorem code_judge_end_low : lowF Try.prog Try.f49 = some code_judge_end_lc := by kernel_rfl
theorem code_judge_end_in {a0 a1 a2 : Value} {w : World} {R : Ending → World → Prop} (h : code_judge_end_lc.wp Try.prog (retQ Try.prog [] R) (argEnv [a0, a1, a2]) w) : Calls Try.prog code_judge_end ⟨[a0, a1, a2]⟩ w R :=
  calls_of_low Try.func49 code_judge_end_low (by kernel_rfl) (by kernel_rfl) h

/- 50 -/
/- 51 -/
/- 52 -/
/- 53 -/
/- 54 -/
def code_judge_fail_r0 : List GO := [
  ⟨none, .mov 6 (.tmp 1)⟩,
  ⟨none, .mov 7 (.tmp 6)⟩,
  ⟨some (7, true), .mov 8 (.tmp 0)⟩,
  ⟨some (7, true), .nilc 9 (.tmp 8)⟩,
  ⟨some (7, true), .fld 10 (.tmp 9) 1⟩,
  ⟨some (7, true), .fld 11 (.tmp 10) 0⟩,
  ⟨some (7, true), .load1 12 (.tmp 11)⟩,
  ⟨some (7, true), .bin 13 .eql 3 (.tmp 12) (.const (.int .i64 0))⟩,
  ⟨none, .pick 14 (.tmp 7) (.tmp 13) (.const (.bool false))⟩]
def code_judge_fail_r1 : List GO := [
  ⟨none, .mov 15 (.tmp 0)⟩,
  ⟨none, .mov 16 (.tmp 2)⟩,
  ⟨none, .mov 17 (.tmp 0)⟩,
  ⟨none, .nilc 18 (.tmp 17)⟩,
  ⟨none, .fld 19 (.tmp 18) 3⟩,
  ⟨none, .load1 20 (.tmp 19)⟩,
  ⟨none, .build 21 [(.int .i64 0), (.int .i64 0)] [(0, (1, (.tmp 16))), (1, (1, (.tmp 20)))]⟩,
  ⟨none, .nilc 22 (.tmp 15)⟩,
  ⟨none, .fld 23 (.tmp 22) 1⟩,
  ⟨none, .storen 2 (.tmp 23) (.tmp 21)⟩]
def code_judge_fail_lc : LC := (.seq (.ops code_judge_fail_r0) (.cond (.tmp 14) (.ops code_judge_fail_r1) .skip))
@[reducible] def code_judge_fail : FuncId := 54
theorem code_judge_fail_low : lowF Try.prog Try.f54 = some code_judge_fail_lc := by kernel_rfl
theorem code_judge_fail_in {a0 a1 a2 : Value} {w : World} {R : Ending → World → Prop} (h : code_judge_fail_lc.wp Try.prog (retQ Try.prog [] R) (argEnv [a0, a1, a2]) w) : Calls Try.prog code_judge_fail ⟨[a0, a1, a2]⟩ w R :=
  calls_of_low Try.func54 code_judge_fail_low (by kernel_rfl) (by kernel_rfl) h

/- 55 -/
def code_judge_list_r0 : List GO := [
  ⟨none, .mov 9 (.tmp 0)⟩,
  ⟨none, .mov 10 (.tmp 1)⟩,
  ⟨none, .len 11 (.tmp 10)⟩,
  ⟨none, .bin 12 .gtr 3 (.tmp 11) (.const (.int .i64 8))⟩,
  ⟨none, .call (some 13) 54 [(.tmp 9), (.tmp 12), (.const (.int .i64 2))]⟩]
def code_judge_list_r1 : List GO := [
  ⟨none, .mov 14 (.tmp 1)⟩,
  ⟨none, .len 15 (.tmp 14)⟩,
  ⟨none, .mov 16 (.const (.int .i64 0))⟩]
def code_judge_list_r2 : List GO := [
  ⟨none, .bin 17 .lss 3 (.tmp 16) (.tmp 15)⟩]
def code_judge_list_r3 : List GO := [
  ⟨none, .idx 18 3 (.tmp 14) (.tmp 16)⟩,
  ⟨none, .loadn 19 3 (.tmp 18)⟩,
  ⟨none, .alloc 7 65 [(.int .i64 0), (.int .i64 0), (.slice none 0 0)]⟩,
  ⟨none, .storen 3 (.tmp 7) (.tmp 19)⟩]
def code_judge_list_r4 : List GO := [
  ⟨none, .loadn 20 3 (.tmp 7)⟩,
  ⟨none, .mov 21 (.tmp 2)⟩,
  ⟨none, .call (some 22) 94 [(.tmp 20), (.tmp 21)]⟩,
  ⟨none, .mov 8 (.tmp 22)⟩]
def code_judge_list_r5 : List GO := [
  ⟨none, .mov 23 (.tmp 0)⟩,
  ⟨none, .mov 24 (.tmp 8)⟩,
  ⟨none, .bin 25 .neq 3 (.tmp 24) (.const (.int .i64 0))⟩,
  ⟨none, .mov 26 (.tmp 8)⟩,
  ⟨none, .call (some 27) 54 [(.tmp 23), (.tmp 25), (.tmp 26)]⟩]
def code_judge_list_r6 : List GO := [
  ⟨none, .bin 28 .add 3 (.tmp 16) (.const (.int .i64 1))⟩,
  ⟨none, .mov 16 (.tmp 28)⟩]
def code_judge_list_b2 : LC := (.seq (.ops code_judge_list_r2) (.seq (.cond (.tmp 17) .skip (.exit 0)) (.seq (.block 1 (.seq (.ops code_judge_list_r3) (.seq (.ops code_judge_list_r4) (.ops code_judge_list_r5)))) (.ops code_judge_list_r6))))
def code_judge_list_lc : LC := (.seq (.ops code_judge_list_r0) (.seq (.ops code_judge_list_r1) (.block 0 (.loop code_judge_list_b2))))
@[reducible] def code_judge_list : FuncId := 55
theorem code_judge_list_low : lowF Try.prog Try.f55 = some code_judge_list_lc := by kernel_rfl
theorem code_judge_list_in {a0 a1 a2 : Value} {w : World} {R : Ending → World → Prop} (h : code_judge_list_lc.wp Try.prog (retQ Try.prog [] R) (argEnv [a0, a1, a2]) w) : Calls Try.prog code_judge_list ⟨[a0, a1, a2]⟩ w R :=
  calls_of_low Try.func55 code_judge_list_low (by kernel_rfl) (by kernel_rfl) h

/- 56 -/
def slices_ContainsFunc_api_Type_api_Type_r0 : List GO := [
  ⟨none, .mov 4 (.const (.bool false))⟩]
def slices_ContainsFunc_api_Type_api_Type_r1 : List GO := [
  ⟨none, .mov 5 (.tmp 0)⟩,
  ⟨none, .mov 6 (.tmp 1)⟩,
  ⟨none, .call (some 7) 95 [(.tmp 5), (.tmp 6)]⟩,
  ⟨none, .bin 8 .geq 3 (.tmp 7) (.const (.int .i64 0))⟩,
  ⟨none, .mov 4 (.tmp 8)⟩]
def slices_ContainsFunc_api_Type_api_Type_lc : LC := (.seq (.ops slices_ContainsFunc_api_Type_api_Type_r0) (.seq (.ops slices_ContainsFunc_api_Type_api_Type_r1) .ret))
@[reducible] def slices_ContainsFunc_api_Type_api_Type : FuncId := 56
theorem slices_ContainsFunc_api_Type_api_Type_low : lowF Try.prog Try.f56 = some slices_ContainsFunc_api_Type_api_Type_lc := by kernel_rfl
theorem slices_ContainsFunc_api_Type_api_Type_in {a0 a1 : Value} {w : World} {R : Ending → World → Prop} (h : slices_ContainsFunc_api_Type_api_Type_lc.wp Try.prog (retQ Try.prog [.tmp 4] R) (argEnv [a0, a1]) w) : Calls Try.prog slices_ContainsFunc_api_Type_api_Type ⟨[a0, a1]⟩ w R :=
  calls_of_low Try.func56 slices_ContainsFunc_api_Type_api_Type_low (by kernel_rfl) (by kernel_rfl) h

/- 57 -/
def code_Check_1_r0 : List GO := [
  ⟨none, .box 1 65 (.tmp 0)⟩,
  ⟨none, .mov 2 (.const (.bool false))⟩]
def code_Check_1_r1 : List GO := [
  ⟨none, .fld 3 (.tmp 1) 0⟩,
  ⟨none, .load1 4 (.tmp 3)⟩,
  ⟨none, .bin 5 .neq 3 (.tmp 4) (.const (.int .i64 1))⟩,
  ⟨none, .mov 2 (.tmp 5)⟩]
def code_Check_1_lc : LC := (.seq (.ops code_Check_1_r0) (.seq (.ops code_Check_1_r1) .ret))
@[reducible] def code_Check_1 : FuncId := 57
theorem code_Check_1_low : lowF Try.prog Try.f57 = some code_Check_1_lc := by kernel_rfl
theorem code_Check_1_in {a0 : Value} {w : World} {R : Ending → World → Prop} (h : code_Check_1_lc.wp Try.prog (retQ Try.prog [.tmp 2] R) (argEnv [a0]) w) : Calls Try.prog code_Check_1 ⟨[a0]⟩ w R :=
  calls_of_low Try.func57 code_Check_1_low (by kernel_rfl) (by kernel_rfl) h

/- 58 -/
def code_judge_block_r0 : List GO := [
  ⟨none, .mov 9 (.tmp 0)⟩,
  ⟨none, .nilc 10 (.tmp 9)⟩,
  ⟨none, .fld 11 (.tmp 10) 0⟩,
  ⟨none, .fld 12 (.tmp 11) 0⟩,
  ⟨none, .load1 13 (.tmp 12)⟩,
  ⟨none, .mov 14 (.tmp 1)⟩,
  ⟨none, .idx 15 4 (.tmp 13) (.tmp 14)⟩,
  ⟨none, .loadn 16 4 (.tmp 15)⟩,
  ⟨none, .alloc 6 31 [(.int .i64 0), (.slice none 0 0), (.slice none 0 0), (.slice none 0 0)]⟩,
  ⟨none, .storen 4 (.tmp 6) (.tmp 16)⟩]
def code_judge_block_r1 : List GO := [
  ⟨none, .fld 17 (.tmp 6) 3⟩,
  ⟨none, .load1 18 (.tmp 17)⟩,
  ⟨none, .mov 19 (.tmp 2)⟩,
  ⟨none, .idx 20 12 (.tmp 18) (.tmp 19)⟩,
  ⟨none, .loadn 21 12 (.tmp 20)⟩,
  ⟨none, .alloc 7 77 [(.int .i64 0), (.slice none 0 0), (.slice none 0 0), (.int .i64 0), (.int .i64 0), (.int .i64 0), (.slice none 0 0), (.slice none 0 0), (.int .i64 0), (.slice none 0 0), (.slice none 0 0), (.slice none 0 0)]⟩,
  ⟨none, .storen 12 (.tmp 7) (.tmp 21)⟩]
def code_judge_block_r2 : List GO := [
  ⟨none, .mov 22 (.tmp 0)⟩,
  ⟨none, .mov 23 (.tmp 1)⟩,
  ⟨none, .mov 24 (.tmp 2)⟩,
  ⟨none, .call (some 25) 18 [(.tmp 23), (.tmp 24)]⟩,
  ⟨none, .nilc 26 (.tmp 22)⟩,
  ⟨none, .fld 27 (.tmp 26) 3⟩,
  ⟨none, .store1 (.tmp 27) (.tmp 25)⟩]
def code_judge_block_r3 : List GO := [
  ⟨none, .mov 28 (.tmp 0)⟩,
  ⟨none, .fld 29 (.tmp 7) 0⟩,
  ⟨none, .load1 30 (.tmp 29)⟩,
  ⟨none, .fld 31 (.tmp 6) 0⟩,
  ⟨none, .load1 32 (.tmp 31)⟩,
  ⟨none, .bin 33 .lss 3 (.tmp 30) (.tmp 32)⟩,
  ⟨none, .mov 34 (.tmp 33)⟩,
  ⟨some (34, false), .fld 35 (.tmp 7) 0⟩,
  ⟨some (34, false), .load1 36 (.tmp 35)⟩,
  ⟨some (34, false), .bin 37 .gtr 3 (.tmp 36) (.const (.int .i64 16))⟩,
  ⟨none, .pick 38 (.tmp 34) (.const (.bool true)) (.tmp 37)⟩,
  ⟨none, .call (some 39) 54 [(.tmp 28), (.tmp 38), (.const (.int .i64 1))]⟩]
def code_judge_block_r4 : List GO := [
  ⟨none, .mov 40 (.tmp 0)⟩,
  ⟨none, .fld 41 (.tmp 7) 1⟩,
  ⟨none, .load1 42 (.tmp 41)⟩,
  ⟨none, .fld 43 (.tmp 7) 0⟩,
  ⟨none, .load1 44 (.tmp 43)⟩,
  ⟨none, .call (some 45) 55 [(.tmp 40), (.tmp 42), (.tmp 44)]⟩]
def code_judge_block_r5 : List GO := [
  ⟨none, .mov 46 (.tmp 0)⟩,
  ⟨none, .mov 47 (.tmp 2)⟩,
  ⟨none, .bin 48 .eql 3 (.tmp 47) (.const (.int .i64 0))⟩,
  ⟨none, .mov 49 (.tmp 48)⟩,
  ⟨some (49, true), .fld 50 (.tmp 7) 0⟩,
  ⟨some (49, true), .load1 51 (.tmp 50)⟩,
  ⟨some (49, true), .fld 52 (.tmp 6) 0⟩,
  ⟨some (49, true), .load1 53 (.tmp 52)⟩,
  ⟨some (49, true), .bin 54 .neq 3 (.tmp 51) (.tmp 53)⟩,
  ⟨some (49, true), .mov 55 (.tmp 54)⟩,
  ⟨some (55, false), .fld 56 (.tmp 7) 1⟩,
  ⟨some (55, false), .load1 57 (.tmp 56)⟩,
  ⟨some (55, false), .fld 58 (.tmp 6) 1⟩,
  ⟨some (55, false), .load1 59 (.tmp 58)⟩,
  ⟨some (55, false), .call (some 60) 68 [(.tmp 57), (.tmp 59), (.func 69)]⟩,
  ⟨some (55, false), .un 61 .not (.tmp 60)⟩,
  ⟨some (49, true), .pick 62 (.tmp 55) (.const (.bool true)) (.tmp 61)⟩,
  ⟨none, .pick 63 (.tmp 49) (.tmp 62) (.const (.bool false))⟩,
  ⟨none, .call (some 64) 54 [(.tmp 46), (.tmp 63), (.const (.int .i64 9))]⟩]
def code_judge_block_r6 : List GO := [
  ⟨none, .mov 65 (.tmp 0)⟩,
  ⟨none, .fld 66 (.tmp 7) 2⟩,
  ⟨none, .load1 67 (.tmp 66)⟩,
  ⟨none, .len 68 (.tmp 67)⟩,
  ⟨none, .bin 69 .gtr 3 (.tmp 68) (.const (.int .i64 40))⟩,
  ⟨none, .call (some 70) 54 [(.tmp 65), (.tmp 69), (.const (.int .i64 2))]⟩]
def code_judge_block_r7 : List GO := [
  ⟨none, .mov 8 (.const (.int .i64 0))⟩]
def code_judge_block_r8 : List GO := [
  ⟨none, .mov 71 (.tmp 8)⟩,
  ⟨none, .fld 72 (.tmp 7) 2⟩,
  ⟨none, .load1 73 (.tmp 72)⟩,
  ⟨none, .len 74 (.tmp 73)⟩,
  ⟨none, .bin 75 .lss 3 (.tmp 71) (.tmp 74)⟩,
  ⟨none, .mov 76 (.tmp 75)⟩,
  ⟨some (76, true), .mov 77 (.tmp 0)⟩,
  ⟨some (76, true), .nilc 78 (.tmp 77)⟩,
  ⟨some (76, true), .fld 79 (.tmp 78) 1⟩,
  ⟨some (76, true), .fld 80 (.tmp 79) 0⟩,
  ⟨some (76, true), .load1 81 (.tmp 80)⟩,
  ⟨some (76, true), .bin 82 .eql 3 (.tmp 81) (.const (.int .i64 0))⟩,
  ⟨none, .pick 83 (.tmp 76) (.tmp 82) (.const (.bool false))⟩]
def code_judge_block_r9 : List GO := [
  ⟨none, .mov 86 (.tmp 0)⟩,
  ⟨none, .mov 87 (.tmp 1)⟩,
  ⟨none, .mov 88 (.tmp 2)⟩,
  ⟨none, .mov 89 (.tmp 8)⟩,
  ⟨none, .call (some 90) 22 [(.tmp 87), (.tmp 88), (.tmp 89)]⟩,
  ⟨none, .nilc 91 (.tmp 86)⟩,
  ⟨none, .fld 92 (.tmp 91) 3⟩,
  ⟨none, .store1 (.tmp 92) (.tmp 90)⟩]
def code_judge_block_r10 : List GO := [
  ⟨none, .mov 93 (.tmp 0)⟩,
  ⟨none, .fld 94 (.tmp 7) 2⟩,
  ⟨none, .load1 95 (.tmp 94)⟩,
  ⟨none, .mov 96 (.tmp 8)⟩,
  ⟨none, .idx 97 8 (.tmp 95) (.tmp 96)⟩,
  ⟨none, .loadn 98 8 (.tmp 97)⟩,
  ⟨none, .call (some 99) 47 [(.tmp 93), (.tmp 98)]⟩]
def code_judge_block_r11 : List GO := [
  ⟨none, .mov 84 (.tmp 8)⟩,
  ⟨none, .bin 85 .add 3 (.tmp 84) (.const (.int .i64 1))⟩,
  ⟨none, .mov 8 (.tmp 85)⟩]
def code_judge_block_b8 : LC := (.seq (.seq (.ops code_judge_block_r8) (.cond (.tmp 83) .skip (.exit 0))) (.seq (.block 1 (.seq (.ops code_judge_block_r9) (.ops code_judge_block_r10))) (.ops code_judge_block_r11)))
def code_judge_block_r12 : List GO := [
  ⟨none, .mov 100 (.tmp 0)⟩,
  ⟨none, .mov 101 (.tmp 1)⟩,
  ⟨none, .mov 102 (.tmp 2)⟩,
  ⟨none, .call (some 103) 20 [(.tmp 101), (.tmp 102)]⟩,
  ⟨none, .nilc 104 (.tmp 100)⟩,
  ⟨none, .fld 105 (.tmp 104) 3⟩,
  ⟨none, .store1 (.tmp 105) (.tmp 103)⟩]
def code_judge_block_r13 : List GO := [
  ⟨none, .mov 106 (.tmp 0)⟩,
  ⟨none, .loadn 107 4 (.tmp 6)⟩,
  ⟨none, .fld 108 (.tmp 7) 3⟩,
  ⟨none, .loadn 109 9 (.tmp 108)⟩,
  ⟨none, .call (some 110) 49 [(.tmp 106), (.tmp 107), (.tmp 109)]⟩]
def code_judge_block_lc : LC := (.seq (.ops code_judge_block_r0) (.seq (.ops code_judge_block_r1) (.seq (.ops code_judge_block_r2) (.seq (.ops code_judge_block_r3) (.seq (.ops code_judge_block_r4) (.seq (.ops code_judge_block_r5) (.seq (.ops code_judge_block_r6) (.seq (.seq (.ops code_judge_block_r7) (.block 0 (.loop code_judge_block_b8))) (.seq (.ops code_judge_block_r12) (.ops code_judge_block_r13))))))))))
@[reducible] def code_judge_block : FuncId := 58
theorem code_judge_block_low : lowF Try.prog Try.f58 = some code_judge_block_lc := by kernel_rfl
theorem code_judge_block_in {a0 a1 a2 : Value} {w : World} {R : Ending → World → Prop} (h : code_judge_block_lc.wp Try.prog (retQ Try.prog [] R) (argEnv [a0, a1, a2]) w) : Calls Try.prog code_judge_block ⟨[a0, a1, a2]⟩ w R :=
  calls_of_low Try.func58 code_judge_block_low (by kernel_rfl) (by kernel_rfl) h

/- 59 -/
/- 60 -/
/- 61 -/
/- 62 -/
/- 63 -/
def code_ownTypes_r0 : List GO := [
  ⟨none, .mov 2 (.const (.slice none 0 0))⟩]
def code_ownTypes_r1 : List GO := [
  ⟨none, .mov 3 (.const (.slice none 0 0))⟩]
def code_ownTypes_r2 : List GO := [
  ⟨none, .mov 6 (.tmp 0)⟩,
  ⟨none, .len 7 (.tmp 6)⟩,
  ⟨none, .mov 8 (.const (.int .i64 0))⟩]
def code_ownTypes_r3 : List GO := [
  ⟨none, .bin 9 .lss 3 (.tmp 8) (.tmp 7)⟩]
def code_ownTypes_r4 : List GO := [
  ⟨none, .idx 10 3 (.tmp 6) (.tmp 8)⟩,
  ⟨none, .loadn 11 3 (.tmp 10)⟩,
  ⟨none, .alloc 5 65 [(.int .i64 0), (.int .i64 0), (.slice none 0 0)]⟩,
  ⟨none, .storen 3 (.tmp 5) (.tmp 11)⟩]
def code_ownTypes_r5 : List GO := [
  ⟨none, .mov 12 (.tmp 3)⟩,
  ⟨none, .loadn 13 3 (.tmp 5)⟩,
  ⟨none, .call (some 14) 99 [(.tmp 13)]⟩,
  ⟨none, .buildS 15 65 1 [(.int .i64 0), (.int .i64 0), (.slice none 0 0)] [(0, (3, (.tmp 14)))]⟩,
  ⟨none, .raw ⟨(some 16), (.call ⟨(.builtin .append), #[(.tmp 12), (.tmp 15)], #[28, 28]⟩), 28, "", #[], none⟩⟩,
  ⟨none, .mov 3 (.tmp 16)⟩]
def code_ownTypes_r6 : List GO := [
  ⟨none, .bin 17 .add 3 (.tmp 8) (.const (.int .i64 1))⟩,
  ⟨none, .mov 8 (.tmp 17)⟩]
def code_ownTypes_b3 : LC := (.seq (.ops code_ownTypes_r3) (.seq (.cond (.tmp 9) .skip (.exit 0)) (.seq (.block 1 (.seq (.ops code_ownTypes_r4) (.ops code_ownTypes_r5))) (.ops code_ownTypes_r6))))
def code_ownTypes_r7 : List GO := [
  ⟨none, .mov 18 (.tmp 3)⟩,
  ⟨none, .mov 2 (.tmp 18)⟩]
def code_ownTypes_lc : LC := (.seq (.ops code_ownTypes_r0) (.seq (.ops code_ownTypes_r1) (.seq (.seq (.ops code_ownTypes_r2) (.block 0 (.loop code_ownTypes_b3))) (.seq (.ops code_ownTypes_r7) .ret))))
@[reducible] def code_ownTypes : FuncId := 63
theorem code_ownTypes_low : lowF Try.prog Try.f63 = some code_ownTypes_lc := by kernel_rfl
theorem code_ownTypes_in {a0 : Value} {w : World} {R : Ending → World → Prop} (h : code_ownTypes_lc.wp Try.prog (retQ Try.prog [.tmp 2] R) (argEnv [a0]) w) : Calls Try.prog code_ownTypes ⟨[a0]⟩ w R :=
  calls_of_low Try.func63 code_ownTypes_low (by kernel_rfl) (by kernel_rfl) h

/- 64 -/
def code_ownTo_r0 : List GO := [
  ⟨none, .box 1 33 (.tmp 0)⟩,
  ⟨none, .alloc 2 33 [(.int .i64 0), (.slice none 0 0), (.slice none 0 0)]⟩]
def code_ownTo_r1 : List GO := [
  ⟨none, .fld 3 (.tmp 1) 0⟩,
  ⟨none, .load1 4 (.tmp 3)⟩,
  ⟨none, .fld 5 (.tmp 1) 1⟩,
  ⟨none, .load1 6 (.tmp 5)⟩,
  ⟨none, .call (some 7) 65 [(.tmp 6)]⟩,
  ⟨none, .fld 8 (.tmp 1) 2⟩,
  ⟨none, .load1 9 (.tmp 8)⟩,
  ⟨none, .call (some 10) 65 [(.tmp 9)]⟩,
  ⟨none, .build 11 [(.int .i64 0), (.slice none 0 0), (.slice none 0 0)] [(0, (1, (.tmp 4))), (1, (1, (.tmp 7))), (2, (1, (.tmp 10)))]⟩,
  ⟨none, .storen 3 (.tmp 2) (.tmp 11)⟩]
def code_ownTo_e1 : List (List Nat) := [[], [0], [], [2], [3], [], [5], [6, 4], [1, 4, 7], [8, 7, 0, 1, 2, 3, 4, 5, 6, 7, 8]]
def code_ownTo_lc : LC := (.seq (.ops code_ownTo_r0) (.seq (.draw code_ownTo_r1 code_ownTo_e1) .ret))
@[reducible] def code_ownTo : FuncId := 64
theorem code_ownTo_low : lowF Try.prog Try.f64 = some code_ownTo_lc := by kernel_rfl
theorem code_ownTo_in {a0 : Value} {w : World} {R : Ending → World → Prop} (h : code_ownTo_lc.wp Try.prog (retQ Try.prog [.cell 2 33] R) (argEnv [a0]) w) : Calls Try.prog code_ownTo ⟨[a0]⟩ w R :=
  calls_of_low Try.func64 code_ownTo_low (by kernel_rfl) (by kernel_rfl) h

/- 65 -/
def slices_Clone_int_int_r0 : List GO := [
  ⟨none, .mov 2 (.const (.slice none 0 0))⟩]
def slices_Clone_int_int_r1 : List GO := [
  ⟨none, .mov 3 (.tmp 0)⟩,
  ⟨none, .bin 4 .eql 25 (.tmp 3) (.const (.slice none 0 0))⟩]
def slices_Clone_int_int_r2 : List GO := [
  ⟨none, .mov 2 (.const (.slice none 0 0))⟩]
def slices_Clone_int_int_r3 : List GO := [
  ⟨none, .raw ⟨(some 5), (.buildSlice 25 0 #[]), 25, "", #[], none⟩⟩,
  ⟨none, .mov 6 (.tmp 0)⟩,
  ⟨none, .raw ⟨(some 7), (.call ⟨(.builtin .append), #[(.tmp 5), (.tmp 6)], #[25, 25]⟩), 25, "", #[], none⟩⟩,
  ⟨none, .mov 2 (.tmp 7)⟩]
def slices_Clone_int_int_lc : LC := (.seq (.ops slices_Clone_int_int_r0) (.seq (.seq (.ops slices_Clone_int_int_r1) (.cond (.tmp 4) (.seq (.ops slices_Clone_int_int_r2) .ret) .skip)) (.seq (.ops slices_Clone_int_int_r3) .ret)))
@[reducible] def slices_Clone_int_int : FuncId := 65
theorem slices_Clone_int_int_low : lowF Try.prog Try.f65 = some slices_Clone_int_int_lc := by kernel_rfl
theorem slices_Clone_int_int_in {a0 : Value} {w : World} {R : Ending → World → Prop} (h : slices_Clone_int_int_lc.wp Try.prog (retQ Try.prog [.tmp 2] R) (argEnv [a0]) w) : Calls Try.prog slices_Clone_int_int ⟨[a0]⟩ w R :=
  calls_of_low Try.func65 slices_Clone_int_int_low (by kernel_rfl) (by kernel_rfl) h

/- 66 -/
/- 67 -/
/- 68 -/
def slices_EqualFunc_api_Type_api_Type_api_Type_api_Type_r0 : List GO := [
  ⟨none, .mov 6 (.const (.bool false))⟩]
def slices_EqualFunc_api_Type_api_Type_api_Type_api_Type_r1 : List GO := [
  ⟨none, .mov 10 (.tmp 0)⟩,
  ⟨none, .len 11 (.tmp 10)⟩,
  ⟨none, .mov 12 (.tmp 1)⟩,
  ⟨none, .len 13 (.tmp 12)⟩,
  ⟨none, .bin 14 .neq 3 (.tmp 11) (.tmp 13)⟩]
def slices_EqualFunc_api_Type_api_Type_api_Type_api_Type_r2 : List GO := [
  ⟨none, .mov 6 (.const (.bool false))⟩]
def slices_EqualFunc_api_Type_api_Type_api_Type_api_Type_r3 : List GO := [
  ⟨none, .mov 15 (.tmp 0)⟩,
  ⟨none, .len 16 (.tmp 15)⟩,
  ⟨none, .mov 17 (.const (.int .i64 0))⟩]
def slices_EqualFunc_api_Type_api_Type_api_Type_api_Type_r4 : List GO := [
  ⟨none, .bin 18 .lss 3 (.tmp 17) (.tmp 16)⟩]
def slices_EqualFunc_api_Type_api_Type_api_Type_api_Type_r5 : List GO := [
  ⟨none, .mov 19 (.tmp 17)⟩,
  ⟨none, .idx 20 3 (.tmp 15) (.tmp 17)⟩,
  ⟨none, .loadn 21 3 (.tmp 20)⟩,
  ⟨none, .alloc 8 65 [(.int .i64 0), (.int .i64 0), (.slice none 0 0)]⟩,
  ⟨none, .mov 7 (.tmp 19)⟩,
  ⟨none, .storen 3 (.tmp 8) (.tmp 21)⟩]
def slices_EqualFunc_api_Type_api_Type_api_Type_api_Type_r6 : List GO := [
  ⟨none, .mov 22 (.tmp 1)⟩,
  ⟨none, .mov 23 (.tmp 7)⟩,
  ⟨none, .idx 24 3 (.tmp 22) (.tmp 23)⟩,
  ⟨none, .loadn 25 3 (.tmp 24)⟩,
  ⟨none, .alloc 9 65 [(.int .i64 0), (.int .i64 0), (.slice none 0 0)]⟩,
  ⟨none, .storen 3 (.tmp 9) (.tmp 25)⟩]
def slices_EqualFunc_api_Type_api_Type_api_Type_api_Type_r7 : List GO := [
  ⟨none, .mov 26 (.tmp 2)⟩,
  ⟨none, .loadn 27 3 (.tmp 8)⟩,
  ⟨none, .loadn 28 3 (.tmp 9)⟩,
  ⟨none, .callv (some 29) (.tmp 26) [(.tmp 27), (.tmp 28)]⟩,
  ⟨none, .un 30 .not (.tmp 29)⟩]
def slices_EqualFunc_api_Type_api_Type_api_Type_api_Type_r8 : List GO := [
  ⟨none, .mov 6 (.const (.bool false))⟩]
def slices_EqualFunc_api_Type_api_Type_api_Type_api_Type_r9 : List GO := [
  ⟨none, .bin 31 .add 3 (.tmp 17) (.const (.int .i64 1))⟩,
  ⟨none, .mov 17 (.tmp 31)⟩]
def slices_EqualFunc_api_Type_api_Type_api_Type_api_Type_b4 : LC := (.seq (.ops slices_EqualFunc_api_Type_api_Type_api_Type_api_Type_r4) (.seq (.cond (.tmp 18) .skip (.exit 0)) (.seq (.block 1 (.seq (.ops slices_EqualFunc_api_Type_api_Type_api_Type_api_Type_r5) (.seq (.ops slices_EqualFunc_api_Type_api_Type_api_Type_api_Type_r6) (.seq (.ops slices_EqualFunc_api_Type_api_Type_api_Type_api_Type_r7) (.cond (.tmp 30) (.seq (.ops slices_EqualFunc_api_Type_api_Type_api_Type_api_Type_r8) .ret) .skip))))) (.ops slices_EqualFunc_api_Type_api_Type_api_Type_api_Type_r9))))
def slices_EqualFunc_api_Type_api_Type_api_Type_api_Type_r10 : List GO := [
  ⟨none, .mov 6 (.const (.bool true))⟩]
def slices_EqualFunc_api_Type_api_Type_api_Type_api_Type_lc : LC := (.seq (.ops slices_EqualFunc_api_Type_api_Type_api_Type_api_Type_r0) (.seq (.seq (.ops slices_EqualFunc_api_Type_api_Type_api_Type_api_Type_r1) (.cond (.tmp 14) (.seq (.ops slices_EqualFunc_api_Type_api_Type_api_Type_api_Type_r2) .ret) .skip)) (.seq (.seq (.ops slices_EqualFunc_api_Type_api_Type_api_Type_api_Type_r3) (.block 0 (.loop slices_EqualFunc_api_Type_api_Type_api_Type_api_Type_b4))) (.seq (.ops slices_EqualFunc_api_Type_api_Type_api_Type_api_Type_r10) .ret))))
@[reducible] def slices_EqualFunc_api_Type_api_Type_api_Type_api_Type : FuncId := 68
theorem slices_EqualFunc_api_Type_api_Type_api_Type_api_Type_low : lowF Try.prog Try.f68 = some slices_EqualFunc_api_Type_api_Type_api_Type_api_Type_lc := by kernel_rfl
theorem slices_EqualFunc_api_Type_api_Type_api_Type_api_Type_in {a0 a1 a2 : Value} {w : World} {R : Ending → World → Prop} (h : slices_EqualFunc_api_Type_api_Type_api_Type_api_Type_lc.wp Try.prog (retQ Try.prog [.tmp 6] R) (argEnv [a0, a1, a2]) w) : Calls Try.prog slices_EqualFunc_api_Type_api_Type_api_Type_api_Type ⟨[a0, a1, a2]⟩ w R :=
  calls_of_low Try.func68 slices_EqualFunc_api_Type_api_Type_api_Type_api_Type_low (by kernel_rfl) (by kernel_rfl) h

/- 69 -/
def types_Same_r0 : List GO := [
  ⟨none, .box 2 65 (.tmp 0)⟩,
  ⟨none, .box 3 65 (.tmp 1)⟩,
  ⟨none, .mov 4 (.const (.bool false))⟩]
def types_Same_r1 : List GO := [
  ⟨none, .fld 5 (.tmp 2) 0⟩,
  ⟨none, .load1 6 (.tmp 5)⟩,
  ⟨none, .fld 7 (.tmp 3) 0⟩,
  ⟨none, .load1 8 (.tmp 7)⟩,
  ⟨none, .bin 9 .eql 3 (.tmp 6) (.tmp 8)⟩,
  ⟨none, .mov 10 (.tmp 9)⟩,
  ⟨some (10, true), .fld 11 (.tmp 2) 1⟩,
  ⟨some (10, true), .load1 12 (.tmp 11)⟩,
  ⟨some (10, true), .fld 13 (.tmp 3) 1⟩,
  ⟨some (10, true), .load1 14 (.tmp 13)⟩,
  ⟨some (10, true), .bin 15 .eql 3 (.tmp 12) (.tmp 14)⟩,
  ⟨none, .pick 16 (.tmp 10) (.tmp 15) (.const (.bool false))⟩,
  ⟨none, .mov 17 (.tmp 16)⟩,
  ⟨some (17, true), .fld 18 (.tmp 2) 2⟩,
  ⟨some (17, true), .load1 19 (.tmp 18)⟩,
  ⟨some (17, true), .fld 20 (.tmp 3) 2⟩,
  ⟨some (17, true), .load1 21 (.tmp 20)⟩,
  ⟨some (17, true), .call (some 22) 68 [(.tmp 19), (.tmp 21), (.func 69)]⟩,
  ⟨none, .pick 23 (.tmp 17) (.tmp 22) (.const (.bool false))⟩,
  ⟨none, .mov 4 (.tmp 23)⟩]
def types_Same_lc : LC := (.seq (.ops types_Same_r0) (.seq (.ops types_Same_r1) .ret))
@[reducible] def types_Same : FuncId := 69
theorem types_Same_low : lowF Try.prog Try.f69 = some types_Same_lc := by kernel_rfl
theorem types_Same_in {a0 a1 : Value} {w : World} {R : Ending → World → Prop} (h : types_Same_lc.wp Try.prog (retQ Try.prog [.tmp 4] R) (argEnv [a0, a1]) w) : Calls Try.prog types_Same ⟨[a0, a1]⟩ w R :=
  calls_of_low Try.func69 types_Same_low (by kernel_rfl) (by kernel_rfl) h

/- 70 -/
/- 71 -/
/- 87 -/
def R_SameType_r0 : List GO := [
  ⟨none, .box 2 65 (.tmp 0)⟩,
  ⟨none, .box 3 65 (.tmp 1)⟩,
  ⟨none, .mov 4 (.const (.bool false))⟩]
def R_SameType_r1 : List GO := [
  ⟨none, .fld 5 (.tmp 2) 0⟩,
  ⟨none, .load1 6 (.tmp 5)⟩,
  ⟨none, .fld 7 (.tmp 3) 0⟩,
  ⟨none, .load1 8 (.tmp 7)⟩,
  ⟨none, .bin 9 .eql 3 (.tmp 6) (.tmp 8)⟩,
  ⟨none, .mov 10 (.tmp 9)⟩,
  ⟨some (10, true), .fld 11 (.tmp 2) 1⟩,
  ⟨some (10, true), .load1 12 (.tmp 11)⟩,
  ⟨some (10, true), .fld 13 (.tmp 3) 1⟩,
  ⟨some (10, true), .load1 14 (.tmp 13)⟩,
  ⟨some (10, true), .bin 15 .eql 3 (.tmp 12) (.tmp 14)⟩,
  ⟨none, .pick 16 (.tmp 10) (.tmp 15) (.const (.bool false))⟩,
  ⟨none, .mov 17 (.tmp 16)⟩,
  ⟨some (17, true), .fld 18 (.tmp 2) 2⟩,
  ⟨some (17, true), .load1 19 (.tmp 18)⟩,
  ⟨some (17, true), .fld 20 (.tmp 3) 2⟩,
  ⟨some (17, true), .load1 21 (.tmp 20)⟩,
  ⟨some (17, true), .call (some 22) 41 [(.tmp 19), (.tmp 21)]⟩,
  ⟨none, .pick 23 (.tmp 17) (.tmp 22) (.const (.bool false))⟩,
  ⟨none, .mov 4 (.tmp 23)⟩]
def R_SameType_lc : LC := (.seq (.ops R_SameType_r0) (.seq (.ops R_SameType_r1) .ret))
@[reducible] def R_SameType : FuncId := 87
theorem R_SameType_low : lowF Try.prog Try.f87 = some R_SameType_lc := by kernel_rfl
theorem R_SameType_in {a0 a1 : Value} {w : World} {R : Ending → World → Prop} (h : R_SameType_lc.wp Try.prog (retQ Try.prog [.tmp 4] R) (argEnv [a0, a1]) w) : Calls Try.prog R_SameType ⟨[a0, a1]⟩ w R :=
  calls_of_low Try.func87 R_SameType_low (by kernel_rfl) (by kernel_rfl) h

/- 89 -/
def R_GreatType_r0 : List GO := [
  ⟨none, .box 1 65 (.tmp 0)⟩,
  ⟨none, .mov 2 (.const (.bool false))⟩]
def R_GreatType_r1 : List GO := [
  ⟨none, .loadn 3 3 (.tmp 1)⟩,
  ⟨none, .call (some 4) 126 [(.tmp 3), (.const (.int .i64 2000))]⟩,
  ⟨none, .bin 5 .lss 3 (.tmp 4) (.const (.int .i64 0))⟩,
  ⟨none, .mov 2 (.tmp 5)⟩]
def R_GreatType_lc : LC := (.seq (.ops R_GreatType_r0) (.seq (.ops R_GreatType_r1) .ret))
@[reducible] def R_GreatType : FuncId := 89
theorem R_GreatType_low : lowF Try.prog Try.f89 = some R_GreatType_lc := by kernel_rfl
theorem R_GreatType_in {a0 : Value} {w : World} {R : Ending → World → Prop} (h : R_GreatType_lc.wp Try.prog (retQ Try.prog [.tmp 2] R) (argEnv [a0]) w) : Calls Try.prog R_GreatType ⟨[a0]⟩ w R :=
  calls_of_low Try.func89 R_GreatType_low (by kernel_rfl) (by kernel_rfl) h

/- 90 -/
def code_has_r0 : List GO := [
  ⟨none, .mov 2 (.const (.string ⟨#[]⟩))⟩]
def code_has_r1 : List GO := [
  ⟨none, .mov 3 (.tmp 0)⟩,
  ⟨none, .bin 4 .lss 3 (.tmp 3) (.const (.int .i64 1))⟩,
  ⟨none, .mov 5 (.tmp 4)⟩,
  ⟨some (5, false), .mov 6 (.tmp 0)⟩,
  ⟨some (5, false), .bin 7 .gtr 3 (.tmp 6) (.const (.int .i64 14))⟩,
  ⟨none, .pick 8 (.tmp 5) (.const (.bool true)) (.tmp 7)⟩]
def code_has_r2 : List GO := [
  ⟨none, .mov 2 (.const (.string ⟨#[]⟩))⟩]
def code_has_r3 : List GO := [
  ⟨none, .build 9 [(.string ⟨#[]⟩), (.string ⟨#[]⟩), (.string ⟨#[]⟩), (.string ⟨#[]⟩), (.string ⟨#[]⟩), (.string ⟨#[]⟩), (.string ⟨#[]⟩), (.string ⟨#[]⟩), (.string ⟨#[]⟩), (.string ⟨#[]⟩), (.string ⟨#[]⟩), (.string ⟨#[]⟩), (.string ⟨#[]⟩), (.string ⟨#[]⟩), (.string ⟨#[]⟩)] [(0, (1, (.const (.string ⟨#[]⟩)))), (1, (1, (.const (.string ⟨#[110]⟩)))), (2, (1, (.const (.string ⟨#[97, 98, 107]⟩)))), (3, (1, (.const (.string ⟨#[]⟩)))), (4, (1, (.const (.string ⟨#[97]⟩)))), (5, (1, (.const (.string ⟨#[97, 114]⟩)))), (6, (1, (.const (.string ⟨#[97, 107]⟩)))), (7, (1, (.const (.string ⟨#[97, 98, 107]⟩)))), (8, (1, (.const (.string ⟨#[97, 98]⟩)))), (9, (1, (.const (.string ⟨#[97, 98]⟩)))), (10, (1, (.const (.string ⟨#[97, 98, 99]⟩)))), (11, (1, (.const (.string ⟨#[97]⟩)))), (12, (1, (.const (.string ⟨#[]⟩)))), (13, (1, (.const (.string ⟨#[97]⟩)))), (14, (1, (.const (.string ⟨#[107, 103, 114]⟩))))]⟩,
  ⟨none, .mov 10 (.tmp 0)⟩,
  ⟨none, .raw ⟨(some 11), (.index 151 (.tmp 9) (.tmp 10)), 9, "", #[], none⟩⟩,
  ⟨none, .mov 2 (.tmp 11)⟩]
def code_has_lc : LC := (.seq (.ops code_has_r0) (.seq (.seq (.ops code_has_r1) (.cond (.tmp 8) (.seq (.ops code_has_r2) .ret) .skip)) (.seq (.ops code_has_r3) .ret)))
@[reducible] def code_has : FuncId := 90
theorem code_has_low : lowF Try.prog Try.f90 = some code_has_lc := by kernel_rfl
theorem code_has_in {a0 : Value} {w : World} {R : Ending → World → Prop} (h : code_has_lc.wp Try.prog (retQ Try.prog [.tmp 2] R) (argEnv [a0]) w) : Calls Try.prog code_has ⟨[a0]⟩ w R :=
  calls_of_low Try.func90 code_has_low (by kernel_rfl) (by kernel_rfl) h

/- 91 -/
def code_with_r0 : List GO := [
  ⟨none, .mov 4 (.const (.bool false))⟩]
def code_with_r1 : List GO := [
  ⟨none, .mov 5 (.tmp 0)⟩,
  ⟨none, .raw ⟨(some 6), (.convert 9 50 (.tmp 5)), 50, "", #[], none⟩⟩,
  ⟨none, .mov 7 (.tmp 1)⟩,
  ⟨none, .call (some 8) 127 [(.tmp 6), (.tmp 7)]⟩,
  ⟨none, .mov 4 (.tmp 8)⟩]
def code_with_lc : LC := (.seq (.ops code_with_r0) (.seq (.ops code_with_r1) .ret))
@[reducible] def code_with : FuncId := 91
theorem code_with_low : lowF Try.prog Try.f91 = some code_with_lc := by kernel_rfl
theorem code_with_in {a0 a1 : Value} {w : World} {R : Ending → World → Prop} (h : code_with_lc.wp Try.prog (retQ Try.prog [.tmp 4] R) (argEnv [a0, a1]) w) : Calls Try.prog code_with ⟨[a0, a1]⟩ w R :=
  calls_of_low Try.func91 code_with_low (by kernel_rfl) (by kernel_rfl) h

/- 92 -/
def code_judge_to_r0 : List GO := [
  ⟨none, .box 5 31 (.tmp 1)⟩,
  ⟨none, .box 6 33 (.tmp 2)⟩]
def code_judge_to_r1 : List GO := [
  ⟨none, .mov 8 (.tmp 3)⟩,
  ⟨none, .un 9 .not (.tmp 8)⟩]
def code_judge_to_r2 : List GO := [
  ⟨none, .mov 10 (.tmp 0)⟩,
  ⟨none, .fld 11 (.tmp 6) 0⟩,
  ⟨none, .load1 12 (.tmp 11)⟩,
  ⟨none, .bin 13 .neq 3 (.tmp 12) (.const (.int .i64 0))⟩,
  ⟨none, .mov 14 (.tmp 13)⟩,
  ⟨some (14, false), .fld 15 (.tmp 6) 1⟩,
  ⟨some (14, false), .load1 16 (.tmp 15)⟩,
  ⟨some (14, false), .len 17 (.tmp 16)⟩,
  ⟨some (14, false), .bin 18 .gtr 3 (.tmp 17) (.const (.int .i64 0))⟩,
  ⟨none, .pick 19 (.tmp 14) (.const (.bool true)) (.tmp 18)⟩,
  ⟨none, .mov 20 (.tmp 19)⟩,
  ⟨some (20, false), .fld 21 (.tmp 6) 2⟩,
  ⟨some (20, false), .load1 22 (.tmp 21)⟩,
  ⟨some (20, false), .len 23 (.tmp 22)⟩,
  ⟨some (20, false), .bin 24 .gtr 3 (.tmp 23) (.const (.int .i64 0))⟩,
  ⟨none, .pick 25 (.tmp 20) (.const (.bool true)) (.tmp 24)⟩,
  ⟨none, .call (some 26) 54 [(.tmp 10), (.tmp 25), (.const (.int .i64 4))]⟩]
def code_judge_to_r3 : List GO := [
  ⟨none, .mov 27 (.tmp 0)⟩,
  ⟨none, .fld 28 (.tmp 6) 0⟩,
  ⟨none, .load1 29 (.tmp 28)⟩,
  ⟨none, .bin 30 .lss 3 (.tmp 29) (.const (.int .i64 0))⟩,
  ⟨none, .mov 31 (.tmp 30)⟩,
  ⟨some (31, false), .fld 32 (.tmp 6) 0⟩,
  ⟨some (31, false), .load1 33 (.tmp 32)⟩,
  ⟨some (31, false), .fld 34 (.tmp 5) 3⟩,
  ⟨some (31, false), .load1 35 (.tmp 34)⟩,
  ⟨some (31, false), .len 36 (.tmp 35)⟩,
  ⟨some (31, false), .bin 37 .geq 3 (.tmp 33) (.tmp 36)⟩,
  ⟨none, .pick 38 (.tmp 31) (.const (.bool true)) (.tmp 37)⟩,
  ⟨none, .call (some 39) 54 [(.tmp 27), (.tmp 38), (.const (.int .i64 1))]⟩]
def code_judge_to_r4 : List GO := [
  ⟨none, .mov 40 (.tmp 0)⟩,
  ⟨none, .fld 41 (.tmp 6) 1⟩,
  ⟨none, .load1 42 (.tmp 41)⟩,
  ⟨none, .len 43 (.tmp 42)⟩,
  ⟨none, .bin 44 .gtr 3 (.tmp 43) (.const (.int .i64 16))⟩,
  ⟨none, .mov 45 (.tmp 44)⟩,
  ⟨some (45, false), .fld 46 (.tmp 6) 2⟩,
  ⟨some (45, false), .load1 47 (.tmp 46)⟩,
  ⟨some (45, false), .len 48 (.tmp 47)⟩,
  ⟨some (45, false), .bin 49 .gtr 3 (.tmp 48) (.const (.int .i64 8))⟩,
  ⟨none, .pick 50 (.tmp 45) (.const (.bool true)) (.tmp 49)⟩,
  ⟨none, .call (some 51) 54 [(.tmp 40), (.tmp 50), (.const (.int .i64 2))]⟩]
def code_judge_to_lc : LC := (.seq (.ops code_judge_to_r0) (.seq (.seq (.ops code_judge_to_r1) (.cond (.tmp 9) (.seq (.ops code_judge_to_r2) .ret) .skip)) (.seq (.ops code_judge_to_r3) (.ops code_judge_to_r4))))
@[reducible] def code_judge_to : FuncId := 92
theorem code_judge_to_low : lowF Try.prog Try.f92 = some code_judge_to_lc := by kernel_rfl
theorem code_judge_to_in {a0 a1 a2 a3 : Value} {w : World} {R : Ending → World → Prop} (h : code_judge_to_lc.wp Try.prog (retQ Try.prog [] R) (argEnv [a0, a1, a2, a3]) w) : Calls Try.prog code_judge_to ⟨[a0, a1, a2, a3]⟩ w R :=
  calls_of_low Try.func92 code_judge_to_low (by kernel_rfl) (by kernel_rfl) h

/- 93 -/
/- 94 -/
def types_Check_r0 : List GO := [
  ⟨none, .box 2 65 (.tmp 0)⟩,
  ⟨none, .mov 4 (.const (.int .i64 0))⟩]
def types_Check_r1 : List GO := [
  ⟨none, .loadn 5 3 (.tmp 2)⟩,
  ⟨none, .call (some 6) 128 [(.tmp 5), (.const (.int .i64 4))]⟩,
  ⟨none, .un 7 .not (.tmp 6)⟩]
def types_Check_r2 : List GO := [
  ⟨none, .mov 4 (.const (.int .i64 19))⟩]
def types_Check_r3 : List GO := [
  ⟨none, .loadn 8 3 (.tmp 2)⟩,
  ⟨none, .mov 9 (.tmp 1)⟩,
  ⟨none, .call (some 10) 129 [(.tmp 8), (.tmp 9)]⟩,
  ⟨none, .mov 4 (.tmp 10)⟩]
def types_Check_lc : LC := (.seq (.ops types_Check_r0) (.seq (.seq (.ops types_Check_r1) (.cond (.tmp 7) (.seq (.ops types_Check_r2) .ret) .skip)) (.seq (.ops types_Check_r3) .ret)))
@[reducible] def types_Check : FuncId := 94
theorem types_Check_low : lowF Try.prog Try.f94 = some types_Check_lc := by kernel_rfl
theorem types_Check_in {a0 a1 : Value} {w : World} {R : Ending → World → Prop} (h : types_Check_lc.wp Try.prog (retQ Try.prog [.tmp 4] R) (argEnv [a0, a1]) w) : Calls Try.prog types_Check ⟨[a0, a1]⟩ w R :=
  calls_of_low Try.func94 types_Check_low (by kernel_rfl) (by kernel_rfl) h

/- 95 -/
def slices_IndexFunc_api_Type_api_Type_r0 : List GO := [
  ⟨none, .mov 4 (.const (.int .i64 0))⟩]
def slices_IndexFunc_api_Type_api_Type_r1 : List GO := [
  ⟨none, .mov 6 (.tmp 0)⟩,
  ⟨none, .len 7 (.tmp 6)⟩,
  ⟨none, .mov 8 (.const (.int .i64 0))⟩]
def slices_IndexFunc_api_Type_api_Type_r2 : List GO := [
  ⟨none, .bin 9 .lss 3 (.tmp 8) (.tmp 7)⟩]
def slices_IndexFunc_api_Type_api_Type_r3 : List GO := [
  ⟨none, .mov 10 (.tmp 8)⟩,
  ⟨none, .mov 5 (.tmp 10)⟩]
def slices_IndexFunc_api_Type_api_Type_r4 : List GO := [
  ⟨none, .mov 11 (.tmp 1)⟩,
  ⟨none, .mov 12 (.tmp 0)⟩,
  ⟨none, .mov 13 (.tmp 5)⟩,
  ⟨none, .idx 14 3 (.tmp 12) (.tmp 13)⟩,
  ⟨none, .loadn 15 3 (.tmp 14)⟩,
  ⟨none, .callv (some 16) (.tmp 11) [(.tmp 15)]⟩]
def slices_IndexFunc_api_Type_api_Type_r5 : List GO := [
  ⟨none, .mov 17 (.tmp 5)⟩,
  ⟨none, .mov 4 (.tmp 17)⟩]
def slices_IndexFunc_api_Type_api_Type_r6 : List GO := [
  ⟨none, .bin 18 .add 3 (.tmp 8) (.const (.int .i64 1))⟩,
  ⟨none, .mov 8 (.tmp 18)⟩]
def slices_IndexFunc_api_Type_api_Type_b2 : LC := (.seq (.ops slices_IndexFunc_api_Type_api_Type_r2) (.seq (.cond (.tmp 9) .skip (.exit 0)) (.seq (.block 1 (.seq (.ops slices_IndexFunc_api_Type_api_Type_r3) (.seq (.ops slices_IndexFunc_api_Type_api_Type_r4) (.cond (.tmp 16) (.seq (.ops slices_IndexFunc_api_Type_api_Type_r5) .ret) .skip)))) (.ops slices_IndexFunc_api_Type_api_Type_r6))))
def slices_IndexFunc_api_Type_api_Type_r7 : List GO := [
  ⟨none, .mov 4 (.const (.int .i64 (-1)))⟩]
def slices_IndexFunc_api_Type_api_Type_lc : LC := (.seq (.ops slices_IndexFunc_api_Type_api_Type_r0) (.seq (.seq (.ops slices_IndexFunc_api_Type_api_Type_r1) (.block 0 (.loop slices_IndexFunc_api_Type_api_Type_b2))) (.seq (.ops slices_IndexFunc_api_Type_api_Type_r7) .ret)))
@[reducible] def slices_IndexFunc_api_Type_api_Type : FuncId := 95
theorem slices_IndexFunc_api_Type_api_Type_low : lowF Try.prog Try.f95 = some slices_IndexFunc_api_Type_api_Type_lc := by kernel_rfl
theorem slices_IndexFunc_api_Type_api_Type_in {a0 a1 : Value} {w : World} {R : Ending → World → Prop} (h : slices_IndexFunc_api_Type_api_Type_lc.wp Try.prog (retQ Try.prog [.tmp 4] R) (argEnv [a0, a1]) w) : Calls Try.prog slices_IndexFunc_api_Type_api_Type ⟨[a0, a1]⟩ w R :=
  calls_of_low Try.func95 slices_IndexFunc_api_Type_api_Type_low (by kernel_rfl) (by kernel_rfl) h

/- 96 -/
/- 97 -/
/- 98 -/
/- 99 -/
def code_ownType_r0 : List GO := [
  ⟨none, .box 1 65 (.tmp 0)⟩,
  ⟨none, .alloc 2 65 [(.int .i64 0), (.int .i64 0), (.slice none 0 0)]⟩]
def code_ownType_r1 : List GO := [
  ⟨none, .fld 4 (.tmp 1) 0⟩,
  ⟨none, .load1 5 (.tmp 4)⟩,
  ⟨none, .fld 6 (.tmp 1) 1⟩,
  ⟨none, .load1 7 (.tmp 6)⟩,
  ⟨none, .build 8 [(.int .i64 0), (.int .i64 0), (.slice none 0 0)] [(0, (1, (.tmp 5))), (1, (1, (.tmp 7)))]⟩,
  ⟨none, .alloc 3 65 [(.int .i64 0), (.int .i64 0), (.slice none 0 0)]⟩,
  ⟨none, .storen 3 (.tmp 3) (.tmp 8)⟩]
def code_ownType_r2 : List GO := [
  ⟨none, .fld 9 (.tmp 1) 2⟩,
  ⟨none, .load1 10 (.tmp 9)⟩,
  ⟨none, .call (some 11) 63 [(.tmp 10)]⟩,
  ⟨none, .fld 12 (.tmp 3) 2⟩,
  ⟨none, .store1 (.tmp 12) (.tmp 11)⟩]
def code_ownType_r3 : List GO := [
  ⟨none, .loadn 13 3 (.tmp 3)⟩,
  ⟨none, .storen 3 (.tmp 2) (.tmp 13)⟩]
def code_ownType_lc : LC := (.seq (.ops code_ownType_r0) (.seq (.ops code_ownType_r1) (.seq (.ops code_ownType_r2) (.seq (.ops code_ownType_r3) .ret))))
@[reducible] def code_ownType : FuncId := 99
theorem code_ownType_low : lowF Try.prog Try.f99 = some code_ownType_lc := by kernel_rfl
theorem code_ownType_in {a0 : Value} {w : World} {R : Ending → World → Prop} (h : code_ownType_lc.wp Try.prog (retQ Try.prog [.cell 2 65] R) (argEnv [a0]) w) : Calls Try.prog code_ownType ⟨[a0]⟩ w R :=
  calls_of_low Try.func99 code_ownType_low (by kernel_rfl) (by kernel_rfl) h

/- 100 -/
/- 101 -/
/- 102 -/
/- 103 -/
/- 126 -/
def R_typeSize_r0 : List GO := [
  ⟨none, .box 2 65 (.tmp 0)⟩,
  ⟨none, .mov 4 (.const (.int .i64 0))⟩]
def R_typeSize_r1 : List GO := [
  ⟨none, .mov 6 (.tmp 1)⟩,
  ⟨none, .bin 7 .sub 3 (.tmp 6) (.const (.int .i64 1))⟩,
  ⟨none, .mov 1 (.tmp 7)⟩]
def R_typeSize_r2 : List GO := [
  ⟨none, .mov 5 (.const (.int .i64 0))⟩]
def R_typeSize_r3 : List GO := [
  ⟨none, .mov 8 (.tmp 5)⟩,
  ⟨none, .fld 9 (.tmp 2) 2⟩,
  ⟨none, .load1 10 (.tmp 9)⟩,
  ⟨none, .len 11 (.tmp 10)⟩,
  ⟨none, .bin 12 .lss 3 (.tmp 8) (.tmp 11)⟩,
  ⟨none, .mov 13 (.tmp 12)⟩,
  ⟨some (13, true), .mov 14 (.tmp 1)⟩,
  ⟨some (13, true), .bin 15 .geq 3 (.tmp 14) (.const (.int .i64 0))⟩,
  ⟨none, .pick 16 (.tmp 13) (.tmp 15) (.const (.bool false))⟩]
def R_typeSize_r4 : List GO := [
  ⟨none, .fld 19 (.tmp 2) 2⟩,
  ⟨none, .load1 20 (.tmp 19)⟩,
  ⟨none, .mov 21 (.tmp 5)⟩,
  ⟨none, .idx 22 3 (.tmp 20) (.tmp 21)⟩,
  ⟨none, .loadn 23 3 (.tmp 22)⟩,
  ⟨none, .mov 24 (.tmp 1)⟩,
  ⟨none, .call (some 25) 126 [(.tmp 23), (.tmp 24)]⟩,
  ⟨none, .mov 1 (.tmp 25)⟩]
def R_typeSize_r5 : List GO := [
  ⟨none, .mov 17 (.tmp 5)⟩,
  ⟨none, .bin 18 .add 3 (.tmp 17) (.const (.int .i64 1))⟩,
  ⟨none, .mov 5 (.tmp 18)⟩]
def R_typeSize_b3 : LC := (.seq (.seq (.ops R_typeSize_r3) (.cond (.tmp 16) .skip (.exit 0))) (.seq (.block 1 (.ops R_typeSize_r4)) (.ops R_typeSize_r5)))
def R_typeSize_r6 : List GO := [
  ⟨none, .mov 26 (.tmp 1)⟩,
  ⟨none, .mov 4 (.tmp 26)⟩]
def R_typeSize_lc : LC := (.seq (.ops R_typeSize_r0) (.seq (.ops R_typeSize_r1) (.seq (.seq (.ops R_typeSize_r2) (.block 0 (.loop R_typeSize_b3))) (.seq (.ops R_typeSize_r6) .ret))))
@[reducible] def R_typeSize : FuncId := 126
theorem R_typeSize_low : lowF Try.prog Try.f126 = some R_typeSize_lc := by kernel_rfl
theorem R_typeSize_in {a0 a1 : Value} {w : World} {R : Ending → World → Prop} (h : R_typeSize_lc.wp Try.prog (retQ Try.prog [.tmp 4] R) (argEnv [a0, a1]) w) : Calls Try.prog R_typeSize ⟨[a0, a1]⟩ w R :=
  calls_of_low Try.func126 R_typeSize_low (by kernel_rfl) (by kernel_rfl) h

/- 127 -/
def slices_Contains_byte_byte_r0 : List GO := [
  ⟨none, .mov 4 (.const (.bool false))⟩]
def slices_Contains_byte_byte_r1 : List GO := [
  ⟨none, .mov 5 (.tmp 0)⟩,
  ⟨none, .mov 6 (.tmp 1)⟩,
  ⟨none, .call (some 7) 141 [(.tmp 5), (.tmp 6)]⟩,
  ⟨none, .bin 8 .geq 3 (.tmp 7) (.const (.int .i64 0))⟩,
  ⟨none, .mov 4 (.tmp 8)⟩]
def slices_Contains_byte_byte_lc : LC := (.seq (.ops slices_Contains_byte_byte_r0) (.seq (.ops slices_Contains_byte_byte_r1) .ret))
@[reducible] def slices_Contains_byte_byte : FuncId := 127
theorem slices_Contains_byte_byte_low : lowF Try.prog Try.f127 = some slices_Contains_byte_byte_lc := by kernel_rfl
theorem slices_Contains_byte_byte_in {a0 a1 : Value} {w : World} {R : Ending → World → Prop} (h : slices_Contains_byte_byte_lc.wp Try.prog (retQ Try.prog [.tmp 4] R) (argEnv [a0, a1]) w) : Calls Try.prog slices_Contains_byte_byte ⟨[a0, a1]⟩ w R :=
  calls_of_low Try.func127 slices_Contains_byte_byte_low (by kernel_rfl) (by kernel_rfl) h

/- 128 -/
def types_deep_r0 : List GO := [
  ⟨none, .box 2 65 (.tmp 0)⟩,
  ⟨none, .mov 4 (.const (.bool false))⟩]
def types_deep_r1 : List GO := [
  ⟨none, .mov 7 (.tmp 1)⟩,
  ⟨none, .bin 8 .lss 3 (.tmp 7) (.const (.int .i64 0))⟩]
def types_deep_r2 : List GO := [
  ⟨none, .mov 4 (.const (.bool false))⟩]
def types_deep_r3 : List GO := [
  ⟨none, .fld 9 (.tmp 2) 2⟩,
  ⟨none, .load1 10 (.tmp 9)⟩,
  ⟨none, .len 11 (.tmp 10)⟩,
  ⟨none, .mov 12 (.const (.int .i64 0))⟩]
def types_deep_r4 : List GO := [
  ⟨none, .bin 13 .lss 3 (.tmp 12) (.tmp 11)⟩]
def types_deep_r5 : List GO := [
  ⟨none, .idx 14 3 (.tmp 10) (.tmp 12)⟩,
  ⟨none, .loadn 15 3 (.tmp 14)⟩,
  ⟨none, .alloc 6 65 [(.int .i64 0), (.int .i64 0), (.slice none 0 0)]⟩,
  ⟨none, .storen 3 (.tmp 6) (.tmp 15)⟩]
def types_deep_r6 : List GO := [
  ⟨none, .loadn 16 3 (.tmp 6)⟩,
  ⟨none, .mov 17 (.tmp 1)⟩,
  ⟨none, .bin 18 .sub 3 (.tmp 17) (.const (.int .i64 1))⟩,
  ⟨none, .call (some 19) 128 [(.tmp 16), (.tmp 18)]⟩,
  ⟨none, .un 20 .not (.tmp 19)⟩]
def types_deep_r7 : List GO := [
  ⟨none, .mov 4 (.const (.bool false))⟩]
def types_deep_r8 : List GO := [
  ⟨none, .bin 21 .add 3 (.tmp 12) (.const (.int .i64 1))⟩,
  ⟨none, .mov 12 (.tmp 21)⟩]
def types_deep_b4 : LC := (.seq (.ops types_deep_r4) (.seq (.cond (.tmp 13) .skip (.exit 0)) (.seq (.block 1 (.seq (.ops types_deep_r5) (.seq (.ops types_deep_r6) (.cond (.tmp 20) (.seq (.ops types_deep_r7) .ret) .skip)))) (.ops types_deep_r8))))
def types_deep_r9 : List GO := [
  ⟨none, .mov 4 (.const (.bool true))⟩]
def types_deep_lc : LC := (.seq (.ops types_deep_r0) (.seq (.seq (.ops types_deep_r1) (.cond (.tmp 8) (.seq (.ops types_deep_r2) .ret) .skip)) (.seq (.seq (.ops types_deep_r3) (.block 0 (.loop types_deep_b4))) (.seq (.ops types_deep_r9) .ret))))
@[reducible] def types_deep : FuncId := 128
theorem types_deep_low : lowF Try.prog Try.f128 = some types_deep_lc := by kernel_rfl
theorem types_deep_in {a0 a1 : Value} {w : World} {R : Ending → World → Prop} (h : types_deep_lc.wp Try.prog (retQ Try.prog [.tmp 4] R) (argEnv [a0, a1]) w) : Calls Try.prog types_deep ⟨[a0, a1]⟩ w R :=
  calls_of_low Try.func128 types_deep_low (by kernel_rfl) (by kernel_rfl) h

/- 129 -/
def types_wrong_r0 : List GO := [
  ⟨none, .box 2 65 (.tmp 0)⟩,
  ⟨none, .mov 4 (.const (.int .i64 0))⟩]
def types_wrong_r1 : List GO := [
  ⟨none, .fld 8 (.tmp 2) 0⟩,
  ⟨none, .load1 9 (.tmp 8)⟩]
def types_wrong_r2 : List GO := [
  ⟨none, .bin 11 .eql 3 (.tmp 9) (.const (.int .i64 1))⟩,
  ⟨none, .mov 10 (.tmp 11)⟩]
def types_wrong_r3 : List GO := [
  ⟨none, .fld 12 (.tmp 2) 1⟩,
  ⟨none, .load1 13 (.tmp 12)⟩,
  ⟨none, .bin 14 .neq 3 (.tmp 13) (.const (.int .i64 0))⟩,
  ⟨none, .mov 15 (.tmp 14)⟩,
  ⟨some (15, false), .fld 16 (.tmp 2) 2⟩,
  ⟨some (15, false), .load1 17 (.tmp 16)⟩,
  ⟨some (15, false), .len 18 (.tmp 17)⟩,
  ⟨some (15, false), .bin 19 .gtr 3 (.tmp 18) (.const (.int .i64 0))⟩,
  ⟨none, .pick 20 (.tmp 15) (.const (.bool true)) (.tmp 19)⟩]
def types_wrong_r4 : List GO := [
  ⟨none, .mov 4 (.const (.int .i64 4))⟩]
def types_wrong_r5 : List GO := [
  ⟨none, .mov 4 (.const (.int .i64 0))⟩]
def types_wrong_r6 : List GO := [
  ⟨none, .bin 22 .eql 3 (.tmp 9) (.const (.int .i64 2))⟩,
  ⟨none, .mov 21 (.tmp 22)⟩]
def types_wrong_r7 : List GO := [
  ⟨none, .bin 23 .eql 3 (.tmp 9) (.const (.int .i64 4))⟩,
  ⟨none, .mov 21 (.tmp 23)⟩]
def types_wrong_r8 : List GO := [
  ⟨none, .fld 24 (.tmp 2) 2⟩,
  ⟨none, .load1 25 (.tmp 24)⟩,
  ⟨none, .len 26 (.tmp 25)⟩,
  ⟨none, .bin 27 .gtr 3 (.tmp 26) (.const (.int .i64 0))⟩]
def types_wrong_r9 : List GO := [
  ⟨none, .mov 4 (.const (.int .i64 4))⟩]
def types_wrong_r10 : List GO := [
  ⟨none, .bin 29 .eql 3 (.tmp 9) (.const (.int .i64 3))⟩,
  ⟨none, .mov 28 (.tmp 29)⟩]
def types_wrong_r11 : List GO := [
  ⟨none, .fld 30 (.tmp 2) 2⟩,
  ⟨none, .load1 31 (.tmp 30)⟩,
  ⟨none, .len 32 (.tmp 31)⟩,
  ⟨none, .bin 33 .gtr 3 (.tmp 32) (.const (.int .i64 8))⟩]
def types_wrong_r12 : List GO := [
  ⟨none, .mov 4 (.const (.int .i64 2))⟩]
def types_wrong_r13 : List GO := [
  ⟨none, .mov 4 (.const (.int .i64 3))⟩]
def types_wrong_r14 : List GO := [
  ⟨none, .fld 34 (.tmp 2) 1⟩,
  ⟨none, .load1 35 (.tmp 34)⟩,
  ⟨none, .bin 36 .lss 3 (.tmp 35) (.const (.int .i64 0))⟩,
  ⟨none, .mov 37 (.tmp 36)⟩,
  ⟨some (37, false), .fld 38 (.tmp 2) 1⟩,
  ⟨some (37, false), .load1 39 (.tmp 38)⟩,
  ⟨some (37, false), .mov 40 (.tmp 1)⟩,
  ⟨some (37, false), .bin 41 .geq 3 (.tmp 39) (.tmp 40)⟩,
  ⟨none, .pick 42 (.tmp 37) (.const (.bool true)) (.tmp 41)⟩]
def types_wrong_r15 : List GO := [
  ⟨none, .mov 4 (.const (.int .i64 1))⟩]
def types_wrong_r16 : List GO := [
  ⟨none, .fld 43 (.tmp 2) 2⟩,
  ⟨none, .load1 44 (.tmp 43)⟩,
  ⟨none, .len 45 (.tmp 44)⟩,
  ⟨none, .mov 46 (.const (.int .i64 0))⟩]
def types_wrong_r17 : List GO := [
  ⟨none, .bin 47 .lss 3 (.tmp 46) (.tmp 45)⟩]
def types_wrong_r18 : List GO := [
  ⟨none, .idx 48 3 (.tmp 44) (.tmp 46)⟩,
  ⟨none, .loadn 49 3 (.tmp 48)⟩,
  ⟨none, .alloc 6 65 [(.int .i64 0), (.int .i64 0), (.slice none 0 0)]⟩,
  ⟨none, .storen 3 (.tmp 6) (.tmp 49)⟩]
def types_wrong_r19 : List GO := [
  ⟨none, .loadn 50 3 (.tmp 6)⟩,
  ⟨none, .mov 51 (.tmp 1)⟩,
  ⟨none, .call (some 52) 129 [(.tmp 50), (.tmp 51)]⟩,
  ⟨none, .mov 7 (.tmp 52)⟩]
def types_wrong_r20 : List GO := [
  ⟨none, .mov 53 (.tmp 7)⟩,
  ⟨none, .bin 54 .neq 3 (.tmp 53) (.const (.int .i64 0))⟩]
def types_wrong_r21 : List GO := [
  ⟨none, .mov 55 (.tmp 7)⟩,
  ⟨none, .mov 4 (.tmp 55)⟩]
def types_wrong_r22 : List GO := [
  ⟨none, .bin 56 .add 3 (.tmp 46) (.const (.int .i64 1))⟩,
  ⟨none, .mov 46 (.tmp 56)⟩]
def types_wrong_b17 : LC := (.seq (.ops types_wrong_r17) (.seq (.cond (.tmp 47) .skip (.exit 1)) (.seq (.block 2 (.seq (.ops types_wrong_r18) (.seq (.ops types_wrong_r19) (.seq (.ops types_wrong_r20) (.cond (.tmp 54) (.seq (.ops types_wrong_r21) .ret) .skip))))) (.ops types_wrong_r22))))
def types_wrong_r23 : List GO := [
  ⟨none, .mov 4 (.const (.int .i64 0))⟩]
def types_wrong_lc : LC := (.seq (.ops types_wrong_r0) (.seq (.seq (.ops types_wrong_r1) (.block 0 (.seq (.ops types_wrong_r2) (.cond (.tmp 10) (.seq (.seq (.ops types_wrong_r3) (.cond (.tmp 20) (.seq (.ops types_wrong_r4) .ret) .skip)) (.seq (.ops types_wrong_r5) .ret)) (.seq (.seq (.ops types_wrong_r6) (.cond (.tmp 21) .skip (.ops types_wrong_r7))) (.cond (.tmp 21) (.seq (.ops types_wrong_r8) (.cond (.tmp 27) (.seq (.ops types_wrong_r9) .ret) .skip)) (.seq (.ops types_wrong_r10) (.cond (.tmp 28) (.seq (.ops types_wrong_r11) (.cond (.tmp 33) (.seq (.ops types_wrong_r12) .ret) .skip)) (.seq (.ops types_wrong_r13) .ret))))))))) (.seq (.seq (.ops types_wrong_r14) (.cond (.tmp 42) (.seq (.ops types_wrong_r15) .ret) .skip)) (.seq (.seq (.ops types_wrong_r16) (.block 1 (.loop types_wrong_b17))) (.seq (.ops types_wrong_r23) .ret)))))
@[reducible] def types_wrong : FuncId := 129
theorem types_wrong_low : lowF Try.prog Try.f129 = some types_wrong_lc := by kernel_rfl
theorem types_wrong_in {a0 a1 : Value} {w : World} {R : Ending → World → Prop} (h : types_wrong_lc.wp Try.prog (retQ Try.prog [.tmp 4] R) (argEnv [a0, a1]) w) : Calls Try.prog types_wrong ⟨[a0, a1]⟩ w R :=
  calls_of_low Try.func129 types_wrong_low (by kernel_rfl) (by kernel_rfl) h

/- 130 -/
/- 131 -/
/- 139 -/
def slices_Contains_int_int_r0 : List GO := [
  ⟨none, .mov 4 (.const (.bool false))⟩]
def slices_Contains_int_int_r1 : List GO := [
  ⟨none, .mov 5 (.tmp 0)⟩,
  ⟨none, .mov 6 (.tmp 1)⟩,
  ⟨none, .call (some 7) 145 [(.tmp 5), (.tmp 6)]⟩,
  ⟨none, .bin 8 .geq 3 (.tmp 7) (.const (.int .i64 0))⟩,
  ⟨none, .mov 4 (.tmp 8)⟩]
def slices_Contains_int_int_lc : LC := (.seq (.ops slices_Contains_int_int_r0) (.seq (.ops slices_Contains_int_int_r1) .ret))
@[reducible] def slices_Contains_int_int : FuncId := 139
theorem slices_Contains_int_int_low : lowF Try.prog Try.f139 = some slices_Contains_int_int_lc := by kernel_rfl
theorem slices_Contains_int_int_in {a0 a1 : Value} {w : World} {R : Ending → World → Prop} (h : slices_Contains_int_int_lc.wp Try.prog (retQ Try.prog [.tmp 4] R) (argEnv [a0, a1]) w) : Calls Try.prog slices_Contains_int_int ⟨[a0, a1]⟩ w R :=
  calls_of_low Try.func139 slices_Contains_int_int_low (by kernel_rfl) (by kernel_rfl) h

/- 141 -/
def slices_Index_byte_byte_r0 : List GO := [
  ⟨none, .mov 4 (.const (.int .i64 0))⟩]
def slices_Index_byte_byte_r1 : List GO := [
  ⟨none, .mov 6 (.tmp 0)⟩,
  ⟨none, .len 7 (.tmp 6)⟩,
  ⟨none, .mov 8 (.const (.int .i64 0))⟩]
def slices_Index_byte_byte_r2 : List GO := [
  ⟨none, .bin 9 .lss 3 (.tmp 8) (.tmp 7)⟩]
def slices_Index_byte_byte_r3 : List GO := [
  ⟨none, .mov 10 (.tmp 8)⟩,
  ⟨none, .mov 5 (.tmp 10)⟩]
def slices_Index_byte_byte_r4 : List GO := [
  ⟨none, .mov 11 (.tmp 1)⟩,
  ⟨none, .mov 12 (.tmp 0)⟩,
  ⟨none, .mov 13 (.tmp 5)⟩,
  ⟨none, .idx 14 1 (.tmp 12) (.tmp 13)⟩,
  ⟨none, .load1 15 (.tmp 14)⟩,
  ⟨none, .bin 16 .eql 5 (.tmp 11) (.tmp 15)⟩]
def slices_Index_byte_byte_r5 : List GO := [
  ⟨none, .mov 17 (.tmp 5)⟩,
  ⟨none, .mov 4 (.tmp 17)⟩]
def slices_Index_byte_byte_r6 : List GO := [
  ⟨none, .bin 18 .add 3 (.tmp 8) (.const (.int .i64 1))⟩,
  ⟨none, .mov 8 (.tmp 18)⟩]
def slices_Index_byte_byte_b2 : LC := (.seq (.ops slices_Index_byte_byte_r2) (.seq (.cond (.tmp 9) .skip (.exit 0)) (.seq (.block 1 (.seq (.ops slices_Index_byte_byte_r3) (.seq (.ops slices_Index_byte_byte_r4) (.cond (.tmp 16) (.seq (.ops slices_Index_byte_byte_r5) .ret) .skip)))) (.ops slices_Index_byte_byte_r6))))
def slices_Index_byte_byte_r7 : List GO := [
  ⟨none, .mov 4 (.const (.int .i64 (-1)))⟩]
def slices_Index_byte_byte_lc : LC := (.seq (.ops slices_Index_byte_byte_r0) (.seq (.seq (.ops slices_Index_byte_byte_r1) (.block 0 (.loop slices_Index_byte_byte_b2))) (.seq (.ops slices_Index_byte_byte_r7) .ret)))
@[reducible] def slices_Index_byte_byte : FuncId := 141
theorem slices_Index_byte_byte_low : lowF Try.prog Try.f141 = some slices_Index_byte_byte_lc := by kernel_rfl
theorem slices_Index_byte_byte_in {a0 a1 : Value} {w : World} {R : Ending → World → Prop} (h : slices_Index_byte_byte_lc.wp Try.prog (retQ Try.prog [.tmp 4] R) (argEnv [a0, a1]) w) : Calls Try.prog slices_Index_byte_byte ⟨[a0, a1]⟩ w R :=
  calls_of_low Try.func141 slices_Index_byte_byte_low (by kernel_rfl) (by kernel_rfl) h

/- 145 -/
def slices_Index_int_int_r0 : List GO := [
  ⟨none, .mov 4 (.const (.int .i64 0))⟩]
def slices_Index_int_int_r1 : List GO := [
  ⟨none, .mov 6 (.tmp 0)⟩,
  ⟨none, .len 7 (.tmp 6)⟩,
  ⟨none, .mov 8 (.const (.int .i64 0))⟩]
def slices_Index_int_int_r2 : List GO := [
  ⟨none, .bin 9 .lss 3 (.tmp 8) (.tmp 7)⟩]
def slices_Index_int_int_r3 : List GO := [
  ⟨none, .mov 10 (.tmp 8)⟩,
  ⟨none, .mov 5 (.tmp 10)⟩]
def slices_Index_int_int_r4 : List GO := [
  ⟨none, .mov 11 (.tmp 1)⟩,
  ⟨none, .mov 12 (.tmp 0)⟩,
  ⟨none, .mov 13 (.tmp 5)⟩,
  ⟨none, .idx 14 1 (.tmp 12) (.tmp 13)⟩,
  ⟨none, .load1 15 (.tmp 14)⟩,
  ⟨none, .bin 16 .eql 3 (.tmp 11) (.tmp 15)⟩]
def slices_Index_int_int_r5 : List GO := [
  ⟨none, .mov 17 (.tmp 5)⟩,
  ⟨none, .mov 4 (.tmp 17)⟩]
def slices_Index_int_int_r6 : List GO := [
  ⟨none, .bin 18 .add 3 (.tmp 8) (.const (.int .i64 1))⟩,
  ⟨none, .mov 8 (.tmp 18)⟩]
def slices_Index_int_int_b2 : LC := (.seq (.ops slices_Index_int_int_r2) (.seq (.cond (.tmp 9) .skip (.exit 0)) (.seq (.block 1 (.seq (.ops slices_Index_int_int_r3) (.seq (.ops slices_Index_int_int_r4) (.cond (.tmp 16) (.seq (.ops slices_Index_int_int_r5) .ret) .skip)))) (.ops slices_Index_int_int_r6))))
def slices_Index_int_int_r7 : List GO := [
  ⟨none, .mov 4 (.const (.int .i64 (-1)))⟩]
def slices_Index_int_int_lc : LC := (.seq (.ops slices_Index_int_int_r0) (.seq (.seq (.ops slices_Index_int_int_r1) (.block 0 (.loop slices_Index_int_int_b2))) (.seq (.ops slices_Index_int_int_r7) .ret)))
@[reducible] def slices_Index_int_int : FuncId := 145
theorem slices_Index_int_int_low : lowF Try.prog Try.f145 = some slices_Index_int_int_lc := by kernel_rfl
theorem slices_Index_int_int_in {a0 a1 : Value} {w : World} {R : Ending → World → Prop} (h : slices_Index_int_int_lc.wp Try.prog (retQ Try.prog [.tmp 4] R) (argEnv [a0, a1]) w) : Calls Try.prog slices_Index_int_int ⟨[a0, a1]⟩ w R :=
  calls_of_low Try.func145 slices_Index_int_int_low (by kernel_rfl) (by kernel_rfl) h

end Go.Proofs.Ytanlkfeogoganaa