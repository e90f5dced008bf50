/- The functions, lowered: printed by a program off the translation. -/
import Derived.Test.YtanlkfeogoganaaDoorProg
import Derived.Test.YtanlkfeogoganaaDoorLirStep
namespace Go.Proofs.YtanlkfeogoganaaDoor
open Go.Lir
set_option maxRecDepth 100000

/- 3 -/
def Law_TypesDoes_r0 : List GO := [
  ⟨none, .box 4 24 (.tmp 0)⟩,
  ⟨none, .box 5 24 (.tmp 1)⟩,
  ⟨none, .mov 8 (.const (.bool false))⟩]
def Law_TypesDoes_r1 : List GO := [
  ⟨none, .call (some 14) 5 []⟩,
  ⟨none, .un 15 .not (.tmp 14)⟩]
def Law_TypesDoes_r2 : List GO := [
  ⟨none, .mov 8 (.const (.bool false))⟩]
def Law_TypesDoes_r3 : List GO := [
  ⟨none, .loadn 16 3 (.tmp 4)⟩,
  ⟨none, .call (some 17) 6 [(.tmp 16)]⟩,
  ⟨none, .mov 18 (.tmp 17)⟩,
  ⟨some (18, false), .loadn 19 3 (.tmp 5)⟩,
  ⟨some (18, false), .call (some 20) 6 [(.tmp 19)]⟩,
  ⟨none, .pick 21 (.tmp 18) (.const (.bool true)) (.tmp 20)⟩,
  ⟨none, .mov 22 (.tmp 21)⟩,
  ⟨some (22, false), .mov 23 (.tmp 3)⟩,
  ⟨some (22, false), .len 24 (.tmp 23)⟩,
  ⟨some (22, false), .bin 25 .gtr 3 (.tmp 24) (.const (.int .i64 1000))⟩,
  ⟨none, .pick 26 (.tmp 22) (.const (.bool true)) (.tmp 25)⟩]
def Law_TypesDoes_r4 : List GO := [
  ⟨none, .mov 8 (.const (.bool true))⟩]
def Law_TypesDoes_r5 : List GO := [
  ⟨none, .loadn 27 3 (.tmp 4)⟩,
  ⟨none, .call (some 28) 7 [(.tmp 27)]⟩,
  ⟨none, .alloc 9 24 [(.int .i64 0), (.int .i64 0), (.slice none 0 0)]⟩,
  ⟨none, .storen 3 (.tmp 9) (.tmp 28)⟩]
def Law_TypesDoes_r6 : List GO := [
  ⟨none, .loadn 30 3 (.tmp 9)⟩,
  ⟨none, .mov 31 (.tmp 3)⟩,
  ⟨none, .call (some 32) 8 [(.tmp 30), (.tmp 31)]⟩,
  ⟨none, .mov 29 (.tmp 32)⟩,
  ⟨none, .ext 33 (.tmp 29) 0⟩,
  ⟨none, .ext 34 (.tmp 29) 1⟩,
  ⟨none, .alloc 10 24 [(.int .i64 0), (.int .i64 0), (.slice none 0 0)]⟩,
  ⟨none, .storen 3 (.tmp 10) (.tmp 33)⟩,
  ⟨none, .mov 11 (.tmp 34)⟩]
def Law_TypesDoes_r7 : List GO := [
  ⟨none, .loadn 36 3 (.tmp 4)⟩,
  ⟨none, .mov 37 (.tmp 3)⟩,
  ⟨none, .call (some 38) 9 [(.tmp 36), (.tmp 37)]⟩,
  ⟨none, .mov 35 (.tmp 38)⟩,
  ⟨none, .ext 39 (.tmp 35) 0⟩,
  ⟨none, .ext 40 (.tmp 35) 1⟩,
  ⟨none, .alloc 12 24 [(.int .i64 0), (.int .i64 0), (.slice none 0 0)]⟩,
  ⟨none, .storen 3 (.tmp 12) (.tmp 39)⟩,
  ⟨none, .mov 13 (.tmp 40)⟩]
def Law_TypesDoes_r8 : List GO := [
  ⟨none, .loadn 41 3 (.tmp 9)⟩,
  ⟨none, .mov 42 (.tmp 2)⟩,
  ⟨none, .call (some 43) 10 [(.tmp 41), (.tmp 42)]⟩,
  ⟨none, .loadn 44 3 (.tmp 4)⟩,
  ⟨none, .mov 45 (.tmp 2)⟩,
  ⟨none, .call (some 46) 11 [(.tmp 44), (.tmp 45)]⟩,
  ⟨none, .bin 47 .eql 3 (.tmp 43) (.tmp 46)⟩,
  ⟨none, .mov 48 (.tmp 47)⟩,
  ⟨some (48, true), .loadn 49 3 (.tmp 9)⟩,
  ⟨some (48, true), .loadn 50 3 (.tmp 5)⟩,
  ⟨some (48, true), .call (some 51) 12 [(.tmp 49), (.tmp 50)]⟩,
  ⟨some (48, true), .loadn 52 3 (.tmp 4)⟩,
  ⟨some (48, true), .loadn 53 3 (.tmp 5)⟩,
  ⟨some (48, true), .call (some 54) 13 [(.tmp 52), (.tmp 53)]⟩,
  ⟨some (48, true), .bin 55 .eql 4 (.tmp 51) (.tmp 54)⟩,
  ⟨none, .pick 56 (.tmp 48) (.tmp 55) (.const (.bool false))⟩,
  ⟨none, .mov 57 (.tmp 56)⟩,
  ⟨some (57, true), .mov 58 (.tmp 11)⟩,
  ⟨some (57, true), .mov 59 (.tmp 13)⟩,
  ⟨some (57, true), .bin 60 .eql 4 (.tmp 58) (.tmp 59)⟩,
  ⟨none, .pick 61 (.tmp 57) (.tmp 60) (.const (.bool false))⟩,
  ⟨none, .mov 62 (.tmp 61)⟩,
  ⟨some (62, true), .loadn 63 3 (.tmp 10)⟩,
  ⟨some (62, true), .loadn 64 3 (.tmp 12)⟩,
  ⟨some (62, true), .call (some 65) 13 [(.tmp 63), (.tmp 64)]⟩,
  ⟨none, .pick 66 (.tmp 62) (.tmp 65) (.const (.bool false))⟩,
  ⟨none, .mov 67 (.tmp 66)⟩,
  ⟨some (67, true), .loadn 68 3 (.tmp 9)⟩,
  ⟨some (67, true), .call (some 69) 14 [(.tmp 68)]⟩,
  ⟨some (67, true), .loadn 70 3 (.tmp 4)⟩,
  ⟨some (67, true), .call (some 71) 15 [(.tmp 70)]⟩,
  ⟨some (67, true), .bin 72 .eql 9 (.tmp 69) (.tmp 71)⟩,
  ⟨none, .pick 73 (.tmp 67) (.tmp 72) (.const (.bool false))⟩,
  ⟨none, .mov 74 (.tmp 73)⟩,
  ⟨some (74, true), .loadn 75 3 (.tmp 9)⟩,
  ⟨some (74, true), .loadn 76 3 (.tmp 4)⟩,
  ⟨some (74, true), .call (some 77) 13 [(.tmp 75), (.tmp 76)]⟩,
  ⟨none, .pick 78 (.tmp 74) (.tmp 77) (.const (.bool false))⟩,
  ⟨none, .mov 8 (.tmp 78)⟩]
def Law_TypesDoes_e8 : List (List Nat) := [[], [], [0, 1], [], [], [3, 4, 2], [2, 5], [6, 5], [7], [7], [8, 9, 7, 7], [7], [7], [11, 12, 10, 7], [10, 13, 7], [7, 14], [15, 13], [16], [16], [17, 18, 16], [16, 19], [20, 16], [21], [21], [22, 23, 21, 21], [21, 24], [25, 24], [26], [27, 26, 26], [26], [29, 28, 26], [28, 30, 26], [26, 31], [32, 30], [33], [33], [34, 35, 33, 33], [33, 36], [37, 36, 0, 1, 2, 3, 4, 5, 6, 7, 8, 9, 10, 11, 12, 13, 14, 15, 16, 17, 18, 19, 20, 21, 22, 23, 24, 25, 26, 27, 28, 29, 30, 31, 32, 33, 34, 35, 36, 37]]
def Law_TypesDoes_lc : LC := (.seq (.ops Law_TypesDoes_r0) (.seq (.seq (.ops Law_TypesDoes_r1) (.cond (.tmp 15) (.seq (.ops Law_TypesDoes_r2) .ret) .skip)) (.seq (.seq (.ops Law_TypesDoes_r3) (.cond (.tmp 26) (.seq (.ops Law_TypesDoes_r4) .ret) .skip)) (.seq (.ops Law_TypesDoes_r5) (.seq (.ops Law_TypesDoes_r6) (.seq (.ops Law_TypesDoes_r7) (.seq (.draw Law_TypesDoes_r8 Law_TypesDoes_e8) .ret)))))))
@[reducible] def Law_TypesDoes : FuncId := 3
theorem Law_TypesDoes_low : lowF Tryd.prog Tryd.f3 = some Law_TypesDoes_lc := by kernel_rfl
theorem Law_TypesDoes_in {a0 a1 a2 a3 : Value} {w : World} {R : Ending → World → Prop} (h : Law_TypesDoes_lc.wp Tryd.prog (retQ Tryd.prog [.tmp 8] R) (argEnv [a0, a1, a2, a3]) w) : Calls Tryd.prog Law_TypesDoes ⟨[a0, a1, a2, a3]⟩ w R :=
  calls_of_low Tryd.func3 Law_TypesDoes_low (by kernel_rfl) (by kernel_rfl) h

/- 4 -/
/- 5 -/
def Law_typesBegun_r0 : List GO := [
  ⟨none, .mov 0 (.const (.bool false))⟩]
def Law_typesBegun_r1 : List GO := [
  ⟨none, .build 4 [(.int .i64 0), (.int .i64 0), (.slice none 0 0)] [(0, (1, (.const (.int .i64 1))))]⟩,
  ⟨none, .build 5 [(.int .i64 0), (.int .i64 0), (.slice none 0 0)] [(0, (1, (.const (.int .i64 4)))), (1, (1, (.const (.int .i64 1))))]⟩,
  ⟨none, .buildS 6 24 2 [(.int .i64 0), (.int .i64 0), (.slice none 0 0), (.int .i64 0), (.int .i64 0), (.slice none 0 0)] [(0, (3, (.tmp 4))), (3, (3, (.tmp 5)))]⟩,
  ⟨none, .build 7 [(.int .i64 0), (.int .i64 0), (.slice none 0 0)] [(0, (1, (.const (.int .i64 3)))), (2, (1, (.tmp 6)))]⟩,
  ⟨none, .alloc 1 24 [(.int .i64 0), (.int .i64 0), (.slice none 0 0)]⟩,
  ⟨none, .storen 3 (.tmp 1) (.tmp 7)⟩]
def Law_typesBegun_r2 : List GO := [
  ⟨none, .loadn 9 3 (.tmp 1)⟩,
  ⟨none, .buildS 10 3 2 [(.int .i64 0), (.int .i64 0)] [(0, (1, (.const (.int .i64 5)))), (1, (1, (.const (.int .i64 3))))]⟩,
  ⟨none, .call (some 11) 8 [(.tmp 9), (.tmp 10)]⟩,
  ⟨none, .mov 8 (.tmp 11)⟩,
  ⟨none, .ext 12 (.tmp 8) 0⟩,
  ⟨none, .ext 13 (.tmp 8) 1⟩,
  ⟨none, .alloc 2 24 [(.int .i64 0), (.int .i64 0), (.slice none 0 0)]⟩,
  ⟨none, .storen 3 (.tmp 2) (.tmp 12)⟩,
  ⟨none, .mov 3 (.tmp 13)⟩]
def Law_typesBegun_r3 : List GO := [
  ⟨none, .mov 14 (.tmp 3)⟩,
  ⟨none, .mov 15 (.tmp 14)⟩,
  ⟨some (15, true), .loadn 16 3 (.tmp 1)⟩,
  ⟨some (15, true), .call (some 17) 10 [(.tmp 16), (.const (.int .i64 2))]⟩,
  ⟨some (15, true), .bin 18 .eql 3 (.tmp 17) (.const (.int .i64 0))⟩,
  ⟨none, .pick 19 (.tmp 15) (.tmp 18) (.const (.bool false))⟩,
  ⟨none, .mov 20 (.tmp 19)⟩,
  ⟨some (20, true), .loadn 21 3 (.tmp 1)⟩,
  ⟨some (20, true), .call (some 22) 10 [(.tmp 21), (.const (.int .i64 1))]⟩,
  ⟨some (20, true), .bin 23 .eql 3 (.tmp 22) (.const (.int .i64 1))⟩,
  ⟨none, .pick 24 (.tmp 20) (.tmp 23) (.const (.bool false))⟩,
  ⟨none, .mov 25 (.tmp 24)⟩,
  ⟨some (25, true), .loadn 26 3 (.tmp 1)⟩,
  ⟨some (25, true), .loadn 27 3 (.tmp 2)⟩,
  ⟨some (25, true), .call (some 28) 12 [(.tmp 26), (.tmp 27)]⟩,
  ⟨some (25, true), .un 29 .not (.tmp 28)⟩,
  ⟨none, .pick 30 (.tmp 25) (.tmp 29) (.const (.bool false))⟩,
  ⟨none, .mov 31 (.tmp 30)⟩,
  ⟨some (31, true), .loadn 32 3 (.tmp 2)⟩,
  ⟨some (31, true), .call (some 33) 14 [(.tmp 32)]⟩,
  ⟨some (31, true), .bin 34 .eql 9 (.tmp 33) (.const (.string ⟨#[116, 117, 112, 108, 101, 32, 53, 32, 40, 105, 110, 116, 44, 32, 97, 114, 114, 97, 121, 32, 51, 41]⟩))⟩,
  ⟨none, .pick 35 (.tmp 31) (.tmp 34) (.const (.bool false))⟩,
  ⟨none, .mov 0 (.tmp 35)⟩]
def Law_typesBegun_lc : LC := (.seq (.ops Law_typesBegun_r0) (.seq (.ops Law_typesBegun_r1) (.seq (.ops Law_typesBegun_r2) (.seq (.ops Law_typesBegun_r3) .ret))))
@[reducible] def Law_typesBegun : FuncId := 5
theorem Law_typesBegun_low : lowF Tryd.prog Tryd.f5 = some Law_typesBegun_lc := by kernel_rfl
theorem Law_typesBegun_in {w : World} {R : Ending → World → Prop} (h : Law_typesBegun_lc.wp Tryd.prog (retQ Tryd.prog [.tmp 0] R) (argEnv []) w) : Calls Tryd.prog Law_typesBegun ⟨[]⟩ w R :=
  calls_of_low Tryd.func5 Law_typesBegun_low (by kernel_rfl) (by kernel_rfl) h

/- 6 -/
def R_GreatType_r0 : List GO := [
  ⟨none, .box 1 24 (.tmp 0)⟩,
  ⟨none, .mov 2 (.const (.bool false))⟩]
def R_GreatType_r1 : List GO := [
  ⟨none, .loadn 3 3 (.tmp 1)⟩,
  ⟨none, .call (some 4) 16 [(.tmp 3), (.const (.int .i64 2000))]⟩,
  ⟨none, .bin 5 .lss 3 (.tmp 4) (.const (.int .i64 0))⟩,
  ⟨none, .mov 2 (.tmp 5)⟩]
def R_GreatType_lc : LC := (.seq (.ops R_GreatType_r0) (.seq (.ops R_GreatType_r1) .ret))
@[reducible] def R_GreatType : FuncId := 6
theorem R_GreatType_low : lowF Tryd.prog Tryd.f6 = some R_GreatType_lc := by kernel_rfl
theorem R_GreatType_in {a0 : Value} {w : World} {R : Ending → World → Prop} (h : R_GreatType_lc.wp Tryd.prog (retQ Tryd.prog [.tmp 2] R) (argEnv [a0]) w) : Calls Tryd.prog R_GreatType ⟨[a0]⟩ w R :=
  calls_of_low Tryd.func6 R_GreatType_low (by kernel_rfl) (by kernel_rfl) h

/- 7 -/
def R_OwnType_r0 : List GO := [
  ⟨none, .box 1 24 (.tmp 0)⟩,
  ⟨none, .alloc 2 24 [(.int .i64 0), (.int .i64 0), (.slice none 0 0)]⟩]
def R_OwnType_r1 : List GO := [
  ⟨none, .fld 3 (.tmp 1) 0⟩,
  ⟨none, .load1 4 (.tmp 3)⟩,
  ⟨none, .fld 5 (.tmp 1) 1⟩,
  ⟨none, .load1 6 (.tmp 5)⟩,
  ⟨none, .fld 7 (.tmp 1) 2⟩,
  ⟨none, .load1 8 (.tmp 7)⟩,
  ⟨none, .call (some 9) 17 [(.tmp 8)]⟩,
  ⟨none, .build 10 [(.int .i64 0), (.int .i64 0), (.slice none 0 0)] [(0, (1, (.tmp 4))), (1, (1, (.tmp 6))), (2, (1, (.tmp 9)))]⟩,
  ⟨none, .storen 3 (.tmp 2) (.tmp 10)⟩]
def R_OwnType_e1 : List (List Nat) := [[], [0], [], [2], [], [4], [5], [1, 3, 6], [7, 6, 0, 1, 2, 3, 4, 5, 6, 7]]
def R_OwnType_lc : LC := (.seq (.ops R_OwnType_r0) (.seq (.draw R_OwnType_r1 R_OwnType_e1) .ret))
@[reducible] def R_OwnType : FuncId := 7
theorem R_OwnType_low : lowF Tryd.prog Tryd.f7 = some R_OwnType_lc := by kernel_rfl
theorem R_OwnType_in {a0 : Value} {w : World} {R : Ending → World → Prop} (h : R_OwnType_lc.wp Tryd.prog (retQ Tryd.prog [.cell 2 24] R) (argEnv [a0]) w) : Calls Tryd.prog R_OwnType ⟨[a0]⟩ w R :=
  calls_of_low Tryd.func7 R_OwnType_low (by kernel_rfl) (by kernel_rfl) h

/- 8 -/
def types_Rename_r0 : List GO := [
  ⟨none, .box 2 24 (.tmp 0)⟩,
  ⟨none, .alloc 4 24 [(.int .i64 0), (.int .i64 0), (.slice none 0 0)]⟩,
  ⟨none, .mov 5 (.const (.bool false))⟩]
def types_Rename_r1 : List GO := [
  ⟨none, .fld 11 (.tmp 2) 0⟩,
  ⟨none, .load1 12 (.tmp 11)⟩,
  ⟨none, .fld 13 (.tmp 2) 1⟩,
  ⟨none, .load1 14 (.tmp 13)⟩,
  ⟨none, .build 15 [(.int .i64 0), (.int .i64 0), (.slice none 0 0)] [(0, (1, (.tmp 12))), (1, (1, (.tmp 14)))]⟩,
  ⟨none, .alloc 6 24 [(.int .i64 0), (.int .i64 0), (.slice none 0 0)]⟩,
  ⟨none, .storen 3 (.tmp 6) (.tmp 15)⟩]
def types_Rename_r2 : List GO := [
  ⟨none, .fld 16 (.tmp 2) 0⟩,
  ⟨none, .load1 17 (.tmp 16)⟩,
  ⟨none, .bin 18 .neq 3 (.tmp 17) (.const (.int .i64 1))⟩]
def types_Rename_r3 : List GO := [
  ⟨none, .fld 19 (.tmp 2) 1⟩,
  ⟨none, .load1 20 (.tmp 19)⟩,
  ⟨none, .bin 21 .lss 3 (.tmp 20) (.const (.int .i64 0))⟩,
  ⟨none, .mov 22 (.tmp 21)⟩,
  ⟨some (22, false), .fld 23 (.tmp 2) 1⟩,
  ⟨some (22, false), .load1 24 (.tmp 23)⟩,
  ⟨some (22, false), .mov 25 (.tmp 1)⟩,
  ⟨some (22, false), .len 26 (.tmp 25)⟩,
  ⟨some (22, false), .bin 27 .geq 3 (.tmp 24) (.tmp 26)⟩,
  ⟨none, .pick 28 (.tmp 22) (.const (.bool true)) (.tmp 27)⟩,
  ⟨none, .mov 29 (.tmp 28)⟩,
  ⟨some (29, false), .mov 30 (.tmp 1)⟩,
  ⟨some (29, false), .fld 31 (.tmp 2) 1⟩,
  ⟨some (29, false), .load1 32 (.tmp 31)⟩,
  ⟨some (29, false), .idx 33 1 (.tmp 30) (.tmp 32)⟩,
  ⟨some (29, false), .load1 34 (.tmp 33)⟩,
  ⟨some (29, false), .bin 35 .lss 3 (.tmp 34) (.const (.int .i64 0))⟩,
  ⟨none, .pick 36 (.tmp 29) (.const (.bool true)) (.tmp 35)⟩]
def types_Rename_r4 : List GO := [
  ⟨none, .build 37 [(.int .i64 0), (.int .i64 0), (.slice none 0 0)] []⟩,
  ⟨none, .storen 3 (.tmp 4) (.tmp 37)⟩,
  ⟨none, .mov 5 (.const (.bool false))⟩]
def types_Rename_r5 : List GO := [
  ⟨none, .mov 38 (.tmp 1)⟩,
  ⟨none, .fld 39 (.tmp 2) 1⟩,
  ⟨none, .load1 40 (.tmp 39)⟩,
  ⟨none, .idx 41 1 (.tmp 38) (.tmp 40)⟩,
  ⟨none, .load1 42 (.tmp 41)⟩,
  ⟨none, .fld 43 (.tmp 6) 1⟩,
  ⟨none, .store1 (.tmp 43) (.tmp 42)⟩]
def types_Rename_r6 : List GO := [
  ⟨none, .fld 44 (.tmp 2) 2⟩,
  ⟨none, .load1 45 (.tmp 44)⟩,
  ⟨none, .len 46 (.tmp 45)⟩,
  ⟨none, .mov 47 (.const (.int .i64 0))⟩]
def types_Rename_r7 : List GO := [
  ⟨none, .bin 48 .lss 3 (.tmp 47) (.tmp 46)⟩]
def types_Rename_r8 : List GO := [
  ⟨none, .idx 49 3 (.tmp 45) (.tmp 47)⟩,
  ⟨none, .loadn 50 3 (.tmp 49)⟩,
  ⟨none, .alloc 8 24 [(.int .i64 0), (.int .i64 0), (.slice none 0 0)]⟩,
  ⟨none, .storen 3 (.tmp 8) (.tmp 50)⟩]
def types_Rename_r9 : List GO := [
  ⟨none, .loadn 52 3 (.tmp 8)⟩,
  ⟨none, .mov 53 (.tmp 1)⟩,
  ⟨none, .call (some 54) 8 [(.tmp 52), (.tmp 53)]⟩,
  ⟨none, .mov 51 (.tmp 54)⟩,
  ⟨none, .ext 55 (.tmp 51) 0⟩,
  ⟨none, .ext 56 (.tmp 51) 1⟩,
  ⟨none, .alloc 9 24 [(.int .i64 0), (.int .i64 0), (.slice none 0 0)]⟩,
  ⟨none, .storen 3 (.tmp 9) (.tmp 55)⟩,
  ⟨none, .mov 10 (.tmp 56)⟩]
def types_Rename_r10 : List GO := [
  ⟨none, .mov 57 (.tmp 10)⟩,
  ⟨none, .un 58 .not (.tmp 57)⟩]
def types_Rename_r11 : List GO := [
  ⟨none, .build 59 [(.int .i64 0), (.int .i64 0), (.slice none 0 0)] []⟩,
  ⟨none, .storen 3 (.tmp 4) (.tmp 59)⟩,
  ⟨none, .mov 5 (.const (.bool false))⟩]
def types_Rename_r12 : List GO := [
  ⟨none, .fld 60 (.tmp 6) 2⟩,
  ⟨none, .load1 61 (.tmp 60)⟩,
  ⟨none, .loadn 62 3 (.tmp 9)⟩,
  ⟨none, .buildS 63 24 1 [(.int .i64 0), (.int .i64 0), (.slice none 0 0)] [(0, (3, (.tmp 62)))]⟩,
  ⟨none, .raw ⟨(some 64), (.call ⟨(.builtin .append), #[(.tmp 61), (.tmp 63)], #[22, 22]⟩), 22, "", #[], none⟩⟩,
  ⟨none, .fld 65 (.tmp 6) 2⟩,
  ⟨none, .store1 (.tmp 65) (.tmp 64)⟩]
def types_Rename_r13 : List GO := [
  ⟨none, .bin 66 .add 3 (.tmp 47) (.const (.int .i64 1))⟩,
  ⟨none, .mov 47 (.tmp 66)⟩]
def types_Rename_b7 : LC := (.seq (.ops types_Rename_r7) (.seq (.cond (.tmp 48) .skip (.exit 0)) (.seq (.block 1 (.seq (.ops types_Rename_r8) (.seq (.ops types_Rename_r9) (.seq (.seq (.ops types_Rename_r10) (.cond (.tmp 58) (.seq (.ops types_Rename_r11) .ret) .skip)) (.ops types_Rename_r12))))) (.ops types_Rename_r13))))
def types_Rename_r14 : List GO := [
  ⟨none, .loadn 67 3 (.tmp 6)⟩,
  ⟨none, .storen 3 (.tmp 4) (.tmp 67)⟩,
  ⟨none, .mov 5 (.const (.bool true))⟩]
def types_Rename_lc : LC := (.seq (.ops types_Rename_r0) (.seq (.ops types_Rename_r1) (.seq (.seq (.ops types_Rename_r2) (.cond (.tmp 18) (.seq (.seq (.ops types_Rename_r3) (.cond (.tmp 36) (.seq (.ops types_Rename_r4) .ret) .skip)) (.ops types_Rename_r5)) .skip)) (.seq (.seq (.ops types_Rename_r6) (.block 0 (.loop types_Rename_b7))) (.seq (.ops types_Rename_r14) .ret)))))
@[reducible] def types_Rename : FuncId := 8
theorem types_Rename_low : lowF Tryd.prog Tryd.f8 = some types_Rename_lc := by kernel_rfl
theorem types_Rename_in {a0 a1 : Value} {w : World} {R : Ending → World → Prop} (h : types_Rename_lc.wp Tryd.prog (retQ Tryd.prog [.cell 4 24, .tmp 5] R) (argEnv [a0, a1]) w) : Calls Tryd.prog types_Rename ⟨[a0, a1]⟩ w R :=
  calls_of_low Tryd.func8 types_Rename_low (by kernel_rfl) (by kernel_rfl) h

/- 9 -/
def R_Renamed_r0 : List GO := [
  ⟨none, .box 2 24 (.tmp 0)⟩,
  ⟨none, .alloc 4 24 [(.int .i64 0), (.int .i64 0), (.slice none 0 0)]⟩,
  ⟨none, .mov 5 (.const (.bool false))⟩]
def R_Renamed_r1 : List GO := [
  ⟨none, .fld 10 (.tmp 2) 0⟩,
  ⟨none, .load1 11 (.tmp 10)⟩,
  ⟨none, .fld 12 (.tmp 2) 1⟩,
  ⟨none, .load1 13 (.tmp 12)⟩,
  ⟨none, .build 14 [(.int .i64 0), (.int .i64 0), (.slice none 0 0)] [(0, (1, (.tmp 11))), (1, (1, (.tmp 13)))]⟩,
  ⟨none, .alloc 6 24 [(.int .i64 0), (.int .i64 0), (.slice none 0 0)]⟩,
  ⟨none, .storen 3 (.tmp 6) (.tmp 14)⟩]
def R_Renamed_r2 : List GO := [
  ⟨none, .fld 15 (.tmp 2) 0⟩,
  ⟨none, .load1 16 (.tmp 15)⟩,
  ⟨none, .bin 17 .neq 3 (.tmp 16) (.const (.int .i64 1))⟩]
def R_Renamed_r3 : List GO := [
  ⟨none, .fld 18 (.tmp 2) 1⟩,
  ⟨none, .load1 19 (.tmp 18)⟩,
  ⟨none, .bin 20 .lss 3 (.tmp 19) (.const (.int .i64 0))⟩,
  ⟨none, .mov 21 (.tmp 20)⟩,
  ⟨some (21, false), .fld 22 (.tmp 2) 1⟩,
  ⟨some (21, false), .load1 23 (.tmp 22)⟩,
  ⟨some (21, false), .mov 24 (.tmp 1)⟩,
  ⟨some (21, false), .len 25 (.tmp 24)⟩,
  ⟨some (21, false), .bin 26 .geq 3 (.tmp 23) (.tmp 25)⟩,
  ⟨none, .pick 27 (.tmp 21) (.const (.bool true)) (.tmp 26)⟩]
def R_Renamed_r4 : List GO := [
  ⟨none, .build 28 [(.int .i64 0), (.int .i64 0), (.slice none 0 0)] []⟩,
  ⟨none, .storen 3 (.tmp 4) (.tmp 28)⟩,
  ⟨none, .mov 5 (.const (.bool false))⟩]
def R_Renamed_r5 : List GO := [
  ⟨none, .mov 29 (.tmp 1)⟩,
  ⟨none, .fld 30 (.tmp 2) 1⟩,
  ⟨none, .load1 31 (.tmp 30)⟩,
  ⟨none, .idx 32 1 (.tmp 29) (.tmp 31)⟩,
  ⟨none, .load1 33 (.tmp 32)⟩,
  ⟨none, .bin 34 .lss 3 (.tmp 33) (.const (.int .i64 0))⟩]
def R_Renamed_r6 : List GO := [
  ⟨none, .build 35 [(.int .i64 0), (.int .i64 0), (.slice none 0 0)] []⟩,
  ⟨none, .storen 3 (.tmp 4) (.tmp 35)⟩,
  ⟨none, .mov 5 (.const (.bool false))⟩]
def R_Renamed_r7 : List GO := [
  ⟨none, .mov 36 (.tmp 1)⟩,
  ⟨none, .fld 37 (.tmp 2) 1⟩,
  ⟨none, .load1 38 (.tmp 37)⟩,
  ⟨none, .idx 39 1 (.tmp 36) (.tmp 38)⟩,
  ⟨none, .load1 40 (.tmp 39)⟩,
  ⟨none, .fld 41 (.tmp 6) 1⟩,
  ⟨none, .store1 (.tmp 41) (.tmp 40)⟩]
def R_Renamed_r8 : List GO := [
  ⟨none, .mov 7 (.const (.int .i64 0))⟩]
def R_Renamed_r9 : List GO := [
  ⟨none, .mov 42 (.tmp 7)⟩,
  ⟨none, .fld 43 (.tmp 2) 2⟩,
  ⟨none, .load1 44 (.tmp 43)⟩,
  ⟨none, .len 45 (.tmp 44)⟩,
  ⟨none, .bin 46 .lss 3 (.tmp 42) (.tmp 45)⟩]
def R_Renamed_r10 : List GO := [
  ⟨none, .fld 50 (.tmp 2) 2⟩,
  ⟨none, .load1 51 (.tmp 50)⟩,
  ⟨none, .mov 52 (.tmp 7)⟩,
  ⟨none, .idx 53 3 (.tmp 51) (.tmp 52)⟩,
  ⟨none, .loadn 54 3 (.tmp 53)⟩,
  ⟨none, .mov 55 (.tmp 1)⟩,
  ⟨none, .call (some 56) 9 [(.tmp 54), (.tmp 55)]⟩,
  ⟨none, .mov 49 (.tmp 56)⟩,
  ⟨none, .ext 57 (.tmp 49) 0⟩,
  ⟨none, .ext 58 (.tmp 49) 1⟩,
  ⟨none, .alloc 8 24 [(.int .i64 0), (.int .i64 0), (.slice none 0 0)]⟩,
  ⟨none, .storen 3 (.tmp 8) (.tmp 57)⟩,
  ⟨none, .mov 9 (.tmp 58)⟩]
def R_Renamed_r11 : List GO := [
  ⟨none, .mov 59 (.tmp 9)⟩,
  ⟨none, .un 60 .not (.tmp 59)⟩]
def R_Renamed_r12 : List GO := [
  ⟨none, .build 61 [(.int .i64 0), (.int .i64 0), (.slice none 0 0)] []⟩,
  ⟨none, .storen 3 (.tmp 4) (.tmp 61)⟩,
  ⟨none, .mov 5 (.const (.bool false))⟩]
def R_Renamed_r13 : List GO := [
  ⟨none, .fld 62 (.tmp 6) 2⟩,
  ⟨none, .load1 63 (.tmp 62)⟩,
  ⟨none, .loadn 64 3 (.tmp 8)⟩,
  ⟨none, .buildS 65 24 1 [(.int .i64 0), (.int .i64 0), (.slice none 0 0)] [(0, (3, (.tmp 64)))]⟩,
  ⟨none, .raw ⟨(some 66), (.call ⟨(.builtin .append), #[(.tmp 63), (.tmp 65)], #[22, 22]⟩), 22, "", #[], none⟩⟩,
  ⟨none, .fld 67 (.tmp 6) 2⟩,
  ⟨none, .store1 (.tmp 67) (.tmp 66)⟩]
def R_Renamed_r14 : List GO := [
  ⟨none, .mov 47 (.tmp 7)⟩,
  ⟨none, .bin 48 .add 3 (.tmp 47) (.const (.int .i64 1))⟩,
  ⟨none, .mov 7 (.tmp 48)⟩]
def R_Renamed_b9 : LC := (.seq (.seq (.ops R_Renamed_r9) (.cond (.tmp 46) .skip (.exit 0))) (.seq (.block 1 (.seq (.ops R_Renamed_r10) (.seq (.seq (.ops R_Renamed_r11) (.cond (.tmp 60) (.seq (.ops R_Renamed_r12) .ret) .skip)) (.ops R_Renamed_r13)))) (.ops R_Renamed_r14)))
def R_Renamed_r15 : List GO := [
  ⟨none, .loadn 68 3 (.tmp 6)⟩,
  ⟨none, .storen 3 (.tmp 4) (.tmp 68)⟩,
  ⟨none, .mov 5 (.const (.bool true))⟩]
def R_Renamed_lc : LC := (.seq (.ops R_Renamed_r0) (.seq (.ops R_Renamed_r1) (.seq (.seq (.ops R_Renamed_r2) (.cond (.tmp 17) (.seq (.seq (.ops R_Renamed_r3) (.cond (.tmp 27) (.seq (.ops R_Renamed_r4) .ret) .skip)) (.seq (.seq (.ops R_Renamed_r5) (.cond (.tmp 34) (.seq (.ops R_Renamed_r6) .ret) .skip)) (.ops R_Renamed_r7))) .skip)) (.seq (.seq (.ops R_Renamed_r8) (.block 0 (.loop R_Renamed_b9))) (.seq (.ops R_Renamed_r15) .ret)))))
@[reducible] def R_Renamed : FuncId := 9
theorem R_Renamed_low : lowF Tryd.prog Tryd.f9 = some R_Renamed_lc := by kernel_rfl
theorem R_Renamed_in {a0 a1 : Value} {w : World} {R : Ending → World → Prop} (h : R_Renamed_lc.wp Tryd.prog (retQ Tryd.prog [.cell 4 24, .tmp 5] R) (argEnv [a0, a1]) w) : Calls Tryd.prog R_Renamed ⟨[a0, a1]⟩ w R :=
  calls_of_low Tryd.func9 R_Renamed_low (by kernel_rfl) (by kernel_rfl) h

/- 10 -/
def types_Check_r0 : List GO := [
  ⟨none, .box 2 24 (.tmp 0)⟩,
  ⟨none, .mov 4 (.const (.int .i64 0))⟩]
def types_Check_r1 : List GO := [
  ⟨none, .loadn 5 3 (.tmp 2)⟩,
  ⟨none, .call (some 6) 18 [(.tmp 5), (.const (.int .i64 4))]⟩,
  ⟨none, .un 7 .not (.tmp 6)⟩]
def types_Check_r2 : List GO := [
  ⟨none, .mov 4 (.const (.int .i64 19))⟩]
def types_Check_r3 : List GO := [
  ⟨none, .loadn 8 3 (.tmp 2)⟩,
  ⟨none, .mov 9 (.tmp 1)⟩,
  ⟨none, .call (some 10) 19 [(.tmp 8), (.tmp 9)]⟩,
  ⟨none, .mov 4 (.tmp 10)⟩]
def types_Check_lc : LC := (.seq (.ops types_Check_r0) (.seq (.seq (.ops types_Check_r1) (.cond (.tmp 7) (.seq (.ops types_Check_r2) .ret) .skip)) (.seq (.ops types_Check_r3) .ret)))
@[reducible] def types_Check : FuncId := 10
theorem types_Check_low : lowF Tryd.prog Tryd.f10 = some types_Check_lc := by kernel_rfl
theorem types_Check_in {a0 a1 : Value} {w : World} {R : Ending → World → Prop} (h : types_Check_lc.wp Tryd.prog (retQ Tryd.prog [.tmp 4] R) (argEnv [a0, a1]) w) : Calls Tryd.prog types_Check ⟨[a0, a1]⟩ w R :=
  calls_of_low Tryd.func10 types_Check_low (by kernel_rfl) (by kernel_rfl) h

/- 11 -/
def R_TypeFault_r0 : List GO := [
  ⟨none, .box 2 24 (.tmp 0)⟩,
  ⟨none, .mov 4 (.const (.int .i64 0))⟩]
def R_TypeFault_r1 : List GO := [
  ⟨none, .loadn 5 3 (.tmp 2)⟩,
  ⟨none, .call (some 6) 20 [(.tmp 5), (.const (.int .i64 4))]⟩,
  ⟨none, .bin 7 .gtr 3 (.tmp 6) (.const (.int .i64 4))⟩]
def R_TypeFault_r2 : List GO := [
  ⟨none, .mov 4 (.const (.int .i64 19))⟩]
def R_TypeFault_r3 : List GO := [
  ⟨none, .loadn 8 3 (.tmp 2)⟩,
  ⟨none, .mov 9 (.tmp 1)⟩,
  ⟨none, .call (some 10) 21 [(.tmp 8), (.tmp 9)]⟩,
  ⟨none, .mov 4 (.tmp 10)⟩]
def R_TypeFault_lc : LC := (.seq (.ops R_TypeFault_r0) (.seq (.seq (.ops R_TypeFault_r1) (.cond (.tmp 7) (.seq (.ops R_TypeFault_r2) .ret) .skip)) (.seq (.ops R_TypeFault_r3) .ret)))
@[reducible] def R_TypeFault : FuncId := 11
theorem R_TypeFault_low : lowF Tryd.prog Tryd.f11 = some R_TypeFault_lc := by kernel_rfl
theorem R_TypeFault_in {a0 a1 : Value} {w : World} {R : Ending → World → Prop} (h : R_TypeFault_lc.wp Tryd.prog (retQ Tryd.prog [.tmp 4] R) (argEnv [a0, a1]) w) : Calls Tryd.prog R_TypeFault ⟨[a0, a1]⟩ w R :=
  calls_of_low Tryd.func11 R_TypeFault_low (by kernel_rfl) (by kernel_rfl) h

/- 12 -/
def types_Same_r0 : List GO := [
  ⟨none, .box 2 24 (.tmp 0)⟩,
  ⟨none, .box 3 24 (.tmp 1)⟩,
  ⟨none, .mov 4 (.const (.bool false))⟩]
def types_Same_r1 : List GO := [
  ⟨none, .fld 5 (.tmp 2) 0⟩,
  ⟨none, .load1 6 (.tmp 5)⟩,
  ⟨none, .fld 7 (.tmp 3) 0⟩,
  ⟨none, .load1 8 (.tmp 7)⟩,
  ⟨none, .bin 9 .eql 3 (.tmp 6) (.tmp 8)⟩,
  ⟨none, .mov 10 (.tmp 9)⟩,
  ⟨some (10, true), .fld 11 (.tmp 2) 1⟩,
  ⟨some (10, true), .load1 12 (.tmp 11)⟩,
  ⟨some (10, true), .fld 13 (.tmp 3) 1⟩,
  ⟨some (10, true), .load1 14 (.tmp 13)⟩,
  ⟨some (10, true), .bin 15 .eql 3 (.tmp 12) (.tmp 14)⟩,
  ⟨none, .pick 16 (.tmp 10) (.tmp 15) (.const (.bool false))⟩,
  ⟨none, .mov 17 (.tmp 16)⟩,
  ⟨some (17, true), .fld 18 (.tmp 2) 2⟩,
  ⟨some (17, true), .load1 19 (.tmp 18)⟩,
  ⟨some (17, true), .fld 20 (.tmp 3) 2⟩,
  ⟨some (17, true), .load1 21 (.tmp 20)⟩,
  ⟨some (17, true), .call (some 22) 22 [(.tmp 19), (.tmp 21), (.func 12)]⟩,
  ⟨none, .pick 23 (.tmp 17) (.tmp 22) (.const (.bool false))⟩,
  ⟨none, .mov 4 (.tmp 23)⟩]
def types_Same_lc : LC := (.seq (.ops types_Same_r0) (.seq (.ops types_Same_r1) .ret))
@[reducible] def types_Same : FuncId := 12
theorem types_Same_low : lowF Tryd.prog Tryd.f12 = some types_Same_lc := by kernel_rfl
theorem types_Same_in {a0 a1 : Value} {w : World} {R : Ending → World → Prop} (h : types_Same_lc.wp Tryd.prog (retQ Tryd.prog [.tmp 4] R) (argEnv [a0, a1]) w) : Calls Tryd.prog types_Same ⟨[a0, a1]⟩ w R :=
  calls_of_low Tryd.func12 types_Same_low (by kernel_rfl) (by kernel_rfl) h

/- 13 -/
def R_SameType_r0 : List GO := [
  ⟨none, .box 2 24 (.tmp 0)⟩,
  ⟨none, .box 3 24 (.tmp 1)⟩,
  ⟨none, .mov 4 (.const (.bool false))⟩]
def R_SameType_r1 : List GO := [
  ⟨none, .fld 5 (.tmp 2) 0⟩,
  ⟨none, .load1 6 (.tmp 5)⟩,
  ⟨none, .fld 7 (.tmp 3) 0⟩,
  ⟨none, .load1 8 (.tmp 7)⟩,
  ⟨none, .bin 9 .eql 3 (.tmp 6) (.tmp 8)⟩,
  ⟨none, .mov 10 (.tmp 9)⟩,
  ⟨some (10, true), .fld 11 (.tmp 2) 1⟩,
  ⟨some (10, true), .load1 12 (.tmp 11)⟩,
  ⟨some (10, true), .fld 13 (.tmp 3) 1⟩,
  ⟨some (10, true), .load1 14 (.tmp 13)⟩,
  ⟨some (10, true), .bin 15 .eql 3 (.tmp 12) (.tmp 14)⟩,
  ⟨none, .pick 16 (.tmp 10) (.tmp 15) (.const (.bool false))⟩,
  ⟨none, .mov 17 (.tmp 16)⟩,
  ⟨some (17, true), .fld 18 (.tmp 2) 2⟩,
  ⟨some (17, true), .load1 19 (.tmp 18)⟩,
  ⟨some (17, true), .fld 20 (.tmp 3) 2⟩,
  ⟨some (17, true), .load1 21 (.tmp 20)⟩,
  ⟨some (17, true), .call (some 22) 23 [(.tmp 19), (.tmp 21)]⟩,
  ⟨none, .pick 23 (.tmp 17) (.tmp 22) (.const (.bool false))⟩,
  ⟨none, .mov 4 (.tmp 23)⟩]
def R_SameType_lc : LC := (.seq (.ops R_SameType_r0) (.seq (.ops R_SameType_r1) .ret))
@[reducible] def R_SameType : FuncId := 13
theorem R_SameType_low : lowF Tryd.prog Tryd.f13 = some R_SameType_lc := by kernel_rfl
theorem R_SameType_in {a0 a1 : Value} {w : World} {R : Ending → World → Prop} (h : R_SameType_lc.wp Tryd.prog (retQ Tryd.prog [.tmp 4] R) (argEnv [a0, a1]) w) : Calls Tryd.prog R_SameType ⟨[a0, a1]⟩ w R :=
  calls_of_low Tryd.func13 R_SameType_low (by kernel_rfl) (by kernel_rfl) h

/- 14 -/
def types_Text_r0 : List GO := [
  ⟨none, .box 1 24 (.tmp 0)⟩,
  ⟨none, .mov 2 (.const (.string ⟨#[]⟩))⟩]
def types_Text_r1 : List GO := [
  ⟨none, .fld 7 (.tmp 1) 1⟩,
  ⟨none, .load1 8 (.tmp 7)⟩,
  ⟨none, .call (some 9) 24 [(.tmp 8)]⟩,
  ⟨none, .mov 3 (.tmp 9)⟩]
def types_Text_r2 : List GO := [
  ⟨none, .fld 10 (.tmp 1) 0⟩,
  ⟨none, .load1 11 (.tmp 10)⟩]
def types_Text_r3 : List GO := [
  ⟨none, .bin 13 .eql 3 (.tmp 11) (.const (.int .i64 2))⟩,
  ⟨none, .mov 12 (.tmp 13)⟩]
def types_Text_r4 : List GO := [
  ⟨none, .mov 14 (.tmp 3)⟩,
  ⟨none, .bin 15 .add 9 (.const (.string ⟨#[104, 97, 110, 100, 108, 101, 32]⟩)) (.tmp 14)⟩,
  ⟨none, .mov 2 (.tmp 15)⟩]
def types_Text_r5 : List GO := [
  ⟨none, .bin 17 .eql 3 (.tmp 11) (.const (.int .i64 4))⟩,
  ⟨none, .mov 16 (.tmp 17)⟩]
def types_Text_r6 : List GO := [
  ⟨none, .mov 18 (.tmp 3)⟩,
  ⟨none, .bin 19 .add 9 (.const (.string ⟨#[97, 114, 114, 97, 121, 32]⟩)) (.tmp 18)⟩,
  ⟨none, .mov 2 (.tmp 19)⟩]
def types_Text_r7 : List GO := [
  ⟨none, .bin 21 .eql 3 (.tmp 11) (.const (.int .i64 3))⟩,
  ⟨none, .mov 20 (.tmp 21)⟩]
def types_Text_r8 : List GO := [
  ⟨none, .mov 4 (.const (.slice none 0 0))⟩]
def types_Text_r9 : List GO := [
  ⟨none, .fld 22 (.tmp 1) 2⟩,
  ⟨none, .load1 23 (.tmp 22)⟩,
  ⟨none, .len 24 (.tmp 23)⟩,
  ⟨none, .mov 25 (.const (.int .i64 0))⟩]
def types_Text_r10 : List GO := [
  ⟨none, .bin 26 .lss 3 (.tmp 25) (.tmp 24)⟩]
def types_Text_r11 : List GO := [
  ⟨none, .idx 27 3 (.tmp 23) (.tmp 25)⟩,
  ⟨none, .loadn 28 3 (.tmp 27)⟩,
  ⟨none, .alloc 6 24 [(.int .i64 0), (.int .i64 0), (.slice none 0 0)]⟩,
  ⟨none, .storen 3 (.tmp 6) (.tmp 28)⟩]
def types_Text_r12 : List GO := [
  ⟨none, .mov 29 (.tmp 4)⟩,
  ⟨none, .loadn 30 3 (.tmp 6)⟩,
  ⟨none, .call (some 31) 14 [(.tmp 30)]⟩,
  ⟨none, .buildS 32 9 1 [(.string ⟨#[]⟩)] [(0, (1, (.tmp 31)))]⟩,
  ⟨none, .raw ⟨(some 33), (.call ⟨(.builtin .append), #[(.tmp 29), (.tmp 32)], #[42, 42]⟩), 42, "", #[], none⟩⟩,
  ⟨none, .mov 4 (.tmp 33)⟩]
def types_Text_r13 : List GO := [
  ⟨none, .bin 34 .add 3 (.tmp 25) (.const (.int .i64 1))⟩,
  ⟨none, .mov 25 (.tmp 34)⟩]
def types_Text_b10 : LC := (.seq (.ops types_Text_r10) (.seq (.cond (.tmp 26) .skip (.exit 1)) (.seq (.block 2 (.seq (.ops types_Text_r11) (.ops types_Text_r12))) (.ops types_Text_r13))))
def types_Text_r14 : List GO := [
  ⟨none, .mov 35 (.tmp 3)⟩,
  ⟨none, .bin 36 .add 9 (.const (.string ⟨#[116, 117, 112, 108, 101, 32]⟩)) (.tmp 35)⟩,
  ⟨none, .bin 37 .add 9 (.tmp 36) (.const (.string ⟨#[32, 40]⟩))⟩,
  ⟨none, .mov 38 (.tmp 4)⟩,
  ⟨none, .call (some 39) 25 [(.tmp 38), (.const (.string ⟨#[44, 32]⟩))]⟩,
  ⟨none, .bin 40 .add 9 (.tmp 37) (.tmp 39)⟩,
  ⟨none, .bin 41 .add 9 (.tmp 40) (.const (.string ⟨#[41]⟩))⟩,
  ⟨none, .mov 2 (.tmp 41)⟩]
def types_Text_r15 : List GO := [
  ⟨none, .mov 2 (.const (.string ⟨#[105, 110, 116]⟩))⟩]
def types_Text_lc : LC := (.seq (.ops types_Text_r0) (.seq (.ops types_Text_r1) (.seq (.seq (.ops types_Text_r2) (.block 0 (.seq (.ops types_Text_r3) (.cond (.tmp 12) (.seq (.ops types_Text_r4) .ret) (.seq (.ops types_Text_r5) (.cond (.tmp 16) (.seq (.ops types_Text_r6) .ret) (.seq (.ops types_Text_r7) (.cond (.tmp 20) (.seq (.ops types_Text_r8) (.seq (.seq (.ops types_Text_r9) (.block 1 (.loop types_Text_b10))) (.seq (.ops types_Text_r14) .ret))) .skip)))))))) (.seq (.ops types_Text_r15) .ret))))
@[reducible] def types_Text : FuncId := 14
theorem types_Text_low : lowF Tryd.prog Tryd.f14 = some types_Text_lc := by kernel_rfl
theorem types_Text_in {a0 : Value} {w : World} {R : Ending → World → Prop} (h : types_Text_lc.wp Tryd.prog (retQ Tryd.prog [.tmp 2] R) (argEnv [a0]) w) : Calls Tryd.prog types_Text ⟨[a0]⟩ w R :=
  calls_of_low Tryd.func14 types_Text_low (by kernel_rfl) (by kernel_rfl) h

/- 15 -/
def R_TypeText_r0 : List GO := [
  ⟨none, .box 1 24 (.tmp 0)⟩,
  ⟨none, .mov 2 (.const (.string ⟨#[]⟩))⟩]
def R_TypeText_r1 : List GO := [
  ⟨none, .mov 3 (.const (.string ⟨#[105, 110, 116]⟩))⟩]
def R_TypeText_r2 : List GO := [
  ⟨none, .fld 4 (.tmp 1) 0⟩,
  ⟨none, .load1 5 (.tmp 4)⟩]
def R_TypeText_r3 : List GO := [
  ⟨none, .bin 7 .eql 3 (.tmp 5) (.const (.int .i64 2))⟩,
  ⟨none, .mov 6 (.tmp 7)⟩]
def R_TypeText_r4 : List GO := [
  ⟨none, .fld 8 (.tmp 1) 1⟩,
  ⟨none, .load1 9 (.tmp 8)⟩,
  ⟨none, .call (some 10) 24 [(.tmp 9)]⟩,
  ⟨none, .bin 11 .add 9 (.const (.string ⟨#[104, 97, 110, 100, 108, 101, 32]⟩)) (.tmp 10)⟩,
  ⟨none, .mov 3 (.tmp 11)⟩]
def R_TypeText_r5 : List GO := [
  ⟨none, .bin 13 .eql 3 (.tmp 5) (.const (.int .i64 4))⟩,
  ⟨none, .mov 12 (.tmp 13)⟩]
def R_TypeText_r6 : List GO := [
  ⟨none, .fld 14 (.tmp 1) 1⟩,
  ⟨none, .load1 15 (.tmp 14)⟩,
  ⟨none, .call (some 16) 24 [(.tmp 15)]⟩,
  ⟨none, .bin 17 .add 9 (.const (.string ⟨#[97, 114, 114, 97, 121, 32]⟩)) (.tmp 16)⟩,
  ⟨none, .mov 3 (.tmp 17)⟩]
def R_TypeText_r7 : List GO := [
  ⟨none, .bin 19 .eql 3 (.tmp 5) (.const (.int .i64 3))⟩,
  ⟨none, .mov 18 (.tmp 19)⟩]
def R_TypeText_r8 : List GO := [
  ⟨none, .fld 20 (.tmp 1) 1⟩,
  ⟨none, .load1 21 (.tmp 20)⟩,
  ⟨none, .call (some 22) 24 [(.tmp 21)]⟩,
  ⟨none, .bin 23 .add 9 (.const (.string ⟨#[116, 117, 112, 108, 101, 32]⟩)) (.tmp 22)⟩,
  ⟨none, .bin 24 .add 9 (.tmp 23) (.const (.string ⟨#[32]⟩))⟩,
  ⟨none, .fld 25 (.tmp 1) 2⟩,
  ⟨none, .load1 26 (.tmp 25)⟩,
  ⟨none, .call (some 27) 26 [(.tmp 26)]⟩,
  ⟨none, .bin 28 .add 9 (.tmp 24) (.tmp 27)⟩,
  ⟨none, .mov 3 (.tmp 28)⟩]
def R_TypeText_e8 : List (List Nat) := [[], [0], [1], [2], [3], [], [5], [6, 2], [4, 7], [8, 7, 0, 1, 2, 3, 4, 5, 6, 7, 8]]
def R_TypeText_r9 : List GO := [
  ⟨none, .mov 29 (.tmp 3)⟩,
  ⟨none, .mov 2 (.tmp 29)⟩]
def R_TypeText_lc : LC := (.seq (.ops R_TypeText_r0) (.seq (.ops R_TypeText_r1) (.seq (.seq (.ops R_TypeText_r2) (.block 0 (.seq (.ops R_TypeText_r3) (.cond (.tmp 6) (.ops R_TypeText_r4) (.seq (.ops R_TypeText_r5) (.cond (.tmp 12) (.ops R_TypeText_r6) (.seq (.ops R_TypeText_r7) (.cond (.tmp 18) (.draw R_TypeText_r8 R_TypeText_e8) .skip)))))))) (.seq (.ops R_TypeText_r9) .ret))))
@[reducible] def R_TypeText : FuncId := 15
theorem R_TypeText_low : lowF Tryd.prog Tryd.f15 = some R_TypeText_lc := by kernel_rfl
theorem R_TypeText_in {a0 : Value} {w : World} {R : Ending → World → Prop} (h : R_TypeText_lc.wp Tryd.prog (retQ Tryd.prog [.tmp 2] R) (argEnv [a0]) w) : Calls Tryd.prog R_TypeText ⟨[a0]⟩ w R :=
  calls_of_low Tryd.func15 R_TypeText_low (by kernel_rfl) (by kernel_rfl) h

/- 16 -/
def R_typeSize_r0 : List GO := [
  ⟨none, .box 2 24 (.tmp 0)⟩,
  ⟨none, .mov 4 (.const (.int .i64 0))⟩]
def R_typeSize_r1 : List GO := [
  ⟨none, .mov 6 (.tmp 1)⟩,
  ⟨none, .bin 7 .sub 3 (.tmp 6) (.const (.int .i64 1))⟩,
  ⟨none, .mov 1 (.tmp 7)⟩]
def R_typeSize_r2 : List GO := [
  ⟨none, .mov 5 (.const (.int .i64 0))⟩]
def R_typeSize_r3 : List GO := [
  ⟨none, .mov 8 (.tmp 5)⟩,
  ⟨none, .fld 9 (.tmp 2) 2⟩,
  ⟨none, .load1 10 (.tmp 9)⟩,
  ⟨none, .len 11 (.tmp 10)⟩,
  ⟨none, .bin 12 .lss 3 (.tmp 8) (.tmp 11)⟩,
  ⟨none, .mov 13 (.tmp 12)⟩,
  ⟨some (13, true), .mov 14 (.tmp 1)⟩,
  ⟨some (13, true), .bin 15 .geq 3 (.tmp 14) (.const (.int .i64 0))⟩,
  ⟨none, .pick 16 (.tmp 13) (.tmp 15) (.const (.bool false))⟩]
def R_typeSize_r4 : List GO := [
  ⟨none, .fld 19 (.tmp 2) 2⟩,
  ⟨none, .load1 20 (.tmp 19)⟩,
  ⟨none, .mov 21 (.tmp 5)⟩,
  ⟨none, .idx 22 3 (.tmp 20) (.tmp 21)⟩,
  ⟨none, .loadn 23 3 (.tmp 22)⟩,
  ⟨none, .mov 24 (.tmp 1)⟩,
  ⟨none, .call (some 25) 16 [(.tmp 23), (.tmp 24)]⟩,
  ⟨none, .mov 1 (.tmp 25)⟩]
def R_typeSize_r5 : List GO := [
  ⟨none, .mov 17 (.tmp 5)⟩,
  ⟨none, .bin 18 .add 3 (.tmp 17) (.const (.int .i64 1))⟩,
  ⟨none, .mov 5 (.tmp 18)⟩]
def R_typeSize_b3 : LC := (.seq (.seq (.ops R_typeSize_r3) (.cond (.tmp 16) .skip (.exit 0))) (.seq (.block 1 (.ops R_typeSize_r4)) (.ops R_typeSize_r5)))
def R_typeSize_r6 : List GO := [
  ⟨none, .mov 26 (.tmp 1)⟩,
  ⟨none, .mov 4 (.tmp 26)⟩]
def R_typeSize_lc : LC := (.seq (.ops R_typeSize_r0) (.seq (.ops R_typeSize_r1) (.seq (.seq (.ops R_typeSize_r2) (.block 0 (.loop R_typeSize_b3))) (.seq (.ops R_typeSize_r6) .ret))))
@[reducible] def R_typeSize : FuncId := 16
theorem R_typeSize_low : lowF Tryd.prog Tryd.f16 = some R_typeSize_lc := by kernel_rfl
theorem R_typeSize_in {a0 a1 : Value} {w : World} {R : Ending → World → Prop} (h : R_typeSize_lc.wp Tryd.prog (retQ Tryd.prog [.tmp 4] R) (argEnv [a0, a1]) w) : Calls Tryd.prog R_typeSize ⟨[a0, a1]⟩ w R :=
  calls_of_low Tryd.func16 R_typeSize_low (by kernel_rfl) (by kernel_rfl) h

/- 17 -/
def R_OwnTypes_r0 : List GO := [
  ⟨none, .mov 2 (.const (.slice none 0 0))⟩]
def R_OwnTypes_r1 : List GO := [
  ⟨none, .mov 3 (.const (.slice none 0 0))⟩]
def R_OwnTypes_r2 : List GO := [
  ⟨none, .mov 4 (.const (.int .i64 0))⟩]
def R_OwnTypes_r3 : List GO := [
  ⟨none, .mov 5 (.tmp 4)⟩,
  ⟨none, .mov 6 (.tmp 0)⟩,
  ⟨none, .len 7 (.tmp 6)⟩,
  ⟨none, .bin 8 .lss 3 (.tmp 5) (.tmp 7)⟩]
def R_OwnTypes_r4 : List GO := [
  ⟨none, .mov 11 (.tmp 3)⟩,
  ⟨none, .mov 12 (.tmp 0)⟩,
  ⟨none, .mov 13 (.tmp 4)⟩,
  ⟨none, .idx 14 3 (.tmp 12) (.tmp 13)⟩,
  ⟨none, .loadn 15 3 (.tmp 14)⟩,
  ⟨none, .call (some 16) 7 [(.tmp 15)]⟩,
  ⟨none, .buildS 17 24 1 [(.int .i64 0), (.int .i64 0), (.slice none 0 0)] [(0, (3, (.tmp 16)))]⟩,
  ⟨none, .raw ⟨(some 18), (.call ⟨(.builtin .append), #[(.tmp 11), (.tmp 17)], #[22, 22]⟩), 22, "", #[], none⟩⟩,
  ⟨none, .mov 3 (.tmp 18)⟩]
def R_OwnTypes_r5 : List GO := [
  ⟨none, .mov 9 (.tmp 4)⟩,
  ⟨none, .bin 10 .add 3 (.tmp 9) (.const (.int .i64 1))⟩,
  ⟨none, .mov 4 (.tmp 10)⟩]
def R_OwnTypes_b3 : LC := (.seq (.seq (.ops R_OwnTypes_r3) (.cond (.tmp 8) .skip (.exit 0))) (.seq (.block 1 (.ops R_OwnTypes_r4)) (.ops R_OwnTypes_r5)))
def R_OwnTypes_r6 : List GO := [
  ⟨none, .mov 19 (.tmp 3)⟩,
  ⟨none, .mov 2 (.tmp 19)⟩]
def R_OwnTypes_lc : LC := (.seq (.ops R_OwnTypes_r0) (.seq (.ops R_OwnTypes_r1) (.seq (.seq (.ops R_OwnTypes_r2) (.block 0 (.loop R_OwnTypes_b3))) (.seq (.ops R_OwnTypes_r6) .ret))))
@[reducible] def R_OwnTypes : FuncId := 17
theorem R_OwnTypes_low : lowF Tryd.prog Tryd.f17 = some R_OwnTypes_lc := by kernel_rfl
theorem R_OwnTypes_in {a0 : Value} {w : World} {R : Ending → World → Prop} (h : R_OwnTypes_lc.wp Tryd.prog (retQ Tryd.prog [.tmp 2] R) (argEnv [a0]) w) : Calls Tryd.prog R_OwnTypes ⟨[a0]⟩ w R :=
  calls_of_low Tryd.func17 R_OwnTypes_low (by kernel_rfl) (by kernel_rfl) h

/- 18 -/
def types_deep_r0 : List GO := [
  ⟨none, .box 2 24 (.tmp 0)⟩,
  ⟨none, .mov 4 (.const (.bool false))⟩]
def types_deep_r1 : List GO := [
  ⟨none, .mov 7 (.tmp 1)⟩,
  ⟨none, .bin 8 .lss 3 (.tmp 7) (.const (.int .i64 0))⟩]
def types_deep_r2 : List GO := [
  ⟨none, .mov 4 (.const (.bool false))⟩]
def types_deep_r3 : List GO := [
  ⟨none, .fld 9 (.tmp 2) 2⟩,
  ⟨none, .load1 10 (.tmp 9)⟩,
  ⟨none, .len 11 (.tmp 10)⟩,
  ⟨none, .mov 12 (.const (.int .i64 0))⟩]
def types_deep_r4 : List GO := [
  ⟨none, .bin 13 .lss 3 (.tmp 12) (.tmp 11)⟩]
def types_deep_r5 : List GO := [
  ⟨none, .idx 14 3 (.tmp 10) (.tmp 12)⟩,
  ⟨none, .loadn 15 3 (.tmp 14)⟩,
  ⟨none, .alloc 6 24 [(.int .i64 0), (.int .i64 0), (.slice none 0 0)]⟩,
  ⟨none, .storen 3 (.tmp 6) (.tmp 15)⟩]
def types_deep_r6 : List GO := [
  ⟨none, .loadn 16 3 (.tmp 6)⟩,
  ⟨none, .mov 17 (.tmp 1)⟩,
  ⟨none, .bin 18 .sub 3 (.tmp 17) (.const (.int .i64 1))⟩,
  ⟨none, .call (some 19) 18 [(.tmp 16), (.tmp 18)]⟩,
  ⟨none, .un 20 .not (.tmp 19)⟩]
def types_deep_r7 : List GO := [
  ⟨none, .mov 4 (.const (.bool false))⟩]
def types_deep_r8 : List GO := [
  ⟨none, .bin 21 .add 3 (.tmp 12) (.const (.int .i64 1))⟩,
  ⟨none, .mov 12 (.tmp 21)⟩]
def types_deep_b4 : LC := (.seq (.ops types_deep_r4) (.seq (.cond (.tmp 13) .skip (.exit 0)) (.seq (.block 1 (.seq (.ops types_deep_r5) (.seq (.ops types_deep_r6) (.cond (.tmp 20) (.seq (.ops types_deep_r7) .ret) .skip)))) (.ops types_deep_r8))))
def types_deep_r9 : List GO := [
  ⟨none, .mov 4 (.const (.bool true))⟩]
def types_deep_lc : LC := (.seq (.ops types_deep_r0) (.seq (.seq (.ops types_deep_r1) (.cond (.tmp 8) (.seq (.ops types_deep_r2) .ret) .skip)) (.seq (.seq (.ops types_deep_r3) (.block 0 (.loop types_deep_b4))) (.seq (.ops types_deep_r9) .ret))))
@[reducible] def types_deep : FuncId := 18
theorem types_deep_low : lowF Tryd.prog Tryd.f18 = some types_deep_lc := by kernel_rfl
theorem types_deep_in {a0 a1 : Value} {w : World} {R : Ending → World → Prop} (h : types_deep_lc.wp Tryd.prog (retQ Tryd.prog [.tmp 4] R) (argEnv [a0, a1]) w) : Calls Tryd.prog types_deep ⟨[a0, a1]⟩ w R :=
  calls_of_low Tryd.func18 types_deep_low (by kernel_rfl) (by kernel_rfl) h

/- 19 -/
def types_wrong_r0 : List GO := [
  ⟨none, .box 2 24 (.tmp 0)⟩,
  ⟨none, .mov 4 (.const (.int .i64 0))⟩]
def types_wrong_r1 : List GO := [
  ⟨none, .fld 8 (.tmp 2) 0⟩,
  ⟨none, .load1 9 (.tmp 8)⟩]
def types_wrong_r2 : List GO := [
  ⟨none, .bin 11 .eql 3 (.tmp 9) (.const (.int .i64 1))⟩,
  ⟨none, .mov 10 (.tmp 11)⟩]
def types_wrong_r3 : List GO := [
  ⟨none, .fld 12 (.tmp 2) 1⟩,
  ⟨none, .load1 13 (.tmp 12)⟩,
  ⟨none, .bin 14 .neq 3 (.tmp 13) (.const (.int .i64 0))⟩,
  ⟨none, .mov 15 (.tmp 14)⟩,
  ⟨some (15, false), .fld 16 (.tmp 2) 2⟩,
  ⟨some (15, false), .load1 17 (.tmp 16)⟩,
  ⟨some (15, false), .len 18 (.tmp 17)⟩,
  ⟨some (15, false), .bin 19 .gtr 3 (.tmp 18) (.const (.int .i64 0))⟩,
  ⟨none, .pick 20 (.tmp 15) (.const (.bool true)) (.tmp 19)⟩]
def types_wrong_r4 : List GO := [
  ⟨none, .mov 4 (.const (.int .i64 4))⟩]
def types_wrong_r5 : List GO := [
  ⟨none, .mov 4 (.const (.int .i64 0))⟩]
def types_wrong_r6 : List GO := [
  ⟨none, .bin 22 .eql 3 (.tmp 9) (.const (.int .i64 2))⟩,
  ⟨none, .mov 21 (.tmp 22)⟩]
def types_wrong_r7 : List GO := [
  ⟨none, .bin 23 .eql 3 (.tmp 9) (.const (.int .i64 4))⟩,
  ⟨none, .mov 21 (.tmp 23)⟩]
def types_wrong_r8 : List GO := [
  ⟨none, .fld 24 (.tmp 2) 2⟩,
  ⟨none, .load1 25 (.tmp 24)⟩,
  ⟨none, .len 26 (.tmp 25)⟩,
  ⟨none, .bin 27 .gtr 3 (.tmp 26) (.const (.int .i64 0))⟩]
def types_wrong_r9 : List GO := [
  ⟨none, .mov 4 (.const (.int .i64 4))⟩]
def types_wrong_r10 : List GO := [
  ⟨none, .bin 29 .eql 3 (.tmp 9) (.const (.int .i64 3))⟩,
  ⟨none, .mov 28 (.tmp 29)⟩]
def types_wrong_r11 : List GO := [
  ⟨none, .fld 30 (.tmp 2) 2⟩,
  ⟨none, .load1 31 (.tmp 30)⟩,
  ⟨none, .len 32 (.tmp 31)⟩,
  ⟨none, .bin 33 .gtr 3 (.tmp 32) (.const (.int .i64 8))⟩]
def types_wrong_r12 : List GO := [
  ⟨none, .mov 4 (.const (.int .i64 2))⟩]
def types_wrong_r13 : List GO := [
  ⟨none, .mov 4 (.const (.int .i64 3))⟩]
def types_wrong_r14 : List GO := [
  ⟨none, .fld 34 (.tmp 2) 1⟩,
  ⟨none, .load1 35 (.tmp 34)⟩,
  ⟨none, .bin 36 .lss 3 (.tmp 35) (.const (.int .i64 0))⟩,
  ⟨none, .mov 37 (.tmp 36)⟩,
  ⟨some (37, false), .fld 38 (.tmp 2) 1⟩,
  ⟨some (37, false), .load1 39 (.tmp 38)⟩,
  ⟨some (37, false), .mov 40 (.tmp 1)⟩,
  ⟨some (37, false), .bin 41 .geq 3 (.tmp 39) (.tmp 40)⟩,
  ⟨none, .pick 42 (.tmp 37) (.const (.bool true)) (.tmp 41)⟩]
def types_wrong_r15 : List GO := [
  ⟨none, .mov 4 (.const (.int .i64 1))⟩]
def types_wrong_r16 : List GO := [
  ⟨none, .fld 43 (.tmp 2) 2⟩,
  ⟨none, .load1 44 (.tmp 43)⟩,
  ⟨none, .len 45 (.tmp 44)⟩,
  ⟨none, .mov 46 (.const (.int .i64 0))⟩]
def types_wrong_r17 : List GO := [
  ⟨none, .bin 47 .lss 3 (.tmp 46) (.tmp 45)⟩]
def types_wrong_r18 : List GO := [
  ⟨none, .idx 48 3 (.tmp 44) (.tmp 46)⟩,
  ⟨none, .loadn 49 3 (.tmp 48)⟩,
  ⟨none, .alloc 6 24 [(.int .i64 0), (.int .i64 0), (.slice none 0 0)]⟩,
  ⟨none, .storen 3 (.tmp 6) (.tmp 49)⟩]
def types_wrong_r19 : List GO := [
  ⟨none, .loadn 50 3 (.tmp 6)⟩,
  ⟨none, .mov 51 (.tmp 1)⟩,
  ⟨none, .call (some 52) 19 [(.tmp 50), (.tmp 51)]⟩,
  ⟨none, .mov 7 (.tmp 52)⟩]
def types_wrong_r20 : List GO := [
  ⟨none, .mov 53 (.tmp 7)⟩,
  ⟨none, .bin 54 .neq 3 (.tmp 53) (.const (.int .i64 0))⟩]
def types_wrong_r21 : List GO := [
  ⟨none, .mov 55 (.tmp 7)⟩,
  ⟨none, .mov 4 (.tmp 55)⟩]
def types_wrong_r22 : List GO := [
  ⟨none, .bin 56 .add 3 (.tmp 46) (.const (.int .i64 1))⟩,
  ⟨none, .mov 46 (.tmp 56)⟩]
def types_wrong_b17 : LC := (.seq (.ops types_wrong_r17) (.seq (.cond (.tmp 47) .skip (.exit 1)) (.seq (.block 2 (.seq (.ops types_wrong_r18) (.seq (.ops types_wrong_r19) (.seq (.ops types_wrong_r20) (.cond (.tmp 54) (.seq (.ops types_wrong_r21) .ret) .skip))))) (.ops types_wrong_r22))))
def types_wrong_r23 : List GO := [
  ⟨none, .mov 4 (.const (.int .i64 0))⟩]
def types_wrong_lc : LC := (.seq (.ops types_wrong_r0) (.seq (.seq (.ops types_wrong_r1) (.block 0 (.seq (.ops types_wrong_r2) (.cond (.tmp 10) (.seq (.seq (.ops types_wrong_r3) (.cond (.tmp 20) (.seq (.ops types_wrong_r4) .ret) .skip)) (.seq (.ops types_wrong_r5) .ret)) (.seq (.seq (.ops types_wrong_r6) (.cond (.tmp 21) .skip (.ops types_wrong_r7))) (.cond (.tmp 21) (.seq (.ops types_wrong_r8) (.cond (.tmp 27) (.seq (.ops types_wrong_r9) .ret) .skip)) (.seq (.ops types_wrong_r10) (.cond (.tmp 28) (.seq (.ops types_wrong_r11) (.cond (.tmp 33) (.seq (.ops types_wrong_r12) .ret) .skip)) (.seq (.ops types_wrong_r13) .ret))))))))) (.seq (.seq (.ops types_wrong_r14) (.cond (.tmp 42) (.seq (.ops types_wrong_r15) .ret) .skip)) (.seq (.seq (.ops types_wrong_r16) (.block 1 (.loop types_wrong_b17))) (.seq (.ops types_wrong_r23) .ret)))))
@[reducible] def types_wrong : FuncId := 19
theorem types_wrong_low : lowF Tryd.prog Tryd.f19 = some types_wrong_lc := by kernel_rfl
theorem types_wrong_in {a0 a1 : Value} {w : World} {R : Ending → World → Prop} (h : types_wrong_lc.wp Tryd.prog (retQ Tryd.prog [.tmp 4] R) (argEnv [a0, a1]) w) : Calls Tryd.prog types_wrong ⟨[a0, a1]⟩ w R :=
  calls_of_low Tryd.func19 types_wrong_low (by kernel_rfl) (by kernel_rfl) h

/- 20 -/
def R_DeepOf_r0 : List GO := [
  ⟨none, .box 2 24 (.tmp 0)⟩,
  ⟨none, .mov 4 (.const (.int .i64 0))⟩]
def R_DeepOf_r1 : List GO := [
  ⟨none, .mov 5 (.const (.int .i64 0))⟩]
def R_DeepOf_r2 : List GO := [
  ⟨none, .mov 6 (.const (.int .i64 0))⟩]
def R_DeepOf_r3 : List GO := [
  ⟨none, .mov 8 (.tmp 6)⟩,
  ⟨none, .fld 9 (.tmp 2) 2⟩,
  ⟨none, .load1 10 (.tmp 9)⟩,
  ⟨none, .len 11 (.tmp 10)⟩,
  ⟨none, .bin 12 .lss 3 (.tmp 8) (.tmp 11)⟩,
  ⟨none, .mov 13 (.tmp 12)⟩,
  ⟨some (13, true), .mov 14 (.tmp 5)⟩,
  ⟨some (13, true), .mov 15 (.tmp 1)⟩,
  ⟨some (13, true), .bin 16 .leq 3 (.tmp 14) (.tmp 15)⟩,
  ⟨none, .pick 17 (.tmp 13) (.tmp 16) (.const (.bool false))⟩]
def R_DeepOf_r4 : List GO := [
  ⟨none, .mov 20 (.tmp 1)⟩,
  ⟨none, .bin 21 .eql 3 (.tmp 20) (.const (.int .i64 0))⟩]
def R_DeepOf_r5 : List GO := [
  ⟨none, .mov 4 (.const (.int .i64 1))⟩]
def R_DeepOf_r6 : List GO := [
  ⟨none, .fld 22 (.tmp 2) 2⟩,
  ⟨none, .load1 23 (.tmp 22)⟩,
  ⟨none, .mov 24 (.tmp 6)⟩,
  ⟨none, .idx 25 3 (.tmp 23) (.tmp 24)⟩,
  ⟨none, .loadn 26 3 (.tmp 25)⟩,
  ⟨none, .mov 27 (.tmp 1)⟩,
  ⟨none, .bin 28 .sub 3 (.tmp 27) (.const (.int .i64 1))⟩,
  ⟨none, .call (some 29) 20 [(.tmp 26), (.tmp 28)]⟩,
  ⟨none, .bin 30 .add 3 (.const (.int .i64 1)) (.tmp 29)⟩,
  ⟨none, .mov 7 (.tmp 30)⟩]
def R_DeepOf_r7 : List GO := [
  ⟨none, .mov 31 (.tmp 7)⟩,
  ⟨none, .mov 32 (.tmp 5)⟩,
  ⟨none, .bin 33 .gtr 3 (.tmp 31) (.tmp 32)⟩]
def R_DeepOf_r8 : List GO := [
  ⟨none, .mov 34 (.tmp 7)⟩,
  ⟨none, .mov 5 (.tmp 34)⟩]
def R_DeepOf_r9 : List GO := [
  ⟨none, .mov 18 (.tmp 6)⟩,
  ⟨none, .bin 19 .add 3 (.tmp 18) (.const (.int .i64 1))⟩,
  ⟨none, .mov 6 (.tmp 19)⟩]
def R_DeepOf_b3 : LC := (.seq (.seq (.ops R_DeepOf_r3) (.cond (.tmp 17) .skip (.exit 0))) (.seq (.block 1 (.seq (.seq (.ops R_DeepOf_r4) (.cond (.tmp 21) (.seq (.ops R_DeepOf_r5) .ret) .skip)) (.seq (.ops R_DeepOf_r6) (.seq (.ops R_DeepOf_r7) (.cond (.tmp 33) (.ops R_DeepOf_r8) .skip))))) (.ops R_DeepOf_r9)))
def R_DeepOf_r10 : List GO := [
  ⟨none, .mov 35 (.tmp 5)⟩,
  ⟨none, .mov 4 (.tmp 35)⟩]
def R_DeepOf_lc : LC := (.seq (.ops R_DeepOf_r0) (.seq (.ops R_DeepOf_r1) (.seq (.seq (.ops R_DeepOf_r2) (.block 0 (.loop R_DeepOf_b3))) (.seq (.ops R_DeepOf_r10) .ret))))
@[reducible] def R_DeepOf : FuncId := 20
theorem R_DeepOf_low : lowF Tryd.prog Tryd.f20 = some R_DeepOf_lc := by kernel_rfl
theorem R_DeepOf_in {a0 a1 : Value} {w : World} {R : Ending → World → Prop} (h : R_DeepOf_lc.wp Tryd.prog (retQ Tryd.prog [.tmp 4] R) (argEnv [a0, a1]) w) : Calls Tryd.prog R_DeepOf ⟨[a0, a1]⟩ w R :=
  calls_of_low Tryd.func20 R_DeepOf_low (by kernel_rfl) (by kernel_rfl) h

/- 21 -/
def R_typeFault_r0 : List GO := [
  ⟨none, .box 2 24 (.tmp 0)⟩,
  ⟨none, .mov 4 (.const (.int .i64 0))⟩]
def R_typeFault_r1 : List GO := [
  ⟨none, .fld 7 (.tmp 2) 0⟩,
  ⟨none, .load1 8 (.tmp 7)⟩,
  ⟨none, .bin 9 .lss 3 (.tmp 8) (.const (.int .i64 1))⟩,
  ⟨none, .mov 10 (.tmp 9)⟩,
  ⟨some (10, false), .fld 11 (.tmp 2) 0⟩,
  ⟨some (10, false), .load1 12 (.tmp 11)⟩,
  ⟨some (10, false), .bin 13 .gtr 3 (.tmp 12) (.const (.int .i64 4))⟩,
  ⟨none, .pick 14 (.tmp 10) (.const (.bool true)) (.tmp 13)⟩]
def R_typeFault_r2 : List GO := [
  ⟨none, .mov 4 (.const (.int .i64 3))⟩]
def R_typeFault_r3 : List GO := [
  ⟨none, .fld 15 (.tmp 2) 0⟩,
  ⟨none, .load1 16 (.tmp 15)⟩,
  ⟨none, .bin 17 .eql 3 (.tmp 16) (.const (.int .i64 1))⟩,
  ⟨none, .mov 18 (.tmp 17)⟩,
  ⟨some (18, true), .fld 19 (.tmp 2) 1⟩,
  ⟨some (18, true), .load1 20 (.tmp 19)⟩,
  ⟨some (18, true), .bin 21 .neq 3 (.tmp 20) (.const (.int .i64 0))⟩,
  ⟨none, .pick 22 (.tmp 18) (.tmp 21) (.const (.bool false))⟩,
  ⟨none, .mov 23 (.tmp 22)⟩,
  ⟨some (23, false), .fld 24 (.tmp 2) 0⟩,
  ⟨some (23, false), .load1 25 (.tmp 24)⟩,
  ⟨some (23, false), .bin 26 .neq 3 (.tmp 25) (.const (.int .i64 3))⟩,
  ⟨some (23, false), .mov 27 (.tmp 26)⟩,
  ⟨some (27, true), .fld 28 (.tmp 2) 2⟩,
  ⟨some (27, true), .load1 29 (.tmp 28)⟩,
  ⟨some (27, true), .len 30 (.tmp 29)⟩,
  ⟨some (27, true), .bin 31 .gtr 3 (.tmp 30) (.const (.int .i64 0))⟩,
  ⟨some (23, false), .pick 32 (.tmp 27) (.tmp 31) (.const (.bool false))⟩,
  ⟨none, .pick 33 (.tmp 23) (.const (.bool true)) (.tmp 32)⟩]
def R_typeFault_r4 : List GO := [
  ⟨none, .mov 4 (.const (.int .i64 4))⟩]
def R_typeFault_r5 : List GO := [
  ⟨none, .fld 34 (.tmp 2) 2⟩,
  ⟨none, .load1 35 (.tmp 34)⟩,
  ⟨none, .len 36 (.tmp 35)⟩,
  ⟨none, .bin 37 .gtr 3 (.tmp 36) (.const (.int .i64 8))⟩]
def R_typeFault_r6 : List GO := [
  ⟨none, .mov 4 (.const (.int .i64 2))⟩]
def R_typeFault_r7 : List GO := [
  ⟨none, .fld 38 (.tmp 2) 0⟩,
  ⟨none, .load1 39 (.tmp 38)⟩,
  ⟨none, .bin 40 .neq 3 (.tmp 39) (.const (.int .i64 1))⟩,
  ⟨none, .mov 41 (.tmp 40)⟩,
  ⟨some (41, true), .fld 42 (.tmp 2) 1⟩,
  ⟨some (41, true), .load1 43 (.tmp 42)⟩,
  ⟨some (41, true), .bin 44 .lss 3 (.tmp 43) (.const (.int .i64 0))⟩,
  ⟨some (41, true), .mov 45 (.tmp 44)⟩,
  ⟨some (45, false), .fld 46 (.tmp 2) 1⟩,
  ⟨some (45, false), .load1 47 (.tmp 46)⟩,
  ⟨some (45, false), .mov 48 (.tmp 1)⟩,
  ⟨some (45, false), .bin 49 .geq 3 (.tmp 47) (.tmp 48)⟩,
  ⟨some (41, true), .pick 50 (.tmp 45) (.const (.bool true)) (.tmp 49)⟩,
  ⟨none, .pick 51 (.tmp 41) (.tmp 50) (.const (.bool false))⟩]
def R_typeFault_r8 : List GO := [
  ⟨none, .mov 4 (.const (.int .i64 1))⟩]
def R_typeFault_r9 : List GO := [
  ⟨none, .mov 5 (.const (.int .i64 0))⟩]
def R_typeFault_r10 : List GO := [
  ⟨none, .mov 52 (.tmp 5)⟩,
  ⟨none, .fld 53 (.tmp 2) 2⟩,
  ⟨none, .load1 54 (.tmp 53)⟩,
  ⟨none, .len 55 (.tmp 54)⟩,
  ⟨none, .bin 56 .lss 3 (.tmp 52) (.tmp 55)⟩]
def R_typeFault_r11 : List GO := [
  ⟨none, .fld 59 (.tmp 2) 2⟩,
  ⟨none, .load1 60 (.tmp 59)⟩,
  ⟨none, .mov 61 (.tmp 5)⟩,
  ⟨none, .idx 62 3 (.tmp 60) (.tmp 61)⟩,
  ⟨none, .loadn 63 3 (.tmp 62)⟩,
  ⟨none, .mov 64 (.tmp 1)⟩,
  ⟨none, .call (some 65) 21 [(.tmp 63), (.tmp 64)]⟩,
  ⟨none, .mov 6 (.tmp 65)⟩]
def R_typeFault_r12 : List GO := [
  ⟨none, .mov 66 (.tmp 6)⟩,
  ⟨none, .bin 67 .neq 3 (.tmp 66) (.const (.int .i64 0))⟩]
def R_typeFault_r13 : List GO := [
  ⟨none, .mov 68 (.tmp 6)⟩,
  ⟨none, .mov 4 (.tmp 68)⟩]
def R_typeFault_r14 : List GO := [
  ⟨none, .mov 57 (.tmp 5)⟩,
  ⟨none, .bin 58 .add 3 (.tmp 57) (.const (.int .i64 1))⟩,
  ⟨none, .mov 5 (.tmp 58)⟩]
def R_typeFault_b10 : LC := (.seq (.seq (.ops R_typeFault_r10) (.cond (.tmp 56) .skip (.exit 0))) (.seq (.block 1 (.seq (.ops R_typeFault_r11) (.seq (.ops R_typeFault_r12) (.cond (.tmp 67) (.seq (.ops R_typeFault_r13) .ret) .skip)))) (.ops R_typeFault_r14)))
def R_typeFault_r15 : List GO := [
  ⟨none, .mov 4 (.const (.int .i64 0))⟩]
def R_typeFault_lc : LC := (.seq (.ops R_typeFault_r0) (.seq (.seq (.ops R_typeFault_r1) (.cond (.tmp 14) (.seq (.ops R_typeFault_r2) .ret) .skip)) (.seq (.seq (.ops R_typeFault_r3) (.cond (.tmp 33) (.seq (.ops R_typeFault_r4) .ret) .skip)) (.seq (.seq (.ops R_typeFault_r5) (.cond (.tmp 37) (.seq (.ops R_typeFault_r6) .ret) .skip)) (.seq (.seq (.ops R_typeFault_r7) (.cond (.tmp 51) (.seq (.ops R_typeFault_r8) .ret) .skip)) (.seq (.seq (.ops R_typeFault_r9) (.block 0 (.loop R_typeFault_b10))) (.seq (.ops R_typeFault_r15) .ret)))))))
@[reducible] def R_typeFault : FuncId := 21
theorem R_typeFault_low : lowF Tryd.prog Tryd.f21 = some R_typeFault_lc := by kernel_rfl
theorem R_typeFault_in {a0 a1 : Value} {w : World} {R : Ending → World → Prop} (h : R_typeFault_lc.wp Tryd.prog (retQ Tryd.prog [.tmp 4] R) (argEnv [a0, a1]) w) : Calls Tryd.prog R_typeFault ⟨[a0, a1]⟩ w R :=
  calls_of_low Tryd.func21 R_typeFault_low (by kernel_rfl) (by kernel_rfl) h

/- 22 -/
def slices_EqualFunc_api_Type_api_Type_api_Type_api_Type_r0 : List GO := [
  ⟨none, .mov 6 (.const (.bool false))⟩]
def slices_EqualFunc_api_Type_api_Type_api_Type_api_Type_r1 : List GO := [
  ⟨none, .mov 10 (.tmp 0)⟩,
  ⟨none, .len 11 (.tmp 10)⟩,
  ⟨none, .mov 12 (.tmp 1)⟩,
  ⟨none, .len 13 (.tmp 12)⟩,
  ⟨none, .bin 14 .neq 3 (.tmp 11) (.tmp 13)⟩]
def slices_EqualFunc_api_Type_api_Type_api_Type_api_Type_r2 : List GO := [
  ⟨none, .mov 6 (.const (.bool false))⟩]
def slices_EqualFunc_api_Type_api_Type_api_Type_api_Type_r3 : List GO := [
  ⟨none, .mov 15 (.tmp 0)⟩,
  ⟨none, .len 16 (.tmp 15)⟩,
  ⟨none, .mov 17 (.const (.int .i64 0))⟩]
def slices_EqualFunc_api_Type_api_Type_api_Type_api_Type_r4 : List GO := [
  ⟨none, .bin 18 .lss 3 (.tmp 17) (.tmp 16)⟩]
def slices_EqualFunc_api_Type_api_Type_api_Type_api_Type_r5 : List GO := [
  ⟨none, .mov 19 (.tmp 17)⟩,
  ⟨none, .idx 20 3 (.tmp 15) (.tmp 17)⟩,
  ⟨none, .loadn 21 3 (.tmp 20)⟩,
  ⟨none, .alloc 8 24 [(.int .i64 0), (.int .i64 0), (.slice none 0 0)]⟩,
  ⟨none, .mov 7 (.tmp 19)⟩,
  ⟨none, .storen 3 (.tmp 8) (.tmp 21)⟩]
def slices_EqualFunc_api_Type_api_Type_api_Type_api_Type_r6 : List GO := [
  ⟨none, .mov 22 (.tmp 1)⟩,
  ⟨none, .mov 23 (.tmp 7)⟩,
  ⟨none, .idx 24 3 (.tmp 22) (.tmp 23)⟩,
  ⟨none, .loadn 25 3 (.tmp 24)⟩,
  ⟨none, .alloc 9 24 [(.int .i64 0), (.int .i64 0), (.slice none 0 0)]⟩,
  ⟨none, .storen 3 (.tmp 9) (.tmp 25)⟩]
def slices_EqualFunc_api_Type_api_Type_api_Type_api_Type_r7 : List GO := [
  ⟨none, .mov 26 (.tmp 2)⟩,
  ⟨none, .loadn 27 3 (.tmp 8)⟩,
  ⟨none, .loadn 28 3 (.tmp 9)⟩,
  ⟨none, .callv (some 29) (.tmp 26) [(.tmp 27), (.tmp 28)]⟩,
  ⟨none, .un 30 .not (.tmp 29)⟩]
def slices_EqualFunc_api_Type_api_Type_api_Type_api_Type_r8 : List GO := [
  ⟨none, .mov 6 (.const (.bool false))⟩]
def slices_EqualFunc_api_Type_api_Type_api_Type_api_Type_r9 : List GO := [
  ⟨none, .bin 31 .add 3 (.tmp 17) (.const (.int .i64 1))⟩,
  ⟨none, .mov 17 (.tmp 31)⟩]
def slices_EqualFunc_api_Type_api_Type_api_Type_api_Type_b4 : LC := (.seq (.ops slices_EqualFunc_api_Type_api_Type_api_Type_api_Type_r4) (.seq (.cond (.tmp 18) .skip (.exit 0)) (.seq (.block 1 (.seq (.ops slices_EqualFunc_api_Type_api_Type_api_Type_api_Type_r5) (.seq (.ops slices_EqualFunc_api_Type_api_Type_api_Type_api_Type_r6) (.seq (.ops slices_EqualFunc_api_Type_api_Type_api_Type_api_Type_r7) (.cond (.tmp 30) (.seq (.ops slices_EqualFunc_api_Type_api_Type_api_Type_api_Type_r8) .ret) .skip))))) (.ops slices_EqualFunc_api_Type_api_Type_api_Type_api_Type_r9))))
def slices_EqualFunc_api_Type_api_Type_api_Type_api_Type_r10 : List GO := [
  ⟨none, .mov 6 (.const (.bool true))⟩]
def slices_EqualFunc_api_Type_api_Type_api_Type_api_Type_lc : LC := (.seq (.ops slices_EqualFunc_api_Type_api_Type_api_Type_api_Type_r0) (.seq (.seq (.ops slices_EqualFunc_api_Type_api_Type_api_Type_api_Type_r1) (.cond (.tmp 14) (.seq (.ops slices_EqualFunc_api_Type_api_Type_api_Type_api_Type_r2) .ret) .skip)) (.seq (.seq (.ops slices_EqualFunc_api_Type_api_Type_api_Type_api_Type_r3) (.block 0 (.loop slices_EqualFunc_api_Type_api_Type_api_Type_api_Type_b4))) (.seq (.ops slices_EqualFunc_api_Type_api_Type_api_Type_api_Type_r10) .ret))))
@[reducible] def slices_EqualFunc_api_Type_api_Type_api_Type_api_Type : FuncId := 22
theorem slices_EqualFunc_api_Type_api_Type_api_Type_api_Type_low : lowF Tryd.prog Tryd.f22 = some slices_EqualFunc_api_Type_api_Type_api_Type_api_Type_lc := by kernel_rfl
theorem slices_EqualFunc_api_Type_api_Type_api_Type_api_Type_in {a0 a1 a2 : Value} {w : World} {R : Ending → World → Prop} (h : slices_EqualFunc_api_Type_api_Type_api_Type_api_Type_lc.wp Tryd.prog (retQ Tryd.prog [.tmp 6] R) (argEnv [a0, a1, a2]) w) : Calls Tryd.prog slices_EqualFunc_api_Type_api_Type_api_Type_api_Type ⟨[a0, a1, a2]⟩ w R :=
  calls_of_low Tryd.func22 slices_EqualFunc_api_Type_api_Type_api_Type_api_Type_low (by kernel_rfl) (by kernel_rfl) h

/- 23 -/
def R_SameTypes_r0 : List GO := [
  ⟨none, .mov 4 (.const (.bool false))⟩]
def R_SameTypes_r1 : List GO := [
  ⟨none, .mov 6 (.tmp 0)⟩,
  ⟨none, .len 7 (.tmp 6)⟩,
  ⟨none, .mov 8 (.tmp 1)⟩,
  ⟨none, .len 9 (.tmp 8)⟩,
  ⟨none, .bin 10 .neq 3 (.tmp 7) (.tmp 9)⟩]
def R_SameTypes_r2 : List GO := [
  ⟨none, .mov 4 (.const (.bool false))⟩]
def R_SameTypes_r3 : List GO := [
  ⟨none, .mov 5 (.const (.int .i64 0))⟩]
def R_SameTypes_r4 : List GO := [
  ⟨none, .mov 11 (.tmp 5)⟩,
  ⟨none, .mov 12 (.tmp 0)⟩,
  ⟨none, .len 13 (.tmp 12)⟩,
  ⟨none, .bin 14 .lss 3 (.tmp 11) (.tmp 13)⟩]
def R_SameTypes_r5 : List GO := [
  ⟨none, .mov 17 (.tmp 0)⟩,
  ⟨none, .mov 18 (.tmp 5)⟩,
  ⟨none, .idx 19 3 (.tmp 17) (.tmp 18)⟩,
  ⟨none, .loadn 20 3 (.tmp 19)⟩,
  ⟨none, .mov 21 (.tmp 1)⟩,
  ⟨none, .mov 22 (.tmp 5)⟩,
  ⟨none, .idx 23 3 (.tmp 21) (.tmp 22)⟩,
  ⟨none, .loadn 24 3 (.tmp 23)⟩,
  ⟨none, .call (some 25) 13 [(.tmp 20), (.tmp 24)]⟩,
  ⟨none, .un 26 .not (.tmp 25)⟩]
def R_SameTypes_e5 : List (List Nat) := [[], [], [0, 1], [2], [], [], [4, 5], [6], [3, 7], [8]]
def R_SameTypes_r6 : List GO := [
  ⟨none, .mov 4 (.const (.bool false))⟩]
def R_SameTypes_r7 : List GO := [
  ⟨none, .mov 15 (.tmp 5)⟩,
  ⟨none, .bin 16 .add 3 (.tmp 15) (.const (.int .i64 1))⟩,
  ⟨none, .mov 5 (.tmp 16)⟩]
def R_SameTypes_b4 : LC := (.seq (.seq (.ops R_SameTypes_r4) (.cond (.tmp 14) .skip (.exit 0))) (.seq (.block 1 (.seq (.draw R_SameTypes_r5 R_SameTypes_e5) (.cond (.tmp 26) (.seq (.ops R_SameTypes_r6) .ret) .skip))) (.ops R_SameTypes_r7)))
def R_SameTypes_r8 : List GO := [
  ⟨none, .mov 4 (.const (.bool true))⟩]
def R_SameTypes_lc : LC := (.seq (.ops R_SameTypes_r0) (.seq (.seq (.ops R_SameTypes_r1) (.cond (.tmp 10) (.seq (.ops R_SameTypes_r2) .ret) .skip)) (.seq (.seq (.ops R_SameTypes_r3) (.block 0 (.loop R_SameTypes_b4))) (.seq (.ops R_SameTypes_r8) .ret))))
@[reducible] def R_SameTypes : FuncId := 23
theorem R_SameTypes_low : lowF Tryd.prog Tryd.f23 = some R_SameTypes_lc := by kernel_rfl
theorem R_SameTypes_in {a0 a1 : Value} {w : World} {R : Ending → World → Prop} (h : R_SameTypes_lc.wp Tryd.prog (retQ Tryd.prog [.tmp 4] R) (argEnv [a0, a1]) w) : Calls Tryd.prog R_SameTypes ⟨[a0, a1]⟩ w R :=
  calls_of_low Tryd.func23 R_SameTypes_low (by kernel_rfl) (by kernel_rfl) h

/- 26 -/
def R_typesText_r0 : List GO := [
  ⟨none, .mov 2 (.const (.string ⟨#[]⟩))⟩]
def R_typesText_r1 : List GO := [
  ⟨none, .mov 3 (.const (.string ⟨#[40]⟩))⟩]
def R_typesText_r2 : List GO := [
  ⟨none, .mov 4 (.const (.int .i64 0))⟩]
def R_typesText_r3 : List GO := [
  ⟨none, .mov 5 (.tmp 4)⟩,
  ⟨none, .mov 6 (.tmp 0)⟩,
  ⟨none, .len 7 (.tmp 6)⟩,
  ⟨none, .bin 8 .lss 3 (.tmp 5) (.tmp 7)⟩]
def R_typesText_r4 : List GO := [
  ⟨none, .mov 11 (.tmp 4)⟩,
  ⟨none, .bin 12 .gtr 3 (.tmp 11) (.const (.int .i64 0))⟩]
def R_typesText_r5 : List GO := [
  ⟨none, .mov 13 (.tmp 3)⟩,
  ⟨none, .bin 14 .add 9 (.tmp 13) (.const (.string ⟨#[44, 32]⟩))⟩,
  ⟨none, .mov 3 (.tmp 14)⟩]
def R_typesText_r6 : List GO := [
  ⟨none, .mov 15 (.tmp 3)⟩,
  ⟨none, .mov 16 (.tmp 0)⟩,
  ⟨none, .mov 17 (.tmp 4)⟩,
  ⟨none, .idx 18 3 (.tmp 16) (.tmp 17)⟩,
  ⟨none, .loadn 19 3 (.tmp 18)⟩,
  ⟨none, .call (some 20) 15 [(.tmp 19)]⟩,
  ⟨none, .bin 21 .add 9 (.tmp 15) (.tmp 20)⟩,
  ⟨none, .mov 3 (.tmp 21)⟩]
def R_typesText_r7 : List GO := [
  ⟨none, .mov 9 (.tmp 4)⟩,
  ⟨none, .bin 10 .add 3 (.tmp 9) (.const (.int .i64 1))⟩,
  ⟨none, .mov 4 (.tmp 10)⟩]
def R_typesText_b3 : LC := (.seq (.seq (.ops R_typesText_r3) (.cond (.tmp 8) .skip (.exit 0))) (.seq (.block 1 (.seq (.seq (.ops R_typesText_r4) (.cond (.tmp 12) (.ops R_typesText_r5) .skip)) (.ops R_typesText_r6))) (.ops R_typesText_r7)))
def R_typesText_r8 : List GO := [
  ⟨none, .mov 22 (.tmp 3)⟩,
  ⟨none, .bin 23 .add 9 (.tmp 22) (.const (.string ⟨#[41]⟩))⟩,
  ⟨none, .mov 2 (.tmp 23)⟩]
def R_typesText_lc : LC := (.seq (.ops R_typesText_r0) (.seq (.ops R_typesText_r1) (.seq (.seq (.ops R_typesText_r2) (.block 0 (.loop R_typesText_b3))) (.seq (.ops R_typesText_r8) .ret))))
@[reducible] def R_typesText : FuncId := 26
theorem R_typesText_low : lowF Tryd.prog Tryd.f26 = some R_typesText_lc := by kernel_rfl
theorem R_typesText_in {a0 : Value} {w : World} {R : Ending → World → Prop} (h : R_typesText_lc.wp Tryd.prog (retQ Tryd.prog [.tmp 2] R) (argEnv [a0]) w) : Calls Tryd.prog R_typesText ⟨[a0]⟩ w R :=
  calls_of_low Tryd.func26 R_typesText_low (by kernel_rfl) (by kernel_rfl) h

end Go.Proofs.YtanlkfeogoganaaDoor