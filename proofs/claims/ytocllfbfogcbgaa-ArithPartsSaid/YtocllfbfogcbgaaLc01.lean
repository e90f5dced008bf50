/- The functions, lowered: printed by a program off the translation. -/
import Derived.Test.YtocllfbfogcbgaaProg
import Derived.Test.YtocllfbfogcbgaaLirStep
namespace Go.Proofs.Ytocllfbfogcbgaa
open Go.Lir

/- 3 -/
def Law_ArithOps_r0 : List GO := [
  ⟨none, .mov 6 (.const (.bool false))⟩]
def Law_ArithOps_r1 : List GO := [
  ⟨none, .call (some 11) 14 []⟩,
  ⟨none, .un 12 .not (.tmp 11)⟩]
def Law_ArithOps_r2 : List GO := [
  ⟨none, .mov 6 (.const (.bool false))⟩]
def Law_ArithOps_r3 : List GO := [
  ⟨none, .mov 14 (.tmp 0)⟩,
  ⟨none, .mov 15 (.tmp 1)⟩,
  ⟨none, .mov 16 (.tmp 2)⟩,
  ⟨none, .call (some 17) 15 [(.tmp 14), (.tmp 15), (.tmp 16)]⟩,
  ⟨none, .mov 13 (.tmp 17)⟩,
  ⟨none, .ext 18 (.tmp 13) 0⟩,
  ⟨none, .ext 19 (.tmp 13) 1⟩,
  ⟨none, .mov 7 (.tmp 18)⟩,
  ⟨none, .mov 8 (.tmp 19)⟩]
def Law_ArithOps_r4 : List GO := [
  ⟨none, .mov 21 (.tmp 0)⟩,
  ⟨none, .mov 22 (.tmp 1)⟩,
  ⟨none, .mov 23 (.tmp 2)⟩,
  ⟨none, .call (some 24) 16 [(.tmp 21), (.tmp 22), (.tmp 23)]⟩,
  ⟨none, .mov 20 (.tmp 24)⟩,
  ⟨none, .ext 25 (.tmp 20) 0⟩,
  ⟨none, .ext 26 (.tmp 20) 1⟩,
  ⟨none, .mov 9 (.tmp 25)⟩,
  ⟨none, .mov 10 (.tmp 26)⟩]
def Law_ArithOps_r5 : List GO := [
  ⟨none, .mov 27 (.tmp 8)⟩,
  ⟨none, .mov 28 (.tmp 10)⟩,
  ⟨none, .bin 29 .eql 4 (.tmp 27) (.tmp 28)⟩,
  ⟨none, .mov 30 (.tmp 29)⟩,
  ⟨some (30, true), .mov 31 (.tmp 7)⟩,
  ⟨some (30, true), .mov 32 (.tmp 9)⟩,
  ⟨some (30, true), .bin 33 .eql 2 (.tmp 31) (.tmp 32)⟩,
  ⟨none, .pick 34 (.tmp 30) (.tmp 33) (.const (.bool false))⟩,
  ⟨none, .mov 6 (.tmp 34)⟩]
def Law_ArithOps_lc : LC := (.seq (.ops Law_ArithOps_r0) (.seq (.seq (.ops Law_ArithOps_r1) (.cond (.tmp 12) (.seq (.ops Law_ArithOps_r2) .ret) .skip)) (.seq (.ops Law_ArithOps_r3) (.seq (.ops Law_ArithOps_r4) (.seq (.ops Law_ArithOps_r5) .ret)))))
@[reducible] def Law_ArithOps : FuncId := 3
theorem Law_ArithOps_low : lowF Try.prog Try.f3 = some Law_ArithOps_lc := by kernel_rfl
theorem Law_ArithOps_in {a0 a1 a2 : Value} {w : World} {R : Ending → World → Prop} (h : Law_ArithOps_lc.wp Try.prog (retQ Try.prog [.tmp 6] R) (argEnv [a0, a1, a2]) w) : Calls Try.prog Law_ArithOps ⟨[a0, a1, a2]⟩ w R :=
  calls_of_low Try.func3 Law_ArithOps_low (by kernel_rfl) (by kernel_rfl) h

/- 4 -/
def Law_ArithParts_r0 : List GO := [
  ⟨none, .mov 4 (.const (.bool false))⟩]
def Law_ArithParts_r1 : List GO := [
  ⟨none, .call (some 21) 14 []⟩,
  ⟨none, .un 22 .not (.tmp 21)⟩]
def Law_ArithParts_r2 : List GO := [
  ⟨none, .mov 4 (.const (.bool false))⟩]
def Law_ArithParts_r3 : List GO := [
  ⟨none, .mov 24 (.tmp 0)⟩,
  ⟨none, .mov 25 (.tmp 1)⟩,
  ⟨none, .call (some 26) 15 [(.const (.int .i64 6)), (.tmp 24), (.tmp 25)]⟩,
  ⟨none, .mov 23 (.tmp 26)⟩,
  ⟨none, .ext 27 (.tmp 23) 0⟩,
  ⟨none, .ext 28 (.tmp 23) 1⟩,
  ⟨none, .mov 5 (.tmp 27)⟩,
  ⟨none, .mov 6 (.tmp 28)⟩]
def Law_ArithParts_r4 : List GO := [
  ⟨none, .mov 30 (.tmp 1)⟩,
  ⟨none, .mov 31 (.tmp 0)⟩,
  ⟨none, .call (some 32) 15 [(.const (.int .i64 6)), (.tmp 30), (.tmp 31)]⟩,
  ⟨none, .mov 29 (.tmp 32)⟩,
  ⟨none, .ext 33 (.tmp 29) 0⟩,
  ⟨none, .ext 34 (.tmp 29) 1⟩,
  ⟨none, .mov 7 (.tmp 33)⟩,
  ⟨none, .mov 8 (.tmp 34)⟩]
def Law_ArithParts_r5 : List GO := [
  ⟨none, .mov 36 (.tmp 0)⟩,
  ⟨none, .mov 37 (.tmp 1)⟩,
  ⟨none, .call (some 38) 15 [(.const (.int .i64 7)), (.tmp 36), (.tmp 37)]⟩,
  ⟨none, .mov 35 (.tmp 38)⟩,
  ⟨none, .ext 39 (.tmp 35) 0⟩,
  ⟨none, .ext 40 (.tmp 35) 1⟩,
  ⟨none, .mov 9 (.tmp 39)⟩,
  ⟨none, .mov 10 (.tmp 40)⟩]
def Law_ArithParts_r6 : List GO := [
  ⟨none, .mov 41 (.tmp 5)⟩,
  ⟨none, .mov 42 (.tmp 7)⟩,
  ⟨none, .bin 43 .add 2 (.tmp 41) (.tmp 42)⟩,
  ⟨none, .mov 44 (.tmp 9)⟩,
  ⟨none, .bin 45 .add 2 (.tmp 43) (.tmp 44)⟩,
  ⟨none, .bin 46 .neq 2 (.tmp 45) (.const (.int .i64 1))⟩,
  ⟨none, .mov 47 (.tmp 46)⟩,
  ⟨some (47, false), .mov 48 (.tmp 5)⟩,
  ⟨some (47, false), .bin 49 .lss 2 (.tmp 48) (.const (.int .i64 0))⟩,
  ⟨none, .pick 50 (.tmp 47) (.const (.bool true)) (.tmp 49)⟩,
  ⟨none, .mov 51 (.tmp 50)⟩,
  ⟨some (51, false), .mov 52 (.tmp 7)⟩,
  ⟨some (51, false), .bin 53 .lss 2 (.tmp 52) (.const (.int .i64 0))⟩,
  ⟨none, .pick 54 (.tmp 51) (.const (.bool true)) (.tmp 53)⟩,
  ⟨none, .mov 55 (.tmp 54)⟩,
  ⟨some (55, false), .mov 56 (.tmp 9)⟩,
  ⟨some (55, false), .bin 57 .lss 2 (.tmp 56) (.const (.int .i64 0))⟩,
  ⟨none, .pick 58 (.tmp 55) (.const (.bool true)) (.tmp 57)⟩]
def Law_ArithParts_r7 : List GO := [
  ⟨none, .mov 4 (.const (.bool false))⟩]
def Law_ArithParts_r8 : List GO := [
  ⟨none, .mov 60 (.tmp 0)⟩,
  ⟨none, .mov 61 (.tmp 1)⟩,
  ⟨none, .call (some 62) 15 [(.const (.int .i64 4)), (.tmp 60), (.tmp 61)]⟩,
  ⟨none, .mov 59 (.tmp 62)⟩,
  ⟨none, .ext 63 (.tmp 59) 0⟩,
  ⟨none, .ext 64 (.tmp 59) 1⟩,
  ⟨none, .mov 11 (.tmp 63)⟩,
  ⟨none, .mov 12 (.tmp 64)⟩]
def Law_ArithParts_r9 : List GO := [
  ⟨none, .mov 66 (.tmp 0)⟩,
  ⟨none, .mov 67 (.tmp 1)⟩,
  ⟨none, .call (some 68) 15 [(.const (.int .i64 5)), (.tmp 66), (.tmp 67)]⟩,
  ⟨none, .mov 65 (.tmp 68)⟩,
  ⟨none, .ext 69 (.tmp 65) 0⟩,
  ⟨none, .ext 70 (.tmp 65) 1⟩,
  ⟨none, .mov 13 (.tmp 69)⟩,
  ⟨none, .mov 14 (.tmp 70)⟩]
def Law_ArithParts_r10 : List GO := [
  ⟨none, .mov 71 (.tmp 1)⟩,
  ⟨none, .bin 72 .eql 2 (.tmp 71) (.const (.int .i64 0))⟩]
def Law_ArithParts_r11 : List GO := [
  ⟨none, .mov 73 (.tmp 12)⟩,
  ⟨none, .un 74 .not (.tmp 73)⟩,
  ⟨none, .mov 75 (.tmp 74)⟩,
  ⟨some (75, true), .mov 76 (.tmp 14)⟩,
  ⟨some (75, true), .un 77 .not (.tmp 76)⟩,
  ⟨none, .pick 78 (.tmp 75) (.tmp 77) (.const (.bool false))⟩,
  ⟨none, .mov 4 (.tmp 78)⟩]
def Law_ArithParts_r12 : List GO := [
  ⟨none, .mov 80 (.tmp 11)⟩,
  ⟨none, .mov 81 (.tmp 1)⟩,
  ⟨none, .call (some 82) 15 [(.const (.int .i64 3)), (.tmp 80), (.tmp 81)]⟩,
  ⟨none, .mov 79 (.tmp 82)⟩,
  ⟨none, .ext 83 (.tmp 79) 0⟩,
  ⟨none, .ext 84 (.tmp 79) 1⟩,
  ⟨none, .mov 15 (.tmp 83)⟩,
  ⟨none, .mov 16 (.tmp 84)⟩]
def Law_ArithParts_r13 : List GO := [
  ⟨none, .mov 86 (.tmp 15)⟩,
  ⟨none, .mov 87 (.tmp 13)⟩,
  ⟨none, .call (some 88) 15 [(.const (.int .i64 1)), (.tmp 86), (.tmp 87)]⟩,
  ⟨none, .mov 85 (.tmp 88)⟩,
  ⟨none, .ext 89 (.tmp 85) 0⟩,
  ⟨none, .ext 90 (.tmp 85) 1⟩,
  ⟨none, .mov 17 (.tmp 89)⟩,
  ⟨none, .mov 18 (.tmp 90)⟩]
def Law_ArithParts_r14 : List GO := [
  ⟨none, .mov 92 (.tmp 17)⟩,
  ⟨none, .mov 93 (.tmp 15)⟩,
  ⟨none, .call (some 94) 15 [(.const (.int .i64 2)), (.tmp 92), (.tmp 93)]⟩,
  ⟨none, .mov 91 (.tmp 94)⟩,
  ⟨none, .ext 95 (.tmp 91) 0⟩,
  ⟨none, .ext 96 (.tmp 91) 1⟩,
  ⟨none, .mov 19 (.tmp 95)⟩,
  ⟨none, .mov 20 (.tmp 96)⟩]
def Law_ArithParts_r15 : List GO := [
  ⟨none, .mov 97 (.tmp 12)⟩,
  ⟨none, .mov 98 (.tmp 97)⟩,
  ⟨some (98, true), .mov 99 (.tmp 14)⟩,
  ⟨none, .pick 100 (.tmp 98) (.tmp 99) (.const (.bool false))⟩,
  ⟨none, .mov 101 (.tmp 100)⟩,
  ⟨some (101, true), .mov 102 (.tmp 17)⟩,
  ⟨some (101, true), .mov 103 (.tmp 0)⟩,
  ⟨some (101, true), .bin 104 .eql 2 (.tmp 102) (.tmp 103)⟩,
  ⟨none, .pick 105 (.tmp 101) (.tmp 104) (.const (.bool false))⟩,
  ⟨none, .mov 106 (.tmp 105)⟩,
  ⟨some (106, true), .mov 107 (.tmp 19)⟩,
  ⟨some (106, true), .mov 108 (.tmp 13)⟩,
  ⟨some (106, true), .bin 109 .eql 2 (.tmp 107) (.tmp 108)⟩,
  ⟨none, .pick 110 (.tmp 106) (.tmp 109) (.const (.bool false))⟩,
  ⟨none, .mov 111 (.tmp 110)⟩,
  ⟨some (111, true), .mov 112 (.tmp 13)⟩,
  ⟨some (111, true), .bin 113 .eql 2 (.tmp 112) (.const (.int .i64 0))⟩,
  ⟨some (111, true), .mov 114 (.tmp 113)⟩,
  ⟨some (114, false), .mov 115 (.tmp 13)⟩,
  ⟨some (114, false), .bin 116 .lss 2 (.tmp 115) (.const (.int .i64 0))⟩,
  ⟨some (114, false), .mov 117 (.tmp 0)⟩,
  ⟨some (114, false), .bin 118 .lss 2 (.tmp 117) (.const (.int .i64 0))⟩,
  ⟨some (114, false), .bin 119 .eql 4 (.tmp 116) (.tmp 118)⟩,
  ⟨some (111, true), .pick 120 (.tmp 114) (.const (.bool true)) (.tmp 119)⟩,
  ⟨none, .pick 121 (.tmp 111) (.tmp 120) (.const (.bool false))⟩,
  ⟨none, .mov 4 (.tmp 121)⟩]
def Law_ArithParts_lc : LC := (.seq (.ops Law_ArithParts_r0) (.seq (.seq (.ops Law_ArithParts_r1) (.cond (.tmp 22) (.seq (.ops Law_ArithParts_r2) .ret) .skip)) (.seq (.ops Law_ArithParts_r3) (.seq (.ops Law_ArithParts_r4) (.seq (.ops Law_ArithParts_r5) (.seq (.seq (.ops Law_ArithParts_r6) (.cond (.tmp 58) (.seq (.ops Law_ArithParts_r7) .ret) .skip)) (.seq (.ops Law_ArithParts_r8) (.seq (.ops Law_ArithParts_r9) (.seq (.seq (.ops Law_ArithParts_r10) (.cond (.tmp 72) (.seq (.ops Law_ArithParts_r11) .ret) .skip)) (.seq (.ops Law_ArithParts_r12) (.seq (.ops Law_ArithParts_r13) (.seq (.ops Law_ArithParts_r14) (.seq (.ops Law_ArithParts_r15) .ret)))))))))))))
@[reducible] def Law_ArithParts : FuncId := 4
theorem Law_ArithParts_low : lowF Try.prog Try.f4 = some Law_ArithParts_lc := by kernel_rfl
theorem Law_ArithParts_in {a0 a1 : Value} {w : World} {R : Ending → World → Prop} (h : Law_ArithParts_lc.wp Try.prog (retQ Try.prog [.tmp 4] R) (argEnv [a0, a1]) w) : Calls Try.prog Law_ArithParts ⟨[a0, a1]⟩ w R :=
  calls_of_low Try.func4 Law_ArithParts_low (by kernel_rfl) (by kernel_rfl) h

/- 14 -/
def Law_arithBegun_r0 : List GO := [
  ⟨none, .mov 0 (.const (.bool false))⟩]
def Law_arithBegun_r1 : List GO := [
  ⟨none, .call (some 8) 15 [(.const (.int .i64 4)), (.const (.int .i64 (-7))), (.const (.int .i64 2))]⟩,
  ⟨none, .mov 7 (.tmp 8)⟩,
  ⟨none, .ext 9 (.tmp 7) 0⟩,
  ⟨none, .ext 10 (.tmp 7) 1⟩,
  ⟨none, .mov 1 (.tmp 9)⟩,
  ⟨none, .mov 2 (.tmp 10)⟩]
def Law_arithBegun_r2 : List GO := [
  ⟨none, .call (some 12) 15 [(.const (.int .i64 5)), (.const (.int .i64 (-7))), (.const (.int .i64 2))]⟩,
  ⟨none, .mov 11 (.tmp 12)⟩,
  ⟨none, .ext 13 (.tmp 11) 0⟩,
  ⟨none, .ext 14 (.tmp 11) 1⟩,
  ⟨none, .mov 3 (.tmp 13)⟩,
  ⟨none, .mov 4 (.tmp 14)⟩]
def Law_arithBegun_r3 : List GO := [
  ⟨none, .call (some 16) 15 [(.const (.int .i64 4)), (.const (.int .i64 1)), (.const (.int .i64 0))]⟩,
  ⟨none, .mov 15 (.tmp 16)⟩,
  ⟨none, .ext 17 (.tmp 15) 0⟩,
  ⟨none, .ext 18 (.tmp 15) 1⟩,
  ⟨none, .mov 5 (.tmp 17)⟩,
  ⟨none, .mov 6 (.tmp 18)⟩]
def Law_arithBegun_r4 : List GO := [
  ⟨none, .mov 19 (.tmp 2)⟩,
  ⟨none, .mov 20 (.tmp 19)⟩,
  ⟨some (20, true), .mov 21 (.tmp 4)⟩,
  ⟨none, .pick 22 (.tmp 20) (.tmp 21) (.const (.bool false))⟩,
  ⟨none, .mov 23 (.tmp 22)⟩,
  ⟨some (23, true), .mov 24 (.tmp 6)⟩,
  ⟨some (23, true), .un 25 .not (.tmp 24)⟩,
  ⟨none, .pick 26 (.tmp 23) (.tmp 25) (.const (.bool false))⟩,
  ⟨none, .mov 27 (.tmp 26)⟩,
  ⟨some (27, true), .mov 28 (.tmp 1)⟩,
  ⟨some (27, true), .bin 29 .eql 2 (.tmp 28) (.const (.int .i64 (-3)))⟩,
  ⟨none, .pick 30 (.tmp 27) (.tmp 29) (.const (.bool false))⟩,
  ⟨none, .mov 31 (.tmp 30)⟩,
  ⟨some (31, true), .mov 32 (.tmp 3)⟩,
  ⟨some (31, true), .bin 33 .eql 2 (.tmp 32) (.const (.int .i64 (-1)))⟩,
  ⟨none, .pick 34 (.tmp 31) (.tmp 33) (.const (.bool false))⟩,
  ⟨none, .mov 0 (.tmp 34)⟩]
def Law_arithBegun_lc : LC := (.seq (.ops Law_arithBegun_r0) (.seq (.ops Law_arithBegun_r1) (.seq (.ops Law_arithBegun_r2) (.seq (.ops Law_arithBegun_r3) (.seq (.ops Law_arithBegun_r4) .ret)))))
@[reducible] def Law_arithBegun : FuncId := 14
theorem Law_arithBegun_low : lowF Try.prog Try.f14 = some Law_arithBegun_lc := by kernel_rfl
theorem Law_arithBegun_in {w : World} {R : Ending → World → Prop} (h : Law_arithBegun_lc.wp Try.prog (retQ Try.prog [.tmp 0] R) (argEnv []) w) : Calls Try.prog Law_arithBegun ⟨[]⟩ w R :=
  calls_of_low Try.func14 Law_arithBegun_low (by kernel_rfl) (by kernel_rfl) h

/- 15 -/
def arith_Op_r0 : List GO := [
  ⟨none, .mov 6 (.const (.int .i64 0))⟩,
  ⟨none, .mov 7 (.const (.bool false))⟩]
def arith_Op_r1 : List GO := [
  ⟨none, .mov 10 (.tmp 0)⟩]
def arith_Op_r2 : List GO := [
  ⟨none, .bin 12 .eql 3 (.tmp 10) (.const (.int .i64 1))⟩,
  ⟨none, .mov 11 (.tmp 12)⟩]
def arith_Op_r3 : List GO := [
  ⟨none, .mov 13 (.tmp 1)⟩,
  ⟨none, .mov 14 (.tmp 2)⟩,
  ⟨none, .bin 15 .add 2 (.tmp 13) (.tmp 14)⟩,
  ⟨none, .mov 6 (.tmp 15)⟩,
  ⟨none, .mov 7 (.const (.bool true))⟩]
def arith_Op_r4 : List GO := [
  ⟨none, .bin 17 .eql 3 (.tmp 10) (.const (.int .i64 2))⟩,
  ⟨none, .mov 16 (.tmp 17)⟩]
def arith_Op_r5 : List GO := [
  ⟨none, .mov 18 (.tmp 1)⟩,
  ⟨none, .mov 19 (.tmp 2)⟩,
  ⟨none, .bin 20 .sub 2 (.tmp 18) (.tmp 19)⟩,
  ⟨none, .mov 6 (.tmp 20)⟩,
  ⟨none, .mov 7 (.const (.bool true))⟩]
def arith_Op_r6 : List GO := [
  ⟨none, .bin 22 .eql 3 (.tmp 10) (.const (.int .i64 3))⟩,
  ⟨none, .mov 21 (.tmp 22)⟩]
def arith_Op_r7 : List GO := [
  ⟨none, .mov 23 (.tmp 1)⟩,
  ⟨none, .mov 24 (.tmp 2)⟩,
  ⟨none, .bin 25 .mul 2 (.tmp 23) (.tmp 24)⟩,
  ⟨none, .mov 6 (.tmp 25)⟩,
  ⟨none, .mov 7 (.const (.bool true))⟩]
def arith_Op_r8 : List GO := [
  ⟨none, .bin 27 .eql 3 (.tmp 10) (.const (.int .i64 4))⟩,
  ⟨none, .mov 26 (.tmp 27)⟩]
def arith_Op_r9 : List GO := [
  ⟨none, .mov 28 (.tmp 1)⟩,
  ⟨none, .mov 29 (.tmp 2)⟩,
  ⟨none, .call (some 30) 80 [(.tmp 28), (.tmp 29)]⟩,
  ⟨none, .ext 31 (.tmp 30) 0⟩,
  ⟨none, .ext 32 (.tmp 30) 1⟩,
  ⟨none, .mov 6 (.tmp 31)⟩,
  ⟨none, .mov 7 (.tmp 32)⟩]
def arith_Op_r10 : List GO := [
  ⟨none, .bin 34 .eql 3 (.tmp 10) (.const (.int .i64 5))⟩,
  ⟨none, .mov 33 (.tmp 34)⟩]
def arith_Op_r11 : List GO := [
  ⟨none, .mov 36 (.tmp 1)⟩,
  ⟨none, .mov 37 (.tmp 2)⟩,
  ⟨none, .call (some 38) 80 [(.tmp 36), (.tmp 37)]⟩,
  ⟨none, .mov 35 (.tmp 38)⟩,
  ⟨none, .ext 39 (.tmp 35) 0⟩,
  ⟨none, .ext 40 (.tmp 35) 1⟩,
  ⟨none, .mov 8 (.tmp 39)⟩,
  ⟨none, .mov 9 (.tmp 40)⟩]
def arith_Op_r12 : List GO := [
  ⟨none, .mov 41 (.tmp 9)⟩,
  ⟨none, .un 42 .not (.tmp 41)⟩]
def arith_Op_r13 : List GO := [
  ⟨none, .mov 6 (.const (.int .i64 0))⟩,
  ⟨none, .mov 7 (.const (.bool false))⟩]
def arith_Op_r14 : List GO := [
  ⟨none, .mov 43 (.tmp 1)⟩,
  ⟨none, .mov 44 (.tmp 8)⟩,
  ⟨none, .mov 45 (.tmp 2)⟩,
  ⟨none, .bin 46 .mul 2 (.tmp 44) (.tmp 45)⟩,
  ⟨none, .bin 47 .sub 2 (.tmp 43) (.tmp 46)⟩,
  ⟨none, .mov 6 (.tmp 47)⟩,
  ⟨none, .mov 7 (.const (.bool true))⟩]
def arith_Op_r15 : List GO := [
  ⟨none, .bin 49 .eql 3 (.tmp 10) (.const (.int .i64 6))⟩,
  ⟨none, .mov 48 (.tmp 49)⟩]
def arith_Op_r16 : List GO := [
  ⟨none, .mov 50 (.tmp 1)⟩,
  ⟨none, .mov 51 (.tmp 2)⟩,
  ⟨none, .bin 52 .lss 2 (.tmp 50) (.tmp 51)⟩,
  ⟨none, .call (some 53) 81 [(.tmp 52)]⟩,
  ⟨none, .mov 6 (.tmp 53)⟩,
  ⟨none, .mov 7 (.const (.bool true))⟩]
def arith_Op_r17 : List GO := [
  ⟨none, .bin 55 .eql 3 (.tmp 10) (.const (.int .i64 7))⟩,
  ⟨none, .mov 54 (.tmp 55)⟩]
def arith_Op_r18 : List GO := [
  ⟨none, .mov 56 (.tmp 1)⟩,
  ⟨none, .mov 57 (.tmp 2)⟩,
  ⟨none, .bin 58 .eql 2 (.tmp 56) (.tmp 57)⟩,
  ⟨none, .call (some 59) 81 [(.tmp 58)]⟩,
  ⟨none, .mov 6 (.tmp 59)⟩,
  ⟨none, .mov 7 (.const (.bool true))⟩]
def arith_Op_r19 : List GO := [
  ⟨none, .bin 61 .eql 3 (.tmp 10) (.const (.int .i64 8))⟩,
  ⟨none, .mov 60 (.tmp 61)⟩]
def arith_Op_r20 : List GO := [
  ⟨none, .mov 62 (.tmp 1)⟩,
  ⟨none, .mov 63 (.tmp 2)⟩,
  ⟨none, .bin 64 .and 2 (.tmp 62) (.tmp 63)⟩,
  ⟨none, .mov 6 (.tmp 64)⟩,
  ⟨none, .mov 7 (.const (.bool true))⟩]
def arith_Op_r21 : List GO := [
  ⟨none, .bin 66 .eql 3 (.tmp 10) (.const (.int .i64 9))⟩,
  ⟨none, .mov 65 (.tmp 66)⟩]
def arith_Op_r22 : List GO := [
  ⟨none, .mov 67 (.tmp 1)⟩,
  ⟨none, .mov 68 (.tmp 2)⟩,
  ⟨none, .bin 69 .xor 2 (.tmp 67) (.tmp 68)⟩,
  ⟨none, .mov 6 (.tmp 69)⟩,
  ⟨none, .mov 7 (.const (.bool true))⟩]
def arith_Op_r23 : List GO := [
  ⟨none, .mov 6 (.const (.int .i64 0))⟩,
  ⟨none, .mov 7 (.const (.bool false))⟩]
def arith_Op_lc : LC := (.seq (.ops arith_Op_r0) (.seq (.seq (.ops arith_Op_r1) (.block 0 (.seq (.ops arith_Op_r2) (.cond (.tmp 11) (.seq (.ops arith_Op_r3) .ret) (.seq (.ops arith_Op_r4) (.cond (.tmp 16) (.seq (.ops arith_Op_r5) .ret) (.seq (.ops arith_Op_r6) (.cond (.tmp 21) (.seq (.ops arith_Op_r7) .ret) (.seq (.ops arith_Op_r8) (.cond (.tmp 26) (.seq (.ops arith_Op_r9) .ret) (.seq (.ops arith_Op_r10) (.cond (.tmp 33) (.seq (.ops arith_Op_r11) (.seq (.seq (.ops arith_Op_r12) (.cond (.tmp 42) (.seq (.ops arith_Op_r13) .ret) .skip)) (.seq (.ops arith_Op_r14) .ret))) (.seq (.ops arith_Op_r15) (.cond (.tmp 48) (.seq (.ops arith_Op_r16) .ret) (.seq (.ops arith_Op_r17) (.cond (.tmp 54) (.seq (.ops arith_Op_r18) .ret) (.seq (.ops arith_Op_r19) (.cond (.tmp 60) (.seq (.ops arith_Op_r20) .ret) (.seq (.ops arith_Op_r21) (.cond (.tmp 65) (.seq (.ops arith_Op_r22) .ret) .skip)))))))))))))))))))) (.seq (.ops arith_Op_r23) .ret)))
@[reducible] def arith_Op : FuncId := 15
theorem arith_Op_low : lowF Try.prog Try.f15 = some arith_Op_lc := by kernel_rfl
theorem arith_Op_in {a0 a1 a2 : Value} {w : World} {R : Ending → World → Prop} (h : arith_Op_lc.wp Try.prog (retQ Try.prog [.tmp 6, .tmp 7] R) (argEnv [a0, a1, a2]) w) : Calls Try.prog arith_Op ⟨[a0, a1, a2]⟩ w R :=
  calls_of_low Try.func15 arith_Op_low (by kernel_rfl) (by kernel_rfl) h

/- 16 -/
def R_OpOf_r0 : List GO := [
  ⟨none, .mov 6 (.const (.int .i64 0))⟩,
  ⟨none, .mov 7 (.const (.bool false))⟩]
def R_OpOf_r1 : List GO := [
  ⟨none, .mov 8 (.const (.int .i64 0))⟩]
def R_OpOf_r2 : List GO := [
  ⟨none, .mov 9 (.tmp 0)⟩]
def R_OpOf_r3 : List GO := [
  ⟨none, .bin 11 .eql 3 (.tmp 9) (.const (.int .i64 1))⟩,
  ⟨none, .mov 10 (.tmp 11)⟩]
def R_OpOf_r4 : List GO := [
  ⟨none, .mov 12 (.tmp 1)⟩,
  ⟨none, .mov 13 (.tmp 2)⟩,
  ⟨none, .bin 14 .add 2 (.tmp 12) (.tmp 13)⟩,
  ⟨none, .mov 6 (.tmp 14)⟩,
  ⟨none, .mov 7 (.const (.bool true))⟩]
def R_OpOf_r5 : List GO := [
  ⟨none, .bin 16 .eql 3 (.tmp 9) (.const (.int .i64 2))⟩,
  ⟨none, .mov 15 (.tmp 16)⟩]
def R_OpOf_r6 : List GO := [
  ⟨none, .mov 17 (.tmp 1)⟩,
  ⟨none, .mov 18 (.tmp 2)⟩,
  ⟨none, .bin 19 .sub 2 (.tmp 17) (.tmp 18)⟩,
  ⟨none, .mov 6 (.tmp 19)⟩,
  ⟨none, .mov 7 (.const (.bool true))⟩]
def R_OpOf_r7 : List GO := [
  ⟨none, .bin 21 .eql 3 (.tmp 9) (.const (.int .i64 3))⟩,
  ⟨none, .mov 20 (.tmp 21)⟩]
def R_OpOf_r8 : List GO := [
  ⟨none, .mov 22 (.tmp 1)⟩,
  ⟨none, .mov 23 (.tmp 2)⟩,
  ⟨none, .bin 24 .mul 2 (.tmp 22) (.tmp 23)⟩,
  ⟨none, .mov 6 (.tmp 24)⟩,
  ⟨none, .mov 7 (.const (.bool true))⟩]
def R_OpOf_r9 : List GO := [
  ⟨none, .bin 26 .eql 3 (.tmp 9) (.const (.int .i64 4))⟩,
  ⟨none, .mov 25 (.tmp 26)⟩]
def R_OpOf_r10 : List GO := [
  ⟨none, .bin 27 .eql 3 (.tmp 9) (.const (.int .i64 5))⟩,
  ⟨none, .mov 25 (.tmp 27)⟩]
def R_OpOf_r11 : List GO := [
  ⟨none, .mov 28 (.tmp 2)⟩,
  ⟨none, .bin 29 .eql 2 (.tmp 28) (.const (.int .i64 0))⟩]
def R_OpOf_r12 : List GO := [
  ⟨none, .mov 6 (.const (.int .i64 0))⟩,
  ⟨none, .mov 7 (.const (.bool false))⟩]
def R_OpOf_r13 : List GO := [
  ⟨none, .mov 30 (.tmp 1)⟩,
  ⟨none, .bin 31 .eql 2 (.tmp 30) (.const (.int .i64 (-9223372036854775808)))⟩,
  ⟨none, .mov 32 (.tmp 31)⟩,
  ⟨some (32, true), .mov 33 (.tmp 2)⟩,
  ⟨some (32, true), .bin 34 .eql 2 (.tmp 33) (.const (.int .i64 (-1)))⟩,
  ⟨none, .pick 35 (.tmp 32) (.tmp 34) (.const (.bool false))⟩]
def R_OpOf_r14 : List GO := [
  ⟨none, .mov 36 (.tmp 0)⟩,
  ⟨none, .bin 37 .eql 3 (.tmp 36) (.const (.int .i64 4))⟩]
def R_OpOf_r15 : List GO := [
  ⟨none, .mov 6 (.const (.int .i64 (-9223372036854775808)))⟩,
  ⟨none, .mov 7 (.const (.bool true))⟩]
def R_OpOf_r16 : List GO := [
  ⟨none, .mov 6 (.const (.int .i64 0))⟩,
  ⟨none, .mov 7 (.const (.bool true))⟩]
def R_OpOf_r17 : List GO := [
  ⟨none, .mov 38 (.tmp 0)⟩,
  ⟨none, .bin 39 .eql 3 (.tmp 38) (.const (.int .i64 4))⟩]
def R_OpOf_r18 : List GO := [
  ⟨none, .mov 40 (.tmp 1)⟩,
  ⟨none, .mov 41 (.tmp 2)⟩,
  ⟨none, .bin 42 .quo 2 (.tmp 40) (.tmp 41)⟩,
  ⟨none, .mov 6 (.tmp 42)⟩,
  ⟨none, .mov 7 (.const (.bool true))⟩]
def R_OpOf_r19 : List GO := [
  ⟨none, .mov 43 (.tmp 1)⟩,
  ⟨none, .mov 44 (.tmp 2)⟩,
  ⟨none, .bin 45 .rem 2 (.tmp 43) (.tmp 44)⟩,
  ⟨none, .mov 6 (.tmp 45)⟩,
  ⟨none, .mov 7 (.const (.bool true))⟩]
def R_OpOf_r20 : List GO := [
  ⟨none, .bin 47 .eql 3 (.tmp 9) (.const (.int .i64 6))⟩,
  ⟨none, .mov 46 (.tmp 47)⟩]
def R_OpOf_r21 : List GO := [
  ⟨none, .mov 48 (.tmp 1)⟩,
  ⟨none, .mov 49 (.tmp 2)⟩,
  ⟨none, .bin 50 .lss 2 (.tmp 48) (.tmp 49)⟩]
def R_OpOf_r22 : List GO := [
  ⟨none, .mov 8 (.const (.int .i64 1))⟩]
def R_OpOf_r23 : List GO := [
  ⟨none, .mov 51 (.tmp 8)⟩,
  ⟨none, .mov 6 (.tmp 51)⟩,
  ⟨none, .mov 7 (.const (.bool true))⟩]
def R_OpOf_r24 : List GO := [
  ⟨none, .bin 53 .eql 3 (.tmp 9) (.const (.int .i64 7))⟩,
  ⟨none, .mov 52 (.tmp 53)⟩]
def R_OpOf_r25 : List GO := [
  ⟨none, .mov 54 (.tmp 1)⟩,
  ⟨none, .mov 55 (.tmp 2)⟩,
  ⟨none, .bin 56 .eql 2 (.tmp 54) (.tmp 55)⟩]
def R_OpOf_r26 : List GO := [
  ⟨none, .mov 8 (.const (.int .i64 1))⟩]
def R_OpOf_r27 : List GO := [
  ⟨none, .mov 57 (.tmp 8)⟩,
  ⟨none, .mov 6 (.tmp 57)⟩,
  ⟨none, .mov 7 (.const (.bool true))⟩]
def R_OpOf_r28 : List GO := [
  ⟨none, .bin 59 .eql 3 (.tmp 9) (.const (.int .i64 8))⟩,
  ⟨none, .mov 58 (.tmp 59)⟩]
def R_OpOf_r29 : List GO := [
  ⟨none, .mov 60 (.tmp 1)⟩,
  ⟨none, .mov 61 (.tmp 2)⟩,
  ⟨none, .bin 62 .and 2 (.tmp 60) (.tmp 61)⟩,
  ⟨none, .mov 6 (.tmp 62)⟩,
  ⟨none, .mov 7 (.const (.bool true))⟩]
def R_OpOf_r30 : List GO := [
  ⟨none, .bin 64 .eql 3 (.tmp 9) (.const (.int .i64 9))⟩,
  ⟨none, .mov 63 (.tmp 64)⟩]
def R_OpOf_r31 : List GO := [
  ⟨none, .mov 65 (.tmp 1)⟩,
  ⟨none, .mov 66 (.tmp 2)⟩,
  ⟨none, .bin 67 .or 2 (.tmp 65) (.tmp 66)⟩,
  ⟨none, .mov 68 (.tmp 1)⟩,
  ⟨none, .mov 69 (.tmp 2)⟩,
  ⟨none, .bin 70 .and 2 (.tmp 68) (.tmp 69)⟩,
  ⟨none, .bin 71 .sub 2 (.tmp 67) (.tmp 70)⟩,
  ⟨none, .mov 6 (.tmp 71)⟩,
  ⟨none, .mov 7 (.const (.bool true))⟩]
def R_OpOf_r32 : List GO := [
  ⟨none, .mov 6 (.const (.int .i64 0))⟩,
  ⟨none, .mov 7 (.const (.bool false))⟩]
def R_OpOf_lc : LC := (.seq (.ops R_OpOf_r0) (.seq (.ops R_OpOf_r1) (.seq (.seq (.ops R_OpOf_r2) (.block 0 (.seq (.ops R_OpOf_r3) (.cond (.tmp 10) (.seq (.ops R_OpOf_r4) .ret) (.seq (.ops R_OpOf_r5) (.cond (.tmp 15) (.seq (.ops R_OpOf_r6) .ret) (.seq (.ops R_OpOf_r7) (.cond (.tmp 20) (.seq (.ops R_OpOf_r8) .ret) (.seq (.seq (.ops R_OpOf_r9) (.cond (.tmp 25) .skip (.ops R_OpOf_r10))) (.cond (.tmp 25) (.seq (.seq (.ops R_OpOf_r11) (.cond (.tmp 29) (.seq (.ops R_OpOf_r12) .ret) .skip)) (.seq (.seq (.ops R_OpOf_r13) (.cond (.tmp 35) (.seq (.seq (.ops R_OpOf_r14) (.cond (.tmp 37) (.seq (.ops R_OpOf_r15) .ret) .skip)) (.seq (.ops R_OpOf_r16) .ret)) .skip)) (.seq (.seq (.ops R_OpOf_r17) (.cond (.tmp 39) (.seq (.ops R_OpOf_r18) .ret) .skip)) (.seq (.ops R_OpOf_r19) .ret)))) (.seq (.ops R_OpOf_r20) (.cond (.tmp 46) (.seq (.seq (.ops R_OpOf_r21) (.cond (.tmp 50) (.ops R_OpOf_r22) .skip)) (.seq (.ops R_OpOf_r23) .ret)) (.seq (.ops R_OpOf_r24) (.cond (.tmp 52) (.seq (.seq (.ops R_OpOf_r25) (.cond (.tmp 56) (.ops R_OpOf_r26) .skip)) (.seq (.ops R_OpOf_r27) .ret)) (.seq (.ops R_OpOf_r28) (.cond (.tmp 58) (.seq (.ops R_OpOf_r29) .ret) (.seq (.ops R_OpOf_r30) (.cond (.tmp 63) (.seq (.ops R_OpOf_r31) .ret) .skip)))))))))))))))))) (.seq (.ops R_OpOf_r32) .ret))))
@[reducible] def R_OpOf : FuncId := 16
theorem R_OpOf_low : lowF Try.prog Try.f16 = some R_OpOf_lc := by kernel_rfl
theorem R_OpOf_in {a0 a1 a2 : Value} {w : World} {R : Ending → World → Prop} (h : R_OpOf_lc.wp Try.prog (retQ Try.prog [.tmp 6, .tmp 7] R) (argEnv [a0, a1, a2]) w) : Calls Try.prog R_OpOf ⟨[a0, a1, a2]⟩ w R :=
  calls_of_low Try.func16 R_OpOf_low (by kernel_rfl) (by kernel_rfl) h

/- 80 -/
def arith_divide_r0 : List GO := [
  ⟨none, .mov 4 (.const (.int .i64 0))⟩,
  ⟨none, .mov 5 (.const (.bool false))⟩]
def arith_divide_r1 : List GO := [
  ⟨none, .mov 6 (.tmp 1)⟩]
def arith_divide_r2 : List GO := [
  ⟨none, .bin 8 .eql 2 (.tmp 6) (.const (.int .i64 0))⟩,
  ⟨none, .mov 7 (.tmp 8)⟩]
def arith_divide_r3 : List GO := [
  ⟨none, .mov 4 (.const (.int .i64 0))⟩,
  ⟨none, .mov 5 (.const (.bool false))⟩]
def arith_divide_r4 : List GO := [
  ⟨none, .bin 10 .eql 2 (.tmp 6) (.const (.int .i64 (-1)))⟩,
  ⟨none, .mov 9 (.tmp 10)⟩]
def arith_divide_r5 : List GO := [
  ⟨none, .mov 11 (.tmp 0)⟩,
  ⟨none, .un 12 .neg (.tmp 11)⟩,
  ⟨none, .mov 4 (.tmp 12)⟩,
  ⟨none, .mov 5 (.const (.bool true))⟩]
def arith_divide_r6 : List GO := [
  ⟨none, .mov 13 (.tmp 0)⟩,
  ⟨none, .mov 14 (.tmp 1)⟩,
  ⟨none, .bin 15 .quo 2 (.tmp 13) (.tmp 14)⟩,
  ⟨none, .mov 4 (.tmp 15)⟩,
  ⟨none, .mov 5 (.const (.bool true))⟩]
def arith_divide_lc : LC := (.seq (.ops arith_divide_r0) (.seq (.seq (.ops arith_divide_r1) (.block 0 (.seq (.ops arith_divide_r2) (.cond (.tmp 7) (.seq (.ops arith_divide_r3) .ret) (.seq (.ops arith_divide_r4) (.cond (.tmp 9) (.seq (.ops arith_divide_r5) .ret) .skip)))))) (.seq (.ops arith_divide_r6) .ret)))
@[reducible] def arith_divide : FuncId := 80
theorem arith_divide_low : lowF Try.prog Try.f80 = some arith_divide_lc := by kernel_rfl
theorem arith_divide_in {a0 a1 : Value} {w : World} {R : Ending → World → Prop} (h : arith_divide_lc.wp Try.prog (retQ Try.prog [.tmp 4, .tmp 5] R) (argEnv [a0, a1]) w) : Calls Try.prog arith_divide ⟨[a0, a1]⟩ w R :=
  calls_of_low Try.func80 arith_divide_low (by kernel_rfl) (by kernel_rfl) h

/- 81 -/
def arith_truth_r0 : List GO := [
  ⟨none, .mov 2 (.const (.int .i64 0))⟩]
def arith_truth_r1 : List GO := [
  ⟨none, .mov 3 (.tmp 0)⟩]
def arith_truth_r2 : List GO := [
  ⟨none, .mov 2 (.const (.int .i64 1))⟩]
def arith_truth_r3 : List GO := [
  ⟨none, .mov 2 (.const (.int .i64 0))⟩]
def arith_truth_lc : LC := (.seq (.ops arith_truth_r0) (.seq (.seq (.ops arith_truth_r1) (.cond (.tmp 3) (.seq (.ops arith_truth_r2) .ret) .skip)) (.seq (.ops arith_truth_r3) .ret)))
@[reducible] def arith_truth : FuncId := 81
theorem arith_truth_low : lowF Try.prog Try.f81 = some arith_truth_lc := by kernel_rfl
theorem arith_truth_in {a0 : Value} {w : World} {R : Ending → World → Prop} (h : arith_truth_lc.wp Try.prog (retQ Try.prog [.tmp 2] R) (argEnv [a0]) w) : Calls Try.prog arith_truth ⟨[a0]⟩ w R :=
  calls_of_low Try.func81 arith_truth_low (by kernel_rfl) (by kernel_rfl) h

end Go.Proofs.Ytocllfbfogcbgaa