/- Lemmas of the proof, part 3: what the functions of the program do (contracts), and what follows. -/
import Derived.Test.YtanlkfeogoganaaGreatZ2
import Derived.Test.YtanlkfeogoganaaGreatProg
import Derived.Test.YtanlkfeogoganaaGreatZ1
namespace Go.Lir
theorem zig_pos {n : Int} (h : InI n) (h0 : 0 ≤ n) : IntKind.u64.wrap (IntKind.u64.wrap n * 2) = ((zig n : Nat) : Int) := by
  unfold InI at h
  obtain ⟨k, rfl⟩ : ∃ k : Nat, n = (k : Int) := ⟨n.toNat, by omega⟩
  rw [Q1X (n := k) (by omega), show ((k : Int) * 2) = ((2 * k : Nat) : Int) by omega, Q1X (by omega), Qud h, if_pos (by omega)]
  omega
theorem zig_min {n : Int} (h : InI n) (h0 : n < 0) : IntKind.u64.wrap (IntKind.u64.wrap (IntKind.u64.wrap (IntKind.i64.wrap (0 - (n + 1))) * 2) + 1) = ((zig n : Nat) : Int) := by
  unfold InI at h
  rw [Q4h (by omega) (by omega)]
  obtain ⟨k, hk⟩ : ∃ k : Nat, 0 - (n + 1) = (k : Int) := ⟨(0 - (n + 1)).toNat, by omega⟩
  rw [hk, Q1X (n := k) (by omega), show ((k : Int) * 2) = ((2 * k : Nat) : Int) by omega, Q1X (by omega), show (((2 * k : Nat) : Int) + 1) = ((2 * k + 1 : Nat) : Int) by omega, Q1X (by omega), Qud h, if_neg (by omega)]
  omega
theorem rem128 {u : Nat} (h : u < 18446744073709551616) : (u : Int).tmod 128 = ((u % 128 : Nat) : Int) := by
  rw [Int.tmod_eq_emod_of_nonneg (by omega)]; omega
theorem quo128 {u : Nat} (h : u < 18446744073709551616) : IntKind.u64.wrap ((u : Int).tdiv 128) = ((u / 128 : Nat) : Int) := by
  rw [Int.tdiv_eq_ediv_of_nonneg (by omega), show ((u : Int) / 128) = ((u / 128 : Nat) : Int) by omega, Q1X (by omega)]
theorem add128 {u : Nat} (h : u < 128) : IntKind.u64.wrap ((u : Int) + 128) = ((u + 128 : Nat) : Int) := by
  rw [show ((u : Int) + 128) = ((u + 128 : Nat) : Int) by omega, Q1X (by omega)]
theorem u8_of (n : Nat) : IntKind.u8.wrap (n : Int) = ((UInt8.ofNat n).toNat : Int) := by rw [QsS]; simp
theorem QgE (op : Int) : fA op = decide (Qo op / 2 ^ 0 % 2 = 1) ∧ fB op = decide (Qo op / 2 ^ 1 % 2 = 1) ∧ fC op = decide (Qo op / 2 ^ 2 % 2 = 1) ∧ fK op = decide (Qo op / 2 ^ 3 % 2 = 1) ∧ fN op = decide (Qo op / 64 % 2 = 1) ∧ fG op = decide (Qo op / 16 % 2 = 1) ∧ fR op = decide (Qo op / 32 % 2 = 1) := by
  by_cases h : op < 1 ∨ 14 < op
  · have e : Qo op = 0 := by
      unfold Qo
      split
      · rfl
      · obtain rfl : op = 0 := by omega
        rfl
    rw [e]
    refine ⟨?_, ?_, ?_, ?_, ?_, ?_, ?_⟩ <;> (first | unfold fA | unfold fB | unfold fC | unfold fK | unfold fN | unfold fG | unfold fR) <;> (rw [decide_eq_decide]; constructor <;> intro h' <;> first | (exfalso; omega) | (exfalso; revert h'; decide))
  · rcases op_cases (op := op) (by omega) (by omega) with rfl | rfl | rfl | rfl | rfl | rfl | rfl | rfl | rfl | rfl | rfl | rfl | rfl | rfl <;> decide
end Go.Lir
namespace Go.Proofs.YtanlkfeogoganaaGreat
open Go.Lir
set_option maxRecDepth 100000

/- 7 -/
def QfA : List GO := [qb 1 24 0, qk 2 (.bool false)]
def Qfz : List GO := [qf 8 1 0, ql 9 8, qL 10 9, qj 11 .gtr 3 10 20]
def Qfy : List GO := [qk 2 (.bool true)]
def Qfx : List GO := [qk 3 (vi 0)]
def Qfw : List GO := [qm 12 3, qf 13 1 0, ql 14 13, qL 15 14, qt 16 .lss 3 12 15]
def Qfv : List GO := [qf 19 1 0, ql 20 19, qm 21 3, qi 22 4 20 21, qV 23 4 22, ⟨none, .alloc 4 53 [(vi 0), vn, vn, vn]⟩, qw 4 4 23]
def Qfu : List GO := [qf 24 4 3, ql 25 24, qL 26 25, qj 27 .gtr 3 26 30, qm 28 27, qg 28 false (qf 29 4 1), qg 28 false (ql 30 29), ⟨some (28, false), .call (some 31) 37 [(.tmp 30)]⟩, ⟨none, .pick 32 (.tmp 28) (.const (.bool true)) (.tmp 31)⟩, qm 33 32, qg 33 false (qf 34 4 2), qg 33 false (ql 35 34), ⟨some (33, false), .call (some 36) 37 [(.tmp 35)]⟩, ⟨none, .pick 37 (.tmp 33) (.const (.bool true)) (.tmp 36)⟩]
def Qft : List GO := [qk 2 (.bool true)]
def Qfs : List GO := [qk 5 (vi 0)]
def Qfr : List GO := [qm 38 5, qf 39 4 3, ql 40 39, qL 41 40, qt 42 .lss 3 38 41]
def Qds : List GO := [qf 45 4 3, ql 46 45, qm 47 5, qi 48 12 46 47, qV 49 12 48, ⟨none, .alloc 6 79 [(vi 0), vn, vn, (vi 0), (vi 0), (vi 0), vn, vn, (vi 0), vn, vn, vn]⟩, qw 12 6 49]
def Qdr : List GO := [qf 50 6 2, ql 51 50, qL 52 51, qj 53 .gtr 3 52 200, qm 54 53, qg 54 false (qf 55 6 1), qg 54 false (ql 56 55), ⟨some (54, false), .call (some 57) 37 [(.tmp 56)]⟩, ⟨none, .pick 58 (.tmp 54) (.const (.bool true)) (.tmp 57)⟩, qm 59 58, qg 59 false (qf 60 6 3), qg 59 false (qf 61 60 8), qg 59 false (ql 62 61), qg 59 false (qL 63 62), qg 59 false (qj 64 .gtr 3 63 300), ⟨none, .pick 65 (.tmp 59) (.const (.bool true)) (.tmp 64)⟩, qm 66 65, qg 66 false (qf 67 6 3), qg 66 false (qf 68 67 2), qg 66 false (qf 69 68 1), qg 66 false (ql 70 69), qg 66 false (qL 71 70), qg 66 false (qj 72 .gtr 3 71 300), ⟨none, .pick 73 (.tmp 66) (.const (.bool true)) (.tmp 72)⟩, qm 74 73, qg 74 false (qf 75 6 3), qg 74 false (qf 76 75 2), qg 74 false (qf 77 76 2), qg 74 false (ql 78 77), qg 74 false (qL 79 78), qg 74 false (qj 80 .gtr 3 79 300), ⟨none, .pick 81 (.tmp 74) (.const (.bool true)) (.tmp 80)⟩, qm 82 81, qg 82 false (qf 83 6 3), qg 82 false (qf 84 83 5), qg 82 false (qf 85 84 1), qg 82 false (ql 86 85), qg 82 false (qL 87 86), qg 82 false (qj 88 .gtr 3 87 300), ⟨none, .pick 89 (.tmp 82) (.const (.bool true)) (.tmp 88)⟩, qm 90 89, qg 90 false (qf 91 6 3), qg 90 false (qf 92 91 5), qg 90 false (qf 93 92 2), qg 90 false (ql 94 93), qg 90 false (qL 95 94), qg 90 false (qj 96 .gtr 3 95 300), ⟨none, .pick 97 (.tmp 90) (.const (.bool true)) (.tmp 96)⟩]
def Qdq : List GO := [qk 2 (.bool true)]
def Qdp : List GO := [qk 7 (vi 0)]
def Qdo : List GO := [qm 98 7, qf 99 6 2, ql 100 99, qL 101 100, qt 102 .lss 3 98 101]
def Qdn : List GO := [qf 105 6 2, ql 106 105, qm 107 7, qi 108 8 106 107, qf 109 108 6, ql 110 109, qL 111 110, qj 112 .gtr 3 111 300, qm 113 112, qg 113 false (qf 114 6 2), qg 113 false (ql 115 114), qg 113 false (qm 116 7), qg 113 false (qi 117 8 115 116), qg 113 false (qf 118 117 7), qg 113 false (ql 119 118), qg 113 false (qL 120 119), qg 113 false (qj 121 .gtr 3 120 300), ⟨none, .pick 122 (.tmp 113) (.const (.bool true)) (.tmp 121)⟩]
def Qdm : List GO := [qk 2 (.bool true)]
def Qdl : List GO := [qm 103 7, qj 104 .add 3 103 1, qm 7 104]
def Q56 : LC := (.seq (.seq (.ops Qdo) (.cond (.tmp 102) .skip (.exit 4))) (.seq (.block 5 (.seq (.ops Qdn) (.cond (.tmp 122) (.seq (.ops Qdm) .ret) .skip))) (.ops Qdl)))
def Qdk : List GO := [qm 43 5, qj 44 .add 3 43 1, qm 5 44]
def Q5M : LC := (.seq (.seq (.ops Qfr) (.cond (.tmp 42) .skip (.exit 2))) (.seq (.block 3 (.seq (.ops Qds) (.seq (.seq (.ops Qdr) (.cond (.tmp 97) (.seq (.ops Qdq) .ret) .skip)) (.seq (.ops Qdp) (.block 4 (.loop Q56)))))) (.ops Qdk)))
def Qdj : List GO := [qm 17 3, qj 18 .add 3 17 1, qm 3 18]
def Q5N : LC := (.seq (.seq (.ops Qfw) (.cond (.tmp 16) .skip (.exit 0))) (.seq (.block 1 (.seq (.ops Qfv) (.seq (.seq (.ops Qfu) (.cond (.tmp 37) (.seq (.ops Qft) .ret) .skip)) (.seq (.ops Qfs) (.block 2 (.loop Q5M)))))) (.ops Qdj)))
def Qdi : List GO := [qk 2 (.bool false)]
def R_GreatModule_lc : LC := (.seq (.ops QfA) (.seq (.seq (.ops Qfz) (.cond (.tmp 11) (.seq (.ops Qfy) .ret) .skip)) (.seq (.seq (.ops Qfx) (.block 0 (.loop Q5N))) (.seq (.ops Qdi) .ret))))
@[reducible] def Q1q : FuncId := 7
theorem Qdt : lowF Tryz.prog Tryz.f7 = some R_GreatModule_lc := by kernel_rfl
theorem QfB {a0 : Value} {w : World} {R : Ending → World → Prop} (h : R_GreatModule_lc.wp Tryz.prog (retQ Tryz.prog [.tmp 2] R) (Qg [a0]) w) : Calls Tryz.prog Q1q ⟨[a0]⟩ w R :=
  Q6 Tryz.func7 Qdt (by kernel_rfl) (by kernel_rfl) h

/- 68 -/
/- 72 -/
def QqT : List GO := [qb 2 24 0, qb 3 57 1, qk 4 (vi 0)]
def QqS : List GO := [qf 8 3 0, ql 9 8, ⟨none, .call (some 10) 99 [(.tmp 9)]⟩, qm 7 10, qx 11 7 0, qx 12 7 1, ⟨none, .alloc 5 144 [(.bool false), (.bool false), (.bool false), (.bool false), (.bool false), (.bool false), (.bool false)]⟩, qw 7 5 11, qm 6 12]
def QqR : List GO := [qm 13 6, ⟨none, .un 14 .not (.tmp 13)⟩]
def QqQ : List GO := [qk 4 (vi 3)]
def QqP : List GO := [qf 15 5 0, ql 16 15, ⟨none, .un 17 .not (.tmp 16)⟩, qm 18 17, qg 18 true (qf 19 3 1), qg 18 true (ql 20 19), qg 18 true (qj 21 .neq 3 20 0), ⟨none, .pick 22 (.tmp 18) (.tmp 21) (.const (.bool false))⟩, qm 23 22, qg 23 false (qf 24 5 1), qg 23 false (ql 25 24), ⟨some (23, false), .un 26 .not (.tmp 25)⟩, qg 23 false (qm 27 26), qg 27 true (qf 28 3 2), qg 27 true (ql 29 28), qg 27 true (qj 30 .neq 3 29 0), ⟨some (23, false), .pick 31 (.tmp 27) (.tmp 30) (.const (.bool false))⟩, ⟨none, .pick 32 (.tmp 23) (.const (.bool true)) (.tmp 31)⟩, qm 33 32, qg 33 false (qf 34 5 2), qg 33 false (ql 35 34), ⟨some (33, false), .un 36 .not (.tmp 35)⟩, qg 33 false (qm 37 36), qg 37 true (qf 38 3 3), qg 37 true (ql 39 38), qg 37 true (qj 40 .neq 3 39 0), ⟨some (33, false), .pick 41 (.tmp 37) (.tmp 40) (.const (.bool false))⟩, ⟨none, .pick 42 (.tmp 33) (.const (.bool true)) (.tmp 41)⟩, qm 43 42, qg 43 false (qf 44 5 3), qg 43 false (ql 45 44), ⟨some (43, false), .un 46 .not (.tmp 45)⟩, qg 43 false (qm 47 46), qg 47 true (qf 48 3 4), qg 47 true (ql 49 48), qg 47 true (qj 50 .neq 3 49 0), ⟨some (43, false), .pick 51 (.tmp 47) (.tmp 50) (.const (.bool false))⟩, ⟨none, .pick 52 (.tmp 43) (.const (.bool true)) (.tmp 51)⟩, qm 53 52, qg 53 false (qf 54 5 4), qg 53 false (ql 55 54), ⟨some (53, false), .un 56 .not (.tmp 55)⟩, qg 53 false (qm 57 56), qg 57 true (qf 58 3 5), qg 57 true (ql 59 58), qg 57 true (qj 60 .neq 2 59 0), ⟨some (53, false), .pick 61 (.tmp 57) (.tmp 60) (.const (.bool false))⟩, ⟨none, .pick 62 (.tmp 53) (.const (.bool true)) (.tmp 61)⟩, qm 63 62, qg 63 false (qf 64 5 5), qg 63 false (ql 65 64), ⟨some (63, false), .un 66 .not (.tmp 65)⟩, qg 63 false (qm 67 66), qg 67 true (qf 68 3 6), qg 67 true (ql 69 68), qg 67 true (qL 70 69), qg 67 true (qj 71 .gtr 3 70 0), ⟨some (63, false), .pick 72 (.tmp 67) (.tmp 71) (.const (.bool false))⟩, ⟨none, .pick 73 (.tmp 63) (.const (.bool true)) (.tmp 72)⟩, qm 74 73, qg 74 false (qf 75 5 6), qg 74 false (ql 76 75), ⟨some (74, false), .un 77 .not (.tmp 76)⟩, qg 74 false (qm 78 77), qg 78 true (qf 79 3 7), qg 78 true (ql 80 79), qg 78 true (qL 81 80), qg 78 true (qj 82 .gtr 3 81 0), ⟨some (74, false), .pick 83 (.tmp 78) (.tmp 82) (.const (.bool false))⟩, ⟨none, .pick 84 (.tmp 74) (.const (.bool true)) (.tmp 83)⟩]
def QqO : List GO := [qk 4 (vi 4)]
def QqN : List GO := [qf 85 3 0, ql 86 85]
def QqM : List GO := [qj 88 .eql 3 86 2, qm 87 88]
def QqL : List GO := [qf 89 3 4, ql 90 89, qj 91 .lss 3 90 1, qm 92 91, qg 92 false (qf 93 3 4), qg 92 false (ql 94 93), qg 92 false (qj 95 .gtr 3 94 9), ⟨none, .pick 96 (.tmp 92) (.const (.bool true)) (.tmp 95)⟩]
def QqK : List GO := [qk 4 (vi 1)]
def Qom : List GO := [qj 98 .eql 3 86 5, qm 97 98]
def Qol : List GO := [qf 99 3 7, ql 100 99, qL 101 100, qj 102 .gtr 3 101 8]
def Qok : List GO := [qk 4 (vi 2)]
def Qoj : List GO := [qj 104 .eql 3 86 6, qm 103 104]
def Qoi : List GO := [qj 105 .eql 3 86 7, qm 103 105]
def Qoh : List GO := [qf 106 3 4, ql 107 106, qj 108 .lss 3 107 0, qm 109 108, qg 109 false (qf 110 3 4), qg 109 false (ql 111 110), qg 109 false (qj 112 .gtr 3 111 7), ⟨none, .pick 113 (.tmp 109) (.const (.bool true)) (.tmp 112)⟩]
def Qog : List GO := [qk 4 (vi 1)]
def Qof : List GO := [qj 115 .eql 3 86 14, qm 114 115]
def Qoe : List GO := [qf 116 3 4, ql 117 116, qj 118 .lss 3 117 0, qm 119 118, qg 119 false (qf 120 3 4), qg 119 false (ql 121 120), qg 119 false (qf 122 2 0), qg 119 false (ql 123 122), qg 119 false (qL 124 123), qg 119 false (qt 125 .geq 3 121 124), ⟨none, .pick 126 (.tmp 119) (.const (.bool true)) (.tmp 125)⟩]
def Qod : List GO := [qk 4 (vi 1)]
def Qoc : List GO := [qf 127 3 6, ql 128 127, qL 129 128, qj 130 .gtr 3 129 6, qm 131 130, qg 131 false (qf 132 3 7), qg 131 false (ql 133 132), qg 131 false (qL 134 133), qg 131 false (qj 135 .gtr 3 134 8), ⟨none, .pick 136 (.tmp 131) (.const (.bool true)) (.tmp 135)⟩]
def Qob : List GO := [qk 4 (vi 2)]
def Qoa : List GO := [qk 4 (vi 0)]
def R_InsForm_lc : LC := (.seq (.ops QqT) (.seq (.ops QqS) (.seq (.seq (.ops QqR) (.cond (.tmp 14) (.seq (.ops QqQ) .ret) .skip)) (.seq (.seq (.ops QqP) (.cond (.tmp 84) (.seq (.ops QqO) .ret) .skip)) (.seq (.seq (.ops QqN) (.block 0 (.seq (.ops QqM) (.cond (.tmp 87) (.seq (.ops QqL) (.cond (.tmp 96) (.seq (.ops QqK) .ret) .skip)) (.seq (.ops Qom) (.cond (.tmp 97) (.seq (.ops Qol) (.cond (.tmp 102) (.seq (.ops Qok) .ret) .skip)) (.seq (.seq (.ops Qoj) (.cond (.tmp 103) .skip (.ops Qoi))) (.cond (.tmp 103) (.seq (.ops Qoh) (.cond (.tmp 113) (.seq (.ops Qog) .ret) .skip)) (.seq (.ops Qof) (.cond (.tmp 114) (.seq (.seq (.ops Qoe) (.cond (.tmp 126) (.seq (.ops Qod) .ret) .skip)) (.seq (.ops Qoc) (.cond (.tmp 136) (.seq (.ops Qob) .ret) .skip))) .skip)))))))))) (.seq (.ops Qoa) .ret))))))
@[reducible] def QL : FuncId := 72
theorem Qon : lowF Tryz.prog Tryz.f72 = some R_InsForm_lc := by kernel_rfl
theorem QqU {a0 a1 : Value} {w : World} {R : Ending → World → Prop} (h : R_InsForm_lc.wp Tryz.prog (retQ Tryz.prog [.tmp 4] R) (Qg [a0, a1]) w) : Calls Tryz.prog QL ⟨[a0, a1]⟩ w R :=
  Q6 Tryz.func72 Qon (by kernel_rfl) (by kernel_rfl) h

/- 76 -/
/- 79 -/
def Qr4 : List GO := [qb 2 53 0, qb 3 45 1, qk 4 (vi 0)]
def Qr3 : List GO := [qf 6 3 0, ql 7 6, qj 8 .lss 3 7 1, qm 9 8, qg 9 false (qf 10 3 0), qg 9 false (ql 11 10), qg 9 false (qj 12 .gtr 3 11 3), ⟨none, .pick 13 (.tmp 9) (.const (.bool true)) (.tmp 12)⟩]
def Qr2 : List GO := [qk 4 (vi 3)]
def Qr1 : List GO := [qf 14 3 1, ql 15 14, qj 16 .neq 3 15 0, qm 17 16, qg 17 true (qf 18 3 0), qg 17 true (ql 19 18), qg 17 true (qj 20 .neq 3 19 2), ⟨none, .pick 21 (.tmp 17) (.tmp 20) (.const (.bool false))⟩, qm 22 21, qg 22 false (qf 23 3 8), qg 22 false (ql 24 23), qg 22 false (qL 25 24), qg 22 false (qj 26 .gtr 3 25 0), qg 22 false (qm 27 26), qg 27 true (qf 28 3 0), qg 27 true (ql 29 28), qg 27 true (qj 30 .neq 3 29 3), ⟨some (22, false), .pick 31 (.tmp 27) (.tmp 30) (.const (.bool false))⟩, ⟨none, .pick 32 (.tmp 22) (.const (.bool true)) (.tmp 31)⟩]
def Qr0 : List GO := [qk 4 (vi 4)]
def QqZ : List GO := [qf 33 3 8, ql 34 33, qL 35 34, qj 36 .gtr 3 35 8]
def QqY : List GO := [qk 4 (vi 2)]
def QqX : List GO := [qV 37 4 2, qf 38 3 2, qV 39 3 38, qf 40 3 0, ql 41 40, qj 42 .neq 3 41 3, ⟨none, .call (some 43) 137 [(.tmp 37), (.tmp 39), (.tmp 42)]⟩, qm 5 43]
def QqW : List GO := [qm 44 5, qj 45 .neq 3 44 0]
def QqV : List GO := [qm 46 5, qm 4 46]
def Qoy : List GO := [qV 47 4 2, qf 48 3 5, qV 49 3 48, qf 50 3 0, ql 51 50, qj 52 .eql 3 51 2, ⟨none, .call (some 53) 137 [(.tmp 47), (.tmp 49), (.tmp 52)]⟩, qm 4 53]
def R_EndForm_lc : LC := (.seq (.ops Qr4) (.seq (.seq (.ops Qr3) (.cond (.tmp 13) (.seq (.ops Qr2) .ret) .skip)) (.seq (.seq (.ops Qr1) (.cond (.tmp 32) (.seq (.ops Qr0) .ret) .skip)) (.seq (.seq (.ops QqZ) (.cond (.tmp 36) (.seq (.ops QqY) .ret) .skip)) (.seq (.seq (.ops QqX) (.seq (.ops QqW) (.cond (.tmp 45) (.seq (.ops QqV) .ret) .skip))) (.seq (.ops Qoy) .ret))))))
@[reducible] def Q2T : FuncId := 79
theorem Qoz : lowF Tryz.prog Tryz.f79 = some R_EndForm_lc := by kernel_rfl
theorem Qr5 {a0 a1 : Value} {w : World} {R : Ending → World → Prop} (h : R_EndForm_lc.wp Tryz.prog (retQ Tryz.prog [.tmp 4] R) (Qg [a0, a1]) w) : Calls Tryz.prog Q2T ⟨[a0, a1]⟩ w R :=
  Q6 Tryz.func79 Qoz (by kernel_rfl) (by kernel_rfl) h

/- 89 -/
def Qjx : List GO := [qk 2 (vi 0)]
def Qjw : List GO := [qm 3 0, qj 4 .mul 3 3 10000, qj 5 .add 3 4 9999, qm 2 5]
def code_FuncAt_lc : LC := (.seq (.ops Qjx) (.seq (.ops Qjw) .ret))
@[reducible] def Qhd : FuncId := 89
theorem Qhc : lowF Tryz.prog Tryz.f89 = some code_FuncAt_lc := by kernel_rfl
theorem Qjy {a0 : Value} {w : World} {R : Ending → World → Prop} (h : code_FuncAt_lc.wp Tryz.prog (retQ Tryz.prog [.tmp 2] R) (Qg [a0]) w) : Calls Tryz.prog Qhd ⟨[a0]⟩ w R :=
  Q6 Tryz.func89 Qhc (by kernel_rfl) (by kernel_rfl) h

/- 64 -/
def QsM : List GO := [qk 2 (vi 0)]
def QsL : List GO := [qm 3 0, ⟨none, .bin 4 .mul 3 (.const (vi 10000)) (.tmp 3)⟩, qj 5 .add 3 4 9999, qm 2 5]
def R_AtFunc_lc : LC := (.seq (.ops QsM) (.seq (.ops QsL) .ret))
@[reducible] def Qtn : FuncId := 64
theorem Qrw : lowF Tryz.prog Tryz.f64 = some R_AtFunc_lc := by kernel_rfl
theorem QsN {a0 : Value} {w : World} {R : Ending → World → Prop} (h : R_AtFunc_lc.wp Tryz.prog (retQ Tryz.prog [.tmp 2] R) (Qg [a0]) w) : Calls Tryz.prog Qtn ⟨[a0]⟩ w R :=
  Q6 Tryz.func64 Qrw (by kernel_rfl) (by kernel_rfl) h

/- 144 -/
def Qhi : List GO := [qk 4 (vi 0)]
def Qhh : List GO := [qm 5 0, qj 6 .mul 3 5 10000, qm 7 1, qj 8 .mul 3 7 100, qt 9 .add 3 6 8, qj 10 .add 3 9 90, qm 4 10]
def code_BlockAt_lc : LC := (.seq (.ops Qhi) (.seq (.ops Qhh) .ret))
@[reducible] def QdK : FuncId := 144
theorem Qey : lowF Tryz.prog Tryz.f144 = some code_BlockAt_lc := by kernel_rfl
theorem Qhj {a0 a1 : Value} {w : World} {R : Ending → World → Prop} (h : code_BlockAt_lc.wp Tryz.prog (retQ Tryz.prog [.tmp 4] R) (Qg [a0, a1]) w) : Calls Tryz.prog QdK ⟨[a0, a1]⟩ w R :=
  Q6 Tryz.func144 Qey (by kernel_rfl) (by kernel_rfl) h

/- 116 -/
def Qry : List GO := [qk 4 (vi 0)]
def Qrx : List GO := [qm 5 0, ⟨none, .bin 6 .mul 3 (.const (vi 10000)) (.tmp 5)⟩, qm 7 1, ⟨none, .bin 8 .mul 3 (.const (vi 100)) (.tmp 7)⟩, qt 9 .add 3 6 8, qj 10 .add 3 9 90, qm 4 10]
def R_AtBlock_lc : LC := (.seq (.ops Qry) (.seq (.ops Qrx) .ret))
@[reducible] def QrA : FuncId := 116
theorem Qpr : lowF Tryz.prog Tryz.f116 = some R_AtBlock_lc := by kernel_rfl
theorem Qrz {a0 a1 : Value} {w : World} {R : Ending → World → Prop} (h : R_AtBlock_lc.wp Tryz.prog (retQ Tryz.prog [.tmp 4] R) (Qg [a0, a1]) w) : Calls Tryz.prog QrA ⟨[a0, a1]⟩ w R :=
  Q6 Tryz.func116 Qpr (by kernel_rfl) (by kernel_rfl) h

/- 140 -/
def QmT : List GO := [qk 4 (vi 0)]
def QmS : List GO := [qm 5 0, qj 6 .mul 3 5 10000, qm 7 1, qj 8 .mul 3 7 100, qt 9 .add 3 6 8, qj 10 .add 3 9 91, qm 4 10]
def code_EndAt_lc : LC := (.seq (.ops QmT) (.seq (.ops QmS) .ret))
@[reducible] def Qm8 : FuncId := 140
theorem Qjz : lowF Tryz.prog Tryz.f140 = some code_EndAt_lc := by kernel_rfl
theorem QmU {a0 a1 : Value} {w : World} {R : Ending → World → Prop} (h : code_EndAt_lc.wp Tryz.prog (retQ Tryz.prog [.tmp 4] R) (Qg [a0, a1]) w) : Calls Tryz.prog Qm8 ⟨[a0, a1]⟩ w R :=
  Q6 Tryz.func140 Qjz (by kernel_rfl) (by kernel_rfl) h

/- 85 -/
def Qua : List GO := [qk 4 (vi 0)]
def Qu9 : List GO := [qm 5 0, ⟨none, .bin 6 .mul 3 (.const (vi 10000)) (.tmp 5)⟩, qm 7 1, ⟨none, .bin 8 .mul 3 (.const (vi 100)) (.tmp 7)⟩, qt 9 .add 3 6 8, qj 10 .add 3 9 91, qm 4 10]
def R_AtEnd_lc : LC := (.seq (.ops Qua) (.seq (.ops Qu9) .ret))
@[reducible] def QvI : FuncId := 85
theorem QsO : lowF Tryz.prog Tryz.f85 = some R_AtEnd_lc := by kernel_rfl
theorem Qub {a0 a1 : Value} {w : World} {R : Ending → World → Prop} (h : R_AtEnd_lc.wp Tryz.prog (retQ Tryz.prog [.tmp 4] R) (Qg [a0, a1]) w) : Calls Tryz.prog QvI ⟨[a0, a1]⟩ w R :=
  Q6 Tryz.func85 QsO (by kernel_rfl) (by kernel_rfl) h

/- 139 -/
def QmQ : List GO := [qk 6 (vi 0)]
def QmP : List GO := [qm 7 0, qj 8 .mul 3 7 10000, qm 9 1, qj 10 .mul 3 9 100, qt 11 .add 3 8 10, qm 12 2, qt 13 .add 3 11 12, qm 6 13]
def code_InsAt_lc : LC := (.seq (.ops QmQ) (.seq (.ops QmP) .ret))
@[reducible] def Qm7 : FuncId := 139
theorem Qjv : lowF Tryz.prog Tryz.f139 = some code_InsAt_lc := by kernel_rfl
theorem QmR {a0 a1 a2 : Value} {w : World} {R : Ending → World → Prop} (h : code_InsAt_lc.wp Tryz.prog (retQ Tryz.prog [.tmp 6] R) (Qg [a0, a1, a2]) w) : Calls Tryz.prog Qm7 ⟨[a0, a1, a2]⟩ w R :=
  Q6 Tryz.func139 Qjv (by kernel_rfl) (by kernel_rfl) h

/- 84 -/
def Qu7 : List GO := [qk 6 (vi 0)]
def Qu6 : List GO := [qm 7 0, ⟨none, .bin 8 .mul 3 (.const (vi 10000)) (.tmp 7)⟩, qm 9 1, ⟨none, .bin 10 .mul 3 (.const (vi 100)) (.tmp 9)⟩, qt 11 .add 3 8 10, qm 12 2, qt 13 .add 3 11 12, qm 6 13]
def R_AtIns_lc : LC := (.seq (.ops Qu7) (.seq (.ops Qu6) .ret))
@[reducible] def QvH : FuncId := 84
theorem QsK : lowF Tryz.prog Tryz.f84 = some R_AtIns_lc := by kernel_rfl
theorem Qu8 {a0 a1 a2 : Value} {w : World} {R : Ending → World → Prop} (h : R_AtIns_lc.wp Tryz.prog (retQ Tryz.prog [.tmp 6] R) (Qg [a0, a1, a2]) w) : Calls Tryz.prog QvH ⟨[a0, a1, a2]⟩ w R :=
  Q6 Tryz.func84 QsK (by kernel_rfl) (by kernel_rfl) h

/- 8 -/
def Qlm : List GO := [qb 1 24 0, ⟨none, .alloc 2 24 [vn]⟩]
def Qll : List GO := [⟨none, .alloc 3 24 [vn]⟩]
def Qlk : List GO := [qk 4 (vi 0)]
def Qlj : List GO := [qm 12 4, qf 13 1 0, ql 14 13, qL 15 14, qt 16 .lss 3 12 15]
def Qli : List GO := [qf 19 1 0, ql 20 19, qm 21 4, qi 22 4 20 21, qV 23 4 22, ⟨none, .alloc 5 53 [(vi 0), vn, vn, vn]⟩, qw 4 5 23]
def Qlh : List GO := [qf 24 5 0, ql 25 24, qf 26 5 1, ql 27 26, ⟨none, .call (some 28) 38 [(.tmp 27)]⟩, qf 29 5 2, ql 30 29, ⟨none, .call (some 31) 38 [(.tmp 30)]⟩, ⟨none, .build 32 [(vi 0), vn, vn, vn] [(0, (1, (.tmp 25))), (1, (1, (.tmp 28))), (2, (1, (.tmp 31)))]⟩, ⟨none, .alloc 6 53 [(vi 0), vn, vn, vn]⟩, qw 4 6 32]
def Qlp : List (List Nat) := [[],[0],[],[2],[3],[],[5],[6,4],[1,4,7],[],[9,8,7,0,1,2,3,4,5,6,7,8,9]]
def Qlg : List GO := [qk 7 (vi 0)]
def Qlf : List GO := [qm 33 7, qf 34 5 3, ql 35 34, qL 36 35, qt 37 .lss 3 33 36]
def Qle : List GO := [qf 40 5 3, ql 41 40, qm 42 7, qi 43 12 41 42, qV 44 12 43, ⟨none, .alloc 8 79 [(vi 0), vn, vn, (vi 0), (vi 0), (vi 0), vn, vn, (vi 0), vn, vn, vn]⟩, qw 12 8 44]
def Qld : List GO := [qf 45 8 0, ql 46 45, qf 47 8 1, ql 48 47, ⟨none, .call (some 49) 38 [(.tmp 48)]⟩, ⟨none, .build 50 [(vi 0), vn, vn, (vi 0), (vi 0), (vi 0), vn, vn, (vi 0), vn, vn, vn] [(0, (1, (.tmp 46))), (1, (1, (.tmp 49)))]⟩, ⟨none, .alloc 9 79 [(vi 0), vn, vn, (vi 0), (vi 0), (vi 0), vn, vn, (vi 0), vn, vn, vn]⟩, qw 12 9 50]
def Qlo : List (List Nat) := [[],[0],[],[2],[3],[1,4],[],[6,5,4,0,1,2,3,4,5,6]]
def QiE : List GO := [qk 10 (vi 0)]
def QiD : List GO := [qm 51 10, qf 52 8 2, ql 53 52, qL 54 53, qt 55 .lss 3 51 54]
def QiC : List GO := [qf 58 8 2, ql 59 58, qm 60 10, qi 61 8 59 60, qV 62 8 61, ⟨none, .alloc 11 57 [(vi 0), (vi 0), (vi 0), (vi 0), (vi 0), (vi 0), vn, vn]⟩, qw 8 11 62]
def QiB : List GO := [qf 63 11 6, ql 64 63, ⟨none, .call (some 65) 39 [(.tmp 64)]⟩, qf 66 11 7, ql 67 66, ⟨none, .call (some 68) 39 [(.tmp 67)]⟩, qf 69 11 6, qs 69 65, qf 70 11 7, qs 70 68]
def QiH : List (List Nat) := [[],[0],[1],[],[3],[4,2],[0,1,2,3,4],[6,2,5,0,1,2,3,4],[0,1,2,3,4,5,6,7],[8,5,7,0,1,2,3,4,5,6,7]]
def QiA : List GO := [qf 71 9 2, ql 72 71, qV 73 8 11, ⟨none, .buildS 74 57 1 [(vi 0), (vi 0), (vi 0), (vi 0), (vi 0), (vi 0), vn, vn] [(0, (8, (.tmp 73)))]⟩, ⟨none, .raw ⟨(some 75), (.call ⟨(.builtin .append), #[(.tmp 72), (.tmp 74)], #[40, 40]⟩), 40, "", #[], none⟩⟩, qf 76 9 2, qs 76 75]
def Qiz : List GO := [qm 56 10, qj 57 .add 3 56 1, qm 10 57]
def Q7y : LC := (.seq (.seq (.ops QiD) (.cond (.tmp 55) .skip (.exit 4))) (.seq (.block 5 (.seq (.ops QiC) (.seq (.draw QiB QiH) (.ops QiA)))) (.ops Qiz)))
def Qiy : List GO := [qf 77 8 3, qf 78 77 0, ql 79 78, qf 80 8 3, qf 81 80 1, ql 82 81, qf 83 8 3, qf 84 83 2, qV 85 3 84, ⟨none, .call (some 86) 40 [(.tmp 85)]⟩, qf 87 8 3, qf 88 87 5, qV 89 3 88, ⟨none, .call (some 90) 40 [(.tmp 89)]⟩, qf 91 8 3, qf 92 91 8, ql 93 92, ⟨none, .call (some 94) 39 [(.tmp 93)]⟩, ⟨none, .build 95 [(vi 0), (vi 0), (vi 0), vn, vn, (vi 0), vn, vn, vn] [(0, (1, (.tmp 79))), (1, (1, (.tmp 82))), (2, (3, (.tmp 86))), (5, (3, (.tmp 90))), (8, (1, (.tmp 94)))]⟩, qf 96 9 3, qw 9 96 95]
def QiG : List (List Nat) := [[],[0],[1],[],[3],[4],[],[6],[7],[8],[],[10],[11],[12,9],[],[14],[15],[16,13],[2,5,9,13,17],[0,1,2,3,4,5,6,7,8,9,10,11,12,13,14,15,16,17,18],[19,18,17,0,1,2,3,4,5,6,7,8,9,10,11,12,13,14,15,16,17,18]]
def Qix : List GO := [qf 97 6 3, ql 98 97, qV 99 12 9, ⟨none, .buildS 100 79 1 [(vi 0), vn, vn, (vi 0), (vi 0), (vi 0), vn, vn, (vi 0), vn, vn, vn] [(0, (12, (.tmp 99)))]⟩, ⟨none, .raw ⟨(some 101), (.call ⟨(.builtin .append), #[(.tmp 98), (.tmp 100)], #[51, 51]⟩), 51, "", #[], none⟩⟩, qf 102 6 3, qs 102 101]
def Qiw : List GO := [qm 38 7, qj 39 .add 3 38 1, qm 7 39]
def Q8U : LC := (.seq (.seq (.ops Qlf) (.cond (.tmp 37) .skip (.exit 2))) (.seq (.block 3 (.seq (.ops Qle) (.seq (.draw Qld Qlo) (.seq (.seq (.ops QiE) (.block 4 (.loop Q7y))) (.seq (.draw Qiy QiG) (.ops Qix)))))) (.ops Qiw)))
def Qiv : List GO := [qf 103 3 0, ql 104 103, qV 105 4 6, ⟨none, .buildS 106 53 1 [(vi 0), vn, vn, vn] [(0, (4, (.tmp 105)))]⟩, ⟨none, .raw ⟨(some 107), (.call ⟨(.builtin .append), #[(.tmp 104), (.tmp 106)], #[22, 22]⟩), 22, "", #[], none⟩⟩, qf 108 3 0, qs 108 107]
def Qiu : List GO := [qm 17 4, qj 18 .add 3 17 1, qm 4 18]
def Q8V : LC := (.seq (.seq (.ops Qlj) (.cond (.tmp 16) .skip (.exit 0))) (.seq (.block 1 (.seq (.ops Qli) (.seq (.draw Qlh Qlp) (.seq (.seq (.ops Qlg) (.block 2 (.loop Q8U))) (.ops Qiv))))) (.ops Qiu)))
def Qit : List GO := [qV 109 1 3, qw 1 2 109]
def R_OwnModule_lc : LC := (.seq (.ops Qlm) (.seq (.ops Qll) (.seq (.seq (.ops Qlk) (.block 0 (.loop Q8V))) (.seq (.ops Qit) .ret))))
@[reducible] def QiI : FuncId := 8
theorem QiF : lowF Tryz.prog Tryz.f8 = some R_OwnModule_lc := by kernel_rfl
theorem Qln {a0 : Value} {w : World} {R : Ending → World → Prop} (h : R_OwnModule_lc.wp Tryz.prog (retQ Tryz.prog [.cell 2 24] R) (Qg [a0]) w) : Calls Tryz.prog QiI ⟨[a0]⟩ w R :=
  Q6 Tryz.func8 QiF (by kernel_rfl) (by kernel_rfl) h

/- 41 -/
def Qn4 : List GO := [qb 1 24 0, ⟨none, .alloc 2 30 [(vi 0), (vi 0)]⟩]
def Qn3 : List GO := [qV 7 1 1, ⟨none, .build 8 [vn, (vi 0), (vi 0), (vi 0)] [(0, (1, (.tmp 7))), (3, (1, (.const (vi (-1)))))]⟩, qb 9 134 8, qm 3 9]
def Qn2 : List GO := [qm 10 3, qf 11 1 0, ql 12 11, qL 13 12, qj 14 .eql 3 13 0, qm 15 14, qg 15 false (qf 16 1 0), qg 15 false (ql 17 16), qg 15 false (qL 18 17), qg 15 false (qj 19 .gtr 3 18 8), ⟨none, .pick 20 (.tmp 15) (.const (.bool true)) (.tmp 19)⟩, ⟨none, .call (some 21) 88 [(.tmp 10), (.tmp 20), (.const (vi 2))]⟩]
def Qn1 : List GO := [qk 4 (vi 0)]
def Qn0 : List GO := [qm 22 4, qf 23 1 0, ql 24 23, qL 25 24, qt 26 .lss 3 22 25, qm 27 26, qg 27 true (qm 28 3), qg 27 true (qn 29 28), qg 27 true (qf 30 29 1), qg 27 true (qf 31 30 0), qg 27 true (ql 32 31), qg 27 true (qj 33 .eql 3 32 0), ⟨none, .pick 34 (.tmp 27) (.tmp 33) (.const (.bool false))⟩]
def QmZ : List GO := [qf 37 1 0, ql 38 37, qm 39 4, qi 40 4 38 39, qV 41 4 40, ⟨none, .alloc 5 53 [(vi 0), vn, vn, vn]⟩, qw 4 5 41]
def QmY : List GO := [qm 42 3, qm 43 4, ⟨none, .call (some 44) 89 [(.tmp 43)]⟩, qn 45 42, qf 46 45 3, qs 46 44]
def QmX : List GO := [qm 47 3, qf 48 5 0, ql 49 48, qj 50 .lss 3 49 0, qm 51 50, qg 51 false (qf 52 5 0), qg 51 false (ql 53 52), qg 51 false (qj 54 .gtr 3 53 6), ⟨none, .pick 55 (.tmp 51) (.const (.bool true)) (.tmp 54)⟩, ⟨none, .call (some 56) 88 [(.tmp 47), (.tmp 55), (.const (vi 1))]⟩]
def QmW : List GO := [qm 57 3, qf 58 5 1, ql 59 58, qf 60 5 0, ql 61 60, ⟨none, .call (some 62) 90 [(.tmp 57), (.tmp 59), (.tmp 61)]⟩]
def QmV : List GO := [qm 63 3, qf 64 5 2, ql 65 64, qf 66 5 0, ql 67 66, ⟨none, .call (some 68) 90 [(.tmp 63), (.tmp 65), (.tmp 67)]⟩]
def QjH : List GO := [qm 69 3, qf 70 5 3, ql 71 70, qL 72 71, qj 73 .eql 3 72 0, qm 74 73, qg 74 false (qf 75 5 3), qg 74 false (ql 76 75), qg 74 false (qL 77 76), qg 74 false (qj 78 .gtr 3 77 12), ⟨none, .pick 79 (.tmp 74) (.const (.bool true)) (.tmp 78)⟩, ⟨none, .call (some 80) 88 [(.tmp 69), (.tmp 79), (.const (vi 2))]⟩]
def QjG : List GO := [qm 81 3, qm 82 4, qj 83 .eql 3 82 0, qm 84 83, qg 84 true (qf 85 5 0), qg 84 true (ql 86 85), qg 84 true (qj 87 .gtr 3 86 0), qg 84 true (qm 88 87), qg 88 false (qf 89 5 1), qg 88 false (ql 90 89), qg 88 false (qL 91 90), qg 88 false (qj 92 .gtr 3 91 0), ⟨some (84, true), .pick 93 (.tmp 88) (.const (.bool true)) (.tmp 92)⟩, qg 84 true (qm 94 93), qg 94 false (qf 95 5 2), qg 94 false (ql 96 95), ⟨some (94, false), .call (some 97) 91 [(.tmp 96), (.func 92)]⟩, ⟨some (84, true), .pick 98 (.tmp 94) (.const (.bool true)) (.tmp 97)⟩, ⟨none, .pick 99 (.tmp 84) (.tmp 98) (.const (.bool false))⟩, ⟨none, .call (some 100) 88 [(.tmp 81), (.tmp 99), (.const (vi 18))]⟩]
def QjF : List GO := [qk 6 (vi 0)]
def QjE : List GO := [qm 101 6, qf 102 5 3, ql 103 102, qL 104 103, qt 105 .lss 3 101 104, qm 106 105, qg 106 true (qm 107 3), qg 106 true (qn 108 107), qg 106 true (qf 109 108 1), qg 106 true (qf 110 109 0), qg 106 true (ql 111 110), qg 106 true (qj 112 .eql 3 111 0), ⟨none, .pick 113 (.tmp 106) (.tmp 112) (.const (.bool false))⟩]
def QjD : List GO := [qm 116 3, qm 117 4, qm 118 6, ⟨none, .call (some 119) 93 [(.tmp 116), (.tmp 117), (.tmp 118)]⟩]
def QjC : List GO := [qm 114 6, qj 115 .add 3 114 1, qm 6 115]
def Q8P : LC := (.seq (.seq (.ops QjE) (.cond (.tmp 113) .skip (.exit 2))) (.seq (.block 3 (.ops QjD)) (.ops QjC)))
def QjB : List GO := [qm 35 4, qj 36 .add 3 35 1, qm 4 36]
def Qb5 : LC := (.seq (.seq (.ops Qn0) (.cond (.tmp 34) .skip (.exit 0))) (.seq (.block 1 (.seq (.ops QmZ) (.seq (.ops QmY) (.seq (.ops QmX) (.seq (.ops QmW) (.seq (.ops QmV) (.seq (.ops QjH) (.seq (.ops QjG) (.seq (.ops QjF) (.block 2 (.loop Q8P))))))))))) (.ops QjB)))
def QjA : List GO := [qm 120 3, qn 121 120, qf 122 121 1, qV 123 2 122, qw 2 2 123]
def code_Check_lc : LC := (.seq (.ops Qn4) (.seq (.ops Qn3) (.seq (.ops Qn2) (.seq (.seq (.ops Qn1) (.block 0 (.loop Qb5))) (.seq (.ops QjA) .ret)))))
@[reducible] def Q3Y : FuncId := 41
theorem QjI : lowF Tryz.prog Tryz.f41 = some code_Check_lc := by kernel_rfl
theorem Qn5 {a0 : Value} {w : World} {R : Ending → World → Prop} (h : code_Check_lc.wp Tryz.prog (retQ Tryz.prog [.cell 2 30] R) (Qg [a0]) w) : Calls Tryz.prog Q3Y ⟨[a0]⟩ w R :=
  Q6 Tryz.func41 QjI (by kernel_rfl) (by kernel_rfl) h

/- 19 -/
def QlT : List GO := [qb 1 24 0, ⟨none, .alloc 2 30 [(vi 0), (vi 0)]⟩]
def QlS : List GO := [qf 11 1 0, ql 12 11, qL 13 12, qj 14 .lss 3 13 1, qm 15 14, qg 15 false (qf 16 1 0), qg 15 false (ql 17 16), qg 15 false (qL 18 17), qg 15 false (qj 19 .gtr 3 18 8), ⟨none, .pick 20 (.tmp 15) (.const (.bool true)) (.tmp 19)⟩]
def QlR : List GO := [⟨none, .call (some 21) 51 [(.const (vi 2)), (.const (vi (-1)))]⟩, qw 2 2 21]
def QlQ : List GO := [qk 3 (vi 0)]
def QlP : List GO := [qm 22 3, qf 23 1 0, ql 24 23, qL 25 24, qt 26 .lss 3 22 25]
def QlO : List GO := [qf 29 1 0, ql 30 29, qm 31 3, qi 32 4 30 31, qV 33 4 32, ⟨none, .alloc 4 53 [(vi 0), vn, vn, vn]⟩, qw 4 4 33]
def QlN : List GO := [qf 34 4 0, ql 35 34, qj 36 .lss 3 35 0, qm 37 36, qg 37 false (qf 38 4 0), qg 37 false (ql 39 38), qg 37 false (qj 40 .gtr 3 39 6), ⟨none, .pick 41 (.tmp 37) (.const (.bool true)) (.tmp 40)⟩]
def QlM : List GO := [qm 42 3, ⟨none, .call (some 43) 64 [(.tmp 42)]⟩, ⟨none, .call (some 44) 51 [(.const (vi 1)), (.tmp 43)]⟩, qw 2 2 44]
def QlL : List GO := [qf 45 4 1, ql 46 45, qf 47 4 0, ql 48 47, ⟨none, .call (some 49) 65 [(.tmp 46), (.tmp 48)]⟩, qm 5 49]
def QlK : List GO := [qm 50 5, qj 51 .neq 3 50 0]
def Qj7 : List GO := [qm 52 5, qm 53 3, ⟨none, .call (some 54) 64 [(.tmp 53)]⟩, ⟨none, .call (some 55) 51 [(.tmp 52), (.tmp 54)]⟩, qw 2 2 55]
def Qj6 : List GO := [qf 56 4 2, ql 57 56, qf 58 4 0, ql 59 58, ⟨none, .call (some 60) 65 [(.tmp 57), (.tmp 59)]⟩, qm 6 60]
def Qj5 : List GO := [qm 61 6, qj 62 .neq 3 61 0]
def Qj4 : List GO := [qm 63 6, qm 64 3, ⟨none, .call (some 65) 64 [(.tmp 64)]⟩, ⟨none, .call (some 66) 51 [(.tmp 63), (.tmp 65)]⟩, qw 2 2 66]
def Qj3 : List GO := [qf 67 4 3, ql 68 67, qL 69 68, qj 70 .lss 3 69 1, qm 71 70, qg 71 false (qf 72 4 3), qg 71 false (ql 73 72), qg 71 false (qL 74 73), qg 71 false (qj 75 .gtr 3 74 12), ⟨none, .pick 76 (.tmp 71) (.const (.bool true)) (.tmp 75)⟩]
def Qj2 : List GO := [qm 77 3, ⟨none, .call (some 78) 64 [(.tmp 77)]⟩, ⟨none, .call (some 79) 51 [(.const (vi 2)), (.tmp 78)]⟩, qw 2 2 79]
def Qj1 : List GO := [qm 80 3, qj 81 .eql 3 80 0]
def Qj0 : List GO := [qf 82 4 0, ql 83 82, qj 84 .eql 3 83 0, qm 85 84, qg 85 true (qf 86 4 1), qg 85 true (ql 87 86), qg 85 true (qL 88 87), qg 85 true (qj 89 .eql 3 88 0), ⟨none, .pick 90 (.tmp 85) (.tmp 89) (.const (.bool false))⟩, qm 7 90]
def QiZ : List GO := [qk 8 (vi 0)]
def QiY : List GO := [qm 91 8, qf 92 4 2, ql 93 92, qL 94 93, qt 95 .lss 3 91 94]
def QiX : List GO := [qm 98 7, qm 99 98, qg 99 true (qf 100 4 2), qg 99 true (ql 101 100), qg 99 true (qm 102 8), qg 99 true (qi 103 3 101 102), qg 99 true (qf 104 103 0), qg 99 true (ql 105 104), qg 99 true (qj 106 .eql 3 105 1), ⟨none, .pick 107 (.tmp 99) (.tmp 106) (.const (.bool false))⟩, qm 7 107]
def QiW : List GO := [qm 96 8, qj 97 .add 3 96 1, qm 8 97]
def Q7A : LC := (.seq (.seq (.ops QiY) (.cond (.tmp 95) .skip (.exit 2))) (.seq (.block 3 (.ops QiX)) (.ops QiW)))
def QiV : List GO := [qm 108 7, ⟨none, .un 109 .not (.tmp 108)⟩]
def QiU : List GO := [qm 110 3, ⟨none, .call (some 111) 64 [(.tmp 110)]⟩, ⟨none, .call (some 112) 51 [(.const (vi 18)), (.tmp 111)]⟩, qw 2 2 112]
def QiT : List GO := [qk 9 (vi 0)]
def QiS : List GO := [qm 113 9, qf 114 4 3, ql 115 114, qL 116 115, qt 117 .lss 3 113 116]
def QiR : List GO := [qV 120 1 1, qm 121 3, qm 122 9, ⟨none, .call (some 123) 66 [(.tmp 120), (.tmp 121), (.tmp 122)]⟩, ⟨none, .alloc 10 30 [(vi 0), (vi 0)]⟩, qw 2 10 123]
def QiQ : List GO := [qf 124 10 0, ql 125 124, qj 126 .neq 3 125 0]
def QiP : List GO := [qV 127 2 10, qw 2 2 127]
def QiO : List GO := [qm 118 9, qj 119 .add 3 118 1, qm 9 119]
def Q7z : LC := (.seq (.seq (.ops QiS) (.cond (.tmp 117) .skip (.exit 4))) (.seq (.block 5 (.seq (.ops QiR) (.seq (.ops QiQ) (.cond (.tmp 126) (.seq (.ops QiP) .ret) .skip)))) (.ops QiO)))
def QiN : List GO := [qm 27 3, qj 28 .add 3 27 1, qm 3 28]
def Q8W : LC := (.seq (.seq (.ops QlP) (.cond (.tmp 26) .skip (.exit 0))) (.seq (.block 1 (.seq (.ops QlO) (.seq (.seq (.ops QlN) (.cond (.tmp 41) (.seq (.ops QlM) .ret) .skip)) (.seq (.seq (.ops QlL) (.seq (.ops QlK) (.cond (.tmp 51) (.seq (.ops Qj7) .ret) .skip))) (.seq (.seq (.ops Qj6) (.seq (.ops Qj5) (.cond (.tmp 62) (.seq (.ops Qj4) .ret) .skip))) (.seq (.seq (.ops Qj3) (.cond (.tmp 76) (.seq (.ops Qj2) .ret) .skip)) (.seq (.seq (.ops Qj1) (.cond (.tmp 81) (.seq (.ops Qj0) (.seq (.seq (.ops QiZ) (.block 2 (.loop Q7A))) (.seq (.ops QiV) (.cond (.tmp 109) (.seq (.ops QiU) .ret) .skip)))) .skip)) (.seq (.ops QiT) (.block 4 (.loop Q7z)))))))))) (.ops QiN)))
def QiM : List GO := [⟨none, .build 128 [(vi 0), (vi 0)] []⟩, qw 2 2 128]
def R_CodeFault_lc : LC := (.seq (.ops QlT) (.seq (.seq (.ops QlS) (.cond (.tmp 20) (.seq (.ops QlR) .ret) .skip)) (.seq (.seq (.ops QlQ) (.block 0 (.loop Q8W))) (.seq (.ops QiM) .ret))))
@[reducible] def QZ : FuncId := 19
theorem Qj8 : lowF Tryz.prog Tryz.f19 = some R_CodeFault_lc := by kernel_rfl
theorem QlU {a0 : Value} {w : World} {R : Ending → World → Prop} (h : R_CodeFault_lc.wp Tryz.prog (retQ Tryz.prog [.cell 2 30] R) (Qg [a0]) w) : Calls Tryz.prog QZ ⟨[a0]⟩ w R :=
  Q6 Tryz.func19 Qj8 (by kernel_rfl) (by kernel_rfl) h

/- 12 -/
def Qin : List GO := [qb 2 24 0, qb 3 24 1, qk 4 (.bool false)]
def Qim : List GO := [qf 9 2 0, ql 10 9, qL 11 10, qf 12 3 0, ql 13 12, qL 14 13, qt 15 .neq 3 11 14]
def Qil : List GO := [qk 4 (.bool false)]
def Qik : List GO := [qk 5 (vi 0)]
def Qij : List GO := [qm 16 5, qf 17 2 0, ql 18 17, qL 19 18, qt 20 .lss 3 16 19]
def Qii : List GO := [qf 23 2 0, ql 24 23, qm 25 5, qi 26 4 24 25, qV 27 4 26, qf 28 3 0, ql 29 28, qm 30 5, qi 31 4 29 30, qV 32 4 31, ⟨none, .alloc 6 53 [(vi 0), vn, vn, vn]⟩, ⟨none, .alloc 7 53 [(vi 0), vn, vn, vn]⟩, qw 4 6 27, qw 4 7 32]
def Qip : List (List Nat) := [[],[0],[],[1,2],[3],[],[5],[],[6,7],[8],[],[],[10,4,0,1,2,3,4,10,11],[11,9,12,0,1,2,3,4,5,6,7,8,9,10,11,12]]
def Qih : List GO := [qf 33 6 0, ql 34 33, qf 35 7 0, ql 36 35, qt 37 .neq 3 34 36, qm 38 37, qg 38 false (qf 39 6 1), qg 38 false (ql 40 39), qg 38 false (qf 41 7 1), qg 38 false (ql 42 41), ⟨some (38, false), .call (some 43) 23 [(.tmp 40), (.tmp 42)]⟩, ⟨some (38, false), .un 44 .not (.tmp 43)⟩, ⟨none, .pick 45 (.tmp 38) (.const (.bool true)) (.tmp 44)⟩, qm 46 45, qg 46 false (qf 47 6 2), qg 46 false (ql 48 47), qg 46 false (qf 49 7 2), qg 46 false (ql 50 49), ⟨some (46, false), .call (some 51) 23 [(.tmp 48), (.tmp 50)]⟩, ⟨some (46, false), .un 52 .not (.tmp 51)⟩, ⟨none, .pick 53 (.tmp 46) (.const (.bool true)) (.tmp 52)⟩, qm 54 53, qg 54 false (qf 55 6 3), qg 54 false (ql 56 55), qg 54 false (qL 57 56), qg 54 false (qf 58 7 3), qg 54 false (ql 59 58), qg 54 false (qL 60 59), qg 54 false (qt 61 .neq 3 57 60), ⟨none, .pick 62 (.tmp 54) (.const (.bool true)) (.tmp 61)⟩]
def Qig : List GO := [qk 4 (.bool false)]
def Qif : List GO := [qk 8 (vi 0)]
def Qie : List GO := [qm 63 8, qf 64 6 3, ql 65 64, qL 66 65, qt 67 .lss 3 63 66]
def Qfo : List GO := [qf 70 6 3, ql 71 70, qm 72 8, qi 73 12 71 72, qV 74 12 73, qf 75 7 3, ql 76 75, qm 77 8, qi 78 12 76 77, qV 79 12 78, ⟨none, .call (some 80) 52 [(.tmp 74), (.tmp 79)]⟩, ⟨none, .un 81 .not (.tmp 80)⟩]
def Qfq : List (List Nat) := [[],[0],[],[1,2],[3],[],[5],[],[6,7],[8],[4,9],[10]]
def Qfn : List GO := [qk 4 (.bool false)]
def Qfm : List GO := [qm 68 8, qj 69 .add 3 68 1, qm 8 69]
def Q4e : LC := (.seq (.seq (.ops Qie) (.cond (.tmp 67) .skip (.exit 2))) (.seq (.block 3 (.seq (.draw Qfo Qfq) (.cond (.tmp 81) (.seq (.ops Qfn) .ret) .skip))) (.ops Qfm)))
def Qfl : List GO := [qm 21 5, qj 22 .add 3 21 1, qm 5 22]
def Q7x : LC := (.seq (.seq (.ops Qij) (.cond (.tmp 20) .skip (.exit 0))) (.seq (.block 1 (.seq (.draw Qii Qip) (.seq (.seq (.ops Qih) (.cond (.tmp 62) (.seq (.ops Qig) .ret) .skip)) (.seq (.ops Qif) (.block 2 (.loop Q4e)))))) (.ops Qfl)))
def Qfk : List GO := [qk 4 (.bool true)]
def R_SameModule_lc : LC := (.seq (.ops Qin) (.seq (.seq (.ops Qim) (.cond (.tmp 15) (.seq (.ops Qil) .ret) .skip)) (.seq (.seq (.ops Qik) (.block 0 (.loop Q7x))) (.seq (.ops Qfk) .ret))))
@[reducible] def Q1l : FuncId := 12
theorem Qfp : lowF Tryz.prog Tryz.f12 = some R_SameModule_lc := by kernel_rfl
theorem Qio {a0 a1 : Value} {w : World} {R : Ending → World → Prop} (h : R_SameModule_lc.wp Tryz.prog (retQ Tryz.prog [.tmp 4] R) (Qg [a0, a1]) w) : Calls Tryz.prog Q1l ⟨[a0, a1]⟩ w R :=
  Q6 Tryz.func12 Qfp (by kernel_rfl) (by kernel_rfl) h

/- 61 -/
/- 23 -/
def Ql4 : List GO := [qk 4 (.bool false)]
def Ql3 : List GO := [qm 6 0, qL 7 6, qm 8 1, qL 9 8, qt 10 .neq 3 7 9]
def Ql2 : List GO := [qk 4 (.bool false)]
def Ql1 : List GO := [qk 5 (vi 0)]
def Ql0 : List GO := [qm 11 5, qm 12 0, qL 13 12, qt 14 .lss 3 11 13]
def QkZ : List GO := [qm 17 0, qm 18 5, qi 19 3 17 18, qV 20 3 19, qm 21 1, qm 22 5, qi 23 3 21 22, qV 24 3 23, ⟨none, .call (some 25) 74 [(.tmp 20), (.tmp 24)]⟩, ⟨none, .un 26 .not (.tmp 25)⟩]
def Ql6 : List (List Nat) := [[],[],[0,1],[2],[],[],[4,5],[6],[3,7],[8]]
def QkY : List GO := [qk 4 (.bool false)]
def QkX : List GO := [qm 15 5, qj 16 .add 3 15 1, qm 5 16]
def Q8T : LC := (.seq (.seq (.ops Ql0) (.cond (.tmp 14) .skip (.exit 0))) (.seq (.block 1 (.seq (.draw QkZ Ql6) (.cond (.tmp 26) (.seq (.ops QkY) .ret) .skip))) (.ops QkX)))
def QkW : List GO := [qk 4 (.bool true)]
def R_SameTypes_lc : LC := (.seq (.ops Ql4) (.seq (.seq (.ops Ql3) (.cond (.tmp 10) (.seq (.ops Ql2) .ret) .skip)) (.seq (.seq (.ops Ql1) (.block 0 (.loop Q8T))) (.seq (.ops QkW) .ret))))
@[reducible] def Q30 : FuncId := 23
theorem Qid : lowF Tryz.prog Tryz.f23 = some R_SameTypes_lc := by kernel_rfl
theorem Ql5 {a0 a1 : Value} {w : World} {R : Ending → World → Prop} (h : R_SameTypes_lc.wp Tryz.prog (retQ Tryz.prog [.tmp 4] R) (Qg [a0, a1]) w) : Calls Tryz.prog Q30 ⟨[a0, a1]⟩ w R :=
  Q6 Tryz.func23 Qid (by kernel_rfl) (by kernel_rfl) h

/- 25 -/
def QnY : List GO := [qk 4 (.bool false)]
def QnX : List GO := [qm 6 0, qL 7 6, qm 8 1, qL 9 8, qt 10 .neq 3 7 9]
def QnW : List GO := [qk 4 (.bool false)]
def QnV : List GO := [qk 5 (vi 0)]
def QnU : List GO := [qm 11 5, qm 12 0, qL 13 12, qt 14 .lss 3 11 13]
def QnT : List GO := [qm 17 0, qm 18 5, qi 19 1 17 18, ql 20 19, qm 21 1, qm 22 5, qi 23 1 21 22, ql 24 23, qt 25 .neq 3 20 24]
def Qo0 : List (List Nat) := [[],[],[0,1],[2],[],[],[4,5],[6],[3,7]]
def QnS : List GO := [qk 4 (.bool false)]
def QnR : List GO := [qm 15 5, qj 16 .add 3 15 1, qm 5 16]
def Qbv : LC := (.seq (.seq (.ops QnU) (.cond (.tmp 14) .skip (.exit 0))) (.seq (.block 1 (.seq (.draw QnT Qo0) (.cond (.tmp 25) (.seq (.ops QnS) .ret) .skip))) (.ops QnR)))
def QnQ : List GO := [qk 4 (.bool true)]
def R_SameInts_lc : LC := (.seq (.ops QnY) (.seq (.seq (.ops QnX) (.cond (.tmp 10) (.seq (.ops QnW) .ret) .skip)) (.seq (.seq (.ops QnV) (.block 0 (.loop Qbv))) (.seq (.ops QnQ) .ret))))
@[reducible] def Q40 : FuncId := 25
theorem Ql8 : lowF Tryz.prog Tryz.f25 = some R_SameInts_lc := by kernel_rfl
theorem QnZ {a0 a1 : Value} {w : World} {R : Ending → World → Prop} (h : R_SameInts_lc.wp Tryz.prog (retQ Tryz.prog [.tmp 4] R) (Qg [a0, a1]) w) : Calls Tryz.prog Q40 ⟨[a0, a1]⟩ w R :=
  Q6 Tryz.func25 Ql8 (by kernel_rfl) (by kernel_rfl) h

/- 36 -/
def QrC : List GO := [⟨none, .alloc 0 24 [vn]⟩]
def QrB : List GO := [⟨none, .build 1 [(vi 0), (vi 0), (vi 0), vn, vn, (vi 0), vn, vn, vn] [(0, (1, (.const (vi 3))))]⟩, ⟨none, .build 2 [(vi 0), vn, vn, (vi 0), (vi 0), (vi 0), vn, vn, (vi 0), vn, vn, vn] [(3, (9, (.tmp 1)))]⟩, ⟨none, .buildS 3 79 1 [(vi 0), vn, vn, (vi 0), (vi 0), (vi 0), vn, vn, (vi 0), vn, vn, vn] [(0, (12, (.tmp 2)))]⟩, ⟨none, .build 4 [(vi 0), vn, vn, vn] [(3, (1, (.tmp 3)))]⟩, ⟨none, .buildS 5 53 1 [(vi 0), vn, vn, vn] [(0, (4, (.tmp 4)))]⟩, ⟨none, .build 6 [vn] [(0, (1, (.tmp 5)))]⟩, qw 1 0 6]
def Law_least_lc : LC := (.seq (.ops QrC) (.seq (.ops QrB) .ret))
@[reducible] def QrE : FuncId := 36
theorem Qps : lowF Tryz.prog Tryz.f36 = some Law_least_lc := by kernel_rfl
theorem QrD {w : World} {R : Ending → World → Prop} (h : Law_least_lc.wp Tryz.prog (retQ Tryz.prog [.cell 0 24] R) (Qg []) w) : Calls Tryz.prog QrE ⟨[]⟩ w R :=
  Q6 Tryz.func36 Qps (by kernel_rfl) (by kernel_rfl) h

/- 37 -/
def QhZ : List GO := [qk 2 (.bool false)]
def QhY : List GO := [qm 4 0, qL 5 4, qj 6 .gtr 3 5 200]
def QhX : List GO := [qk 2 (.bool true)]
def QhW : List GO := [qk 3 (vi 0)]
def QhV : List GO := [qm 7 3, qm 8 0, qL 9 8, qt 10 .lss 3 7 9]
def QhU : List GO := [qm 13 0, qm 14 3, qi 15 3 13 14, qV 16 3 15, ⟨none, .call (some 17) 86 [(.tmp 16)]⟩]
def QhT : List GO := [qk 2 (.bool true)]
def QhS : List GO := [qm 11 3, qj 12 .add 3 11 1, qm 3 12]
def Q7w : LC := (.seq (.seq (.ops QhV) (.cond (.tmp 10) .skip (.exit 0))) (.seq (.block 1 (.seq (.ops QhU) (.cond (.tmp 17) (.seq (.ops QhT) .ret) .skip))) (.ops QhS)))
def QhR : List GO := [qk 2 (.bool false)]
def R_greatTypes_lc : LC := (.seq (.ops QhZ) (.seq (.seq (.ops QhY) (.cond (.tmp 6) (.seq (.ops QhX) .ret) .skip)) (.seq (.seq (.ops QhW) (.block 0 (.loop Q7w))) (.seq (.ops QhR) .ret))))
@[reducible] def Q34 : FuncId := 37
theorem Qf5 : lowF Tryz.prog Tryz.f37 = some R_greatTypes_lc := by kernel_rfl
theorem Qi0 {a0 : Value} {w : World} {R : Ending → World → Prop} (h : R_greatTypes_lc.wp Tryz.prog (retQ Tryz.prog [.tmp 2] R) (Qg [a0]) w) : Calls Tryz.prog Q34 ⟨[a0]⟩ w R :=
  Q6 Tryz.func37 Qf5 (by kernel_rfl) (by kernel_rfl) h

/- 117 -/
def Qcm : List GO := [qb 3 57 1]
def Qcl : List GO := [qm 5 0, qf 6 3 0, ql 7 6, qj 8 .lss 3 7 1, qm 9 8, qg 9 false (qf 10 3 0), qg 9 false (ql 11 10), qg 9 false (qj 12 .gtr 3 11 14), ⟨none, .pick 13 (.tmp 9) (.const (.bool true)) (.tmp 12)⟩, ⟨none, .call (some 14) 88 [(.tmp 5), (.tmp 13), (.const (vi 3))]⟩]
def Qck : List GO := [qf 15 3 0, ql 16 15, ⟨none, .call (some 17) 153 [(.tmp 16)]⟩, qm 4 17]
def Qcj : List GO := [qm 18 0, qm 19 4, ⟨none, .call (some 20) 154 [(.tmp 19), (.const (.int .u8 97))]⟩, ⟨none, .un 21 .not (.tmp 20)⟩, qm 22 21, qg 22 true (qf 23 3 1), qg 22 true (ql 24 23), qg 22 true (qj 25 .neq 3 24 0), ⟨none, .pick 26 (.tmp 22) (.tmp 25) (.const (.bool false))⟩, qm 27 26, qg 27 false (qm 28 4), ⟨some (27, false), .call (some 29) 154 [(.tmp 28), (.const (.int .u8 98))]⟩, ⟨some (27, false), .un 30 .not (.tmp 29)⟩, qg 27 false (qm 31 30), qg 31 true (qf 32 3 2), qg 31 true (ql 33 32), qg 31 true (qj 34 .neq 3 33 0), ⟨some (27, false), .pick 35 (.tmp 31) (.tmp 34) (.const (.bool false))⟩, ⟨none, .pick 36 (.tmp 27) (.const (.bool true)) (.tmp 35)⟩, qm 37 36, qg 37 false (qm 38 4), ⟨some (37, false), .call (some 39) 154 [(.tmp 38), (.const (.int .u8 99))]⟩, ⟨some (37, false), .un 40 .not (.tmp 39)⟩, qg 37 false (qm 41 40), qg 41 true (qf 42 3 3), qg 41 true (ql 43 42), qg 41 true (qj 44 .neq 3 43 0), ⟨some (37, false), .pick 45 (.tmp 41) (.tmp 44) (.const (.bool false))⟩, ⟨none, .pick 46 (.tmp 37) (.const (.bool true)) (.tmp 45)⟩, qm 47 46, qg 47 false (qm 48 4), ⟨some (47, false), .call (some 49) 154 [(.tmp 48), (.const (.int .u8 107))]⟩, ⟨some (47, false), .un 50 .not (.tmp 49)⟩, qg 47 false (qm 51 50), qg 51 true (qf 52 3 4), qg 51 true (ql 53 52), qg 51 true (qj 54 .neq 3 53 0), ⟨some (47, false), .pick 55 (.tmp 51) (.tmp 54) (.const (.bool false))⟩, ⟨none, .pick 56 (.tmp 47) (.const (.bool true)) (.tmp 55)⟩, qm 57 56, qg 57 false (qm 58 4), ⟨some (57, false), .call (some 59) 154 [(.tmp 58), (.const (.int .u8 110))]⟩, ⟨some (57, false), .un 60 .not (.tmp 59)⟩, qg 57 false (qm 61 60), qg 61 true (qf 62 3 5), qg 61 true (ql 63 62), qg 61 true (qj 64 .neq 2 63 0), ⟨some (57, false), .pick 65 (.tmp 61) (.tmp 64) (.const (.bool false))⟩, ⟨none, .pick 66 (.tmp 57) (.const (.bool true)) (.tmp 65)⟩, qm 67 66, qg 67 false (qm 68 4), ⟨some (67, false), .call (some 69) 154 [(.tmp 68), (.const (.int .u8 103))]⟩, ⟨some (67, false), .un 70 .not (.tmp 69)⟩, qg 67 false (qm 71 70), qg 71 true (qf 72 3 6), qg 71 true (ql 73 72), qg 71 true (qL 74 73), qg 71 true (qj 75 .gtr 3 74 0), ⟨some (67, false), .pick 76 (.tmp 71) (.tmp 75) (.const (.bool false))⟩, ⟨none, .pick 77 (.tmp 67) (.const (.bool true)) (.tmp 76)⟩, qm 78 77, qg 78 false (qm 79 4), ⟨some (78, false), .call (some 80) 154 [(.tmp 79), (.const (.int .u8 114))]⟩, ⟨some (78, false), .un 81 .not (.tmp 80)⟩, qg 78 false (qm 82 81), qg 82 true (qf 83 3 7), qg 82 true (ql 84 83), qg 82 true (qL 85 84), qg 82 true (qj 86 .gtr 3 85 0), ⟨some (78, false), .pick 87 (.tmp 82) (.tmp 86) (.const (.bool false))⟩, ⟨none, .pick 88 (.tmp 78) (.const (.bool true)) (.tmp 87)⟩, ⟨none, .call (some 89) 88 [(.tmp 18), (.tmp 88), (.const (vi 4))]⟩]
def Qci : List GO := [qf 90 3 0, ql 91 90]
def Qch : List GO := [qj 93 .eql 3 91 2, qm 92 93]
def Qcg : List GO := [qm 94 0, qf 95 3 4, ql 96 95, qj 97 .lss 3 96 1, qm 98 97, qg 98 false (qf 99 3 4), qg 98 false (ql 100 99), qg 98 false (qj 101 .gtr 3 100 9), ⟨none, .pick 102 (.tmp 98) (.const (.bool true)) (.tmp 101)⟩, ⟨none, .call (some 103) 88 [(.tmp 94), (.tmp 102), (.const (vi 1))]⟩]
def Qcf : List GO := [qj 105 .eql 3 91 5, qm 104 105]
def Qce : List GO := [qm 106 0, qf 107 3 7, ql 108 107, qL 109 108, qj 110 .gtr 3 109 8, ⟨none, .call (some 111) 88 [(.tmp 106), (.tmp 110), (.const (vi 2))]⟩]
def Qcd : List GO := [qj 113 .eql 3 91 6, qm 112 113]
def QaZ : List GO := [qj 114 .eql 3 91 7, qm 112 114]
def QaY : List GO := [qm 115 0, qf 116 3 4, ql 117 116, qj 118 .lss 3 117 0, qm 119 118, qg 119 false (qf 120 3 4), qg 119 false (ql 121 120), qg 119 false (qj 122 .geq 3 121 8), ⟨none, .pick 123 (.tmp 119) (.const (.bool true)) (.tmp 122)⟩, ⟨none, .call (some 124) 88 [(.tmp 115), (.tmp 123), (.const (vi 1))]⟩]
def QaX : List GO := [qj 126 .eql 3 91 14, qm 125 126]
def QaW : List GO := [qm 127 0, qf 128 3 4, ql 129 128, qj 130 .lss 3 129 0, qm 131 130, qg 131 false (qf 132 3 4), qg 131 false (ql 133 132), qg 131 false (qm 134 0), qg 131 false (qn 135 134), qg 131 false (qf 136 135 0), qg 131 false (qf 137 136 0), qg 131 false (ql 138 137), qg 131 false (qL 139 138), qg 131 false (qt 140 .geq 3 133 139), ⟨none, .pick 141 (.tmp 131) (.const (.bool true)) (.tmp 140)⟩, ⟨none, .call (some 142) 88 [(.tmp 127), (.tmp 141), (.const (vi 1))]⟩]
def Qb1 : List (List Nat) := [[],[],[1],[2],[3],[4],[5,4],[4],[7,4],[8,4],[9,4],[10,4],[11,4],[6,12,4],[4,13],[0,14,4]]
def QaV : List GO := [qm 143 0, qf 144 3 6, ql 145 144, qL 146 145, qj 147 .gtr 3 146 6, qm 148 147, qg 148 false (qf 149 3 7), qg 148 false (ql 150 149), qg 148 false (qL 151 150), qg 148 false (qj 152 .gtr 3 151 8), ⟨none, .pick 153 (.tmp 148) (.const (.bool true)) (.tmp 152)⟩, ⟨none, .call (some 154) 88 [(.tmp 143), (.tmp 153), (.const (vi 2))]⟩]
def code_judge_ins_lc : LC := (.seq (.ops Qcm) (.seq (.ops Qcl) (.seq (.ops Qck) (.seq (.ops Qcj) (.seq (.ops Qci) (.block 0 (.seq (.ops Qch) (.cond (.tmp 92) (.ops Qcg) (.seq (.ops Qcf) (.cond (.tmp 104) (.ops Qce) (.seq (.seq (.ops Qcd) (.cond (.tmp 112) .skip (.ops QaZ))) (.cond (.tmp 112) (.ops QaY) (.seq (.ops QaX) (.cond (.tmp 125) (.seq (.draw QaW Qb1) (.ops QaV)) .skip))))))))))))))
@[reducible] def Q16 : FuncId := 117
theorem Qb0 : lowF Tryz.prog Tryz.f117 = some code_judge_ins_lc := by kernel_rfl
theorem Qcn {a0 a1 : Value} {w : World} {R : Ending → World → Prop} (h : code_judge_ins_lc.wp Tryz.prog (retQ Tryz.prog [] R) (Qg [a0, a1]) w) : Calls Tryz.prog Q16 ⟨[a0, a1]⟩ w R :=
  Q6 Tryz.func117 Qb0 (by kernel_rfl) (by kernel_rfl) h

/- 99 -/
def Qox : List GO := [⟨none, .alloc 2 144 [(.bool false), (.bool false), (.bool false), (.bool false), (.bool false), (.bool false), (.bool false)]⟩, qk 3 (.bool false)]
def Qow : List GO := [qm 4 0]
def Qov : List GO := [qj 6 .eql 3 4 1, qm 5 6]
def Qou : List GO := [⟨none, .build 7 [(.bool false), (.bool false), (.bool false), (.bool false), (.bool false), (.bool false), (.bool false)] [(4, (1, (.const (.bool true))))]⟩, qw 7 2 7, qk 3 (.bool true)]
def Qot : List GO := [qj 9 .eql 3 4 2, qm 8 9]
def Qos : List GO := [qj 10 .eql 3 4 7, qm 8 10]
def Qor : List GO := [⟨none, .build 11 [(.bool false), (.bool false), (.bool false), (.bool false), (.bool false), (.bool false), (.bool false)] [(0, (1, (.const (.bool true)))), (1, (1, (.const (.bool true)))), (3, (1, (.const (.bool true))))]⟩, qw 7 2 11, qk 3 (.bool true)]
def Qoq : List GO := [qj 13 .eql 3 4 3, qm 12 13]
def Qop : List GO := [qj 14 .eql 3 4 12, qm 12 14]
def Qoo : List GO := [⟨none, .build 15 [(.bool false), (.bool false), (.bool false), (.bool false), (.bool false), (.bool false), (.bool false)] []⟩, qw 7 2 15, qk 3 (.bool true)]
def QlI : List GO := [qj 17 .eql 3 4 4, qm 16 17]
def QlH : List GO := [qj 18 .eql 3 4 11, qm 16 18]
def QlG : List GO := [qj 19 .eql 3 4 13, qm 16 19]
def QlF : List GO := [⟨none, .build 20 [(.bool false), (.bool false), (.bool false), (.bool false), (.bool false), (.bool false), (.bool false)] [(0, (1, (.const (.bool true))))]⟩, qw 7 2 20, qk 3 (.bool true)]
def QlE : List GO := [qj 22 .eql 3 4 5, qm 21 22]
def QlD : List GO := [⟨none, .build 23 [(.bool false), (.bool false), (.bool false), (.bool false), (.bool false), (.bool false), (.bool false)] [(0, (1, (.const (.bool true)))), (6, (1, (.const (.bool true))))]⟩, qw 7 2 23, qk 3 (.bool true)]
def QlC : List GO := [qj 25 .eql 3 4 6, qm 24 25]
def QlB : List GO := [⟨none, .build 26 [(.bool false), (.bool false), (.bool false), (.bool false), (.bool false), (.bool false), (.bool false)] [(0, (1, (.const (.bool true)))), (3, (1, (.const (.bool true))))]⟩, qw 7 2 26, qk 3 (.bool true)]
def QlA : List GO := [qj 28 .eql 3 4 8, qm 27 28]
def Qlz : List GO := [qj 29 .eql 3 4 9, qm 27 29]
def Qly : List GO := [⟨none, .build 30 [(.bool false), (.bool false), (.bool false), (.bool false), (.bool false), (.bool false), (.bool false)] [(0, (1, (.const (.bool true)))), (1, (1, (.const (.bool true))))]⟩, qw 7 2 30, qk 3 (.bool true)]
def Qlx : List GO := [qj 32 .eql 3 4 10, qm 31 32]
def Qlw : List GO := [⟨none, .build 33 [(.bool false), (.bool false), (.bool false), (.bool false), (.bool false), (.bool false), (.bool false)] [(0, (1, (.const (.bool true)))), (1, (1, (.const (.bool true)))), (2, (1, (.const (.bool true))))]⟩, qw 7 2 33, qk 3 (.bool true)]
def Qlv : List GO := [qj 35 .eql 3 4 14, qm 34 35]
def Qlu : List GO := [⟨none, .build 36 [(.bool false), (.bool false), (.bool false), (.bool false), (.bool false), (.bool false), (.bool false)] [(3, (1, (.const (.bool true)))), (5, (1, (.const (.bool true)))), (6, (1, (.const (.bool true))))]⟩, qw 7 2 36, qk 3 (.bool true)]
def Qlt : List GO := [⟨none, .build 37 [(.bool false), (.bool false), (.bool false), (.bool false), (.bool false), (.bool false), (.bool false)] []⟩, qw 7 2 37, qk 3 (.bool false)]
def R_FieldsOf_lc : LC := (.seq (.ops Qox) (.seq (.seq (.ops Qow) (.block 0 (.seq (.ops Qov) (.cond (.tmp 5) (.seq (.ops Qou) .ret) (.seq (.seq (.ops Qot) (.cond (.tmp 8) .skip (.ops Qos))) (.cond (.tmp 8) (.seq (.ops Qor) .ret) (.seq (.seq (.ops Qoq) (.cond (.tmp 12) .skip (.ops Qop))) (.cond (.tmp 12) (.seq (.ops Qoo) .ret) (.seq (.seq (.ops QlI) (.cond (.tmp 16) .skip (.seq (.ops QlH) (.cond (.tmp 16) .skip (.ops QlG))))) (.cond (.tmp 16) (.seq (.ops QlF) .ret) (.seq (.ops QlE) (.cond (.tmp 21) (.seq (.ops QlD) .ret) (.seq (.ops QlC) (.cond (.tmp 24) (.seq (.ops QlB) .ret) (.seq (.seq (.ops QlA) (.cond (.tmp 27) .skip (.ops Qlz))) (.cond (.tmp 27) (.seq (.ops Qly) .ret) (.seq (.ops Qlx) (.cond (.tmp 31) (.seq (.ops Qlw) .ret) (.seq (.ops Qlv) (.cond (.tmp 34) (.seq (.ops Qlu) .ret) .skip)))))))))))))))))))) (.seq (.ops Qlt) .ret)))
@[reducible] def Qd : FuncId := 99
theorem QlJ : lowF Tryz.prog Tryz.f99 = some R_FieldsOf_lc := by kernel_rfl
theorem Qbx {a0 : Value} {w : World} {R : Ending → World → Prop} (h : R_FieldsOf_lc.wp Tryz.prog (retQ Tryz.prog [.cell 2 144, .tmp 3] R) (Qg [a0]) w) : Calls Tryz.prog Qd ⟨[a0]⟩ w R :=
  Q6 Tryz.func99 QlJ (by kernel_rfl) (by kernel_rfl) h

/- 134 -/
def Qct : List GO := [qb 4 53 1, qb 5 45 2]
def Qcs : List GO := [qm 6 0, qf 7 5 0, ql 8 7, qj 9 .lss 3 8 1, qm 10 9, qg 10 false (qf 11 5 0), qg 10 false (ql 12 11), qg 10 false (qj 13 .gtr 3 12 3), ⟨none, .pick 14 (.tmp 10) (.const (.bool true)) (.tmp 13)⟩, ⟨none, .call (some 15) 88 [(.tmp 6), (.tmp 14), (.const (vi 3))]⟩]
def Qcr : List GO := [qm 16 0, qf 17 5 0, ql 18 17, qj 19 .neq 3 18 2, qm 20 19, qg 20 true (qf 21 5 1), qg 20 true (ql 22 21), qg 20 true (qj 23 .neq 3 22 0), ⟨none, .pick 24 (.tmp 20) (.tmp 23) (.const (.bool false))⟩, qm 25 24, qg 25 false (qf 26 5 0), qg 25 false (ql 27 26), qg 25 false (qj 28 .neq 3 27 3), qg 25 false (qm 29 28), qg 29 true (qf 30 5 8), qg 29 true (ql 31 30), qg 29 true (qL 32 31), qg 29 true (qj 33 .gtr 3 32 0), ⟨some (25, false), .pick 34 (.tmp 29) (.tmp 33) (.const (.bool false))⟩, ⟨none, .pick 35 (.tmp 25) (.const (.bool true)) (.tmp 34)⟩, ⟨none, .call (some 36) 88 [(.tmp 16), (.tmp 35), (.const (vi 4))]⟩]
def Qcq : List GO := [qm 37 0, qf 38 5 8, ql 39 38, qL 40 39, qj 41 .gtr 3 40 8, ⟨none, .call (some 42) 88 [(.tmp 37), (.tmp 41), (.const (vi 2))]⟩]
def Qcp : List GO := [qm 43 0, qV 44 4 4, qf 45 5 2, qV 46 3 45, qf 47 5 0, ql 48 47, qj 49 .neq 3 48 3, ⟨none, .call (some 50) 157 [(.tmp 43), (.tmp 44), (.tmp 46), (.tmp 49)]⟩]
def Qco : List GO := [qm 51 0, qV 52 4 4, qf 53 5 5, qV 54 3 53, qf 55 5 0, ql 56 55, qj 57 .eql 3 56 2, ⟨none, .call (some 58) 157 [(.tmp 51), (.tmp 52), (.tmp 54), (.tmp 57)]⟩]
def code_judge_end_lc : LC := (.seq (.ops Qct) (.seq (.ops Qcs) (.seq (.ops Qcr) (.seq (.ops Qcq) (.seq (.ops Qcp) (.ops Qco))))))
@[reducible] def Q8O : FuncId := 134
theorem Qb4 : lowF Tryz.prog Tryz.f134 = some code_judge_end_lc := by kernel_rfl
theorem Qcu {a0 a1 a2 : Value} {w : World} {R : Ending → World → Prop} (h : code_judge_end_lc.wp Tryz.prog (retQ Tryz.prog [] R) (Qg [a0, a1, a2]) w) : Calls Tryz.prog Q8O ⟨[a0, a1, a2]⟩ w R :=
  Q6 Tryz.func134 Qb4 (by kernel_rfl) (by kernel_rfl) h

/- 137 -/
def Qsq : List GO := [qb 3 53 0, qb 4 43 1, qk 6 (vi 0)]
def Qsp : List GO := [qm 7 2, ⟨none, .un 8 .not (.tmp 7)⟩]
def Qso : List GO := [qf 9 4 0, ql 10 9, qj 11 .neq 3 10 0, qm 12 11, qg 12 false (qf 13 4 1), qg 12 false (ql 14 13), qg 12 false (qL 15 14), qg 12 false (qf 16 4 2), qg 12 false (ql 17 16), qg 12 false (qL 18 17), qg 12 false (qt 19 .add 3 15 18), qg 12 false (qj 20 .gtr 3 19 0), ⟨none, .pick 21 (.tmp 12) (.const (.bool true)) (.tmp 20)⟩]
def Qsn : List GO := [qk 6 (vi 4)]
def Qsm : List GO := [qk 6 (vi 0)]
def Qsl : List GO := [qf 22 4 0, ql 23 22, qj 24 .lss 3 23 0, qm 25 24, qg 25 false (qf 26 4 0), qg 25 false (ql 27 26), qg 25 false (qf 28 3 3), qg 25 false (ql 29 28), qg 25 false (qL 30 29), qg 25 false (qt 31 .geq 3 27 30), ⟨none, .pick 32 (.tmp 25) (.const (.bool true)) (.tmp 31)⟩]
def Qsk : List GO := [qk 6 (vi 1)]
def Qsj : List GO := [qf 33 4 1, ql 34 33, qL 35 34, qj 36 .gtr 3 35 16, qm 37 36, qg 37 false (qf 38 4 2), qg 37 false (ql 39 38), qg 37 false (qL 40 39), qg 37 false (qj 41 .gtr 3 40 8), ⟨none, .pick 42 (.tmp 37) (.const (.bool true)) (.tmp 41)⟩]
def Qsi : List GO := [qk 6 (vi 2)]
def Qsh : List GO := [qk 6 (vi 0)]
def R_toForm_lc : LC := (.seq (.ops Qsq) (.seq (.seq (.ops Qsp) (.cond (.tmp 8) (.seq (.seq (.ops Qso) (.cond (.tmp 21) (.seq (.ops Qsn) .ret) .skip)) (.seq (.ops Qsm) .ret)) .skip)) (.seq (.seq (.ops Qsl) (.cond (.tmp 32) (.seq (.ops Qsk) .ret) .skip)) (.seq (.seq (.ops Qsj) (.cond (.tmp 42) (.seq (.ops Qsi) .ret) .skip)) (.seq (.ops Qsh) .ret)))))
@[reducible] def Q4r : FuncId := 137
theorem Qqq : lowF Tryz.prog Tryz.f137 = some R_toForm_lc := by kernel_rfl
theorem Qhv {a0 a1 a2 : Value} {w : World} {R : Ending → World → Prop} (h : R_toForm_lc.wp Tryz.prog (retQ Tryz.prog [.tmp 6] R) (Qg [a0, a1, a2]) w) : Calls Tryz.prog Q4r ⟨[a0, a1, a2]⟩ w R :=
  Q6 Tryz.func137 Qqq (by kernel_rfl) (by kernel_rfl) h

/- 38 -/
def Qo7 : List GO := [qk 2 vn]
def Qo6 : List GO := [qk 3 vn]
def Qo5 : List GO := [qk 4 (vi 0)]
def Qo4 : List GO := [qm 5 4, qm 6 0, qL 7 6, qt 8 .lss 3 5 7]
def Qo3 : List GO := [qm 11 3, qm 12 0, qm 13 4, qi 14 3 12 13, qV 15 3 14, ⟨none, .call (some 16) 87 [(.tmp 15)]⟩, ⟨none, .buildS 17 112 1 [(vi 0), (vi 0), vn] [(0, (3, (.tmp 16)))]⟩, ⟨none, .raw ⟨(some 18), (.call ⟨(.builtin .append), #[(.tmp 11), (.tmp 17)], #[50, 50]⟩), 50, "", #[], none⟩⟩, qm 3 18]
def Qo2 : List GO := [qm 9 4, qj 10 .add 3 9 1, qm 4 10]
def Qbw : LC := (.seq (.seq (.ops Qo4) (.cond (.tmp 8) .skip (.exit 0))) (.seq (.block 1 (.ops Qo3)) (.ops Qo2)))
def Qo1 : List GO := [qm 19 3, qm 2 19]
def R_OwnTypes_lc : LC := (.seq (.ops Qo7) (.seq (.ops Qo6) (.seq (.seq (.ops Qo5) (.block 0 (.loop Qbw))) (.seq (.ops Qo1) .ret))))
@[reducible] def Qdh : FuncId := 38
theorem Qlc : lowF Tryz.prog Tryz.f38 = some R_OwnTypes_lc := by kernel_rfl
theorem Qo8 {a0 : Value} {w : World} {R : Ending → World → Prop} (h : R_OwnTypes_lc.wp Tryz.prog (retQ Tryz.prog [.tmp 2] R) (Qg [a0]) w) : Calls Tryz.prog Qdh ⟨[a0]⟩ w R :=
  Q6 Tryz.func38 Qlc (by kernel_rfl) (by kernel_rfl) h

/- 39 -/
def QqD : List GO := [qk 2 vn]
def QqC : List GO := [qk 3 vn]
def QqB : List GO := [qm 4 3, qm 5 0, ⟨none, .raw ⟨(some 6), (.call ⟨(.builtin .append), #[(.tmp 4), (.tmp 5)], #[41, 41]⟩), 41, "", #[], none⟩⟩, qm 2 6]
def R_ownInts_lc : LC := (.seq (.ops QqD) (.seq (.ops QqC) (.seq (.ops QqB) .ret)))
@[reducible] def QqF : FuncId := 39
theorem Qni : lowF Tryz.prog Tryz.f39 = some R_ownInts_lc := by kernel_rfl
theorem QqE {a0 : Value} {w : World} {R : Ending → World → Prop} (h : R_ownInts_lc.wp Tryz.prog (retQ Tryz.prog [.tmp 2] R) (Qg [a0]) w) : Calls Tryz.prog QqF ⟨[a0]⟩ w R :=
  Q6 Tryz.func39 Qni (by kernel_rfl) (by kernel_rfl) h

/- 40 -/
def QtS : List GO := [qb 1 43 0, ⟨none, .alloc 2 43 [(vi 0), vn, vn]⟩]
def QtR : List GO := [qf 3 1 0, ql 4 3, qf 5 1 1, ql 6 5, ⟨none, .call (some 7) 39 [(.tmp 6)]⟩, qf 8 1 2, ql 9 8, ⟨none, .call (some 10) 39 [(.tmp 9)]⟩, ⟨none, .build 11 [(vi 0), vn, vn] [(0, (1, (.tmp 4))), (1, (1, (.tmp 7))), (2, (1, (.tmp 10)))]⟩, qw 3 2 11]
def QtU : List (List Nat) := [[],[0],[],[2],[3],[],[5],[6,4],[1,4,7],[8,7,0,1,2,3,4,5,6,7,8]]
def R_ownTo_lc : LC := (.seq (.ops QtS) (.seq (.draw QtR QtU) .ret))
@[reducible] def QvG : FuncId := 40
theorem Qsu : lowF Tryz.prog Tryz.f40 = some R_ownTo_lc := by kernel_rfl
theorem QtT {a0 : Value} {w : World} {R : Ending → World → Prop} (h : R_ownTo_lc.wp Tryz.prog (retQ Tryz.prog [.cell 2 43] R) (Qg [a0]) w) : Calls Tryz.prog QvG ⟨[a0]⟩ w R :=
  Q6 Tryz.func40 Qsu (by kernel_rfl) (by kernel_rfl) h

/- 88 -/
def Qb3 : List GO := [qm 6 1, qm 7 6, qg 7 true (qm 8 0), qg 7 true (qn 9 8), qg 7 true (qf 10 9 1), qg 7 true (qf 11 10 0), qg 7 true (ql 12 11), qg 7 true (qj 13 .eql 3 12 0), ⟨none, .pick 14 (.tmp 7) (.tmp 13) (.const (.bool false))⟩]
def Qb2 : List GO := [qm 15 0, qm 16 2, qm 17 0, qn 18 17, qf 19 18 3, ql 20 19, ⟨none, .build 21 [(vi 0), (vi 0)] [(0, (1, (.tmp 16))), (1, (1, (.tmp 20)))]⟩, qn 22 15, qf 23 22 1, qw 2 23 21]
def code_judge_fail_lc : LC := (.seq (.ops Qb3) (.cond (.tmp 14) (.ops Qb2) .skip))
@[reducible] def Q3g : FuncId := 88
theorem Q9W : lowF Tryz.prog Tryz.f88 = some code_judge_fail_lc := by kernel_rfl
theorem Q3f {a0 a1 a2 : Value} {w : World} {R : Ending → World → Prop} (h : code_judge_fail_lc.wp Tryz.prog (retQ Tryz.prog [] R) (Qg [a0, a1, a2]) w) : Calls Tryz.prog Q3g ⟨[a0, a1, a2]⟩ w R :=
  Q6 Tryz.func88 Q9W (by kernel_rfl) (by kernel_rfl) h

/- 90 -/
def QaT : List GO := [qm 9 0, qm 10 1, qL 11 10, qj 12 .gtr 3 11 8, ⟨none, .call (some 13) 88 [(.tmp 9), (.tmp 12), (.const (vi 2))]⟩]
def QaS : List GO := [qm 14 1, qL 15 14, qk 16 (vi 0)]
def QaR : List GO := [qt 17 .lss 3 16 15]
def QaQ : List GO := [qi 18 3 14 16, qV 19 3 18, ⟨none, .alloc 7 112 [(vi 0), (vi 0), vn]⟩, qw 3 7 19]
def QaP : List GO := [qV 20 3 7, qm 21 2, ⟨none, .call (some 22) 142 [(.tmp 20), (.tmp 21)]⟩, qm 8 22]
def QaO : List GO := [qm 23 0, qm 24 8, qj 25 .neq 3 24 0, qm 26 8, ⟨none, .call (some 27) 88 [(.tmp 23), (.tmp 25), (.tmp 26)]⟩]
def QaN : List GO := [qj 28 .add 3 16 1, qm 16 28]
def Q4p : LC := (.seq (.ops QaR) (.seq (.cond (.tmp 17) .skip (.exit 0)) (.seq (.block 1 (.seq (.ops QaQ) (.seq (.ops QaP) (.ops QaO)))) (.ops QaN))))
def code_judge_list_lc : LC := (.seq (.ops QaT) (.seq (.ops QaS) (.block 0 (.loop Q4p))))
@[reducible] def Q7q : FuncId := 90
theorem Q9V : lowF Tryz.prog Tryz.f90 = some code_judge_list_lc := by kernel_rfl
theorem QaU {a0 a1 a2 : Value} {w : World} {R : Ending → World → Prop} (h : code_judge_list_lc.wp Tryz.prog (retQ Tryz.prog [] R) (Qg [a0, a1, a2]) w) : Calls Tryz.prog Q7q ⟨[a0, a1, a2]⟩ w R :=
  Q6 Tryz.func90 Q9V (by kernel_rfl) (by kernel_rfl) h

/- 91 -/
def Q2o : List GO := [qk 4 (.bool false)]
def Q2n : List GO := [qm 5 0, qm 6 1, ⟨none, .call (some 7) 143 [(.tmp 5), (.tmp 6)]⟩, qj 8 .geq 3 7 0, qm 4 8]
def slices_ContainsFunc_api_Type_api_Type_lc : LC := (.seq (.ops Q2o) (.seq (.ops Q2n) .ret))
@[reducible] def Q1M : FuncId := 91
theorem Q2i : lowF Tryz.prog Tryz.f91 = some slices_ContainsFunc_api_Type_api_Type_lc := by kernel_rfl
theorem Q2p {a0 a1 : Value} {w : World} {R : Ending → World → Prop} (h : slices_ContainsFunc_api_Type_api_Type_lc.wp Tryz.prog (retQ Tryz.prog [.tmp 4] R) (Qg [a0, a1]) w) : Calls Tryz.prog Q1M ⟨[a0, a1]⟩ w R :=
  Q6 Tryz.func91 Q2i (by kernel_rfl) (by kernel_rfl) h

/- 92 -/
def Qhf : List GO := [qb 1 112 0, qk 2 (.bool false)]
def Qhe : List GO := [qf 3 1 0, ql 4 3, qj 5 .neq 3 4 1, qm 2 5]
def code_Check_1_lc : LC := (.seq (.ops Qhf) (.seq (.ops Qhe) .ret))
@[reducible] def Q4q : FuncId := 92
theorem Qex : lowF Tryz.prog Tryz.f92 = some code_Check_1_lc := by kernel_rfl
theorem Qhg {a0 : Value} {w : World} {R : Ending → World → Prop} (h : code_Check_1_lc.wp Tryz.prog (retQ Tryz.prog [.tmp 2] R) (Qg [a0]) w) : Calls Tryz.prog Q4q ⟨[a0]⟩ w R :=
  Q6 Tryz.func92 Qex (by kernel_rfl) (by kernel_rfl) h

/- 93 -/
def Qa6 : List GO := [qm 9 0, qn 10 9, qf 11 10 0, qf 12 11 0, ql 13 12, qm 14 1, qi 15 4 13 14, qV 16 4 15, ⟨none, .alloc 6 53 [(vi 0), vn, vn, vn]⟩, qw 4 6 16]
def Qa5 : List GO := [qf 17 6 3, ql 18 17, qm 19 2, qi 20 12 18 19, qV 21 12 20, ⟨none, .alloc 7 79 [(vi 0), vn, vn, (vi 0), (vi 0), (vi 0), vn, vn, (vi 0), vn, vn, vn]⟩, qw 12 7 21]
def Qa4 : List GO := [qm 22 0, qm 23 1, qm 24 2, ⟨none, .call (some 25) 144 [(.tmp 23), (.tmp 24)]⟩, qn 26 22, qf 27 26 3, qs 27 25]
def Qa3 : List GO := [qm 28 0, qf 29 7 0, ql 30 29, qf 31 6 0, ql 32 31, qt 33 .lss 3 30 32, qm 34 33, qg 34 false (qf 35 7 0), qg 34 false (ql 36 35), qg 34 false (qj 37 .gtr 3 36 16), ⟨none, .pick 38 (.tmp 34) (.const (.bool true)) (.tmp 37)⟩, ⟨none, .call (some 39) 88 [(.tmp 28), (.tmp 38), (.const (vi 1))]⟩]
def Qa2 : List GO := [qm 40 0, qf 41 7 1, ql 42 41, qf 43 7 0, ql 44 43, ⟨none, .call (some 45) 90 [(.tmp 40), (.tmp 42), (.tmp 44)]⟩]
def Qa1 : List GO := [qm 46 0, qm 47 2, qj 48 .eql 3 47 0, qm 49 48, qg 49 true (qf 50 7 0), qg 49 true (ql 51 50), qg 49 true (qf 52 6 0), qg 49 true (ql 53 52), qg 49 true (qt 54 .neq 3 51 53), qg 49 true (qm 55 54), qg 55 false (qf 56 7 1), qg 55 false (ql 57 56), qg 55 false (qf 58 6 1), qg 55 false (ql 59 58), ⟨some (55, false), .call (some 60) 145 [(.tmp 57), (.tmp 59), (.func 127)]⟩, ⟨some (55, false), .un 61 .not (.tmp 60)⟩, ⟨some (49, true), .pick 62 (.tmp 55) (.const (.bool true)) (.tmp 61)⟩, ⟨none, .pick 63 (.tmp 49) (.tmp 62) (.const (.bool false))⟩, ⟨none, .call (some 64) 88 [(.tmp 46), (.tmp 63), (.const (vi 9))]⟩]
def Qa0 : List GO := [qm 65 0, qf 66 7 2, ql 67 66, qL 68 67, qj 69 .gtr 3 68 40, ⟨none, .call (some 70) 88 [(.tmp 65), (.tmp 69), (.const (vi 2))]⟩]
def Q9Z : List GO := [qk 8 (vi 0)]
def Q9Y : List GO := [qm 71 8, qf 72 7 2, ql 73 72, qL 74 73, qt 75 .lss 3 71 74, qm 76 75, qg 76 true (qm 77 0), qg 76 true (qn 78 77), qg 76 true (qf 79 78 1), qg 76 true (qf 80 79 0), qg 76 true (ql 81 80), qg 76 true (qj 82 .eql 3 81 0), ⟨none, .pick 83 (.tmp 76) (.tmp 82) (.const (.bool false))⟩]
def Q9X : List GO := [qm 86 0, qm 87 1, qm 88 2, qm 89 8, ⟨none, .call (some 90) 139 [(.tmp 87), (.tmp 88), (.tmp 89)]⟩, qn 91 86, qf 92 91 3, qs 92 90]
def Q8I : List GO := [qm 93 0, qf 94 7 2, ql 95 94, qm 96 8, qi 97 8 95 96, qV 98 8 97, ⟨none, .call (some 99) 117 [(.tmp 93), (.tmp 98)]⟩]
def Q8H : List GO := [qm 84 8, qj 85 .add 3 84 1, qm 8 85]
def Q4d : LC := (.seq (.seq (.ops Q9Y) (.cond (.tmp 83) .skip (.exit 0))) (.seq (.block 1 (.seq (.ops Q9X) (.ops Q8I))) (.ops Q8H)))
def Q8G : List GO := [qm 100 0, qm 101 1, qm 102 2, ⟨none, .call (some 103) 140 [(.tmp 101), (.tmp 102)]⟩, qn 104 100, qf 105 104 3, qs 105 103]
def Q8F : List GO := [qm 106 0, qV 107 4 6, qf 108 7 3, qV 109 9 108, ⟨none, .call (some 110) 134 [(.tmp 106), (.tmp 107), (.tmp 109)]⟩]
def code_judge_block_lc : LC := (.seq (.ops Qa6) (.seq (.ops Qa5) (.seq (.ops Qa4) (.seq (.ops Qa3) (.seq (.ops Qa2) (.seq (.ops Qa1) (.seq (.ops Qa0) (.seq (.seq (.ops Q9Z) (.block 0 (.loop Q4d))) (.seq (.ops Q8G) (.ops Q8F))))))))))
@[reducible] def Q2V : FuncId := 93
theorem Q8J : lowF Tryz.prog Tryz.f93 = some code_judge_block_lc := by kernel_rfl
theorem Qa7 {a0 a1 a2 : Value} {w : World} {R : Ending → World → Prop} (h : code_judge_block_lc.wp Tryz.prog (retQ Tryz.prog [] R) (Qg [a0, a1, a2]) w) : Calls Tryz.prog Q2V ⟨[a0, a1, a2]⟩ w R :=
  Q6 Tryz.func93 Q8J (by kernel_rfl) (by kernel_rfl) h

/- 51 -/
def R_F_r0 : List GO := [⟨none, .alloc 4 30 [(vi 0), (vi 0)]⟩]
def R_F_r1 : List GO := [qm 5 0, qm 6 1, ⟨none, .build 7 [(vi 0), (vi 0)] [(0, (1, (.tmp 5))), (1, (1, (.tmp 6)))]⟩, qw 2 4 7]
def R_F_lc : LC := (.seq (.ops R_F_r0) (.seq (.ops R_F_r1) .ret))
@[reducible] def R_F : FuncId := 51
theorem R_F_low : lowF Tryz.prog Tryz.f51 = some R_F_lc := by kernel_rfl
theorem R_F_in {a0 a1 : Value} {w : World} {R : Ending → World → Prop} (h : R_F_lc.wp Tryz.prog (retQ Tryz.prog [.cell 4 30] R) (Qg [a0, a1]) w) : Calls Tryz.prog R_F ⟨[a0, a1]⟩ w R :=
  Q6 Tryz.func51 R_F_low (by kernel_rfl) (by kernel_rfl) h

/- 65 -/
def Qns : List GO := [qk 4 (vi 0)]
def Qnr : List GO := [qm 7 0, qL 8 7, qj 9 .gtr 3 8 8]
def Qnq : List GO := [qk 4 (vi 2)]
def Qnp : List GO := [qk 5 (vi 0)]
def Qno : List GO := [qm 10 5, qm 11 0, qL 12 11, qt 13 .lss 3 10 12]
def Qnn : List GO := [qm 16 0, qm 17 5, qi 18 3 16 17, qV 19 3 18, qm 20 1, ⟨none, .call (some 21) 115 [(.tmp 19), (.tmp 20)]⟩, qm 6 21]
def Qnm : List GO := [qm 22 6, qj 23 .neq 3 22 0]
def Qnl : List GO := [qm 24 6, qm 4 24]
def Qnk : List GO := [qm 14 5, qj 15 .add 3 14 1, qm 5 15]
def Qbt : LC := (.seq (.seq (.ops Qno) (.cond (.tmp 13) .skip (.exit 0))) (.seq (.block 1 (.seq (.ops Qnn) (.seq (.ops Qnm) (.cond (.tmp 23) (.seq (.ops Qnl) .ret) .skip)))) (.ops Qnk)))
def Qnj : List GO := [qk 4 (vi 0)]
def R_listForm_lc : LC := (.seq (.ops Qns) (.seq (.seq (.ops Qnr) (.cond (.tmp 9) (.seq (.ops Qnq) .ret) .skip)) (.seq (.seq (.ops Qnp) (.block 0 (.loop Qbt))) (.seq (.ops Qnj) .ret))))
@[reducible] def Q3Z : FuncId := 65
theorem QkD : lowF Tryz.prog Tryz.f65 = some R_listForm_lc := by kernel_rfl
theorem Qnt {a0 a1 : Value} {w : World} {R : Ending → World → Prop} (h : R_listForm_lc.wp Tryz.prog (retQ Tryz.prog [.tmp 4] R) (Qg [a0, a1]) w) : Calls Tryz.prog Q3Z ⟨[a0, a1]⟩ w R :=
  Q6 Tryz.func65 QkD (by kernel_rfl) (by kernel_rfl) h

/- 66 -/
def Qia : List GO := [qb 3 24 0, ⟨none, .alloc 6 30 [(vi 0), (vi 0)]⟩]
def Qi9 : List GO := [qf 13 3 0, ql 14 13, qm 15 1, qi 16 4 14 15, qV 17 4 16, ⟨none, .alloc 7 53 [(vi 0), vn, vn, vn]⟩, qw 4 7 17]
def Qi8 : List GO := [qf 18 7 3, ql 19 18, qm 20 2, qi 21 12 19 20, qV 22 12 21, ⟨none, .alloc 8 79 [(vi 0), vn, vn, (vi 0), (vi 0), (vi 0), vn, vn, (vi 0), vn, vn, vn]⟩, qw 12 8 22]
def Qi7 : List GO := [qf 23 8 0, ql 24 23, qf 25 7 0, ql 26 25, qt 27 .lss 3 24 26, qm 28 27, qg 28 false (qf 29 8 0), qg 28 false (ql 30 29), qg 28 false (qj 31 .gtr 3 30 16), ⟨none, .pick 32 (.tmp 28) (.const (.bool true)) (.tmp 31)⟩]
def Qi6 : List GO := [qm 33 1, qm 34 2, ⟨none, .call (some 35) 116 [(.tmp 33), (.tmp 34)]⟩, ⟨none, .call (some 36) 51 [(.const (vi 1)), (.tmp 35)]⟩, qw 2 6 36]
def Qi5 : List GO := [qf 37 8 1, ql 38 37, qf 39 8 0, ql 40 39, ⟨none, .call (some 41) 65 [(.tmp 38), (.tmp 40)]⟩, qm 9 41]
def Qi4 : List GO := [qm 42 9, qj 43 .neq 3 42 0]
def Qi3 : List GO := [qm 44 9, qm 45 1, qm 46 2, ⟨none, .call (some 47) 116 [(.tmp 45), (.tmp 46)]⟩, ⟨none, .call (some 48) 51 [(.tmp 44), (.tmp 47)]⟩, qw 2 6 48]
def Qi2 : List GO := [qm 49 2, qj 50 .eql 3 49 0, qm 51 50, qg 51 true (qf 52 8 0), qg 51 true (ql 53 52), qg 51 true (qf 54 7 0), qg 51 true (ql 55 54), qg 51 true (qt 56 .neq 3 53 55), qg 51 true (qm 57 56), qg 57 false (qf 58 8 1), qg 57 false (ql 59 58), qg 57 false (qf 60 7 1), qg 57 false (ql 61 60), ⟨some (57, false), .call (some 62) 23 [(.tmp 59), (.tmp 61)]⟩, ⟨some (57, false), .un 63 .not (.tmp 62)⟩, ⟨some (51, true), .pick 64 (.tmp 57) (.const (.bool true)) (.tmp 63)⟩, ⟨none, .pick 65 (.tmp 51) (.tmp 64) (.const (.bool false))⟩]
def Qi1 : List GO := [qm 66 1, qm 67 2, ⟨none, .call (some 68) 116 [(.tmp 66), (.tmp 67)]⟩, ⟨none, .call (some 69) 51 [(.const (vi 9)), (.tmp 68)]⟩, qw 2 6 69]
def Qfh : List GO := [qf 70 8 2, ql 71 70, qL 72 71, qj 73 .gtr 3 72 40]
def Qfg : List GO := [qm 74 1, qm 75 2, ⟨none, .call (some 76) 116 [(.tmp 74), (.tmp 75)]⟩, ⟨none, .call (some 77) 51 [(.const (vi 2)), (.tmp 76)]⟩, qw 2 6 77]
def Qff : List GO := [qk 10 (vi 0)]
def Qfe : List GO := [qm 78 10, qf 79 8 2, ql 80 79, qL 81 80, qt 82 .lss 3 78 81]
def Qfd : List GO := [qV 85 1 3, qf 86 8 2, ql 87 86, qm 88 10, qi 89 8 87 88, qV 90 8 89, ⟨none, .call (some 91) 72 [(.tmp 85), (.tmp 90)]⟩, qm 11 91]
def Qfj : List (List Nat) := [[],[],[1],[],[2,3],[4],[0,5],[6,6,0,1,2,3,4,5,6]]
def Qfc : List GO := [qm 92 11, qj 93 .neq 3 92 0]
def Qfb : List GO := [qm 94 11, qm 95 1, qm 96 2, qm 97 10, ⟨none, .call (some 98) 84 [(.tmp 95), (.tmp 96), (.tmp 97)]⟩, ⟨none, .call (some 99) 51 [(.tmp 94), (.tmp 98)]⟩, qw 2 6 99]
def Qfa : List GO := [qm 83 10, qj 84 .add 3 83 1, qm 10 84]
def Q5L : LC := (.seq (.seq (.ops Qfe) (.cond (.tmp 82) .skip (.exit 0))) (.seq (.block 1 (.seq (.draw Qfd Qfj) (.seq (.ops Qfc) (.cond (.tmp 93) (.seq (.ops Qfb) .ret) .skip)))) (.ops Qfa)))
def Qf9 : List GO := [qV 100 4 7, qf 101 8 3, qV 102 9 101, ⟨none, .call (some 103) 79 [(.tmp 100), (.tmp 102)]⟩, qm 12 103]
def Qf8 : List GO := [qm 104 12, qj 105 .neq 3 104 0]
def Qf7 : List GO := [qm 106 12, qm 107 1, qm 108 2, ⟨none, .call (some 109) 85 [(.tmp 107), (.tmp 108)]⟩, ⟨none, .call (some 110) 51 [(.tmp 106), (.tmp 109)]⟩, qw 2 6 110]
def Qf6 : List GO := [⟨none, .build 111 [(vi 0), (vi 0)] []⟩, qw 2 6 111]
def R_blockFault_lc : LC := (.seq (.ops Qia) (.seq (.ops Qi9) (.seq (.ops Qi8) (.seq (.seq (.ops Qi7) (.cond (.tmp 32) (.seq (.ops Qi6) .ret) .skip)) (.seq (.seq (.ops Qi5) (.seq (.ops Qi4) (.cond (.tmp 43) (.seq (.ops Qi3) .ret) .skip))) (.seq (.seq (.ops Qi2) (.cond (.tmp 65) (.seq (.ops Qi1) .ret) .skip)) (.seq (.seq (.ops Qfh) (.cond (.tmp 73) (.seq (.ops Qfg) .ret) .skip)) (.seq (.seq (.ops Qff) (.block 0 (.loop Q5L))) (.seq (.seq (.ops Qf9) (.seq (.ops Qf8) (.cond (.tmp 105) (.seq (.ops Qf7) .ret) .skip))) (.seq (.ops Qf6) .ret))))))))))
@[reducible] def Q18 : FuncId := 66
theorem Qfi : lowF Tryz.prog Tryz.f66 = some R_blockFault_lc := by kernel_rfl
theorem Qib {a0 a1 a2 : Value} {w : World} {R : Ending → World → Prop} (h : R_blockFault_lc.wp Tryz.prog (retQ Tryz.prog [.cell 6 30] R) (Qg [a0, a1, a2]) w) : Calls Tryz.prog Q18 ⟨[a0, a1, a2]⟩ w R :=
  Q6 Tryz.func66 Qfi (by kernel_rfl) (by kernel_rfl) h

/- 52 -/
def Qkq : List GO := [qb 2 79 0, qb 3 79 1, qk 4 (.bool false)]
def Qkp : List GO := [qf 6 2 0, ql 7 6, qf 8 3 0, ql 9 8, qt 10 .neq 3 7 9, qm 11 10, qg 11 false (qf 12 2 1), qg 11 false (ql 13 12), qg 11 false (qf 14 3 1), qg 11 false (ql 15 14), ⟨some (11, false), .call (some 16) 23 [(.tmp 13), (.tmp 15)]⟩, ⟨some (11, false), .un 17 .not (.tmp 16)⟩, ⟨none, .pick 18 (.tmp 11) (.const (.bool true)) (.tmp 17)⟩, qm 19 18, qg 19 false (qf 20 2 2), qg 19 false (ql 21 20), qg 19 false (qL 22 21), qg 19 false (qf 23 3 2), qg 19 false (ql 24 23), qg 19 false (qL 25 24), qg 19 false (qt 26 .neq 3 22 25), ⟨none, .pick 27 (.tmp 19) (.const (.bool true)) (.tmp 26)⟩]
def Qko : List GO := [qk 4 (.bool false)]
def Qkn : List GO := [qk 5 (vi 0)]
def Qkm : List GO := [qm 28 5, qf 29 2 2, ql 30 29, qL 31 30, qt 32 .lss 3 28 31]
def Qkl : List GO := [qf 35 2 2, ql 36 35, qm 37 5, qi 38 8 36 37, qV 39 8 38, qf 40 3 2, ql 41 40, qm 42 5, qi 43 8 41 42, qV 44 8 43, ⟨none, .call (some 45) 100 [(.tmp 39), (.tmp 44)]⟩, ⟨none, .un 46 .not (.tmp 45)⟩]
def Qks : List (List Nat) := [[],[0],[],[1,2],[3],[],[5],[],[6,7],[8],[4,9],[10]]
def Qkk : List GO := [qk 4 (.bool false)]
def Qkj : List GO := [qm 33 5, qj 34 .add 3 33 1, qm 5 34]
def Q8R : LC := (.seq (.seq (.ops Qkm) (.cond (.tmp 32) .skip (.exit 0))) (.seq (.block 1 (.seq (.draw Qkl Qks) (.cond (.tmp 46) (.seq (.ops Qkk) .ret) .skip))) (.ops Qkj)))
def Qki : List GO := [qf 47 2 3, qf 48 47 0, ql 49 48, qf 50 3 3, qf 51 50 0, ql 52 51, qt 53 .eql 3 49 52, qm 54 53, qg 54 true (qf 55 2 3), qg 54 true (qf 56 55 1), qg 54 true (ql 57 56), qg 54 true (qf 58 3 3), qg 54 true (qf 59 58 1), qg 54 true (ql 60 59), qg 54 true (qt 61 .eql 3 57 60), ⟨none, .pick 62 (.tmp 54) (.tmp 61) (.const (.bool false))⟩, qm 63 62, qg 63 true (qf 64 2 3), qg 63 true (qf 65 64 2), qg 63 true (qV 66 3 65), qg 63 true (qf 67 3 3), qg 63 true (qf 68 67 2), qg 63 true (qV 69 3 68), ⟨some (63, true), .call (some 70) 101 [(.tmp 66), (.tmp 69)]⟩, ⟨none, .pick 71 (.tmp 63) (.tmp 70) (.const (.bool false))⟩, qm 72 71, qg 72 true (qf 73 2 3), qg 72 true (qf 74 73 5), qg 72 true (qV 75 3 74), qg 72 true (qf 76 3 3), qg 72 true (qf 77 76 5), qg 72 true (qV 78 3 77), ⟨some (72, true), .call (some 79) 101 [(.tmp 75), (.tmp 78)]⟩, ⟨none, .pick 80 (.tmp 72) (.tmp 79) (.const (.bool false))⟩, qm 81 80, qg 81 true (qf 82 2 3), qg 81 true (qf 83 82 8), qg 81 true (ql 84 83), qg 81 true (qf 85 3 3), qg 81 true (qf 86 85 8), qg 81 true (ql 87 86), ⟨some (81, true), .call (some 88) 25 [(.tmp 84), (.tmp 87)]⟩, ⟨none, .pick 89 (.tmp 81) (.tmp 88) (.const (.bool false))⟩, qm 4 89]
def R_sameBlock_lc : LC := (.seq (.ops Qkq) (.seq (.seq (.ops Qkp) (.cond (.tmp 27) (.seq (.ops Qko) .ret) .skip)) (.seq (.seq (.ops Qkn) (.block 0 (.loop Q8R))) (.seq (.ops Qki) .ret))))
@[reducible] def Q3v : FuncId := 52
theorem QhN : lowF Tryz.prog Tryz.f52 = some R_sameBlock_lc := by kernel_rfl
theorem Qkr {a0 a1 : Value} {w : World} {R : Ending → World → Prop} (h : R_sameBlock_lc.wp Tryz.prog (retQ Tryz.prog [.tmp 4] R) (Qg [a0, a1]) w) : Calls Tryz.prog Q3v ⟨[a0, a1]⟩ w R :=
  Q6 Tryz.func52 QhN (by kernel_rfl) (by kernel_rfl) h

/- 112 -/
/- 113 -/
/- 114 -/
/- 145 -/
def Q1G : List GO := [qk 6 (.bool false)]
def Q1F : List GO := [qm 10 0, qL 11 10, qm 12 1, qL 13 12, qt 14 .neq 3 11 13]
def Q1E : List GO := [qk 6 (.bool false)]
def Q1D : List GO := [qm 15 0, qL 16 15, qk 17 (vi 0)]
def Q1C : List GO := [qt 18 .lss 3 17 16]
def Q1B : List GO := [qm 19 17, qi 20 3 15 17, qV 21 3 20, ⟨none, .alloc 8 112 [(vi 0), (vi 0), vn]⟩, qm 7 19, qw 3 8 21]
def Q1A : List GO := [qm 22 1, qm 23 7, qi 24 3 22 23, qV 25 3 24, ⟨none, .alloc 9 112 [(vi 0), (vi 0), vn]⟩, qw 3 9 25]
def Q1z : List GO := [qm 26 2, qV 27 3 8, qV 28 3 9, ⟨none, .callv (some 29) (.tmp 26) [(.tmp 27), (.tmp 28)]⟩, ⟨none, .un 30 .not (.tmp 29)⟩]
def Q1y : List GO := [qk 6 (.bool false)]
def Q1x : List GO := [qj 31 .add 3 17 1, qm 17 31]
def QQ : LC := (.seq (.ops Q1C) (.seq (.cond (.tmp 18) .skip (.exit 0)) (.seq (.block 1 (.seq (.ops Q1B) (.seq (.ops Q1A) (.seq (.ops Q1z) (.cond (.tmp 30) (.seq (.ops Q1y) .ret) .skip))))) (.ops Q1x))))
def Q1u : List GO := [qk 6 (.bool true)]
def slices_EqualFunc_api_Type_api_Type_api_Type_api_Type_lc : LC := (.seq (.ops Q1G) (.seq (.seq (.ops Q1F) (.cond (.tmp 14) (.seq (.ops Q1E) .ret) .skip)) (.seq (.seq (.ops Q1D) (.block 0 (.loop QQ))) (.seq (.ops Q1u) .ret))))
@[reducible] def Qf : FuncId := 145
theorem Q1v : lowF Tryz.prog Tryz.f145 = some slices_EqualFunc_api_Type_api_Type_api_Type_api_Type_lc := by kernel_rfl
theorem Q1H {a0 a1 a2 : Value} {w : World} {R : Ending → World → Prop} (h : slices_EqualFunc_api_Type_api_Type_api_Type_api_Type_lc.wp Tryz.prog (retQ Tryz.prog [.tmp 6] R) (Qg [a0, a1, a2]) w) : Calls Tryz.prog Qf ⟨[a0, a1, a2]⟩ w R :=
  Q6 Tryz.func145 Q1v (by kernel_rfl) (by kernel_rfl) h

/- 127 -/
def Qms : List GO := [qb 2 112 0, qb 3 112 1, qk 4 (.bool false)]
def Qmr : List GO := [qf 5 2 0, ql 6 5, qf 7 3 0, ql 8 7, qt 9 .eql 3 6 8, qm 10 9, qg 10 true (qf 11 2 1), qg 10 true (ql 12 11), qg 10 true (qf 13 3 1), qg 10 true (ql 14 13), qg 10 true (qt 15 .eql 3 12 14), ⟨none, .pick 16 (.tmp 10) (.tmp 15) (.const (.bool false))⟩, qm 17 16, qg 17 true (qf 18 2 2), qg 17 true (ql 19 18), qg 17 true (qf 20 3 2), qg 17 true (ql 21 20), ⟨some (17, true), .call (some 22) 145 [(.tmp 19), (.tmp 21), (.func 127)]⟩, ⟨none, .pick 23 (.tmp 17) (.tmp 22) (.const (.bool false))⟩, qm 4 23]
def types_Same_lc : LC := (.seq (.ops Qms) (.seq (.ops Qmr) .ret))
@[reducible] def QlW : FuncId := 127
theorem Qjm : lowF Tryz.prog Tryz.f127 = some types_Same_lc := by kernel_rfl
theorem Qmt {a0 a1 : Value} {w : World} {R : Ending → World → Prop} (h : types_Same_lc.wp Tryz.prog (retQ Tryz.prog [.tmp 4] R) (Qg [a0, a1]) w) : Calls Tryz.prog QlW ⟨[a0, a1]⟩ w R :=
  Q6 Tryz.func127 Qjm (by kernel_rfl) (by kernel_rfl) h

/- 74 -/
def QnO : List GO := [qb 2 112 0, qb 3 112 1, qk 4 (.bool false)]
def QnN : List GO := [qf 5 2 0, ql 6 5, qf 7 3 0, ql 8 7, qt 9 .eql 3 6 8, qm 10 9, qg 10 true (qf 11 2 1), qg 10 true (ql 12 11), qg 10 true (qf 13 3 1), qg 10 true (ql 14 13), qg 10 true (qt 15 .eql 3 12 14), ⟨none, .pick 16 (.tmp 10) (.tmp 15) (.const (.bool false))⟩, qm 17 16, qg 17 true (qf 18 2 2), qg 17 true (ql 19 18), qg 17 true (qf 20 3 2), qg 17 true (ql 21 20), ⟨some (17, true), .call (some 22) 23 [(.tmp 19), (.tmp 21)]⟩, ⟨none, .pick 23 (.tmp 17) (.tmp 22) (.const (.bool false))⟩, qm 4 23]
def R_SameType_lc : LC := (.seq (.ops QnO) (.seq (.ops QnN) .ret))
@[reducible] def Qdg : FuncId := 74
theorem Ql7 : lowF Tryz.prog Tryz.f74 = some R_SameType_lc := by kernel_rfl
theorem QnP {a0 a1 : Value} {w : World} {R : Ending → World → Prop} (h : R_SameType_lc.wp Tryz.prog (retQ Tryz.prog [.tmp 4] R) (Qg [a0, a1]) w) : Calls Tryz.prog Qdg ⟨[a0, a1]⟩ w R :=
  Q6 Tryz.func74 Ql7 (by kernel_rfl) (by kernel_rfl) h

/- 86 -/
def Qlr : List GO := [qb 1 112 0, qk 2 (.bool false)]
def Qlq : List GO := [qV 3 3 1, ⟨none, .call (some 4) 141 [(.tmp 3), (.const (vi 2000))]⟩, qj 5 .lss 3 4 0, qm 2 5]
def R_GreatType_lc : LC := (.seq (.ops Qlr) (.seq (.ops Qlq) .ret))
@[reducible] def QiK : FuncId := 86
theorem QiJ : lowF Tryz.prog Tryz.f86 = some R_GreatType_lc := by kernel_rfl
theorem Qls {a0 : Value} {w : World} {R : Ending → World → Prop} (h : R_GreatType_lc.wp Tryz.prog (retQ Tryz.prog [.tmp 2] R) (Qg [a0]) w) : Calls Tryz.prog QiK ⟨[a0]⟩ w R :=
  Q6 Tryz.func86 QiJ (by kernel_rfl) (by kernel_rfl) h

/- 153 -/
def Qsd : List GO := [qk 2 (.string ⟨#[]⟩)]
def Qsc : List GO := [qm 3 0, qj 4 .lss 3 3 1, qm 5 4, qg 5 false (qm 6 0), qg 5 false (qj 7 .gtr 3 6 14), ⟨none, .pick 8 (.tmp 5) (.const (.bool true)) (.tmp 7)⟩]
def Qsb : List GO := [qk 2 (.string ⟨#[]⟩)]
def Qsa : List GO := [⟨none, .build 9 [(.string ⟨#[]⟩), (.string ⟨#[]⟩), (.string ⟨#[]⟩), (.string ⟨#[]⟩), (.string ⟨#[]⟩), (.string ⟨#[]⟩), (.string ⟨#[]⟩), (.string ⟨#[]⟩), (.string ⟨#[]⟩), (.string ⟨#[]⟩), (.string ⟨#[]⟩), (.string ⟨#[]⟩), (.string ⟨#[]⟩), (.string ⟨#[]⟩), (.string ⟨#[]⟩)] [(0, (1, (.const (.string ⟨#[]⟩)))), (1, (1, (.const (.string ⟨#[110]⟩)))), (2, (1, (.const (.string ⟨#[97, 98, 107]⟩)))), (3, (1, (.const (.string ⟨#[]⟩)))), (4, (1, (.const (.string ⟨#[97]⟩)))), (5, (1, (.const (.string ⟨#[97, 114]⟩)))), (6, (1, (.const (.string ⟨#[97, 107]⟩)))), (7, (1, (.const (.string ⟨#[97, 98, 107]⟩)))), (8, (1, (.const (.string ⟨#[97, 98]⟩)))), (9, (1, (.const (.string ⟨#[97, 98]⟩)))), (10, (1, (.const (.string ⟨#[97, 98, 99]⟩)))), (11, (1, (.const (.string ⟨#[97]⟩)))), (12, (1, (.const (.string ⟨#[]⟩)))), (13, (1, (.const (.string ⟨#[97]⟩)))), (14, (1, (.const (.string ⟨#[107, 103, 114]⟩))))]⟩, qm 10 0, ⟨none, .raw ⟨(some 11), (.index 183 (.tmp 9) (.tmp 10)), 9, "", #[], none⟩⟩, qm 2 11]
def code_has_lc : LC := (.seq (.ops Qsd) (.seq (.seq (.ops Qsc) (.cond (.tmp 8) (.seq (.ops Qsb) .ret) .skip)) (.seq (.ops Qsa) .ret)))
@[reducible] def Qti : FuncId := 153
theorem Qqm : lowF Tryz.prog Tryz.f153 = some code_has_lc := by kernel_rfl
theorem Qhb {a0 : Value} {w : World} {R : Ending → World → Prop} (h : code_has_lc.wp Tryz.prog (retQ Tryz.prog [.tmp 2] R) (Qg [a0]) w) : Calls Tryz.prog Qti ⟨[a0]⟩ w R :=
  Q6 Tryz.func153 Qqm (by kernel_rfl) (by kernel_rfl) h

/- 154 -/
def Qqj : List GO := [qk 4 (.bool false)]
def Qqi : List GO := [qm 5 0, ⟨none, .raw ⟨(some 6), (.convert 9 25 (.tmp 5)), 25, "", #[], none⟩⟩, qm 7 1, ⟨none, .call (some 8) 163 [(.tmp 6), (.tmp 7)]⟩, qm 4 8]
def code_with_lc : LC := (.seq (.ops Qqj) (.seq (.ops Qqi) .ret))
@[reducible] def Qql : FuncId := 154
theorem QmO : lowF Tryz.prog Tryz.f154 = some code_with_lc := by kernel_rfl
theorem Qqk {a0 a1 : Value} {w : World} {R : Ending → World → Prop} (h : code_with_lc.wp Tryz.prog (retQ Tryz.prog [.tmp 4] R) (Qg [a0, a1]) w) : Calls Tryz.prog Qql ⟨[a0, a1]⟩ w R :=
  Q6 Tryz.func154 QmO (by kernel_rfl) (by kernel_rfl) h

/- 157 -/
def Qew : List GO := [qb 5 53 1, qb 6 43 2]
def Qev : List GO := [qm 8 3, ⟨none, .un 9 .not (.tmp 8)⟩]
def Qeu : List GO := [qm 10 0, qf 11 6 0, ql 12 11, qj 13 .neq 3 12 0, qm 14 13, qg 14 false (qf 15 6 1), qg 14 false (ql 16 15), qg 14 false (qL 17 16), qg 14 false (qj 18 .gtr 3 17 0), ⟨none, .pick 19 (.tmp 14) (.const (.bool true)) (.tmp 18)⟩, qm 20 19, qg 20 false (qf 21 6 2), qg 20 false (ql 22 21), qg 20 false (qL 23 22), qg 20 false (qj 24 .gtr 3 23 0), ⟨none, .pick 25 (.tmp 20) (.const (.bool true)) (.tmp 24)⟩, ⟨none, .call (some 26) 88 [(.tmp 10), (.tmp 25), (.const (vi 4))]⟩]
def Qet : List GO := [qm 27 0, qf 28 6 0, ql 29 28, qj 30 .lss 3 29 0, qm 31 30, qg 31 false (qf 32 6 0), qg 31 false (ql 33 32), qg 31 false (qf 34 5 3), qg 31 false (ql 35 34), qg 31 false (qL 36 35), qg 31 false (qt 37 .geq 3 33 36), ⟨none, .pick 38 (.tmp 31) (.const (.bool true)) (.tmp 37)⟩, ⟨none, .call (some 39) 88 [(.tmp 27), (.tmp 38), (.const (vi 1))]⟩]
def Qes : List GO := [qm 40 0, qf 41 6 1, ql 42 41, qL 43 42, qj 44 .gtr 3 43 16, qm 45 44, qg 45 false (qf 46 6 2), qg 45 false (ql 47 46), qg 45 false (qL 48 47), qg 45 false (qj 49 .gtr 3 48 8), ⟨none, .pick 50 (.tmp 45) (.const (.bool true)) (.tmp 49)⟩, ⟨none, .call (some 51) 88 [(.tmp 40), (.tmp 50), (.const (vi 2))]⟩]
def code_judge_to_lc : LC := (.seq (.ops Qew) (.seq (.seq (.ops Qev) (.cond (.tmp 9) (.seq (.ops Qeu) .ret) .skip)) (.seq (.ops Qet) (.ops Qes))))
@[reducible] def QaM : FuncId := 157
theorem Qcc : lowF Tryz.prog Tryz.f157 = some code_judge_to_lc := by kernel_rfl
theorem Q5H {a0 a1 a2 a3 : Value} {w : World} {R : Ending → World → Prop} (h : code_judge_to_lc.wp Tryz.prog (retQ Tryz.prog [] R) (Qg [a0, a1, a2, a3]) w) : Calls Tryz.prog QaM ⟨[a0, a1, a2, a3]⟩ w R :=
  Q6 Tryz.func157 Qcc (by kernel_rfl) (by kernel_rfl) h

/- 87 -/
def QqH : List GO := [qb 1 112 0, ⟨none, .alloc 2 112 [(vi 0), (vi 0), vn]⟩]
def QqG : List GO := [qf 3 1 0, ql 4 3, qf 5 1 1, ql 6 5, qf 7 1 2, ql 8 7, ⟨none, .call (some 9) 38 [(.tmp 8)]⟩, ⟨none, .build 10 [(vi 0), (vi 0), vn] [(0, (1, (.tmp 4))), (1, (1, (.tmp 6))), (2, (1, (.tmp 9)))]⟩, qw 3 2 10]
def QqJ : List (List Nat) := [[],[0],[],[2],[],[4],[5],[1,3,6],[7,6,0,1,2,3,4,5,6,7]]
def R_OwnType_lc : LC := (.seq (.ops QqH) (.seq (.draw QqG QqJ) .ret))
@[reducible] def Qis : FuncId := 87
theorem Qo9 : lowF Tryz.prog Tryz.f87 = some R_OwnType_lc := by kernel_rfl
theorem QqI {a0 : Value} {w : World} {R : Ending → World → Prop} (h : R_OwnType_lc.wp Tryz.prog (retQ Tryz.prog [.cell 2 112] R) (Qg [a0]) w) : Calls Tryz.prog Qis ⟨[a0]⟩ w R :=
  Q6 Tryz.func87 Qo9 (by kernel_rfl) (by kernel_rfl) h

/- 142 -/
def Qjq : List GO := [qb 2 112 0, qk 4 (vi 0)]
def Qjp : List GO := [qV 5 3 2, ⟨none, .call (some 6) 159 [(.tmp 5), (.const (vi 4))]⟩, ⟨none, .un 7 .not (.tmp 6)⟩]
def Qjo : List GO := [qk 4 (vi 19)]
def Qjn : List GO := [qV 8 3 2, qm 9 1, ⟨none, .call (some 10) 160 [(.tmp 8), (.tmp 9)]⟩, qm 4 10]
def types_Check_lc : LC := (.seq (.ops Qjq) (.seq (.seq (.ops Qjp) (.cond (.tmp 7) (.seq (.ops Qjo) .ret) .skip)) (.seq (.ops Qjn) .ret)))
@[reducible] def Q57 : FuncId := 142
theorem Qgi : lowF Tryz.prog Tryz.f142 = some types_Check_lc := by kernel_rfl
theorem Qjr {a0 a1 : Value} {w : World} {R : Ending → World → Prop} (h : types_Check_lc.wp Tryz.prog (retQ Tryz.prog [.tmp 4] R) (Qg [a0, a1]) w) : Calls Tryz.prog Q57 ⟨[a0, a1]⟩ w R :=
  Q6 Tryz.func142 Qgi (by kernel_rfl) (by kernel_rfl) h

/- 143 -/
def Q2I : List GO := [qk 4 (vi 0)]
def Q2H : List GO := [qm 6 0, qL 7 6, qk 8 (vi 0)]
def Q2G : List GO := [qt 9 .lss 3 8 7]
def Q2F : List GO := [qm 10 8, qm 5 10]
def Q2E : List GO := [qm 11 1, qm 12 0, qm 13 5, qi 14 3 12 13, qV 15 3 14, ⟨none, .callv (some 16) (.tmp 11) [(.tmp 15)]⟩]
def Q2D : List GO := [qm 17 5, qm 4 17]
def Q2C : List GO := [qj 18 .add 3 8 1, qm 8 18]
def Q1L : LC := (.seq (.ops Q2G) (.seq (.cond (.tmp 9) .skip (.exit 0)) (.seq (.block 1 (.seq (.ops Q2F) (.seq (.ops Q2E) (.cond (.tmp 16) (.seq (.ops Q2D) .ret) .skip)))) (.ops Q2C))))
def Q2B : List GO := [qk 4 (vi (-1))]
def slices_IndexFunc_api_Type_api_Type_lc : LC := (.seq (.ops Q2I) (.seq (.seq (.ops Q2H) (.block 0 (.loop Q1L))) (.seq (.ops Q2B) .ret)))
@[reducible] def QU : FuncId := 143
theorem Q2x : lowF Tryz.prog Tryz.f143 = some slices_IndexFunc_api_Type_api_Type_lc := by kernel_rfl
theorem Q2J {a0 a1 : Value} {w : World} {R : Ending → World → Prop} (h : slices_IndexFunc_api_Type_api_Type_lc.wp Tryz.prog (retQ Tryz.prog [.tmp 4] R) (Qg [a0, a1]) w) : Calls Tryz.prog QU ⟨[a0, a1]⟩ w R :=
  Q6 Tryz.func143 Q2x (by kernel_rfl) (by kernel_rfl) h

/- 115 -/
def QkU : List GO := [qb 2 112 0, qk 4 (vi 0)]
def QkT : List GO := [qV 5 3 2, ⟨none, .call (some 6) 131 [(.tmp 5), (.const (vi 4))]⟩, qj 7 .gtr 3 6 4]
def QkS : List GO := [qk 4 (vi 19)]
def QkR : List GO := [qV 8 3 2, qm 9 1, ⟨none, .call (some 10) 152 [(.tmp 8), (.tmp 9)]⟩, qm 4 10]
def R_TypeFault_lc : LC := (.seq (.ops QkU) (.seq (.seq (.ops QkT) (.cond (.tmp 7) (.seq (.ops QkS) .ret) .skip)) (.seq (.ops QkR) .ret)))
@[reducible] def Q5D : FuncId := 115
theorem Qic : lowF Tryz.prog Tryz.f115 = some R_TypeFault_lc := by kernel_rfl
theorem QkV {a0 a1 : Value} {w : World} {R : Ending → World → Prop} (h : R_TypeFault_lc.wp Tryz.prog (retQ Tryz.prog [.tmp 4] R) (Qg [a0, a1]) w) : Calls Tryz.prog Q5D ⟨[a0, a1]⟩ w R :=
  Q6 Tryz.func115 Qic (by kernel_rfl) (by kernel_rfl) h

/- 100 -/
def Qqy : List GO := [qb 2 57 0, qb 3 57 1, qk 4 (.bool false)]
def Qqx : List GO := [qf 5 2 0, ql 6 5, qf 7 3 0, ql 8 7, qt 9 .eql 3 6 8, qm 10 9, qg 10 true (qf 11 2 1), qg 10 true (ql 12 11), qg 10 true (qf 13 3 1), qg 10 true (ql 14 13), qg 10 true (qt 15 .eql 3 12 14), ⟨none, .pick 16 (.tmp 10) (.tmp 15) (.const (.bool false))⟩, qm 17 16, qg 17 true (qf 18 2 2), qg 17 true (ql 19 18), qg 17 true (qf 20 3 2), qg 17 true (ql 21 20), qg 17 true (qt 22 .eql 3 19 21), ⟨none, .pick 23 (.tmp 17) (.tmp 22) (.const (.bool false))⟩, qm 24 23, qg 24 true (qf 25 2 3), qg 24 true (ql 26 25), qg 24 true (qf 27 3 3), qg 24 true (ql 28 27), qg 24 true (qt 29 .eql 3 26 28), ⟨none, .pick 30 (.tmp 24) (.tmp 29) (.const (.bool false))⟩, qm 31 30, qg 31 true (qf 32 2 4), qg 31 true (ql 33 32), qg 31 true (qf 34 3 4), qg 31 true (ql 35 34), qg 31 true (qt 36 .eql 3 33 35), ⟨none, .pick 37 (.tmp 31) (.tmp 36) (.const (.bool false))⟩, qm 38 37, qg 38 true (qf 39 2 5), qg 38 true (ql 40 39), qg 38 true (qf 41 3 5), qg 38 true (ql 42 41), qg 38 true (qt 43 .eql 2 40 42), ⟨none, .pick 44 (.tmp 38) (.tmp 43) (.const (.bool false))⟩, qm 45 44, qg 45 true (qf 46 2 6), qg 45 true (ql 47 46), qg 45 true (qf 48 3 6), qg 45 true (ql 49 48), ⟨some (45, true), .call (some 50) 25 [(.tmp 47), (.tmp 49)]⟩, ⟨none, .pick 51 (.tmp 45) (.tmp 50) (.const (.bool false))⟩, qm 52 51, qg 52 true (qf 53 2 7), qg 52 true (ql 54 53), qg 52 true (qf 55 3 7), qg 52 true (ql 56 55), ⟨some (52, true), .call (some 57) 25 [(.tmp 54), (.tmp 56)]⟩, ⟨none, .pick 58 (.tmp 52) (.tmp 57) (.const (.bool false))⟩, qm 4 58]
def R_sameIns_lc : LC := (.seq (.ops Qqy) (.seq (.ops Qqx) .ret))
@[reducible] def QqA : FuncId := 100
theorem Qnh : lowF Tryz.prog Tryz.f100 = some R_sameIns_lc := by kernel_rfl
theorem Qqz {a0 a1 : Value} {w : World} {R : Ending → World → Prop} (h : R_sameIns_lc.wp Tryz.prog (retQ Tryz.prog [.tmp 4] R) (Qg [a0, a1]) w) : Calls Tryz.prog QqA ⟨[a0, a1]⟩ w R :=
  Q6 Tryz.func100 Qnh (by kernel_rfl) (by kernel_rfl) h

/- 101 -/
def Qss : List GO := [qb 2 43 0, qb 3 43 1, qk 4 (.bool false)]
def Qsr : List GO := [qf 5 2 0, ql 6 5, qf 7 3 0, ql 8 7, qt 9 .eql 3 6 8, qm 10 9, qg 10 true (qf 11 2 1), qg 10 true (ql 12 11), qg 10 true (qf 13 3 1), qg 10 true (ql 14 13), ⟨some (10, true), .call (some 15) 25 [(.tmp 12), (.tmp 14)]⟩, ⟨none, .pick 16 (.tmp 10) (.tmp 15) (.const (.bool false))⟩, qm 17 16, qg 17 true (qf 18 2 2), qg 17 true (ql 19 18), qg 17 true (qf 20 3 2), qg 17 true (ql 21 20), ⟨some (17, true), .call (some 22) 25 [(.tmp 19), (.tmp 21)]⟩, ⟨none, .pick 23 (.tmp 17) (.tmp 22) (.const (.bool false))⟩, qm 4 23]
def R_sameTo_lc : LC := (.seq (.ops Qss) (.seq (.ops Qsr) .ret))
@[reducible] def Qtm : FuncId := 101
theorem Qqw : lowF Tryz.prog Tryz.f101 = some R_sameTo_lc := by kernel_rfl
theorem Qst {a0 a1 : Value} {w : World} {R : Ending → World → Prop} (h : R_sameTo_lc.wp Tryz.prog (retQ Tryz.prog [.tmp 4] R) (Qg [a0, a1]) w) : Calls Tryz.prog Qtm ⟨[a0, a1]⟩ w R :=
  Q6 Tryz.func101 Qqw (by kernel_rfl) (by kernel_rfl) h

/- 151 -/
/- 141 -/
def Qne : List GO := [qb 2 112 0, qk 4 (vi 0)]
def Qnd : List GO := [qm 6 1, qj 7 .sub 3 6 1, qm 1 7]
def Qnc : List GO := [qk 5 (vi 0)]
def Qnb : List GO := [qm 8 5, qf 9 2 2, ql 10 9, qL 11 10, qt 12 .lss 3 8 11, qm 13 12, qg 13 true (qm 14 1), qg 13 true (qj 15 .geq 3 14 0), ⟨none, .pick 16 (.tmp 13) (.tmp 15) (.const (.bool false))⟩]
def Qna : List GO := [qf 19 2 2, ql 20 19, qm 21 5, qi 22 3 20 21, qV 23 3 22, qm 24 1, ⟨none, .call (some 25) 141 [(.tmp 23), (.tmp 24)]⟩, qm 1 25]
def Qn9 : List GO := [qm 17 5, qj 18 .add 3 17 1, qm 5 18]
def Qba : LC := (.seq (.seq (.ops Qnb) (.cond (.tmp 16) .skip (.exit 0))) (.seq (.block 1 (.ops Qna)) (.ops Qn9)))
def Qn8 : List GO := [qm 26 1, qm 4 26]
def R_typeSize_lc : LC := (.seq (.ops Qne) (.seq (.ops Qnd) (.seq (.seq (.ops Qnc) (.block 0 (.loop Qba))) (.seq (.ops Qn8) .ret))))
@[reducible] def Q7P : FuncId := 141
theorem QjM : lowF Tryz.prog Tryz.f141 = some R_typeSize_lc := by kernel_rfl
theorem Qnf {a0 a1 : Value} {w : World} {R : Ending → World → Prop} (h : R_typeSize_lc.wp Tryz.prog (retQ Tryz.prog [.tmp 4] R) (Qg [a0, a1]) w) : Calls Tryz.prog Q7P ⟨[a0, a1]⟩ w R :=
  Q6 Tryz.func141 QjM (by kernel_rfl) (by kernel_rfl) h

/- 163 -/
def Q3R : List GO := [qk 4 (.bool false)]
def Q3Q : List GO := [qm 5 0, qm 6 1, ⟨none, .call (some 7) 166 [(.tmp 5), (.tmp 6)]⟩, qj 8 .geq 3 7 0, qm 4 8]
def slices_Contains_byte_byte_lc : LC := (.seq (.ops Q3R) (.seq (.ops Q3Q) .ret))
@[reducible] def Q2P : FuncId := 163
theorem Q3F : lowF Tryz.prog Tryz.f163 = some slices_Contains_byte_byte_lc := by kernel_rfl
theorem Q3S {a0 a1 : Value} {w : World} {R : Ending → World → Prop} (h : slices_Contains_byte_byte_lc.wp Tryz.prog (retQ Tryz.prog [.tmp 4] R) (Qg [a0, a1]) w) : Calls Tryz.prog Q2P ⟨[a0, a1]⟩ w R :=
  Q6 Tryz.func163 Q3F (by kernel_rfl) (by kernel_rfl) h

/- 159 -/
def Qmp : List GO := [qb 2 112 0, qk 4 (.bool false)]
def Qmo : List GO := [qm 7 1, qj 8 .lss 3 7 0]
def Qmn : List GO := [qk 4 (.bool false)]
def Qmm : List GO := [qf 9 2 2, ql 10 9, qL 11 10, qk 12 (vi 0)]
def Qml : List GO := [qt 13 .lss 3 12 11]
def Qmk : List GO := [qi 14 3 10 12, qV 15 3 14, ⟨none, .alloc 6 112 [(vi 0), (vi 0), vn]⟩, qw 3 6 15]
def Qmj : List GO := [qV 16 3 6, qm 17 1, qj 18 .sub 3 17 1, ⟨none, .call (some 19) 159 [(.tmp 16), (.tmp 18)]⟩, ⟨none, .un 20 .not (.tmp 19)⟩]
def Qmi : List GO := [qk 4 (.bool false)]
def Qmh : List GO := [qj 21 .add 3 12 1, qm 12 21]
def Qac : LC := (.seq (.ops Qml) (.seq (.cond (.tmp 13) .skip (.exit 0)) (.seq (.block 1 (.seq (.ops Qmk) (.seq (.ops Qmj) (.cond (.tmp 20) (.seq (.ops Qmi) .ret) .skip)))) (.ops Qmh))))
def Qmg : List GO := [qk 4 (.bool true)]
def types_deep_lc : LC := (.seq (.ops Qmp) (.seq (.seq (.ops Qmo) (.cond (.tmp 8) (.seq (.ops Qmn) .ret) .skip)) (.seq (.seq (.ops Qmm) (.block 0 (.loop Qac))) (.seq (.ops Qmg) .ret))))
@[reducible] def Q3X : FuncId := 159
theorem Qjl : lowF Tryz.prog Tryz.f159 = some types_deep_lc := by kernel_rfl
theorem Qmq {a0 a1 : Value} {w : World} {R : Ending → World → Prop} (h : types_deep_lc.wp Tryz.prog (retQ Tryz.prog [.tmp 4] R) (Qg [a0, a1]) w) : Calls Tryz.prog Q3X ⟨[a0, a1]⟩ w R :=
  Q6 Tryz.func159 Qjl (by kernel_rfl) (by kernel_rfl) h

/- 160 -/
def Qjj : List GO := [qb 2 112 0, qk 4 (vi 0)]
def Qji : List GO := [qf 8 2 0, ql 9 8]
def Qjh : List GO := [qj 11 .eql 3 9 1, qm 10 11]
def Qjg : List GO := [qf 12 2 1, ql 13 12, qj 14 .neq 3 13 0, qm 15 14, qg 15 false (qf 16 2 2), qg 15 false (ql 17 16), qg 15 false (qL 18 17), qg 15 false (qj 19 .gtr 3 18 0), ⟨none, .pick 20 (.tmp 15) (.const (.bool true)) (.tmp 19)⟩]
def Qjf : List GO := [qk 4 (vi 4)]
def Qje : List GO := [qk 4 (vi 0)]
def Qjd : List GO := [qj 22 .eql 3 9 2, qm 21 22]
def Qjc : List GO := [qj 23 .eql 3 9 4, qm 21 23]
def Qjb : List GO := [qf 24 2 2, ql 25 24, qL 26 25, qj 27 .gtr 3 26 0]
def Qja : List GO := [qk 4 (vi 4)]
def Qgg : List GO := [qj 29 .eql 3 9 3, qm 28 29]
def Qgf : List GO := [qf 30 2 2, ql 31 30, qL 32 31, qj 33 .gtr 3 32 8]
def Qge : List GO := [qk 4 (vi 2)]
def Qgd : List GO := [qk 4 (vi 3)]
def Qgc : List GO := [qf 34 2 1, ql 35 34, qj 36 .lss 3 35 0, qm 37 36, qg 37 false (qf 38 2 1), qg 37 false (ql 39 38), qg 37 false (qm 40 1), qg 37 false (qt 41 .geq 3 39 40), ⟨none, .pick 42 (.tmp 37) (.const (.bool true)) (.tmp 41)⟩]
def Qgb : List GO := [qk 4 (vi 1)]
def Qga : List GO := [qf 43 2 2, ql 44 43, qL 45 44, qk 46 (vi 0)]
def Qg9 : List GO := [qt 47 .lss 3 46 45]
def Qg8 : List GO := [qi 48 3 44 46, qV 49 3 48, ⟨none, .alloc 6 112 [(vi 0), (vi 0), vn]⟩, qw 3 6 49]
def Qg7 : List GO := [qV 50 3 6, qm 51 1, ⟨none, .call (some 52) 160 [(.tmp 50), (.tmp 51)]⟩, qm 7 52]
def Qg6 : List GO := [qm 53 7, qj 54 .neq 3 53 0]
def Qg5 : List GO := [qm 55 7, qm 4 55]
def Qg4 : List GO := [qj 56 .add 3 46 1, qm 46 56]
def Q6k : LC := (.seq (.ops Qg9) (.seq (.cond (.tmp 47) .skip (.exit 1)) (.seq (.block 2 (.seq (.ops Qg8) (.seq (.ops Qg7) (.seq (.ops Qg6) (.cond (.tmp 54) (.seq (.ops Qg5) .ret) .skip))))) (.ops Qg4))))
def Qg3 : List GO := [qk 4 (vi 0)]
def types_wrong_lc : LC := (.seq (.ops Qjj) (.seq (.seq (.ops Qji) (.block 0 (.seq (.ops Qjh) (.cond (.tmp 10) (.seq (.seq (.ops Qjg) (.cond (.tmp 20) (.seq (.ops Qjf) .ret) .skip)) (.seq (.ops Qje) .ret)) (.seq (.seq (.ops Qjd) (.cond (.tmp 21) .skip (.ops Qjc))) (.cond (.tmp 21) (.seq (.ops Qjb) (.cond (.tmp 27) (.seq (.ops Qja) .ret) .skip)) (.seq (.ops Qgg) (.cond (.tmp 28) (.seq (.ops Qgf) (.cond (.tmp 33) (.seq (.ops Qge) .ret) .skip)) (.seq (.ops Qgd) .ret))))))))) (.seq (.seq (.ops Qgc) (.cond (.tmp 42) (.seq (.ops Qgb) .ret) .skip)) (.seq (.seq (.ops Qga) (.block 1 (.loop Q6k))) (.seq (.ops Qg3) .ret)))))
@[reducible] def QI : FuncId := 160
theorem Qgh : lowF Tryz.prog Tryz.f160 = some types_wrong_lc := by kernel_rfl
theorem Qjk {a0 a1 : Value} {w : World} {R : Ending → World → Prop} (h : types_wrong_lc.wp Tryz.prog (retQ Tryz.prog [.tmp 4] R) (Qg [a0, a1]) w) : Calls Tryz.prog QI ⟨[a0, a1]⟩ w R :=
  Q6 Tryz.func160 Qgh (by kernel_rfl) (by kernel_rfl) h

/- 131 -/
def QsE : List GO := [qb 2 112 0, qk 4 (vi 0)]
def QsD : List GO := [qk 5 (vi 0)]
def QsC : List GO := [qk 6 (vi 0)]
def QsB : List GO := [qm 8 6, qf 9 2 2, ql 10 9, qL 11 10, qt 12 .lss 3 8 11, qm 13 12, qg 13 true (qm 14 5), qg 13 true (qm 15 1), qg 13 true (qt 16 .leq 3 14 15), ⟨none, .pick 17 (.tmp 13) (.tmp 16) (.const (.bool false))⟩]
def QsA : List GO := [qm 20 1, qj 21 .eql 3 20 0]
def Qsz : List GO := [qk 4 (vi 1)]
def Qsy : List GO := [qf 22 2 2, ql 23 22, qm 24 6, qi 25 3 23 24, qV 26 3 25, qm 27 1, qj 28 .sub 3 27 1, ⟨none, .call (some 29) 131 [(.tmp 26), (.tmp 28)]⟩, ⟨none, .bin 30 .add 3 (.const (vi 1)) (.tmp 29)⟩, qm 7 30]
def Qsx : List GO := [qm 31 7, qm 32 5, qt 33 .gtr 3 31 32]
def Qsw : List GO := [qm 34 7, qm 5 34]
def Qsv : List GO := [qm 18 6, qj 19 .add 3 18 1, qm 6 19]
def QiL : LC := (.seq (.seq (.ops QsB) (.cond (.tmp 17) .skip (.exit 0))) (.seq (.block 1 (.seq (.seq (.ops QsA) (.cond (.tmp 21) (.seq (.ops Qsz) .ret) .skip)) (.seq (.ops Qsy) (.seq (.ops Qsx) (.cond (.tmp 33) (.ops Qsw) .skip))))) (.ops Qsv)))
def Qrj : List GO := [qm 35 5, qm 4 35]
def R_DeepOf_lc : LC := (.seq (.ops QsE) (.seq (.ops QsD) (.seq (.seq (.ops QsC) (.block 0 (.loop QiL))) (.seq (.ops Qrj) .ret))))
@[reducible] def Q4s : FuncId := 131
theorem Qrk : lowF Tryz.prog Tryz.f131 = some R_DeepOf_lc := by kernel_rfl
theorem QsF {a0 a1 : Value} {w : World} {R : Ending → World → Prop} (h : R_DeepOf_lc.wp Tryz.prog (retQ Tryz.prog [.tmp 4] R) (Qg [a0, a1]) w) : Calls Tryz.prog Q4s ⟨[a0, a1]⟩ w R :=
  Q6 Tryz.func131 Qrk (by kernel_rfl) (by kernel_rfl) h

/- 152 -/
def QjW : List GO := [qb 2 112 0, qk 4 (vi 0)]
def QjV : List GO := [qf 7 2 0, ql 8 7, qj 9 .lss 3 8 1, qm 10 9, qg 10 false (qf 11 2 0), qg 10 false (ql 12 11), qg 10 false (qj 13 .gtr 3 12 4), ⟨none, .pick 14 (.tmp 10) (.const (.bool true)) (.tmp 13)⟩]
def QjU : List GO := [qk 4 (vi 3)]
def QjT : List GO := [qf 15 2 0, ql 16 15, qj 17 .eql 3 16 1, qm 18 17, qg 18 true (qf 19 2 1), qg 18 true (ql 20 19), qg 18 true (qj 21 .neq 3 20 0), ⟨none, .pick 22 (.tmp 18) (.tmp 21) (.const (.bool false))⟩, qm 23 22, qg 23 false (qf 24 2 0), qg 23 false (ql 25 24), qg 23 false (qj 26 .neq 3 25 3), qg 23 false (qm 27 26), qg 27 true (qf 28 2 2), qg 27 true (ql 29 28), qg 27 true (qL 30 29), qg 27 true (qj 31 .gtr 3 30 0), ⟨some (23, false), .pick 32 (.tmp 27) (.tmp 31) (.const (.bool false))⟩, ⟨none, .pick 33 (.tmp 23) (.const (.bool true)) (.tmp 32)⟩]
def QjS : List GO := [qk 4 (vi 4)]
def QjR : List GO := [qf 34 2 2, ql 35 34, qL 36 35, qj 37 .gtr 3 36 8]
def QjQ : List GO := [qk 4 (vi 2)]
def QjP : List GO := [qf 38 2 0, ql 39 38, qj 40 .neq 3 39 1, qm 41 40, qg 41 true (qf 42 2 1), qg 41 true (ql 43 42), qg 41 true (qj 44 .lss 3 43 0), qg 41 true (qm 45 44), qg 45 false (qf 46 2 1), qg 45 false (ql 47 46), qg 45 false (qm 48 1), qg 45 false (qt 49 .geq 3 47 48), ⟨some (41, true), .pick 50 (.tmp 45) (.const (.bool true)) (.tmp 49)⟩, ⟨none, .pick 51 (.tmp 41) (.tmp 50) (.const (.bool false))⟩]
def QjO : List GO := [qk 4 (vi 1)]
def QjN : List GO := [qk 5 (vi 0)]
def Qhr : List GO := [qm 52 5, qf 53 2 2, ql 54 53, qL 55 54, qt 56 .lss 3 52 55]
def Qhq : List GO := [qf 59 2 2, ql 60 59, qm 61 5, qi 62 3 60 61, qV 63 3 62, qm 64 1, ⟨none, .call (some 65) 152 [(.tmp 63), (.tmp 64)]⟩, qm 6 65]
def Qhp : List GO := [qm 66 6, qj 67 .neq 3 66 0]
def Qho : List GO := [qm 68 6, qm 4 68]
def Qhn : List GO := [qm 57 5, qj 58 .add 3 57 1, qm 5 58]
def Q7v : LC := (.seq (.seq (.ops Qhr) (.cond (.tmp 56) .skip (.exit 0))) (.seq (.block 1 (.seq (.ops Qhq) (.seq (.ops Qhp) (.cond (.tmp 67) (.seq (.ops Qho) .ret) .skip)))) (.ops Qhn)))
def Qhm : List GO := [qk 4 (vi 0)]
def R_typeFault_lc : LC := (.seq (.ops QjW) (.seq (.seq (.ops QjV) (.cond (.tmp 14) (.seq (.ops QjU) .ret) .skip)) (.seq (.seq (.ops QjT) (.cond (.tmp 33) (.seq (.ops QjS) .ret) .skip)) (.seq (.seq (.ops QjR) (.cond (.tmp 37) (.seq (.ops QjQ) .ret) .skip)) (.seq (.seq (.ops QjP) (.cond (.tmp 51) (.seq (.ops QjO) .ret) .skip)) (.seq (.seq (.ops QjN) (.block 0 (.loop Q7v))) (.seq (.ops Qhm) .ret)))))))
@[reducible] def Q1J : FuncId := 152
theorem Qhs : lowF Tryz.prog Tryz.f152 = some R_typeFault_lc := by kernel_rfl
theorem QjX {a0 a1 : Value} {w : World} {R : Ending → World → Prop} (h : R_typeFault_lc.wp Tryz.prog (retQ Tryz.prog [.tmp 4] R) (Qg [a0, a1]) w) : Calls Tryz.prog Q1J ⟨[a0, a1]⟩ w R :=
  Q6 Tryz.func152 Qhs (by kernel_rfl) (by kernel_rfl) h

/- 155 -/
/- 166 -/
def Q4B : List GO := [qk 4 (vi 0)]
def Q4A : List GO := [qm 6 0, qL 7 6, qk 8 (vi 0)]
def Q4z : List GO := [qt 9 .lss 3 8 7]
def Q4y : List GO := [qm 10 8, qm 5 10]
def Q4x : List GO := [qm 11 1, qm 12 0, qm 13 5, qi 14 1 12 13, ql 15 14, qt 16 .eql 5 11 15]
def Q4w : List GO := [qm 17 5, qm 4 17]
def Q4v : List GO := [qj 18 .add 3 8 1, qm 8 18]
def Q2O : LC := (.seq (.ops Q4z) (.seq (.cond (.tmp 9) .skip (.exit 0)) (.seq (.block 1 (.seq (.ops Q4y) (.seq (.ops Q4x) (.cond (.tmp 16) (.seq (.ops Q4w) .ret) .skip)))) (.ops Q4v))))
def Q4u : List GO := [qk 4 (vi (-1))]
def slices_Index_byte_byte_lc : LC := (.seq (.ops Q4B) (.seq (.seq (.ops Q4A) (.block 0 (.loop Q2O))) (.seq (.ops Q4u) .ret)))
@[reducible] def Q1Y : FuncId := 166
theorem Q4f : lowF Tryz.prog Tryz.f166 = some slices_Index_byte_byte_lc := by kernel_rfl
theorem Q4C {a0 a1 : Value} {w : World} {R : Ending → World → Prop} (h : slices_Index_byte_byte_lc.wp Tryz.prog (retQ Tryz.prog [.tmp 4] R) (Qg [a0, a1]) w) : Calls Tryz.prog Q1Y ⟨[a0, a1]⟩ w R :=
  Q6 Tryz.func166 Q4f (by kernel_rfl) (by kernel_rfl) h

/- 164 -/
end Go.Proofs.YtanlkfeogoganaaGreat
namespace Go.Proofs.YtanlkfeogoganaaGreat
open Go.Lir
set_option maxHeartbeats 1000000
attribute [local irreducible] LC.wp Q5 QN Q11 retQ Q1T LO.wp Qr Calls
set_option linter.unusedSimpArgs false
set_option linter.unusedVariables false
theorem size_c : ∀ (t : Ty) {cx : Cx} {w : World} {L : List Res} {cs : List Value} {left : Int}, tyR.at cx cs t → -1 ≤ left → left ≤ 1000000 → St cx w L →
    Rets Tryz.prog Q7P [.agg ⟨cs⟩, .int .i64 left] w fun v w' => v = .int .i64 (t.size left) ∧ St cx w' L := by
  intro t
  induction t using Ty.ind with
  | h k r l ih =>
    intro cx w L cs left ht h1 h2 hS
    obtain ⟨v, rfl, hl⟩ := QX ht
    simp only [Ty.kind, Ty.r, Ty.l] at hl ht ⊢
    have hlen := hl.len
    rw [Ty.size]
    all_goals refine Qnf ?_
    all_goals (unfold R_typeSize_lc; refine Q0 ?_; refine Q1 ?_; refine zb hS ?_; intro p2 w1 hS; refine zm ?_; refine zn ?_; refine Q0 ?_; refine Q1 ?_; refine zm ?_; refine zsu ?_; refine zm ?_; refine zn ?_; refine Q0 ?_; refine Q0 ?_; refine Q1 ?_; refine zm ?_; refine zn ?_; refine Q8 ?_)
    refine zoL hS [2] (fun A LL ρ' w' => ∃ (j : Nat) (n : Int), Has ρ' A ∧ Has ρ' [(1, .int .i64 n), (5, .int .i64 j)] ∧ (j ≤ l.length) ∧ (n ≤ 1000000) ∧ (-2 ≤ n) ∧ (Tys.size l (left - 1) = Tys.size (l.drop j) n) ∧ St cx w' (LL)) (fun ρ' _ => (l.length - iv (ρ' 5)).toNat) ?_ ?_
    · exact ⟨0, left - 1, zh, zh, (by omega), (by omega), (by omega), by simp, hS.sp⟩
    rintro ρ w1 ⟨j, n, hA, hρ, hj, hn, hn1, hd, hS⟩; obtain ⟨ρ, rfl⟩ := env2 hA hρ
    unfold Qba
    all_goals (refine Q0 ?_; refine Q0 ?_; refine Q1 ?_; refine zm ?_; refine Q2 rfl ?_; refine zl hS ?_; refine zL ?_)
    all_goals (first | (refine Q1Q ?_) | (refine Q1R ?_) | (refine QD rfl rfl (fun hc => ?_) (fun hc => ?_)))
    all_goals (refine zm ?_; (first | refine s_gn rfl rfl ?_ | (refine s_gy rfl ?_; refine zm ?_)))
    all_goals (first | refine s_gn rfl rfl ?_ | (refine s_gy rfl ?_; (first | (refine QdO ?_) | (refine QdP ?_) | (refine Q3G rfl rfl (fun hc => ?_) (fun hc => ?_)))))
    all_goals ((first | (refine zpt ?_) | (refine zpf ?_)); refine zn ?_)
    all_goals
      first
      | (refine Q4 rfl ?_ -- Q7P c0
         all_goals (refine zex ?_; refine Q0 ?_; refine Q1 ?_; refine zm ?_; refine zm ?_; refine zn ?_; refine zr ?_; refine zf ?_)
         all_goals (refine ⟨_, rfl, ?_, hS.sp⟩; (rw [hd]; congr 1; first | (rw [Tys.size_neg _ (by omega)]; done) | (rw [List.drop_of_length_le (by omega), Tys.size]; done)); done))
      | (refine Q3 rfl ?_ -- Q7P c0
         all_goals (refine zsk ?_; refine Q0 ?_; refine Q8 ?_; refine Q1 ?_; refine Q2 rfl ?_; refine zl hS ?_; refine zm ?_; refine zi ?_; intro b1 o1 cs1 x1 hat1 hx1 he1; obtain ⟨vl1, rfl, hl1⟩ := QX he1; (first | (refine zv hS ?_) | (refine zvk hS ?_)); refine zm ?_; refine zR2 (c := ih _ (List.mem_of_getElem? (by assumption)) (by assumption) (by omega) (by omega) hS) (h := ?_); rintro v1 w1 ⟨rfl, hS⟩; refine zm ?_; refine zn ?_; refine Q1 ?_; refine zm ?_; refine zad ?_; refine zm ?_; refine zn ?_)
         all_goals (exact ⟨⟨j + 1, _, zh, zh, (by omega), by have := Ty.size_rng x1 (left := n) (by omega); omega, by have := Ty.size_rng x1 (left := n) (by omega); omega, by rw [hd, Q7 hx1, Tys.size, if_pos (by omega)], hS.sp⟩, Qh (by omega)⟩))
theorem great_c {t : Ty} {cx : Cx} {w : World} {L : List Res} {cs : List Value} (ht : tyR.at cx cs t) (hS : St cx w L) :
    Rets Tryz.prog QiK [.agg ⟨cs⟩] w fun v w' => v = .bool t.great ∧ St cx w' L := by
  obtain ⟨v, rfl, hl⟩ := QX ht
  all_goals refine Qls ?_
  all_goals (unfold R_GreatType_lc; refine Q0 ?_; refine Q1 ?_; refine zb hS ?_; intro p1 w1 hS; refine zm ?_; refine zn ?_; refine Q0 ?_; refine Q1 ?_; refine zv hS ?_; refine zR2 (c := size_c t ht (by omega) (by omega) hS) (h := ?_); rintro v1 w1 ⟨rfl, hS⟩; refine Qt rfl rfl ?_; refine zm ?_; refine zn ?_; refine zr ?_; refine zf ?_; refine ⟨_, rfl, ?_, hS.sp⟩; (rfl); done)
theorem QmD {l : List Ty} {cx : Cx} {w : World} {L : List Res} {v : Value} (hl : tyR.sl cx v l) (hS : St cx w L) :
    Rets Tryz.prog Q34 [v] w fun u w' => u = .bool (Tys.great l) ∧ St cx w' L := by
  have hlen := hl.len
  unfold Tys.great
  all_goals refine Qi0 ?_
  all_goals (unfold R_greatTypes_lc; refine Q0 ?_; refine Q1 ?_; refine zm ?_; refine zn ?_; refine Q0 ?_; refine Q0 ?_; refine Q1 ?_; refine zm ?_; refine zL ?_)
  all_goals (first | (refine QK ?_) | (refine QM ?_) | (refine Qi rfl rfl (fun hc => ?_) (fun hc => ?_)))
  all_goals (refine zn ?_)
  all_goals
    first
    | (refine Q3 rfl ?_ -- Q34 c0
       all_goals (refine Q0 ?_; refine Q1 ?_; refine zm ?_; refine zn ?_; refine zr ?_; refine zf ?_)
       all_goals (refine ⟨_, rfl, ?_, hS.sp⟩; rw [decide_eq_true (by omega), Bool.true_or]; done))
    | (refine Q4 rfl ?_ -- Q34 c0
       all_goals refine zsk ?_)
  all_goals (refine Q0 ?_; refine Q0 ?_; refine Q1 ?_; refine zm ?_; refine zn ?_; refine Q8 ?_)
  refine zoL hS [0] (fun A LL ρ' w' => ∃ (j : Nat), Has ρ' A ∧ Has ρ' [(3, .int .i64 j)] ∧ (j ≤ l.length) ∧ (l.any Ty.great = (l.drop j).any Ty.great) ∧ St cx w' (LL)) (fun ρ' _ => (l.length - iv (ρ' 3)).toNat) ?_ ?_
  · exact ⟨0, zh, zh, (by omega), by simp, hS.sp⟩
  rintro ρ w1 ⟨j, hA, hρ, hj, hd, hS⟩; obtain ⟨ρ, rfl⟩ := env2 hA hρ
  unfold Q7w
  all_goals (refine Q0 ?_; refine Q0 ?_; refine Q1 ?_; refine zm ?_; refine zm ?_; refine zL ?_; refine Qt rfl rfl ?_; refine zn ?_)
  refine Qm rfl (fun hc => ?_) (fun hc => ?_)
  · skip
    all_goals (refine zsk ?_; refine Q0 ?_; refine Q8 ?_; refine Q0 ?_; refine Q1 ?_; refine zm ?_; refine zm ?_; refine zi ?_; intro b1 o1 cs1 x1 hat1 hx1 he1; obtain ⟨vl1, rfl, hl1⟩ := QX he1; (first | (refine zv hS ?_) | (refine zvk hS ?_)))
    all_goals (refine zR1 (c := great_c (by assumption) hS) (h := ?_); rintro v1 w1 ⟨rfl, hS⟩; cases hg : x1.great)
    all_goals (refine zn ?_)
    all_goals
      first
      | (refine Q3 rfl ?_ -- Q34 c2
         all_goals (refine Q0 ?_; refine Q1 ?_; refine zm ?_; refine zn ?_; refine zr ?_; refine zf ?_)
         all_goals (first | (refine ⟨_, rfl, ?_, hS.sp⟩; rw [decide_eq_true (by omega), Bool.true_or]; done) | (refine ⟨_, rfl, ?_, hS.sp⟩; rw [decide_eq_false (by omega), hd, Bool.false_or, Q7 hx1, List.any_cons, hg, Bool.true_or]; done)))
      | (refine Q4 rfl ?_ -- Q34 c2
         all_goals refine zsk ?_)
    all_goals (refine Q1 ?_; refine zm ?_; refine zad ?_; refine zm ?_; refine zn ?_; exact ⟨⟨j + 1, zh, zh, (by omega), by rw [hd, Q7 hx1, List.any_cons, hg, Bool.false_or], hS.sp⟩, Qh (by omega)⟩)
  · skip
    all_goals (refine zex ?_; refine Q0 ?_; refine Q1 ?_; refine zm ?_; refine zn ?_; refine zr ?_; refine zf ?_; (first | (refine ⟨_, rfl, ?_, hS.sp⟩; rw [decide_eq_true (by omega), Bool.true_or]; done) | (refine ⟨_, rfl, ?_, hS.sp⟩; rw [decide_eq_false (by omega), hd, Bool.false_or, Q7 hx1, List.any_cons, hg, Bool.true_or]; done) | (refine ⟨_, rfl, ?_, hS.sp⟩; rw [decide_eq_false (by omega), hd, Bool.false_or, List.drop_of_length_le (by omega)]; rfl; done)))
theorem deep_c : ∀ (t : Ty) {cx : Cx} {w : World} {L : List Res} {cs : List Value} {left : Int}, tyR.at cx cs t → left ≤ 1000000 → St cx w L →
    Rets Tryz.prog Q3X [.agg ⟨cs⟩, .int .i64 left] w fun v w' => v = .bool (t.deepB left) ∧ St cx w' L := by
  intro t
  induction t using Ty.ind with
  | h k r l ih =>
    intro cx w L cs left ht h1 hS
    obtain ⟨v, rfl, hl⟩ := QX ht
    simp only [Ty.kind, Ty.r, Ty.l] at hl ht ⊢
    have hlen := hl.len
    rw [Ty.deepB]
    all_goals refine Qmq ?_
    all_goals (unfold types_deep_lc; refine Q0 ?_; refine Q1 ?_; refine zb hS ?_; intro p2 w1 hS; refine zm ?_; refine zn ?_; refine Q0 ?_; refine Q0 ?_; refine Q1 ?_; refine zm ?_)
    all_goals (first | (refine Q1Q ?_) | (refine Q1R ?_) | (refine QD rfl rfl (fun hc => ?_) (fun hc => ?_)))
    all_goals (refine zn ?_)
    all_goals
      first
      | (refine Q3 rfl ?_ -- Q3X c0
         all_goals (refine Q0 ?_; refine Q1 ?_; refine zm ?_; refine zn ?_; refine zr ?_; refine zf ?_)
         all_goals (refine ⟨_, rfl, ?_, hS.sp⟩; rw [if_pos (by omega)]; done))
      | (refine Q4 rfl ?_ -- Q3X c0
         all_goals refine zsk ?_)
    all_goals (refine Q0 ?_; refine Q0 ?_; refine Q1 ?_; refine Q2 rfl ?_; refine zl hS ?_; refine zL ?_; refine zm ?_; refine zn ?_; refine Q8 ?_)
    refine zoL hS [1, 10, 11] (fun A LL ρ' w' => ∃ (j : Nat), Has ρ' A ∧ Has ρ' [(12, .int .i64 j)] ∧ (j ≤ l.length) ∧ (Tys.deepB l (left - 1) = Tys.deepB (l.drop j) (left - 1)) ∧ St cx w' (LL)) (fun ρ' _ => (l.length - iv (ρ' 12)).toNat) ?_ ?_
    · exact ⟨0, zh, zh, (by omega), by simp, hS.sp⟩
    rintro ρ w1 ⟨j, hA, hρ, hj, hd, hS⟩; obtain ⟨ρ, rfl⟩ := env2 hA hρ
    unfold Qac
    all_goals (refine Q0 ?_; refine Q1 ?_; refine Qt rfl rfl ?_; refine zn ?_; refine Q0 ?_)
    refine Qm rfl (fun hc => ?_) (fun hc => ?_)
    · skip
      all_goals (refine zsk ?_; refine Q0 ?_; refine Q8 ?_; refine Q0 ?_; refine Q1 ?_; refine zi ?_; intro b1 o1 cs1 x1 hat1 hx1 he1; obtain ⟨vl1, rfl, hl1⟩ := QX he1; (first | (refine zv hS ?_) | (refine zvk hS ?_)); refine Qb hS ?_; intro p6 w1 hS; refine zsn hS ?_; intro w1 hS; have hS := hS.ns; refine zn ?_; refine Q0 ?_; refine Q1 ?_; refine zv hS ?_; refine zm ?_; refine zsu ?_)
      all_goals (refine zR2 (c := ih _ (List.mem_of_getElem? (by assumption)) (by assumption) (by omega) hS) (h := ?_); rintro v1 w1 ⟨rfl, hS⟩; cases hg : x1.deepB (left - 1))
      all_goals (refine Q2b rfl ?_; refine zn ?_)
      all_goals
        first
        | (refine Q4 rfl ?_ -- Q3X c2
           all_goals refine zsk ?_)
        | (refine Q3 rfl ?_ -- Q3X c2
           all_goals (refine Q0 ?_; refine Q1 ?_; refine zm ?_; refine zn ?_; refine zr ?_; refine zf ?_)
           all_goals (first | (refine ⟨_, rfl, ?_, hS.sp⟩; rw [if_pos (by omega)]; done) | (refine ⟨_, rfl, ?_, hS.sp⟩; rw [if_neg (by omega), hd, Q7 hx1, Tys.deepB, hg, Bool.false_and]; done)))
      all_goals (refine Q1 ?_; refine zad ?_; refine zm ?_; refine zn ?_; exact ⟨⟨j + 1, zh, zh, (by omega), by rw [hd, Q7 hx1, Tys.deepB, hg, Bool.true_and], hS.sp⟩, Qh (by omega)⟩)
    · skip
      all_goals (refine zex ?_; refine Q0 ?_; refine Q1 ?_; refine zm ?_; refine zn ?_; refine zr ?_; refine zf ?_; (first | (refine ⟨_, rfl, ?_, hS.sp⟩; rw [if_pos (by omega)]; done) | (refine ⟨_, rfl, ?_, hS.sp⟩; rw [if_neg (by omega), hd, Q7 hx1, Tys.deepB, hg, Bool.false_and]; done) | (refine ⟨_, rfl, ?_, hS.sp⟩; rw [if_neg (by omega), hd, List.drop_of_length_le (by omega), Tys.deepB]; done)))
theorem wrong_c : ∀ (t : Ty) {cx : Cx} {w : World} {L : List Res} {cs : List Value} {regs : Int}, tyR.at cx cs t → St cx w L →
    Rets Tryz.prog QI [.agg ⟨cs⟩, .int .i64 regs] w fun v w' => v = .int .i64 (t.wrong 8 regs) ∧ St cx w' L := by
  intro t
  induction t using Ty.ind with
  | h k r l ih =>
    intro cx w L cs regs ht hS
    obtain ⟨v, rfl, hl⟩ := QX ht
    simp only [Ty.kind, Ty.r, Ty.l] at hl ht ⊢
    have hlen := hl.len
    rw [Ty.wrong]
    all_goals refine Qjk ?_
    all_goals (unfold types_wrong_lc; refine Q0 ?_; refine Q1 ?_; refine zb hS ?_; intro p2 w1 hS; refine zm ?_; refine zn ?_)
    refine zML hS [1, 2] (fun A LL ρ' w' => Has ρ' A ∧ Has ρ' [] ∧ (1 ≤ k ∧ k ≤ 4 ∧ k ≠ 1 ∧ (k ≠ 3 → l.length = 0) ∧ l.length ≤ 8) ∧ St cx w' (LL)) ?_ ?_
    · skip
      all_goals (refine Q0 ?_; refine Q1 ?_; refine Q2 rfl ?_; refine zl hS ?_; refine zn ?_; refine Q8 ?_; refine Q0 ?_; refine Q1 ?_)
      all_goals (first | (refine Qy ?_) | (refine QC ?_) | (refine Qn rfl rfl (fun hc => ?_) (fun hc => ?_)))
      all_goals (refine zm ?_; refine zn ?_)
      all_goals
        first
        | (refine Q3 rfl ?_ -- QI c0
           all_goals (refine Q0 ?_; refine Q0 ?_; refine Q1 ?_; refine Q2 rfl ?_; refine zl hS ?_)
           all_goals (first | (refine Q1c ?_) | (refine Q1d ?_) | (refine Qp rfl rfl (fun hc => ?_) (fun hc => ?_)))
           all_goals (refine zm ?_; (first | refine s_gn rfl rfl ?_ | (refine s_gy rfl ?_; refine Q2 rfl ?_)); (first | refine s_gn rfl rfl ?_ | (refine s_gy rfl ?_; refine zl hS ?_)); (first | refine s_gn rfl rfl ?_ | (refine s_gy rfl ?_; refine zL ?_)))
           all_goals (first | refine s_gn rfl rfl ?_ | (refine s_gy rfl ?_; (first | (refine QK ?_) | (refine QM ?_) | (refine Qi rfl rfl (fun hc => ?_) (fun hc => ?_)))))
           all_goals ((first | (refine zpt ?_) | (refine zpf ?_)); refine zn ?_)
           all_goals
             first
             | (refine Q3 rfl ?_ -- QI c1
                all_goals (refine Q0 ?_; refine Q1 ?_; refine zm ?_; refine zn ?_; refine zr ?_; refine zf ?_)
                all_goals (refine ⟨_, rfl, ?_, hS.sp⟩; (repeat (first | rw [if_pos (by omega)] | rw [if_neg (by omega)])); done))
             | (refine Q4 rfl ?_ -- QI c1
                all_goals refine zsk ?_)
           all_goals (refine Q0 ?_; refine Q1 ?_; refine zm ?_; refine zn ?_; refine zr ?_; refine zf ?_)
           all_goals (first | (refine ⟨_, rfl, ?_, hS.sp⟩; (repeat (first | rw [if_pos (by omega)] | rw [if_neg (by omega)])); done) | (refine ⟨_, rfl, ?_, hS.sp⟩; ((repeat (first | rw [if_pos (by omega)] | rw [if_neg (by omega)])); rw [hd, Q7 hx1, Tys.wrong, if_pos (by assumption)]); done) | (refine ⟨_, rfl, ?_, hS.sp⟩; ((repeat (first | rw [if_pos (by omega)] | rw [if_neg (by omega)])); rw [List.eq_nil_of_length_eq_zero (l := l) (by omega), Tys.wrong]); done)))
        | (refine Q4 rfl ?_ -- QI c0
           all_goals (refine Q0 ?_; refine Q0 ?_; refine Q1 ?_)
           all_goals (first | (refine Qy ?_) | (refine QC ?_) | (refine Qn rfl rfl (fun hc => ?_) (fun hc => ?_)))
           all_goals (refine zm ?_; refine zn ?_)
           all_goals
             first
             | (refine Q3 rfl ?_ -- QI c2
                all_goals refine zsk ?_)
             | (refine Q4 rfl ?_ -- QI c2
                all_goals (refine Q1 ?_)
                all_goals (first | (refine Qy ?_) | (refine QC ?_) | (refine Qn rfl rfl (fun hc => ?_) (fun hc => ?_)))
                all_goals (refine zm ?_)
                all_goals refine zn ?_)
           all_goals
             first
             | (refine Q3 rfl ?_ -- QI c3
                all_goals (refine Q0 ?_; refine Q1 ?_; refine Q2 rfl ?_; refine zl hS ?_; refine zL ?_)
                all_goals (first | (refine QK ?_) | (refine QM ?_) | (refine Qi rfl rfl (fun hc => ?_) (fun hc => ?_)))
                all_goals (refine zn ?_)
                all_goals
                  first
                  | (refine Q3 rfl ?_ -- QI c4
                     all_goals (refine Q0 ?_; refine Q1 ?_; refine zm ?_; refine zn ?_; refine zr ?_; refine zf ?_)
                     all_goals (refine ⟨_, rfl, ?_, hS.sp⟩; (repeat (first | rw [if_pos (by omega)] | rw [if_neg (by omega)])); done))
                  | (refine Q4 rfl ?_ -- QI c4
                     all_goals refine zsk ?_))
             | (refine Q4 rfl ?_ -- QI c3
                all_goals (refine Q0 ?_; refine Q1 ?_)
                all_goals (first | (refine Qy ?_) | (refine QC ?_) | (refine Qn rfl rfl (fun hc => ?_) (fun hc => ?_)))
                all_goals (refine zm ?_; refine zn ?_)
                all_goals
                  first
                  | (refine Q3 rfl ?_ -- QI c5
                     all_goals (refine Q0 ?_; refine Q1 ?_; refine Q2 rfl ?_; refine zl hS ?_; refine zL ?_)
                     all_goals (first | (refine QK ?_) | (refine QM ?_) | (refine Qi rfl rfl (fun hc => ?_) (fun hc => ?_)))
                     all_goals (refine zn ?_)
                     all_goals
                       first
                       | (refine Q3 rfl ?_ -- QI c6
                          all_goals (refine Q0 ?_; refine Q1 ?_; refine zm ?_; refine zn ?_; refine zr ?_; refine zf ?_)
                          all_goals (refine ⟨_, rfl, ?_, hS.sp⟩; (repeat (first | rw [if_pos (by omega)] | rw [if_neg (by omega)])); done))
                       | (refine Q4 rfl ?_ -- QI c6
                          all_goals refine zsk ?_))
                  | (refine Q4 rfl ?_ -- QI c5
                     all_goals (refine Q0 ?_; refine Q1 ?_; refine zm ?_; refine zn ?_; refine zr ?_; refine zf ?_)
                     all_goals (refine ⟨_, rfl, ?_, hS.sp⟩; (repeat (first | rw [if_pos (by omega)] | rw [if_neg (by omega)])); done))))
      all_goals (exact ⟨zh, zh, by omega, hS.sp⟩)
    rintro ρ w1 ⟨hA, hρ, hk, hS⟩; obtain ⟨ρ, rfl⟩ := env2 hA hρ
    all_goals (refine Q0 ?_; refine Q0 ?_; refine Q1 ?_; refine Q2 rfl ?_; refine zl hS ?_)
    all_goals (first | (refine Q1Q ?_) | (refine Q1R ?_) | (refine QD rfl rfl (fun hc => ?_) (fun hc => ?_)))
    all_goals (refine zm ?_; (first | refine s_gn rfl rfl ?_ | (refine s_gy rfl ?_; refine Q2 rfl ?_)); (first | refine s_gn rfl rfl ?_ | (refine s_gy rfl ?_; refine zl hS ?_)); (first | refine s_gn rfl rfl ?_ | (refine s_gy rfl ?_; refine zm ?_)))
    all_goals (first | refine s_gn rfl rfl ?_ | (refine s_gy rfl ?_; (first | (refine QdO ?_) | (refine QdP ?_) | (refine Q3G rfl rfl (fun hc => ?_) (fun hc => ?_)))))
    all_goals ((first | (refine zpt ?_) | (refine zpf ?_)); refine zn ?_)
    all_goals
      first
      | (refine Q3 rfl ?_ -- QI c7
         all_goals (refine Q0 ?_; refine Q1 ?_; refine zm ?_; refine zn ?_; refine zr ?_; refine zf ?_)
         all_goals (refine ⟨_, rfl, ?_, hS.sp⟩; (repeat (first | rw [if_pos (by omega)] | rw [if_neg (by omega)])); done))
      | (refine Q4 rfl ?_ -- QI c7
         all_goals refine zsk ?_)
    all_goals (refine Q0 ?_; refine Q0 ?_; refine Q1 ?_; refine Q2 rfl ?_; refine zl hS ?_; refine zL ?_; refine zm ?_; refine zn ?_; refine Q8 ?_)
    refine zoL hS [1, 44, 45] (fun A LL ρ' w' => ∃ (j : Nat), Has ρ' A ∧ Has ρ' [(46, .int .i64 j)] ∧ (j ≤ l.length) ∧ (Tys.wrong 8 l regs = Tys.wrong 8 (l.drop j) regs) ∧ St cx w' (LL)) (fun ρ' _ => (l.length - iv (ρ' 46)).toNat) ?_ ?_
    · exact ⟨0, zh, zh, (by omega), by simp, hS.sp⟩
    rintro ρ w1 ⟨j, hA, hρ, hj, hd, hS⟩; obtain ⟨ρ, rfl⟩ := env2 hA hρ
    unfold Q6k
    all_goals (refine Q0 ?_; refine Q1 ?_; refine Qt rfl rfl ?_; refine zn ?_; refine Q0 ?_)
    refine Qm rfl (fun hc => ?_) (fun hc => ?_)
    · skip
      all_goals (refine zsk ?_; refine Q0 ?_; refine Q8 ?_; refine Q0 ?_; refine Q1 ?_; refine zi ?_; intro b1 o1 cs1 x1 hat1 hx1 he1; obtain ⟨vl1, rfl, hl1⟩ := QX he1; (first | (refine zv hS ?_) | (refine zvk hS ?_)); refine Qb hS ?_; intro p6 w1 hS; refine zsn hS ?_; intro w1 hS; have hS := hS.ns; refine zn ?_; refine Q0 ?_; refine Q1 ?_; refine zv hS ?_; refine zm ?_; refine zR2 (c := ih _ (List.mem_of_getElem? (by assumption)) (by assumption) hS) (h := ?_); rintro v1 w1 ⟨rfl, hS⟩; refine zm ?_; refine zn ?_; refine Q0 ?_; refine Q1 ?_; refine zm ?_)
      all_goals (first | (refine Q1c ?_) | (refine Q1d ?_) | (refine Qp rfl rfl (fun hc => ?_) (fun hc => ?_)))
      all_goals (refine zn ?_)
      all_goals
        first
        | (refine Q3 rfl ?_ -- QI c9
           all_goals (refine Q0 ?_; refine Q1 ?_; refine zm ?_; refine zm ?_; refine zn ?_; refine zr ?_; refine zf ?_)
           all_goals (first | (refine ⟨_, rfl, ?_, hS.sp⟩; (repeat (first | rw [if_pos (by omega)] | rw [if_neg (by omega)])); done) | (refine ⟨_, rfl, ?_, hS.sp⟩; ((repeat (first | rw [if_pos (by omega)] | rw [if_neg (by omega)])); rw [hd, Q7 hx1, Tys.wrong, if_pos (by assumption)]); done)))
        | (refine Q4 rfl ?_ -- QI c9
           all_goals refine zsk ?_)
      all_goals (refine Q1 ?_; refine zad ?_; refine zm ?_; refine zn ?_; exact ⟨⟨j + 1, zh, zh, (by omega), by rw [hd, Q7 hx1, Tys.wrong, if_neg (by omega)], hS.sp⟩, Qh (by omega)⟩)
    · skip
      all_goals (refine zex ?_; refine Q0 ?_; refine Q1 ?_; refine zm ?_; refine zn ?_; refine zr ?_; refine zf ?_; (first | (refine ⟨_, rfl, ?_, hS.sp⟩; (repeat (first | rw [if_pos (by omega)] | rw [if_neg (by omega)])); done) | (refine ⟨_, rfl, ?_, hS.sp⟩; ((repeat (first | rw [if_pos (by omega)] | rw [if_neg (by omega)])); rw [hd, Q7 hx1, Tys.wrong, if_pos (by assumption)]); done) | (refine ⟨_, rfl, ?_, hS.sp⟩; ((repeat (first | rw [if_pos (by omega)] | rw [if_neg (by omega)])); rw [List.eq_nil_of_length_eq_zero (l := l) (by omega), Tys.wrong]); done) | (refine ⟨_, rfl, ?_, hS.sp⟩; ((repeat (first | rw [if_pos (by omega)] | rw [if_neg (by omega)])); rw [hd, List.drop_of_length_le (by omega), Tys.wrong]); done)))
theorem tcheck_c {t : Ty} {cx : Cx} {w : World} {L : List Res} {cs : List Value} {regs : Int} (ht : tyR.at cx cs t) (hS : St cx w L) :
    Rets Tryz.prog Q57 [.agg ⟨cs⟩, .int .i64 regs] w fun v w' => v = .int .i64 (t.fault regs) ∧ St cx w' L := by
  obtain ⟨v, rfl, hl⟩ := QX ht
  unfold Ty.fault
  all_goals refine Qjr ?_
  all_goals (unfold types_Check_lc; refine Q0 ?_; refine Q1 ?_; refine zb hS ?_; intro p2 w1 hS; refine zm ?_; refine zn ?_; refine Q0 ?_; refine Q0 ?_; refine Q1 ?_; refine zv hS ?_)
  all_goals (refine zR2 (c := deep_c t ht (by omega) hS) (h := ?_); rintro v1 w1 ⟨rfl, hS⟩; cases hg : t.deepB 4)
  all_goals (refine Q2b rfl ?_; refine zn ?_)
  all_goals
    first
    | (refine Q3 rfl ?_ -- Q57 c0
       all_goals (refine Q0 ?_; refine Q1 ?_; refine zm ?_; refine zn ?_; refine zr ?_; refine zf ?_)
       all_goals (refine ⟨_, rfl, ?_, hS.sp⟩; (rfl); done))
    | (refine Q4 rfl ?_ -- Q57 c0
       all_goals refine zsk ?_)
  all_goals (refine Q0 ?_; refine Q1 ?_; refine zv hS ?_; refine zm ?_; refine zR2 (c := wrong_c t ht hS) (h := ?_); rintro v1 w1 ⟨rfl, hS⟩; refine zm ?_; refine zn ?_; refine zr ?_; refine zf ?_; refine ⟨_, rfl, ?_, hS.sp⟩; (rfl); done)
theorem depth_c : ∀ (t : Ty) {cx : Cx} {w : World} {L : List Res} {cs : List Value} {most : Int}, tyR.at cx cs t → 0 ≤ most → most ≤ 1000 → St cx w L →
    Rets Tryz.prog Q4s [.agg ⟨cs⟩, .int .i64 most] w fun v w' => v = .int .i64 (t.depth most) ∧ St cx w' L := by
  intro t
  induction t using Ty.ind with
  | h k r l ih =>
    intro cx w L cs most ht h0 h1 hS
    obtain ⟨v, rfl, hl⟩ := QX ht
    simp only [Ty.kind, Ty.r, Ty.l] at hl ht ⊢
    have hlen := hl.len
    rw [Ty.depth]
    all_goals refine QsF ?_
    all_goals (unfold R_DeepOf_lc; refine Q0 ?_; refine Q1 ?_; refine zb hS ?_; intro p2 w1 hS; refine zm ?_; refine zn ?_; refine Q0 ?_; refine Q1 ?_; refine zm ?_; refine zn ?_; refine Q0 ?_; refine Q0 ?_; refine Q1 ?_; refine zm ?_; refine zn ?_; refine Q8 ?_)
    refine zoL hS [1, 2] (fun A LL ρ' w' => ∃ (j : Nat) (n : Int), Has ρ' A ∧ Has ρ' [(5, .int .i64 n), (6, .int .i64 j)] ∧ (j ≤ l.length) ∧ (0 ≤ n) ∧ (n ≤ 1002) ∧ (Tys.depth l most 0 = Tys.depth (l.drop j) most n) ∧ St cx w' (LL)) (fun ρ' _ => (l.length - iv (ρ' 6)).toNat) ?_ ?_
    · exact ⟨0, 0, zh, zh, (by omega), (by omega), (by omega), by simp, hS.sp⟩
    rintro ρ w1 ⟨j, n, hA, hρ, hj, hn0, hn, hd, hS⟩; obtain ⟨ρ, rfl⟩ := env2 hA hρ
    unfold QiL
    all_goals (refine Q0 ?_; refine Q0 ?_; refine Q1 ?_; refine zm ?_; refine Q2 rfl ?_; refine zl hS ?_; refine zL ?_)
    all_goals (first | (refine Q1Q ?_) | (refine Q1R ?_) | (refine QD rfl rfl (fun hc => ?_) (fun hc => ?_)))
    all_goals (refine zm ?_; (first | refine s_gn rfl rfl ?_ | (refine s_gy rfl ?_; refine zm ?_)); (first | refine s_gn rfl rfl ?_ | (refine s_gy rfl ?_; refine zm ?_)))
    all_goals (first | refine s_gn rfl rfl ?_ | (refine s_gy rfl ?_; (first | (refine zleqt ?_) | (refine zleqf ?_) | (refine s_leq_s rfl rfl (fun hc => ?_) (fun hc => ?_)))))
    all_goals ((first | (refine zpt ?_) | (refine zpf ?_)); refine zn ?_)
    all_goals
      first
      | (refine Q4 rfl ?_ -- Q4s c0
         all_goals (refine zex ?_; refine Q0 ?_; refine Q1 ?_; refine zm ?_; refine zm ?_; refine zn ?_; refine zr ?_; refine zf ?_)
         all_goals (first | (refine ⟨_, rfl, ?_, hS.sp⟩; rw [hd]; cases hx : l.drop j with | nil => exact absurd (List.drop_eq_nil_iff.1 hx) (by omega) | cons y m => rw [Tys.depth, if_pos (by omega), if_pos (by omega)]; done) | (refine ⟨_, rfl, ?_, hS.sp⟩; rw [hd, List.drop_of_length_le (by omega), Tys.depth]; done) | (refine ⟨_, rfl, ?_, hS.sp⟩; rw [hd]; cases hx : l.drop j with | nil => rw [Tys.depth] | cons y m => rw [Tys.depth, if_neg (by omega)]; done)))
      | (refine Q3 rfl ?_ -- Q4s c0
         all_goals (refine zsk ?_; refine Q0 ?_; refine Q8 ?_; refine Q0 ?_; refine Q0 ?_; refine Q1 ?_; refine zm ?_)
         all_goals (first | (refine Qy ?_) | (refine QC ?_) | (refine Qn rfl rfl (fun hc => ?_) (fun hc => ?_)))
         all_goals (refine zn ?_)
         all_goals
           first
           | (refine Q3 rfl ?_ -- Q4s c1
              all_goals (refine Q0 ?_; refine Q1 ?_; refine zm ?_; refine zn ?_; refine zr ?_; refine zf ?_)
              all_goals (refine ⟨_, rfl, ?_, hS.sp⟩; rw [hd]; cases hx : l.drop j with | nil => exact absurd (List.drop_eq_nil_iff.1 hx) (by omega) | cons y m => rw [Tys.depth, if_pos (by omega), if_pos (by omega)]; done))
           | (refine Q4 rfl ?_ -- Q4s c1
              all_goals refine zsk ?_)
         all_goals (refine Q0 ?_; refine Q1 ?_; refine Q2 rfl ?_; refine zl hS ?_; refine zm ?_; refine zi ?_; intro b1 o1 cs1 x1 hat1 hx1 he1; obtain ⟨vl1, rfl, hl1⟩ := QX he1; (first | (refine zv hS ?_) | (refine zvk hS ?_)); refine zm ?_; refine zsu ?_; have hb := Ty.depth_rng x1 (most := most - 1) (by omega); refine zR2 (c := ih _ (List.mem_of_getElem? (by assumption)) (by assumption) (by omega) (by omega) hS) (h := ?_); rintro v1 w1 ⟨rfl, hS⟩; refine zad ?_; refine zm ?_; refine zn ?_; refine Q0 ?_; refine Q1 ?_; refine zm ?_; refine zm ?_)
         all_goals (first | (refine QK ?_) | (refine QM ?_) | (refine Qi rfl rfl (fun hc => ?_) (fun hc => ?_)))
         all_goals (refine zn ?_)
         all_goals
           first
           | (refine Q3 rfl ?_ -- Q4s c2
              all_goals (refine Q1 ?_; refine zm ?_; refine zm ?_)
              all_goals refine zn ?_)
           | (refine Q4 rfl ?_ -- Q4s c2
              all_goals refine zsk ?_)
         all_goals (refine Q1 ?_; refine zm ?_; refine zad ?_; refine zm ?_; refine zn ?_)
         all_goals (first | (exact ⟨⟨j + 1, _, zh, zh, (by omega), (by omega), (by omega), by rw [hd, Q7 hx1, Tys.depth, if_pos (by omega), if_neg (by omega), if_pos (by omega)], hS.sp⟩, Qh (by omega)⟩) | (exact ⟨⟨j + 1, _, zh, zh, (by omega), (by omega), (by omega), by rw [hd, Q7 hx1, Tys.depth, if_pos (by omega), if_neg (by omega), if_neg (by omega)], hS.sp⟩, Qh (by omega)⟩)))
theorem rwrong_c : ∀ (t : Ty) {cx : Cx} {w : World} {L : List Res} {cs : List Value} {regs : Int}, tyR.at cx cs t → St cx w L →
    Rets Tryz.prog Q1J [.agg ⟨cs⟩, .int .i64 regs] w fun v w' => v = .int .i64 (t.wrong 8 regs) ∧ St cx w' L := by
  intro t
  induction t using Ty.ind with
  | h k r l ih =>
    intro cx w L cs regs ht hS
    obtain ⟨v, rfl, hl⟩ := QX ht
    simp only [Ty.kind, Ty.r, Ty.l] at hl ht ⊢
    have hlen := hl.len
    rw [Ty.wrong]
    all_goals refine QjX ?_
    all_goals (unfold R_typeFault_lc; refine Q0 ?_; refine Q1 ?_; refine zb hS ?_; intro p2 w1 hS; refine zm ?_; refine zn ?_; refine Q0 ?_; refine Q0 ?_; refine Q1 ?_; refine Q2 rfl ?_; refine zl hS ?_)
    all_goals (first | (refine Q1Q ?_) | (refine Q1R ?_) | (refine QD rfl rfl (fun hc => ?_) (fun hc => ?_)))
    all_goals (refine zm ?_; (first | refine s_gn rfl rfl ?_ | (refine s_gy rfl ?_; refine Q2 rfl ?_)); (first | refine s_gn rfl rfl ?_ | (refine s_gy rfl ?_; refine zl hS ?_)))
    all_goals (first | refine s_gn rfl rfl ?_ | (refine s_gy rfl ?_; (first | (refine QK ?_) | (refine QM ?_) | (refine Qi rfl rfl (fun hc => ?_) (fun hc => ?_)))))
    all_goals ((first | (refine zpt ?_) | (refine zpf ?_)); refine zn ?_)
    all_goals
      first
      | (refine Q3 rfl ?_ -- Q1J c0
         all_goals (refine Q0 ?_; refine Q1 ?_; refine zm ?_; refine zn ?_; refine zr ?_; refine zf ?_)
         all_goals (refine ⟨_, rfl, ?_, hS.sp⟩; (repeat (first | rw [if_pos (by omega)] | rw [if_neg (by omega)])); done))
      | (refine Q4 rfl ?_ -- Q1J c0
         all_goals refine zsk ?_)
    refine zML hS [1, 2] (fun A LL ρ' w' => Has ρ' A ∧ Has ρ' [] ∧ (1 ≤ k ∧ k ≤ 4 ∧ (k = 1 → r = 0) ∧ (k ≠ 3 → l.length = 0)) ∧ St cx w' (LL)) ?_ ?_
    · skip
      all_goals (refine Q0 ?_; refine Q1 ?_; refine Q2 rfl ?_; refine zl hS ?_)
      all_goals (first | (refine Qy ?_) | (refine QC ?_) | (refine Qn rfl rfl (fun hc => ?_) (fun hc => ?_)))
      all_goals (refine zm ?_; (first | refine s_gn rfl rfl ?_ | (refine s_gy rfl ?_; refine Q2 rfl ?_)); (first | refine s_gn rfl rfl ?_ | (refine s_gy rfl ?_; refine zl hS ?_)))
      all_goals (first | refine s_gn rfl rfl ?_ | (refine s_gy rfl ?_; (first | (refine Q1c ?_) | (refine Q1d ?_) | (refine Qp rfl rfl (fun hc => ?_) (fun hc => ?_)))))
      all_goals ((first | (refine zpt ?_) | (refine zpf ?_)); refine zm ?_; (first | refine s_gn rfl rfl ?_ | (refine s_gy rfl ?_; refine Q2 rfl ?_)); (first | refine s_gn rfl rfl ?_ | (refine s_gy rfl ?_; refine zl hS ?_)))
      all_goals (first | refine s_gn rfl rfl ?_ | (refine s_gy rfl ?_; (first | (refine Q1c ?_) | (refine Q1d ?_) | (refine Qp rfl rfl (fun hc => ?_) (fun hc => ?_)))))
      all_goals ((first | refine s_gn rfl rfl ?_ | (refine s_gy rfl ?_; refine zm ?_)); (first | refine s_gn rfl rfl ?_ | (refine s_gy rfl ?_; refine Q2 rfl ?_)); (first | refine s_gn rfl rfl ?_ | (refine s_gy rfl ?_; refine zl hS ?_)); (first | refine s_gn rfl rfl ?_ | (refine s_gy rfl ?_; refine zL ?_)))
      all_goals (first | refine s_gn rfl rfl ?_ | (refine s_gy rfl ?_; (first | (refine QK ?_) | (refine QM ?_) | (refine Qi rfl rfl (fun hc => ?_) (fun hc => ?_)))))
      all_goals ((first | refine s_gn rfl rfl ?_ | (refine s_gy rfl ?_; (first | (refine zpt ?_) | (refine zpf ?_)))); (first | (refine zpt ?_) | (refine zpf ?_)); refine zn ?_)
      all_goals
        first
        | (refine Q3 rfl ?_ -- Q1J c1
           all_goals (refine Q0 ?_; refine Q1 ?_; refine zm ?_; refine zn ?_; refine zr ?_; refine zf ?_)
           all_goals (refine ⟨_, rfl, ?_, hS.sp⟩; (repeat (first | rw [if_pos (by omega)] | rw [if_neg (by omega)])); done))
        | (refine Q4 rfl ?_ -- Q1J c1
           all_goals refine zsk ?_)
      all_goals (exact ⟨zh, zh, by omega, hS.sp⟩)
    rintro ρ w1 ⟨hA, hρ, hk, hS⟩; obtain ⟨ρ, rfl⟩ := env2 hA hρ
    all_goals (refine Q0 ?_; refine Q0 ?_; refine Q1 ?_; refine Q2 rfl ?_; refine zl hS ?_; refine zL ?_)
    all_goals (first | (refine QK ?_) | (refine QM ?_) | (refine Qi rfl rfl (fun hc => ?_) (fun hc => ?_)))
    all_goals (refine zn ?_)
    all_goals
      first
      | (refine Q3 rfl ?_ -- Q1J c2
         all_goals (refine Q0 ?_; refine Q1 ?_; refine zm ?_; refine zn ?_; refine zr ?_; refine zf ?_)
         all_goals (refine ⟨_, rfl, ?_, hS.sp⟩; (repeat (first | rw [if_pos (by omega)] | rw [if_neg (by omega)])); done))
      | (refine Q4 rfl ?_ -- Q1J c2
         all_goals refine zsk ?_)
    refine zML hS [1, 2] (fun A LL ρ' w' => Has ρ' A ∧ Has ρ' [] ∧ (l.length ≤ 8) ∧ (k ≠ 1 → 0 ≤ r ∧ r < regs) ∧ St cx w' (LL)) ?_ ?_
    · skip
      all_goals (refine Q0 ?_; refine Q1 ?_; refine Q2 rfl ?_; refine zl hS ?_)
      all_goals (first | (refine Q1c ?_) | (refine Q1d ?_) | (refine Qp rfl rfl (fun hc => ?_) (fun hc => ?_)))
      all_goals (refine zm ?_; (first | refine s_gn rfl rfl ?_ | (refine s_gy rfl ?_; refine Q2 rfl ?_)); (first | refine s_gn rfl rfl ?_ | (refine s_gy rfl ?_; refine zl hS ?_)))
      all_goals (first | refine s_gn rfl rfl ?_ | (refine s_gy rfl ?_; (first | (refine Q1Q ?_) | (refine Q1R ?_) | (refine QD rfl rfl (fun hc => ?_) (fun hc => ?_)))))
      all_goals ((first | refine s_gn rfl rfl ?_ | (refine s_gy rfl ?_; refine zm ?_)); (first | refine s_gn rfl rfl ?_ | (refine s_gy rfl ?_; refine Q2 rfl ?_)); (first | refine s_gn rfl rfl ?_ | (refine s_gy rfl ?_; refine zl hS ?_)); (first | refine s_gn rfl rfl ?_ | (refine s_gy rfl ?_; refine zm ?_)))
      all_goals (first | refine s_gn rfl rfl ?_ | (refine s_gy rfl ?_; (first | (refine QdO ?_) | (refine QdP ?_) | (refine Q3G rfl rfl (fun hc => ?_) (fun hc => ?_)))))
      all_goals ((first | refine s_gn rfl rfl ?_ | (refine s_gy rfl ?_; (first | (refine zpt ?_) | (refine zpf ?_)))); (first | (refine zpt ?_) | (refine zpf ?_)); refine zn ?_)
      all_goals
        first
        | (refine Q3 rfl ?_ -- Q1J c3
           all_goals (refine Q0 ?_; refine Q1 ?_; refine zm ?_; refine zn ?_; refine zr ?_; refine zf ?_)
           all_goals (refine ⟨_, rfl, ?_, hS.sp⟩; (repeat (first | rw [if_pos (by omega)] | rw [if_neg (by omega)])); done))
        | (refine Q4 rfl ?_ -- Q1J c3
           all_goals refine zsk ?_)
      all_goals (exact ⟨zh, zh, by omega, by omega, hS.sp⟩)
    rintro ρ w1 ⟨hA, hρ, hk2, hk3, hS⟩; obtain ⟨ρ, rfl⟩ := env2 hA hρ
    all_goals (refine Q0 ?_; refine Q0 ?_; refine Q1 ?_; refine zm ?_; refine zn ?_; refine Q8 ?_)
    refine zoL hS [1, 2] (fun A LL ρ' w' => ∃ (j : Nat), Has ρ' A ∧ Has ρ' [(5, .int .i64 j)] ∧ (j ≤ l.length) ∧ (Tys.wrong 8 l regs = Tys.wrong 8 (l.drop j) regs) ∧ St cx w' (LL)) (fun ρ' _ => (l.length - iv (ρ' 5)).toNat) ?_ ?_
    · exact ⟨0, zh, zh, (by omega), by simp, hS.sp⟩
    rintro ρ w1 ⟨j, hA, hρ, hj, hd, hS⟩; obtain ⟨ρ, rfl⟩ := env2 hA hρ
    unfold Q7v
    all_goals (refine Q0 ?_; refine Q0 ?_; refine Q1 ?_; refine zm ?_; refine Q2 rfl ?_; refine zl hS ?_; refine zL ?_; refine Qt rfl rfl ?_; refine zn ?_)
    refine Qm rfl (fun hc => ?_) (fun hc => ?_)
    · skip
      all_goals (refine zsk ?_; refine Q0 ?_; refine Q8 ?_; refine Q0 ?_; refine Q1 ?_; refine Q2 rfl ?_; refine zl hS ?_; refine zm ?_; refine zi ?_; intro b1 o1 cs1 x1 hat1 hx1 he1; obtain ⟨vl1, rfl, hl1⟩ := QX he1; (first | (refine zv hS ?_) | (refine zvk hS ?_)); refine zm ?_; refine zR2 (c := ih _ (List.mem_of_getElem? (by assumption)) (by assumption) hS) (h := ?_); rintro v1 w1 ⟨rfl, hS⟩; refine zm ?_; refine zn ?_; refine Q0 ?_; refine Q1 ?_; refine zm ?_)
      all_goals (first | (refine Q1c ?_) | (refine Q1d ?_) | (refine Qp rfl rfl (fun hc => ?_) (fun hc => ?_)))
      all_goals (refine zn ?_)
      all_goals
        first
        | (refine Q3 rfl ?_ -- Q1J c5
           all_goals (refine Q0 ?_; refine Q1 ?_; refine zm ?_; refine zm ?_; refine zn ?_; refine zr ?_; refine zf ?_)
           all_goals (first | (refine ⟨_, rfl, ?_, hS.sp⟩; (repeat (first | rw [if_pos (by omega)] | rw [if_neg (by omega)])); done) | (refine ⟨_, rfl, ?_, hS.sp⟩; ((repeat (first | rw [if_pos (by omega)] | rw [if_neg (by omega)])); rw [hd, Q7 hx1, Tys.wrong, if_pos (by assumption)]); done)))
        | (refine Q4 rfl ?_ -- Q1J c5
           all_goals refine zsk ?_)
      all_goals (refine Q1 ?_; refine zm ?_; refine zad ?_; refine zm ?_; refine zn ?_; exact ⟨⟨j + 1, zh, zh, (by omega), by rw [hd, Q7 hx1, Tys.wrong, if_neg (by omega)], hS.sp⟩, Qh (by omega)⟩)
    · skip
      all_goals (refine zex ?_; refine Q0 ?_; refine Q1 ?_; refine zm ?_; refine zn ?_; refine zr ?_; refine zf ?_; (first | (refine ⟨_, rfl, ?_, hS.sp⟩; (repeat (first | rw [if_pos (by omega)] | rw [if_neg (by omega)])); done) | (refine ⟨_, rfl, ?_, hS.sp⟩; ((repeat (first | rw [if_pos (by omega)] | rw [if_neg (by omega)])); rw [hd, Q7 hx1, Tys.wrong, if_pos (by assumption)]); done) | (refine ⟨_, rfl, ?_, hS.sp⟩; ((repeat (first | rw [if_pos (by omega)] | rw [if_neg (by omega)])); rw [hd, List.drop_of_length_le (by omega), Tys.wrong]); done)))
theorem QuH {t : Ty} {cx : Cx} {w : World} {L : List Res} {cs : List Value} {regs : Int} (ht : tyR.at cx cs t) (hS : St cx w L) :
    Rets Tryz.prog Q5D [.agg ⟨cs⟩, .int .i64 regs] w fun v w' => v = .int .i64 (t.fault regs) ∧ St cx w' L := by
  obtain ⟨v, rfl, hl⟩ := QX ht
  have hdp := Ty.depth_iff t (most := 4) (by omega)
  unfold Ty.fault
  all_goals refine QkV ?_
  all_goals (unfold R_TypeFault_lc; refine Q0 ?_; refine Q1 ?_; refine zb hS ?_; intro p2 w1 hS; refine zm ?_; refine zn ?_; refine Q0 ?_; refine Q0 ?_; refine Q1 ?_; refine zv hS ?_; refine zR2 (c := depth_c t ht (by omega) (by omega) hS) (h := ?_); rintro v1 w1 ⟨rfl, hS⟩)
  all_goals (first | (refine QK ?_) | (refine QM ?_) | (refine Qi rfl rfl (fun hc => ?_) (fun hc => ?_)))
  all_goals (refine zn ?_)
  all_goals
    first
    | (refine Q3 rfl ?_ -- Q5D c0
       all_goals (refine Q0 ?_; refine Q1 ?_; refine zm ?_; refine zn ?_; refine zr ?_; refine zf ?_)
       all_goals (refine ⟨_, rfl, ?_, hS.sp⟩; (rw [if_pos]; cases hg : t.deepB 4 <;> simp_all <;> omega); done))
    | (refine Q4 rfl ?_ -- Q5D c0
       all_goals refine zsk ?_)
  all_goals (refine Q0 ?_; refine Q1 ?_; refine zv hS ?_; refine zm ?_; refine zR2 (c := rwrong_c t ht hS) (h := ?_); rintro v1 w1 ⟨rfl, hS⟩; refine zm ?_; refine zn ?_; refine zr ?_; refine zf ?_)
  all_goals (first | (refine ⟨_, rfl, ?_, hS.sp⟩; (rw [if_pos]; cases hg : t.deepB 4 <;> simp_all <;> omega); done) | (refine ⟨_, rfl, ?_, hS.sp⟩; (rw [if_neg]; cases hg : t.deepB 4 <;> simp_all <;> omega); done))
end Go.Proofs.YtanlkfeogoganaaGreat
namespace Go.Proofs.YtanlkfeogoganaaGreat
open Go.Lir
set_option maxHeartbeats 1000000
attribute [local irreducible] LC.wp Q5 QN Q11 retQ Q1T LO.wp Qr Calls
set_option linter.unusedSimpArgs false
set_option linter.unusedVariables false
theorem QsZ {l : List Ty} (hlen : l.length ≤ 100000) (ih : ∀ x ∈ l, ∀ {cx : Cx} {w : World} {L : List Res} {cs : List Value}, tyR.at cx cs x → St cx w L → Rets Tryz.prog Qis [.agg ⟨cs⟩] w fun u w' => ∃ c' ds, u = .agg ⟨ds⟩ ∧ cx.Le c' ∧ tyR.at c' ds x ∧ St c' w' L)
    {cx : Cx} {w : World} {L : List Res} {v : Value} (hl : tyR.sl cx v l) (hS : St cx w L) : Rets Tryz.prog Qdh [v] w fun u w' => ∃ c', cx.Le c' ∧ tyR.sl c' u l ∧ St c' w' L := by
  all_goals refine Qo8 ?_
  all_goals (unfold R_OwnTypes_lc; refine Q0 ?_; refine Q1 ?_; refine zm ?_; refine zn ?_; refine Q0 ?_; refine Q1 ?_; refine zm ?_; refine zn ?_; refine Q0 ?_; refine Q0 ?_; refine Q1 ?_; refine zm ?_; refine zn ?_; refine Q8 ?_)
  refine zoL hS [0] (fun A LL ρ' w' => ∃ (c1 : Cx) (j : Nat) (u : Value) (css : List (List Value)), Has ρ' A ∧ Has ρ' [(3, u), (4, .int .i64 j)] ∧ (cx.Le c1) ∧ (j ≤ l.length) ∧ (tyR.ls c1 css (l.take j)) ∧ (oneC u = true) ∧ St c1 w' (sl 112 3 u css :: LL)) (fun ρ' _ => (l.length - iv (ρ' 4)).toNat) ?_ ?_
  · exact ⟨cx, 0, .slice none 0 0, [], zh, zh, St.refl hS, (by omega), Rep.LR.nil _ _ _, rfl, by have hS := hS.nil (T := 112) (es := 3); exact hS⟩
  rintro ρ w1 ⟨c1, j, u, css, hA, hρ, hle, hj, hls, hu, hS⟩; obtain ⟨ρ, rfl⟩ := env2 hA hρ; have hl := Rep.SR.up hl hle
  unfold Qbw
  all_goals (refine Q0 ?_; refine Q0 ?_; refine Q1 ?_; refine zm ?_; refine zm ?_; refine zL ?_; refine Qt rfl rfl ?_; refine zn ?_)
  refine Qm rfl (fun hc => ?_) (fun hc => ?_)
  · skip
    all_goals (refine zsk ?_; refine Q0 ?_; refine Q8 ?_; refine Q1 ?_; refine zm ?_; refine zm ?_; refine zm ?_; refine zi ?_; intro b1 o1 cs1 x1 hat1 hx1 he1; obtain ⟨vl1, rfl, hl1⟩ := QX he1; (first | (refine zv hS ?_) | (refine zvk hS ?_)); refine zR1 (c := ih _ (List.mem_of_getElem? hx1) he1 hS) (h := ?_); rintro v1 w1 ⟨c2, ds, rfl, hle2, hd, hS⟩; obtain ⟨v2, rfl, hv2⟩ := QX hd; have hls := Rep.LR.up hls hle2; refine zB1 hS [_, _, _] ?_; intro b1 w1 hS; refine za Qvo u_T50 hS ?_; intro vp1 w1 css1 hls1 hv1 hS; have hS := hS.ns; refine zm ?_; refine zn ?_; refine Q1 ?_; refine zm ?_; refine zad ?_; refine zm ?_; refine zn ?_; exact ⟨⟨c2, j + 1, _, _, zh, zh, hle.trans hle2, (by omega), by rw [Q4M hx1]; assumption, by assumption, hS.sp⟩, Qh (by omega)⟩)
  · skip
    all_goals (refine zex ?_; refine Q0 ?_; refine Q1 ?_; refine zm ?_; refine zm ?_; refine zn ?_; refine zr ?_; refine zf ?_; obtain ⟨c3, hle3, hS, hl3⟩ := St.freezeL (r := tyR) (l := l) (T := 112) (es := 3) (v := u) (css := css) (L := L) hS.sp (by rw [List.take_of_length_le (by omega)] at hls; exact hls) rfl (by omega); exact ⟨_, rfl, c3, hle.trans hle3, hl3, hS⟩)
theorem rown_c : ∀ (t : Ty), t.Short → ∀ {cx : Cx} {w : World} {L : List Res} {cs : List Value}, tyR.at cx cs t → St cx w L →
    Rets Tryz.prog Qis [.agg ⟨cs⟩] w fun u w' => ∃ c' ds, u = .agg ⟨ds⟩ ∧ cx.Le c' ∧ tyR.at c' ds t ∧ St c' w' L := by
  intro t
  induction t using Ty.ind with
  | h k r l ih =>
    intro hs cx w L cs ht hS
    obtain ⟨v, rfl, hl⟩ := QX ht
    simp only [Ty.kind, Ty.r, Ty.l] at hl ht ⊢
    obtain ⟨hlen, hsub⟩ := hs.parts
    all_goals refine QqI ?_
    all_goals (unfold R_OwnType_lc; refine Q0 ?_; refine Q1 ?_; refine zb hS ?_; intro p1 w1 hS; refine Qb hS ?_; intro p2 w1 hS; refine zn ?_; refine Q0 ?_; refine zC [(0, none), (1, none), (2, none), (3, none), (4, none), (5, none), (6, some (some [1, 3])), (7, none), (8, some none)] ?_; have hS := hS.drew; refine s_cq ?_; refine Q2 rfl ?_; refine zt ?_; refine s_cq ?_; refine zl hS ?_; refine zt ?_; refine s_cq ?_; refine Q2 rfl ?_; refine zt ?_; refine s_cq ?_; refine zl hS ?_; refine zt ?_; refine s_cq ?_; refine Q2 rfl ?_; refine zt ?_; refine s_cq ?_; refine zl hS ?_; refine zt ?_; refine Ql ?_; refine zR1 (c := QsZ hlen (fun x hx => ih x hx (hsub x hx)) hl hS) (h := ?_); rintro v1 w1 ⟨c1, hle, hl1, hS⟩; obtain ⟨a1, n1, rfl⟩ := Rep.SR.shape hl1; refine zt ?_; refine zy ?_; refine s_cq ?_; refine zb3 [_, _, _] ?_; refine zt ?_; refine s_cf ?_; refine zsn hS ?_; intro w1 hS; have hS := hS.ns; refine zt ?_; refine zcn ?_; refine zr ?_; refine Q20 vw (Q9 (n := 3) (by kernel_rfl) (by kernel_rfl) (hS.blkAt fd) (by rfl) (by rfl)) ?_; exact ⟨_, rfl, c1, _, rfl, hle, QsU hl1, hS.sp⟩)
theorem Q6q {l : List Ty} (hlen : l.length ≤ 100000) (hs : ∀ x ∈ l, x.Short) {cx : Cx} {w : World} {L : List Res} {v : Value} (hl : tyR.sl cx v l) (hS : St cx w L) : Rets Tryz.prog Qdh [v] w fun u w' => ∃ c', cx.Le c' ∧ tyR.sl c' u l ∧ St c' w' L :=
  QsZ hlen (fun x hx => rown_c x (hs x hx)) hl hS
end Go.Proofs.YtanlkfeogoganaaGreat
namespace Go.Proofs.YtanlkfeogoganaaGreat
open Go.Lir
set_option maxHeartbeats 1000000
attribute [local irreducible] LC.wp Q5 QN Q11 retQ Q1T LO.wp Qr Calls
set_option linter.unusedSimpArgs false
set_option linter.unusedVariables false
theorem QpG {l : List Ty} (ih : ∀ x ∈ l, ∀ (y : Ty) {cx : Cx} {w : World} {L : List Res} {cs ds : List Value}, tyR.at cx cs x → tyR.at cx ds y → St cx w L → Rets Tryz.prog Qdg [.agg ⟨cs⟩, .agg ⟨ds⟩] w fun u w' => u = .bool (decide (x = y)) ∧ St cx w' L)
    {m : List Ty} {cx : Cx} {w : World} {L : List Res} {v v2 : Value} (hl : tyR.sl cx v l) (hm : tyR.sl cx v2 m) (hS : St cx w L) : Rets Tryz.prog Q30 [v, v2] w fun u w' => u = .bool (decide (l = m)) ∧ St cx w' L := by
  have hlen := hl.len
  all_goals refine Ql5 ?_
  all_goals (unfold R_SameTypes_lc; refine Q0 ?_; refine Q1 ?_; refine zm ?_; refine zn ?_; refine Q0 ?_; refine Q0 ?_; refine Q1 ?_; refine zm ?_; refine zL ?_; refine zm ?_; refine zL ?_)
  all_goals (first | (refine Q1c ?_) | (refine Q1d ?_) | (refine Qp rfl rfl (fun hc => ?_) (fun hc => ?_)))
  all_goals (refine zn ?_)
  all_goals
    first
    | (refine Q3 rfl ?_ -- Q30 c0
       all_goals (refine Q0 ?_; refine Q1 ?_; refine zm ?_; refine zn ?_; refine zr ?_; refine zf ?_)
       all_goals (refine ⟨_, rfl, ?_, hS.sp⟩; rw [decide_eq_false]; exact fun e => absurd (congrArg List.length e) (by omega); done))
    | (refine Q4 rfl ?_ -- Q30 c0
       all_goals refine zsk ?_)
  all_goals (refine Q0 ?_; refine Q0 ?_; refine Q1 ?_; refine zm ?_; refine zn ?_; refine Q8 ?_)
  refine zoL hS [0, 1] (fun A LL ρ' w' => ∃ (j : Nat), Has ρ' A ∧ Has ρ' [(5, .int .i64 j)] ∧ (j ≤ l.length) ∧ (l.length = m.length) ∧ (l = m ↔ l.drop j = m.drop j) ∧ St cx w' (LL)) (fun ρ' _ => (l.length - iv (ρ' 5)).toNat) ?_ ?_
  · exact ⟨0, zh, zh, (by omega), (by omega), by simp, hS.sp⟩
  rintro ρ w1 ⟨j, hA, hρ, hj, hlm, hd, hS⟩; obtain ⟨ρ, rfl⟩ := env2 hA hρ
  unfold Q8T
  all_goals (refine Q0 ?_; refine Q0 ?_; refine Q1 ?_; refine zm ?_; refine zm ?_; refine zL ?_; refine Qt rfl rfl ?_; refine zn ?_)
  refine Qm rfl (fun hc => ?_) (fun hc => ?_)
  · skip
    all_goals (refine zsk ?_; refine Q0 ?_; refine Q8 ?_; refine Q0 ?_; refine zD [(0, none), (1, none), (2, none), (3, none), (4, none), (5, none), (6, none), (7, none), (8, some none), (9, some none)] ?_; have hS := hS.drew; refine zm ?_; refine zm ?_; refine zi ?_; intro b1 o1 cs1 x1 hat1 hx1 he1; obtain ⟨vl1, rfl, hl1⟩ := QX he1; (first | (refine zv hS ?_) | (refine zvk hS ?_)); refine zm ?_; refine zm ?_; refine zi ?_; intro b2 o2 cs2 x2 hat2 hx2 he2; obtain ⟨vl2, rfl, hl2⟩ := QX he2; (first | (refine zv hS ?_) | (refine zvk hS ?_)))
    all_goals (refine zR2 (c := ih _ (List.mem_of_getElem? hx1) _ he1 he2 hS) (h := ?_); rintro v1 w1 ⟨rfl, hS⟩; (cases hdec : decide (x1 = x2)); have hg := of_decide_eq_false hdec; rotate_left; have hg := of_decide_eq_true hdec; all_goals skip)
    all_goals (refine Q2b rfl ?_; refine zn ?_)
    all_goals
      first
      | (refine Q3 rfl ?_ -- Q30 c2
         all_goals (refine Q0 ?_; refine Q1 ?_; refine zm ?_; refine zn ?_; refine zr ?_; refine zf ?_)
         all_goals (first | (refine ⟨_, rfl, ?_, hS.sp⟩; rw [decide_eq_false]; exact fun e => absurd (congrArg List.length e) (by omega); done) | (refine ⟨_, rfl, ?_, hS.sp⟩; rw [decide_eq_false]; rw [hd, Q7 hx1, Q7 hx2]; simp [hg]; done)))
      | (refine Q4 rfl ?_ -- Q30 c2
         all_goals refine zsk ?_)
    all_goals (refine Q1 ?_; refine zm ?_; refine zad ?_; refine zm ?_; refine zn ?_; exact ⟨⟨j + 1, zh, zh, (by omega), (by omega), by rw [hd, Q7 hx1, Q7 hx2, hg]; simp, hS.sp⟩, Qh (by omega)⟩)
  · skip
    all_goals (refine zex ?_; refine Q0 ?_; refine Q1 ?_; refine zm ?_; refine zn ?_; refine zr ?_; refine zf ?_; (first | (refine ⟨_, rfl, ?_, hS.sp⟩; rw [decide_eq_false]; exact fun e => absurd (congrArg List.length e) (by omega); done) | (refine ⟨_, rfl, ?_, hS.sp⟩; rw [decide_eq_false]; rw [hd, Q7 hx1, Q7 hx2]; simp [hg]; done) | (refine ⟨_, rfl, ?_, hS.sp⟩; rw [decide_eq_true]; rw [hd, List.drop_of_length_le (by omega), List.drop_of_length_le (by omega)]; done)))
theorem rsame_c : ∀ (t u : Ty) {cx : Cx} {w : World} {L : List Res} {cs ds : List Value}, tyR.at cx cs t → tyR.at cx ds u → St cx w L →
    Rets Tryz.prog Qdg [.agg ⟨cs⟩, .agg ⟨ds⟩] w fun v w' => v = .bool (decide (t = u)) ∧ St cx w' L := by
  intro t
  induction t using Ty.ind with
  | h k r l ih =>
    rintro ⟨k2, r2, m⟩ cx w L cs ds ht hu hS
    obtain ⟨v, rfl, hl⟩ := QX ht
    obtain ⟨v2, rfl, hm⟩ := QX hu
    simp only [Ty.kind, Ty.r, Ty.l, Ty.mk.injEq] at hl hm ht hu ⊢
    all_goals refine QnP ?_
    all_goals (unfold R_SameType_lc; refine Q0 ?_; refine Q1 ?_; refine zb hS ?_; intro p2 w1 hS; refine zb hS ?_; intro p3 w1 hS; refine zm ?_; refine zn ?_; refine Q0 ?_; refine Q1 ?_; refine Q2 rfl ?_; refine zl hS ?_; refine Q2 rfl ?_; refine zl hS ?_)
    all_goals (first | (refine Qy ?_) | (refine QC ?_) | (refine Qn rfl rfl (fun hc => ?_) (fun hc => ?_)))
    all_goals (refine zm ?_; (first | refine s_gn rfl rfl ?_ | (refine s_gy rfl ?_; refine Q2 rfl ?_)); (first | refine s_gn rfl rfl ?_ | (refine s_gy rfl ?_; refine zl hS ?_)); (first | refine s_gn rfl rfl ?_ | (refine s_gy rfl ?_; refine Q2 rfl ?_)); (first | refine s_gn rfl rfl ?_ | (refine s_gy rfl ?_; refine zl hS ?_)))
    all_goals (first | refine s_gn rfl rfl ?_ | (refine s_gy rfl ?_; (first | (refine Qy ?_) | (refine QC ?_) | (refine Qn rfl rfl (fun hc => ?_) (fun hc => ?_)))))
    all_goals ((first | (refine zpt ?_) | (refine zpf ?_)); refine zm ?_; (first | refine s_gn rfl rfl ?_ | (refine s_gy rfl ?_; refine Q2 rfl ?_)); (first | refine s_gn rfl rfl ?_ | (refine s_gy rfl ?_; refine zl hS ?_)); (first | refine s_gn rfl rfl ?_ | (refine s_gy rfl ?_; refine Q2 rfl ?_)); (first | refine s_gn rfl rfl ?_ | (refine s_gy rfl ?_; refine zl hS ?_)); (first | refine s_gn rfl rfl ?_ | (refine s_gy rfl ?_; refine zR2 (c := QpG ih hl hm hS) (h := ?_); rintro v1 w1 ⟨rfl, hS⟩)); (first | (refine zpt ?_) | (refine zpf ?_)); refine zm ?_; refine zn ?_; refine zr ?_; refine zf ?_; refine ⟨_, rfl, ?_, hS.sp⟩; (simp [*]); done)
theorem Q7F {l m : List Ty} {cx : Cx} {w : World} {L : List Res} {v v2 : Value} (hl : tyR.sl cx v l) (hm : tyR.sl cx v2 m) (hS : St cx w L) : Rets Tryz.prog Q30 [v, v2] w fun u w' => u = .bool (decide (l = m)) ∧ St cx w' L :=
  QpG (fun x _ => rsame_c x) hl hm hS
/-- slices.EqualFunc, by a function that tells whether two are the same. -/
theorem eqfT_c {l : List Ty} {f : FuncId} (hf : Q3A Tryz.prog f = true) {m : List Ty} {cx : Cx} {w : World} {L : List Res} {v v2 : Value}
    (hcall : ∀ x ∈ l, ∀ y ∈ m, ∀ {w : World} {L : List Res} {cs ds : List Value}, tyR.at cx cs x → tyR.at cx ds y → St cx w L → Rets Tryz.prog f [.agg ⟨cs⟩, .agg ⟨ds⟩] w fun u w' => u = .bool (decide (x = y)) ∧ St cx w' L)
    (hl : tyR.sl cx v l) (hm : tyR.sl cx v2 m) (hS : St cx w L) : Rets Tryz.prog Qf [v, v2, .func (.func f) #[] #[]] w fun u w' => u = .bool (decide (l = m)) ∧ St cx w' L := by
  have hlen := hl.len
  all_goals refine Q1H ?_
  all_goals (unfold slices_EqualFunc_api_Type_api_Type_api_Type_api_Type_lc; refine Q0 ?_; refine Q1 ?_; refine zm ?_; refine zn ?_; refine Q0 ?_; refine Q0 ?_; refine Q1 ?_; refine zm ?_; refine zL ?_; refine zm ?_; refine zL ?_)
  all_goals (first | (refine Q1c ?_) | (refine Q1d ?_) | (refine Qp rfl rfl (fun hc => ?_) (fun hc => ?_)))
  all_goals (refine zn ?_)
  all_goals
    first
    | (refine Q3 rfl ?_ -- Qf c0
       all_goals (refine Q0 ?_; refine Q1 ?_; refine zm ?_; refine zn ?_; refine zr ?_; refine zf ?_)
       all_goals (refine ⟨_, rfl, ?_, hS.sp⟩; rw [decide_eq_false]; exact fun e => absurd (congrArg List.length e) (by omega); done))
    | (refine Q4 rfl ?_ -- Qf c0
       all_goals refine zsk ?_)
  all_goals (refine Q0 ?_; refine Q0 ?_; refine Q1 ?_; refine zm ?_; refine zL ?_; refine zm ?_; refine zn ?_; refine Q8 ?_)
  refine zoL hS [1, 2, 15, 16] (fun A LL ρ' w' => ∃ (j : Nat), Has ρ' A ∧ Has ρ' [(17, .int .i64 j)] ∧ (j ≤ l.length) ∧ (l.length = m.length) ∧ (l = m ↔ l.drop j = m.drop j) ∧ St cx w' (LL)) (fun ρ' _ => (l.length - iv (ρ' 17)).toNat) ?_ ?_
  · exact ⟨0, zh, zh, (by omega), (by omega), by simp, hS.sp⟩
  rintro ρ w1 ⟨j, hA, hρ, hj, hlm, hd, hS⟩; obtain ⟨ρ, rfl⟩ := env2 hA hρ
  unfold QQ
  all_goals (refine Q0 ?_; refine Q1 ?_; refine Qt rfl rfl ?_; refine zn ?_; refine Q0 ?_)
  refine Qm rfl (fun hc => ?_) (fun hc => ?_)
  · skip
    all_goals (refine zsk ?_; refine Q0 ?_; refine Q8 ?_; refine Q0 ?_; refine Q1 ?_; refine zm ?_; refine zi ?_; intro b1 o1 cs1 x1 hat1 hx1 he1; obtain ⟨vl1, rfl, hl1⟩ := QX he1; (first | (refine zv hS ?_) | (refine zvk hS ?_)); refine Qb hS ?_; intro p8 w1 hS; refine zm ?_; refine zsn hS ?_; intro w1 hS; have hS := hS.ns; refine zn ?_; refine Q0 ?_; refine Q1 ?_; refine zm ?_; refine zm ?_; refine zi ?_; intro b2 o2 cs2 x2 hat2 hx2 he2; obtain ⟨vl2, rfl, hl2⟩ := QX he2; (first | (refine zv hS ?_) | (refine zvk hS ?_)); refine Qb hS ?_; intro p9 w1 hS; refine zsn hS ?_; intro w1 hS; have hS := hS.ns; refine zn ?_; refine Q0 ?_; refine Q1 ?_; refine zm ?_; refine zv hS ?_; refine zv hS ?_)
    all_goals (refine Quw rfl hf (by rfl) (hcall _ (List.mem_of_getElem? hx1) _ (List.mem_of_getElem? hx2) he1 he2 hS) ?_; rintro v1 w1 ⟨rfl, hS⟩; (cases hdec : decide (x1 = x2)); have hg := of_decide_eq_false hdec; rotate_left; have hg := of_decide_eq_true hdec; all_goals skip)
    all_goals (refine Q2b rfl ?_; refine zn ?_)
    all_goals
      first
      | (refine Q3 rfl ?_ -- Qf c2
         all_goals (refine Q0 ?_; refine Q1 ?_; refine zm ?_; refine zn ?_; refine zr ?_; refine zf ?_)
         all_goals (first | (refine ⟨_, rfl, ?_, hS.sp⟩; rw [decide_eq_false]; exact fun e => absurd (congrArg List.length e) (by omega); done) | (refine ⟨_, rfl, ?_, hS.sp⟩; rw [decide_eq_false]; rw [hd, Q7 hx1, Q7 hx2]; simp [hg]; done)))
      | (refine Q4 rfl ?_ -- Qf c2
         all_goals refine zsk ?_)
    all_goals (refine Q1 ?_; refine zad ?_; refine zm ?_; refine zn ?_; exact ⟨⟨j + 1, zh, zh, (by omega), (by omega), by rw [hd, Q7 hx1, Q7 hx2, hg]; simp, hS.sp⟩, Qh (by omega)⟩)
  · skip
    all_goals (refine zex ?_; refine Q0 ?_; refine Q1 ?_; refine zm ?_; refine zn ?_; refine zr ?_; refine zf ?_; (first | (refine ⟨_, rfl, ?_, hS.sp⟩; rw [decide_eq_false]; exact fun e => absurd (congrArg List.length e) (by omega); done) | (refine ⟨_, rfl, ?_, hS.sp⟩; rw [decide_eq_false]; rw [hd, Q7 hx1, Q7 hx2]; simp [hg]; done) | (refine ⟨_, rfl, ?_, hS.sp⟩; rw [decide_eq_true]; rw [hd, List.drop_of_length_le (by omega), List.drop_of_length_le (by omega)]; done)))
theorem psame_c : ∀ (t u : Ty) {cx : Cx} {w : World} {L : List Res} {cs ds : List Value}, tyR.at cx cs t → tyR.at cx ds u → St cx w L →
    Rets Tryz.prog QlW [.agg ⟨cs⟩, .agg ⟨ds⟩] w fun v w' => v = .bool (decide (t = u)) ∧ St cx w' L := by
  intro t
  induction t using Ty.ind with
  | h k r l ih =>
    rintro ⟨k2, r2, m⟩ cx w L cs ds ht hu hS
    obtain ⟨v, rfl, hl⟩ := QX ht
    obtain ⟨v2, rfl, hm⟩ := QX hu
    simp only [Ty.kind, Ty.r, Ty.l, Ty.mk.injEq] at hl hm ht hu ⊢
    all_goals refine Qmt ?_
    all_goals (unfold types_Same_lc; refine Q0 ?_; refine Q1 ?_; refine zb hS ?_; intro p2 w1 hS; refine zb hS ?_; intro p3 w1 hS; refine zm ?_; refine zn ?_; refine Q0 ?_; refine Q1 ?_; refine Q2 rfl ?_; refine zl hS ?_; refine Q2 rfl ?_; refine zl hS ?_)
    all_goals (first | (refine Qy ?_) | (refine QC ?_) | (refine Qn rfl rfl (fun hc => ?_) (fun hc => ?_)))
    all_goals (refine zm ?_; (first | refine s_gn rfl rfl ?_ | (refine s_gy rfl ?_; refine Q2 rfl ?_)); (first | refine s_gn rfl rfl ?_ | (refine s_gy rfl ?_; refine zl hS ?_)); (first | refine s_gn rfl rfl ?_ | (refine s_gy rfl ?_; refine Q2 rfl ?_)); (first | refine s_gn rfl rfl ?_ | (refine s_gy rfl ?_; refine zl hS ?_)))
    all_goals (first | refine s_gn rfl rfl ?_ | (refine s_gy rfl ?_; (first | (refine Qy ?_) | (refine QC ?_) | (refine Qn rfl rfl (fun hc => ?_) (fun hc => ?_)))))
    all_goals ((first | (refine zpt ?_) | (refine zpf ?_)); refine zm ?_; (first | refine s_gn rfl rfl ?_ | (refine s_gy rfl ?_; refine Q2 rfl ?_)); (first | refine s_gn rfl rfl ?_ | (refine s_gy rfl ?_; refine zl hS ?_)); (first | refine s_gn rfl rfl ?_ | (refine s_gy rfl ?_; refine Q2 rfl ?_)); (first | refine s_gn rfl rfl ?_ | (refine s_gy rfl ?_; refine zl hS ?_)); (first | refine s_gn rfl rfl ?_ | (refine s_gy rfl ?_; refine zR3 (c := eqfT_c (by kernel_rfl) (fun x hx y _ {_ _ _ _} h1 h2 h3 => ih x hx y h1 h2 h3) hl hm hS) (h := ?_); rintro v1 w1 ⟨rfl, hS⟩)); (first | (refine zpt ?_) | (refine zpf ?_)); refine zm ?_; refine zn ?_; refine zr ?_; refine zf ?_; refine ⟨_, rfl, ?_, hS.sp⟩; (simp [*]); done)
end Go.Proofs.YtanlkfeogoganaaGreat
namespace Go.Proofs.YtanlkfeogoganaaGreat
open Go.Lir
set_option maxHeartbeats 1000000
attribute [local irreducible] LC.wp Q5 QN Q11 retQ Q1T LO.wp Qr Calls
set_option linter.unusedSimpArgs false
set_option linter.unusedVariables false
theorem Qgq {l m : List Int} {cx : Cx} {w : World} {L : List Res} {v v2 : Value} (hl : intR.sl cx v l) (hm : intR.sl cx v2 m) (hS : St cx w L) : Rets Tryz.prog Q40 [v, v2] w fun u w' => u = .bool (decide (l = m)) ∧ St cx w' L := by
  have hlen := hl.len
  all_goals refine QnZ ?_
  all_goals (unfold R_SameInts_lc; refine Q0 ?_; refine Q1 ?_; refine zm ?_; refine zn ?_; refine Q0 ?_; refine Q0 ?_; refine Q1 ?_; refine zm ?_; refine zL ?_; refine zm ?_; refine zL ?_)
  all_goals (first | (refine Q1c ?_) | (refine Q1d ?_) | (refine Qp rfl rfl (fun hc => ?_) (fun hc => ?_)))
  all_goals (refine zn ?_)
  all_goals
    first
    | (refine Q3 rfl ?_ -- Q40 c0
       all_goals (refine Q0 ?_; refine Q1 ?_; refine zm ?_; refine zn ?_; refine zr ?_; refine zf ?_)
       all_goals (refine ⟨_, rfl, ?_, hS.sp⟩; rw [decide_eq_false]; exact fun e => absurd (congrArg List.length e) (by omega); done))
    | (refine Q4 rfl ?_ -- Q40 c0
       all_goals refine zsk ?_)
  all_goals (refine Q0 ?_; refine Q0 ?_; refine Q1 ?_; refine zm ?_; refine zn ?_; refine Q8 ?_)
  refine zoL hS [0, 1] (fun A LL ρ' w' => ∃ (j : Nat), Has ρ' A ∧ Has ρ' [(5, .int .i64 j)] ∧ (j ≤ l.length) ∧ (l.length = m.length) ∧ (l = m ↔ l.drop j = m.drop j) ∧ St cx w' (LL)) (fun ρ' _ => (l.length - iv (ρ' 5)).toNat) ?_ ?_
  · exact ⟨0, zh, zh, (by omega), (by omega), by simp, hS.sp⟩
  rintro ρ w1 ⟨j, hA, hρ, hj, hlm, hd, hS⟩; obtain ⟨ρ, rfl⟩ := env2 hA hρ
  unfold Qbv
  all_goals (refine Q0 ?_; refine Q0 ?_; refine Q1 ?_; refine zm ?_; refine zm ?_; refine zL ?_; refine Qt rfl rfl ?_; refine zn ?_)
  refine Qm rfl (fun hc => ?_) (fun hc => ?_)
  · skip
    all_goals (refine zsk ?_; refine Q0 ?_; refine Q8 ?_; refine Q0 ?_; refine zD [(0, none), (1, none), (2, none), (3, none), (4, none), (5, none), (6, none), (7, none), (8, some none)] ?_; have hS := hS.drew; refine zm ?_; refine zm ?_; refine zi ?_; intro b1 o1 cs1 x1 hat1 hx1 he1; obtain rfl := Q25 he1; (first | (refine zl hS ?_) | (refine zlk hS ?_)); refine zm ?_; refine zm ?_; refine zi ?_; intro b2 o2 cs2 x2 hat2 hx2 he2; obtain rfl := Q25 he2; (first | (refine zl hS ?_) | (refine zlk hS ?_)))
    all_goals (first | (refine Q1c ?_) | (refine Q1d ?_) | (refine Qp rfl rfl (fun hc => ?_) (fun hc => ?_)))
    all_goals (refine zn ?_)
    all_goals
      first
      | (refine Q3 rfl ?_ -- Q40 c2
         all_goals (refine Q0 ?_; refine Q1 ?_; refine zm ?_; refine zn ?_; refine zr ?_; refine zf ?_)
         all_goals (first | (refine ⟨_, rfl, ?_, hS.sp⟩; rw [decide_eq_false]; exact fun e => absurd (congrArg List.length e) (by omega); done) | (refine ⟨_, rfl, ?_, hS.sp⟩; rw [decide_eq_false]; rw [hd, Q7 hx1, Q7 hx2]; simp [*]; done)))
      | (refine Q4 rfl ?_ -- Q40 c2
         all_goals refine zsk ?_)
    all_goals (refine Q1 ?_; refine zm ?_; refine zad ?_; refine zm ?_; refine zn ?_; exact ⟨⟨j + 1, zh, zh, (by omega), (by omega), by rw [hd, Q7 hx1, Q7 hx2, show x1 = x2 by omega]; simp, hS.sp⟩, Qh (by omega)⟩)
  · skip
    all_goals (refine zex ?_; refine Q0 ?_; refine Q1 ?_; refine zm ?_; refine zn ?_; refine zr ?_; refine zf ?_; (first | (refine ⟨_, rfl, ?_, hS.sp⟩; rw [decide_eq_false]; exact fun e => absurd (congrArg List.length e) (by omega); done) | (refine ⟨_, rfl, ?_, hS.sp⟩; rw [decide_eq_false]; rw [hd, Q7 hx1, Q7 hx2]; simp [*]; done) | (refine ⟨_, rfl, ?_, hS.sp⟩; rw [decide_eq_true]; rw [hd, List.drop_of_length_le (by omega), List.drop_of_length_le (by omega)]; done)))
theorem QpF {x y : To} {cx : Cx} {w : World} {L : List Res} {cs ds : List Value} (hx : toR.at cx cs x) (hy : toR.at cx ds y) (hS : St cx w L) : Rets Tryz.prog Qtm [.agg ⟨cs⟩, .agg ⟨ds⟩] w fun u w' => u = .bool (decide (x = y)) ∧ St cx w' L := by
  obtain ⟨n, xr, xa⟩ := x
  obtain ⟨n2, yr, ya⟩ := y
  obtain ⟨v1, v2, rfl, h1, h2⟩ := Q2W hx
  obtain ⟨v3, v4, rfl, h3, h4⟩ := Q2W hy
  simp only [To.mk.injEq] at *
  all_goals refine Qst ?_
  all_goals (unfold R_sameTo_lc; refine Q0 ?_; refine Q1 ?_; refine zb hS ?_; intro p2 w1 hS; refine zb hS ?_; intro p3 w1 hS; refine zm ?_; refine zn ?_; refine Q0 ?_; refine Q1 ?_; refine Q2 rfl ?_; refine zl hS ?_; refine Q2 rfl ?_; refine zl hS ?_)
  all_goals (first | (refine Qy ?_) | (refine QC ?_) | (refine Qn rfl rfl (fun hc => ?_) (fun hc => ?_)))
  all_goals (refine zm ?_; (first | refine s_gn rfl rfl ?_ | (refine s_gy rfl ?_; refine Q2 rfl ?_)); (first | refine s_gn rfl rfl ?_ | (refine s_gy rfl ?_; refine zl hS ?_)); (first | refine s_gn rfl rfl ?_ | (refine s_gy rfl ?_; refine Q2 rfl ?_)); (first | refine s_gn rfl rfl ?_ | (refine s_gy rfl ?_; refine zl hS ?_)))
  all_goals ((first | (refine s_gn rfl rfl ?_) | (refine s_gy rfl ?_; refine zR2 (c := Qgq h1 h3 hS) (h := ?_); rintro v1 w1 ⟨rfl, hS⟩; (cases hdec : decide (xr = yr)); have hg := of_decide_eq_false hdec; rotate_left; have hg := of_decide_eq_true hdec; all_goals skip)))
  all_goals ((first | (refine zpt ?_) | (refine zpf ?_)); refine zm ?_; (first | refine s_gn rfl rfl ?_ | (refine s_gy rfl ?_; refine Q2 rfl ?_)); (first | refine s_gn rfl rfl ?_ | (refine s_gy rfl ?_; refine zl hS ?_)); (first | refine s_gn rfl rfl ?_ | (refine s_gy rfl ?_; refine Q2 rfl ?_)); (first | refine s_gn rfl rfl ?_ | (refine s_gy rfl ?_; refine zl hS ?_)); (first | (refine s_gn rfl rfl ?_) | (refine s_gy rfl ?_; refine zR2 (c := Qgq h2 h4 hS) (h := ?_); rintro v1 w1 ⟨rfl, hS⟩)); (first | (refine zpt ?_) | (refine zpf ?_)); refine zm ?_; refine zn ?_; refine zr ?_; refine zf ?_; refine ⟨_, rfl, ?_, hS.sp⟩; (simp [*]); done)
theorem Qtu {x y : Ins} {cx : Cx} {w : World} {L : List Res} {cs ds : List Value} (hx : insR.at cx cs x) (hy : insR.at cx ds y) (hS : St cx w L) : Rets Tryz.prog QqA [.agg ⟨cs⟩, .agg ⟨ds⟩] w fun u w' => u = .bool (decide (x = y)) ∧ St cx w' L := by
  obtain ⟨n, a, b, c, k, nn, xr, xa⟩ := x
  obtain ⟨n2, a2, b2, c2, k2, nn2, yr, ya⟩ := y
  obtain ⟨v1, v2, rfl, h1, h2⟩ := Q22 hx
  obtain ⟨v3, v4, rfl, h3, h4⟩ := Q22 hy
  simp only [Ins.mk.injEq] at *
  all_goals refine Qqz ?_
  all_goals (unfold R_sameIns_lc; refine Q0 ?_; refine Q1 ?_; refine zb hS ?_; intro p2 w1 hS; refine zb hS ?_; intro p3 w1 hS; refine zm ?_; refine zn ?_; refine Q0 ?_; refine Q1 ?_; refine Q2 rfl ?_; refine zl hS ?_; refine Q2 rfl ?_; refine zl hS ?_)
  all_goals (first | (refine Qy ?_) | (refine QC ?_) | (refine Qn rfl rfl (fun hc => ?_) (fun hc => ?_)))
  all_goals (refine zm ?_; (first | refine s_gn rfl rfl ?_ | (refine s_gy rfl ?_; refine Q2 rfl ?_)); (first | refine s_gn rfl rfl ?_ | (refine s_gy rfl ?_; refine zl hS ?_)); (first | refine s_gn rfl rfl ?_ | (refine s_gy rfl ?_; refine Q2 rfl ?_)); (first | refine s_gn rfl rfl ?_ | (refine s_gy rfl ?_; refine zl hS ?_)))
  all_goals (first | refine s_gn rfl rfl ?_ | (refine s_gy rfl ?_; (first | (refine Qy ?_) | (refine QC ?_) | (refine Qn rfl rfl (fun hc => ?_) (fun hc => ?_)))))
  all_goals ((first | (refine zpt ?_) | (refine zpf ?_)); refine zm ?_; (first | refine s_gn rfl rfl ?_ | (refine s_gy rfl ?_; refine Q2 rfl ?_)); (first | refine s_gn rfl rfl ?_ | (refine s_gy rfl ?_; refine zl hS ?_)); (first | refine s_gn rfl rfl ?_ | (refine s_gy rfl ?_; refine Q2 rfl ?_)); (first | refine s_gn rfl rfl ?_ | (refine s_gy rfl ?_; refine zl hS ?_)))
  all_goals (first | refine s_gn rfl rfl ?_ | (refine s_gy rfl ?_; (first | (refine Qy ?_) | (refine QC ?_) | (refine Qn rfl rfl (fun hc => ?_) (fun hc => ?_)))))
  all_goals ((first | (refine zpt ?_) | (refine zpf ?_)); refine zm ?_; (first | refine s_gn rfl rfl ?_ | (refine s_gy rfl ?_; refine Q2 rfl ?_)); (first | refine s_gn rfl rfl ?_ | (refine s_gy rfl ?_; refine zl hS ?_)); (first | refine s_gn rfl rfl ?_ | (refine s_gy rfl ?_; refine Q2 rfl ?_)); (first | refine s_gn rfl rfl ?_ | (refine s_gy rfl ?_; refine zl hS ?_)))
  all_goals (first | refine s_gn rfl rfl ?_ | (refine s_gy rfl ?_; (first | (refine Qy ?_) | (refine QC ?_) | (refine Qn rfl rfl (fun hc => ?_) (fun hc => ?_)))))
  all_goals ((first | (refine zpt ?_) | (refine zpf ?_)); refine zm ?_; (first | refine s_gn rfl rfl ?_ | (refine s_gy rfl ?_; refine Q2 rfl ?_)); (first | refine s_gn rfl rfl ?_ | (refine s_gy rfl ?_; refine zl hS ?_)); (first | refine s_gn rfl rfl ?_ | (refine s_gy rfl ?_; refine Q2 rfl ?_)); (first | refine s_gn rfl rfl ?_ | (refine s_gy rfl ?_; refine zl hS ?_)))
  all_goals (first | refine s_gn rfl rfl ?_ | (refine s_gy rfl ?_; (first | (refine Qy ?_) | (refine QC ?_) | (refine Qn rfl rfl (fun hc => ?_) (fun hc => ?_)))))
  all_goals ((first | (refine zpt ?_) | (refine zpf ?_)); refine zm ?_; (first | refine s_gn rfl rfl ?_ | (refine s_gy rfl ?_; refine Q2 rfl ?_)); (first | refine s_gn rfl rfl ?_ | (refine s_gy rfl ?_; refine zl hS ?_)); (first | refine s_gn rfl rfl ?_ | (refine s_gy rfl ?_; refine Q2 rfl ?_)); (first | refine s_gn rfl rfl ?_ | (refine s_gy rfl ?_; refine zl hS ?_)))
  all_goals (first | refine s_gn rfl rfl ?_ | (refine s_gy rfl ?_; (first | (refine Qy ?_) | (refine QC ?_) | (refine Qn rfl rfl (fun hc => ?_) (fun hc => ?_)))))
  all_goals ((first | (refine zpt ?_) | (refine zpf ?_)); refine zm ?_; (first | refine s_gn rfl rfl ?_ | (refine s_gy rfl ?_; refine Q2 rfl ?_)); (first | refine s_gn rfl rfl ?_ | (refine s_gy rfl ?_; refine zl hS ?_)); (first | refine s_gn rfl rfl ?_ | (refine s_gy rfl ?_; refine Q2 rfl ?_)); (first | refine s_gn rfl rfl ?_ | (refine s_gy rfl ?_; refine zl hS ?_)))
  all_goals ((first | (refine s_gn rfl rfl ?_) | (refine s_gy rfl ?_; refine zR2 (c := Qgq h1 h3 hS) (h := ?_); rintro v1 w1 ⟨rfl, hS⟩; (cases hdec : decide (xr = yr)); have hg := of_decide_eq_false hdec; rotate_left; have hg := of_decide_eq_true hdec; all_goals skip)))
  all_goals ((first | (refine zpt ?_) | (refine zpf ?_)); refine zm ?_; (first | refine s_gn rfl rfl ?_ | (refine s_gy rfl ?_; refine Q2 rfl ?_)); (first | refine s_gn rfl rfl ?_ | (refine s_gy rfl ?_; refine zl hS ?_)); (first | refine s_gn rfl rfl ?_ | (refine s_gy rfl ?_; refine Q2 rfl ?_)); (first | refine s_gn rfl rfl ?_ | (refine s_gy rfl ?_; refine zl hS ?_)); (first | (refine s_gn rfl rfl ?_) | (refine s_gy rfl ?_; refine zR2 (c := Qgq h2 h4 hS) (h := ?_); rintro v1 w1 ⟨rfl, hS⟩)); (first | (refine zpt ?_) | (refine zpf ?_)); refine zm ?_; refine zn ?_; refine zr ?_; refine zf ?_; refine ⟨_, rfl, ?_, hS.sp⟩; (simp [*]); done)
theorem Q4O {l : List Int} (hb : l.length ≤ 1000000) {cx : Cx} {w : World} {L : List Res} {v : Value} (hl : intR.sl cx v l) (hS : St cx w L) : Rets Tryz.prog QqF [v] w fun u w' => ∃ c', cx.Le c' ∧ intR.sl c' u l ∧ St c' w' L := by
  have hS := hS.nil (T := 3) (es := 1)
  have hn : intR.ls cx [] [] := Rep.LR.nil _ _ _
  all_goals refine QqE ?_
  all_goals (unfold R_ownInts_lc; refine Q0 ?_; refine Q1 ?_; refine zm ?_; refine zn ?_; refine Q0 ?_; refine Q1 ?_; refine zm ?_; refine zn ?_; refine Q0 ?_; refine Q1 ?_; refine zm ?_; refine zm ?_; (first | (refine za Qtg u_T41 hS ?_; intro vp1 w1 css1 hls1 hv1 hS; have hS := hS.ns) | (refine zak Qtg u_T41 hS ?_; intro vp1 w1 css1 hls1 hv1 hS; have hS := hS.ns)); refine zm ?_; refine zn ?_; refine zr ?_; refine zf ?_; obtain ⟨c3, hle3, hS, hl3⟩ := St.freezeL (r := intR) (l := l) (T := 3) (es := 1) (L := L) hS.sp hls1 rfl (by omega); exact ⟨_, rfl, c3, hle3, hl3, hS⟩)
theorem QsY {x : To} (hb1 : x.regs.length ≤ 1000000) (hb2 : x.args.length ≤ 1000000) {cx : Cx} {w : World} {L : List Res} {cs : List Value} (hx : toR.at cx cs x) (hS : St cx w L) : Rets Tryz.prog QvG [.agg ⟨cs⟩] w fun u w' => ∃ c' ds, u = .agg ⟨ds⟩ ∧ cx.Le c' ∧ toR.at c' ds x ∧ St c' w' L := by
  obtain ⟨v1, v2, rfl, h1, h2⟩ := Q2W hx
  all_goals refine QtT ?_
  all_goals (unfold R_ownTo_lc; refine Q0 ?_; refine Q1 ?_; refine zb hS ?_; intro p1 w1 hS; refine Qb hS ?_; intro p2 w1 hS; refine zn ?_; refine Q0 ?_; refine zC [(0, none), (1, none), (2, none), (3, none), (5, none), (6, none), (4, some (some [1, 6])), (7, some (some [1])), (8, none), (9, some none)] ?_; have hS := hS.drew; refine s_cq ?_; refine Q2 rfl ?_; refine zt ?_; refine s_cq ?_; refine zl hS ?_; refine zt ?_; refine s_cq ?_; refine Q2 rfl ?_; refine zt ?_; refine s_cq ?_; refine zl hS ?_; refine zt ?_; refine s_cq ?_; refine Q2 rfl ?_; refine zt ?_; refine s_cq ?_; refine zl hS ?_; refine zt ?_; refine Ql ?_; refine zR1 (c := Q4O hb1 h1 hS) (h := ?_); rintro v1 w1 ⟨c1, hle, hl1, hS⟩; obtain ⟨a1, n1, rfl⟩ := Rep.SR.shape hl1; have h2 := Rep.SR.up h2 hle; refine zt ?_; refine zy ?_; refine Ql ?_; refine zR1 (c := Q4O hb2 h2 hS) (h := ?_); rintro v1 w1 ⟨c2, hle2, hl2, hS⟩; obtain ⟨a2, n2, rfl⟩ := Rep.SR.shape hl2; have hl1 := Rep.SR.up hl1 hle2; refine zt ?_; refine zy ?_; refine s_cq ?_; refine zb3 [_, _, _] ?_; refine zt ?_; refine s_cf ?_; refine zsn hS ?_; intro w1 hS; have hS := hS.ns; refine zt ?_)
  all_goals (refine zcn ?_; refine zr ?_; refine Q20 vw (Q9 (n := 3) (by kernel_rfl) (by kernel_rfl) (hS.blkAt fd) (by rfl) (by rfl)) ?_; exact ⟨_, rfl, c2, _, rfl, hle.trans hle2, ⟨_, _, rfl, hl1, hl2⟩, hS.sp⟩)
end Go.Proofs.YtanlkfeogoganaaGreat
namespace Go.Proofs.YtanlkfeogoganaaGreat
open Go.Lir
set_option maxHeartbeats 1000000
attribute [local irreducible] LC.wp Q5 QN Q11 retQ Q1T LO.wp Qr Calls
set_option linter.unusedSimpArgs false
set_option linter.unusedVariables false
end Go.Proofs.YtanlkfeogoganaaGreat
namespace Go.Proofs.YtanlkfeogoganaaGreat
open Go.Lir
set_option maxHeartbeats 1000000
attribute [local irreducible] LC.wp Q5 QN Q11 retQ Q1T LO.wp Qr Calls
set_option linter.unusedSimpArgs false
set_option linter.unusedVariables false
variable {cx : Cx} {w : World} {L : List Res} {i : Nat}
abbrev jdg (b : Nat) (vf : Value) (g : Flt) (at' : Int) : Res := blk b 134 [vf, .int .i64 g.1, .int .i64 g.2, .int .i64 at']
theorem Q2A {is : Bool} {c : Int} {vf : Value} {g : Flt} {at' : Int} {b : Nat} (hc0 : is = true → c ≠ 0) (hS : St cx w L) (hi : nth L i = some (jdg b vf g at')) :
    Rets Tryz.prog Q3g [.pointer (some ⟨b, 0, none⟩), .bool is, .int .i64 c] w fun u w' => u = .tuple #[] ∧ St cx w' (L.set i (jdg b vf (orF g (mkF (if is = true then c else 0) at')) at')) := by
  have hS := hS.out hi
  cases is with
  | false =>
    have e : orF g (mkF (if false = true then c else 0) at') = g := Qty rfl
    rw [e]
    all_goals refine Q3f ?_
    all_goals (unfold code_judge_fail_lc; refine Q0 ?_; refine Q1 ?_; refine zm ?_; refine zm ?_; refine s_gn rfl rfl ?_; refine s_gn rfl rfl ?_; refine s_gn rfl rfl ?_; refine s_gn rfl rfl ?_; refine s_gn rfl rfl ?_)
    all_goals (refine s_gn rfl rfl ?_)
    all_goals ((first | (refine zpt ?_) | (refine zpf ?_)); refine zn ?_)
    all_goals
      first
      | (refine Q3 rfl ?_ -- Q3g c0
         all_goals (refine Q1 ?_; refine zm ?_; refine zm ?_; refine zm ?_; refine Qv rfl ?_; refine Q2 rfl ?_; refine zl hS ?_; refine zb2 [_, _] ?_; refine Qv rfl ?_; refine Q2 rfl ?_; refine zsn hS ?_; intro w1 hS; have hS := hS.ns)
         all_goals refine zn ?_)
      | (refine Q4 rfl ?_ -- Q3g c0
         all_goals refine zsk ?_)
    all_goals (refine Q3j ?_; exact ⟨_, rfl, rfl, St.back hS hi⟩)
  | true =>
    have hc0 := hc0 rfl
    by_cases h0 : g.1 = 0
    · have e : orF g (mkF (if true = true then c else 0) at') = (c, at') := by rw [if_pos rfl, Qar hc0]; unfold orF; rw [if_pos ⟨h0, hc0⟩]
      rw [e]
      all_goals refine Q3f ?_
      all_goals (unfold code_judge_fail_lc; refine Q0 ?_; refine Q1 ?_; refine zm ?_; refine zm ?_; (first | refine s_gn rfl rfl ?_ | (refine s_gy rfl ?_; refine zm ?_)); (first | refine s_gn rfl rfl ?_ | (refine s_gy rfl ?_; refine Qv rfl ?_)); (first | refine s_gn rfl rfl ?_ | (refine s_gy rfl ?_; refine Q2 rfl ?_)); (first | refine s_gn rfl rfl ?_ | (refine s_gy rfl ?_; (first | refine Q2 rfl ?_ | refine Q1r rfl ?_))); (first | refine s_gn rfl rfl ?_ | (refine s_gy rfl ?_; refine zl hS ?_)))
      all_goals (first | refine s_gn rfl rfl ?_ | (refine s_gy rfl ?_; refine Qy ?_))
      all_goals (refine zpt ?_; refine zn ?_)
      all_goals refine Q3 rfl ?_
      all_goals (refine Q1 ?_; refine zm ?_; refine zm ?_; refine zm ?_; refine Qv rfl ?_; refine Q2 rfl ?_; refine zl hS ?_; refine zb2 [_, _] ?_; refine Qv rfl ?_; refine Q2 rfl ?_; (first | (refine zsn hS ?_; intro w1 hS; have hS := hS.ns) | (refine zsm hS ?_; intro w1 hS; have hS := hS.ns)); refine zn ?_; refine Q3j ?_; exact ⟨_, rfl, rfl, St.back hS hi⟩)
    · rw [Q5P h0]
      all_goals refine Q3f ?_
      all_goals (unfold code_judge_fail_lc; refine Q0 ?_; refine Q1 ?_; refine zm ?_; refine zm ?_; (first | refine s_gn rfl rfl ?_ | (refine s_gy rfl ?_; refine zm ?_)); (first | refine s_gn rfl rfl ?_ | (refine s_gy rfl ?_; refine Qv rfl ?_)); (first | refine s_gn rfl rfl ?_ | (refine s_gy rfl ?_; refine Q2 rfl ?_)); (first | refine s_gn rfl rfl ?_ | (refine s_gy rfl ?_; (first | refine Q2 rfl ?_ | refine Q1r rfl ?_))); (first | refine s_gn rfl rfl ?_ | (refine s_gy rfl ?_; refine zl hS ?_)))
      all_goals (first | refine s_gn rfl rfl ?_ | (refine s_gy rfl ?_; (first | (refine Qy ?_) | (refine QC ?_))))
      all_goals (refine zpt ?_; refine zn ?_)
      all_goals refine Q4 rfl ?_
      all_goals (refine zsk ?_; refine Q3j ?_; exact ⟨_, rfl, rfl, St.back hS hi⟩)
theorem uindex_c {s : List UInt8} {c : Nat} {v : Value} (hK : u8R.sl cx v s) (hS : St cx w L) : Rets Tryz.prog Q1Y [v, .int .u8 c] w fun u w' => ∃ r : Int, u = .int .i64 r ∧ (0 ≤ r ↔ (s.any fun b => decide (b.toNat = c)) = true) ∧ St cx w' L := by
  have hlen := hK.len
  all_goals refine Q4C ?_
  all_goals (unfold slices_Index_byte_byte_lc; refine Q0 ?_; refine Q1 ?_; refine zm ?_; refine zn ?_; refine Q0 ?_; refine Q0 ?_; refine Q1 ?_; refine zm ?_; refine zL ?_; refine zm ?_; refine zn ?_; refine Q8 ?_)
  refine zoL hS [0, 1, 7] (fun A LL ρ' w' => ∃ (j : Nat), Has ρ' A ∧ Has ρ' [(8, .int .i64 j)] ∧ (j ≤ s.length) ∧ ((s.any fun b => decide (b.toNat = c)) = ((s.drop j).any fun b => decide (b.toNat = c))) ∧ St cx w' (LL)) (fun ρ' _ => (s.length - iv (ρ' 8)).toNat) ?_ ?_
  · exact ⟨0, zh, zh, (by omega), by simp, hS.sp⟩
  rintro ρ w1 ⟨j, hA, hρ, hj, hd, hS⟩; obtain ⟨ρ, rfl⟩ := env2 hA hρ
  unfold Q2O
  all_goals (refine Q0 ?_; refine Q1 ?_; refine Qt rfl rfl ?_; refine zn ?_; refine Q0 ?_)
  refine Qm rfl (fun hc => ?_) (fun hc => ?_)
  · skip
    all_goals (refine zsk ?_; refine Q0 ?_; refine Q8 ?_; refine Q0 ?_; refine Q1 ?_; refine zm ?_; refine zm ?_; refine zn ?_; refine Q0 ?_; refine Q1 ?_; refine zm ?_; refine zm ?_; refine zm ?_; refine zi ?_; intro b1 o1 cs1 x1 hat1 hx1 he1; (first | (obtain rfl := Q25 he1) | (obtain rfl := Q35 he1)); (first | (refine zl hS ?_) | (refine zlk hS ?_)))
    all_goals (first | (refine Qy ?_) | (refine QC ?_) | (refine Qn rfl rfl (fun hc => ?_) (fun hc => ?_)))
    all_goals (refine zn ?_)
    all_goals
      first
      | (refine Q3 rfl ?_ -- Q1Y c1
         all_goals (refine Q0 ?_; refine Q1 ?_; refine zm ?_; refine zm ?_; refine zn ?_; refine zr ?_; refine zf ?_)
         all_goals (exact ⟨_, rfl, j, rfl, by rw [hd, Q7 hx1, List.any_cons, decide_eq_true (by omega), Bool.true_or]; simp, hS.sp⟩))
      | (refine Q4 rfl ?_ -- Q1Y c1
         all_goals refine zsk ?_)
    all_goals (refine Q1 ?_; refine zad ?_; refine zm ?_; refine zn ?_; exact ⟨⟨j + 1, zh, zh, (by omega), by rw [hd, Q7 hx1, List.any_cons, decide_eq_false (by omega), Bool.false_or], hS.sp⟩, Qh (by omega)⟩)
  · skip
    all_goals (refine zex ?_; refine Q0 ?_; refine Q1 ?_; refine zm ?_; refine zn ?_; refine zr ?_; refine zf ?_; (first | (exact ⟨_, rfl, j, rfl, by rw [hd, Q7 hx1, List.any_cons, decide_eq_true (by omega), Bool.true_or]; simp, hS.sp⟩) | (exact ⟨_, rfl, -1, rfl, by rw [hd, List.drop_of_length_le (by omega)]; simp, hS.sp⟩)))
theorem QrG {s : List UInt8} {c : Nat} {v : Value} (hK : u8R.sl cx v s) (hS : St cx w L) : Rets Tryz.prog Q2P [v, .int .u8 c] w fun u w' => u = .bool (s.any fun b => decide (b.toNat = c)) ∧ St cx w' L := by
  all_goals refine Q3S ?_
  all_goals (unfold slices_Contains_byte_byte_lc; refine Q0 ?_; refine Q1 ?_; refine zm ?_; refine zn ?_; refine Q0 ?_; refine Q1 ?_; refine zm ?_; refine zm ?_; refine zR2 (c := uindex_c hK hS) (h := ?_); rintro v1 w1 ⟨r, rfl, hr, hS⟩)
  all_goals (first | (refine QdO ?_) | (refine QdP ?_) | (refine Q3G rfl rfl (fun hc => ?_) (fun hc => ?_)))
  all_goals (refine zm ?_; refine zn ?_; refine zr ?_; refine zf ?_)
  all_goals (refine ⟨_, rfl, ?_, hS.sp⟩; (cases hb : (s.any fun b => decide (b.toNat = c)) <;> simp_all); done)
theorem Qg0 {s : ByteArray} {c : Nat} (hs : s.size ≤ 1000000) (hS : St cx w L) : Rets Tryz.prog Qql [.string s, .int .u8 c] w fun u w' => u = .bool (Q1K s c) ∧ St cx w' L := by
  have hle := St.refl hS
  all_goals refine Qqk ?_
  all_goals (unfold code_with_lc; refine Q0 ?_; refine Q1 ?_; refine zm ?_; refine zn ?_; refine Q0 ?_; refine Q1 ?_; refine zm ?_; refine s_bytes (e := 5) (by kernel_rfl) (by kernel_rfl) (by kernel_rfl) hS vw ?_; intro v1 w1 hS; obtain ⟨c1, hle2, hS, hk1⟩ := St.freezeL (r := u8R) hS (Qa _) rfl (by rw [Array.length_toList]; show s.size ≤ 140737488355328; omega); refine zm ?_; refine zR2 (c := QrG hk1 hS) (h := ?_); rintro v1 w1 ⟨rfl, hS⟩; refine zm ?_; refine zn ?_; refine zr ?_; refine zf ?_; exact ⟨_, rfl, rfl, St.weak hS.sp hle2⟩)
theorem has_c {op : Int} (hS : St cx w L) : Rets Tryz.prog Qti [.int .i64 op] w fun u w' => u = .string (hasF op) ∧ St cx w' L := by
  by_cases hb : op < 1 ∨ 14 < op
  · have e : hasF op = ⟨#[]⟩ := by unfold hasF; rw [if_pos hb]
    rw [e]
    all_goals refine Qhb ?_
    all_goals (unfold code_has_lc; refine Q0 ?_; refine Q1 ?_; refine zm ?_; refine zn ?_; refine Q0 ?_; refine Q0 ?_; refine Q1 ?_; refine zm ?_)
    all_goals (first | (refine Q1Q ?_) | (refine Q1R ?_) | (refine QD rfl rfl (fun hc => ?_) (fun hc => ?_)))
    all_goals (refine zm ?_; (first | refine s_gn rfl rfl ?_ | (refine s_gy rfl ?_; refine zm ?_)))
    all_goals (first | refine s_gn rfl rfl ?_ | (refine s_gy rfl ?_; refine QK ?_))
    all_goals ((first | (refine zpt ?_) | (refine zpf ?_)); refine zn ?_)
    all_goals refine Q3 rfl ?_
    all_goals (refine Q0 ?_; refine Q1 ?_; refine zm ?_; refine zn ?_; refine zr ?_; refine zf ?_; refine ⟨_, rfl, ?_, hS.sp⟩; (rfl); done)
  · have hu : (hasTab.map Value.string)[op.toNat]? = some (.string (hasF op)) := by
      rcases op_cases (op := op) (by omega) (by omega) with rfl | rfl | rfl | rfl | rfl | rfl | rfl | rfl | rfl | rfl | rfl | rfl | rfl | rfl <;> rfl
    generalize hasF op = s at hu ⊢
    all_goals refine Qhb ?_
    all_goals (unfold code_has_lc; refine Q0 ?_; refine Q1 ?_; refine zm ?_; refine zn ?_; refine Q0 ?_; refine Q0 ?_; refine Q1 ?_; refine zm ?_)
    all_goals (first | (refine Q1Q ?_) | (refine Q1R ?_))
    all_goals (refine zm ?_; (first | refine s_gn rfl rfl ?_ | (refine s_gy rfl ?_; refine zm ?_)))
    all_goals (first | refine s_gn rfl rfl ?_ | (refine s_gy rfl ?_; (first | (refine QK ?_) | (refine QM ?_))))
    all_goals ((first | (refine zpt ?_) | (refine zpf ?_)); refine zn ?_)
    all_goals refine Q4 rfl ?_
    all_goals (refine zsk ?_; refine Q0 ?_; refine Q1 ?_; refine QpE (cs := [_, _, _, _, _, _, _, _, _, _, _, _, _, _, _]) vw vw vw vw vw vw vw vw vw vw vw vw vw vw vw (by rfl) ?_; refine zm ?_; refine s_idxv (n := 15) (e := 9) (by kernel_rfl) (by kernel_rfl) (by kernel_rfl) vw vw (by omega) (by omega) hu ?_; refine zm ?_; refine zn ?_; refine zr ?_; refine zf ?_; refine ⟨_, rfl, ?_, hS.sp⟩; (rfl); done)
theorem Qve (op : Int) : (hasF op).size ≤ 1000000 := by
  by_cases hb : op < 1 ∨ 14 < op
  · unfold hasF; rw [if_pos hb]; decide
  · rcases op_cases (op := op) (by omega) (by omega) with rfl | rfl | rfl | rfl | rfl | rfl | rfl | rfl | rfl | rfl | rfl | rfl | rfl | rfl <;> decide
theorem ins_end {g : Flt} {at' : Int} {n : Nat} {x : Ins} {q : Bool} {c3 : Int} (hq : q = true ↔ (((((((Q1K (hasF x.op) 97 = false ∧ x.a ≠ 0) ∨ (Q1K (hasF x.op) 98 = false ∧ x.b ≠ 0)) ∨ (Q1K (hasF x.op) 99 = false ∧ x.c ≠ 0)) ∨ (Q1K (hasF x.op) 107 = false ∧ x.k ≠ 0)) ∨ (Q1K (hasF x.op) 110 = false ∧ x.n ≠ 0)) ∨ (Q1K (hasF x.op) 103 = false ∧ 0 < x.regs.length)) ∨ (Q1K (hasF x.op) 114 = false ∧ 0 < x.args.length))) (h3 : c3 = Q2t n x) :
    orF (orF (orF g (mkF (if x.op < 1 ∨ 14 < x.op then 3 else 0) at')) (mkF (if q = true then 4 else 0) at')) (mkF c3 at') = orF g (mkF (Q2M n x) at') := by
  rw [Q39, Q39]
  congr 2
  subst h3
  unfold Q2M
  by_cases hb : x.op < 1 ∨ 14 < x.op
  · rw [if_pos hb, if_pos hb]; rfl
  · rw [if_neg hb, if_neg hb]
    obtain ⟨h1, h2, h3, h4, h5, h6, h7⟩ := with_all x.op hb
    rw [h1, h2, h3, h4, h5, h6, h7] at hq
    simp only [or_assoc] at hq
    by_cases ho : x.odd
    · rw [if_pos ho, if_pos (hq.2 ho)]; rfl
    · rw [if_neg ho, if_neg fun h => ho (hq.1 h)]; rfl
theorem Q6y {a b : Int} (h : a ≠ 0) : orC a b = a := if_pos h
theorem Q5Q (b : Int) : orC 0 b = b := rfl
section
attribute [local irreducible] orF mkF orC Q2t Q2M Q2N Q2Z
set_option maxHeartbeats 1000000 in
theorem ins_c {x : Ins} {n : List Fun} {vf : Value} {g : Flt} {at' : Int} {b : Nat} {cs : List Value} (hx : insR.at cx cs x) (hf : funcR.sl cx vf n) (hS : St cx w L) (hi : nth L i = some (jdg b vf g at')) :
    Rets Tryz.prog Q16 [.pointer (some ⟨b, 0, none⟩), .agg ⟨cs⟩] w fun u w' => u = .tuple #[] ∧ St cx w' (L.set i (jdg b vf (orF g (mkF (Q2M n.length x) at')) at')) := by
  have hS := hS.out hi
  obtain ⟨vr, va, rfl, hr, ha⟩ := Q22 hx
  have hlr := hr.len
  have hla := ha.len
  have hln := hf.len
  have hsz := Qve x.op
  all_goals refine Qcn ?_
  all_goals (unfold code_judge_ins_lc; refine Q0 ?_; refine Q1 ?_; refine zb hS ?_; intro p3 w1 hS; refine zn ?_)
  refine zM [0, 3] (fun A ρ' w' => Has ρ' A ∧ Has ρ' [] ∧ St cx w' (blk p3 57 [.int .i64 x.op, .int .i64 x.a, .int .i64 x.b, .int .i64 x.c, .int .i64 x.k, .int .i64 x.n, vr, va] :: jdg b vf (orF g (mkF (if x.op < 1 ∨ 14 < x.op then 3 else 0) at')) at' :: L.eraseIdx i)) ?_ ?_
  · skip
    all_goals (refine Q1 ?_; refine zm ?_; refine Q2 rfl ?_; refine zl hS ?_)
    all_goals (first | (refine Q1Q ?_) | (refine Q1R ?_) | (refine QD rfl rfl (fun hc => ?_) (fun hc => ?_)))
    all_goals (refine zm ?_; (first | refine s_gn rfl rfl ?_ | (refine s_gy rfl ?_; refine Q2 rfl ?_)); (first | refine s_gn rfl rfl ?_ | (refine s_gy rfl ?_; refine zl hS ?_)))
    all_goals (first | refine s_gn rfl rfl ?_ | (refine s_gy rfl ?_; (first | (refine QK ?_) | (refine QM ?_) | (refine Qi rfl rfl (fun hc => ?_) (fun hc => ?_)))))
    all_goals ((first | (refine zpt ?_) | (refine zpf ?_)); refine zR3 (c := Q2A (by intro _; decide) hS fd) (h := ?_); rintro v1 w1 ⟨rfl, hS⟩; simp only [List.set_cons_zero, List.set_cons_succ, if_true, Bool.false_eq_true, if_false] at hS; refine zn ?_; exact ⟨zh, zh, by first | (rw [if_pos (by omega)]; exact hS.sp) | (rw [if_neg (by omega)]; exact hS.sp)⟩)
  rintro ρ w1 ⟨hA, hρ, hS⟩; obtain ⟨ρ, rfl⟩ := env2 hA hρ
  all_goals (refine Q0 ?_; refine Q1 ?_; refine Q2 rfl ?_; refine zl hS ?_; refine zR1 (c := has_c hS) (h := ?_); rintro v1 w1 ⟨rfl, hS⟩; refine zm ?_; refine zn ?_; generalize hh : hasF x.op = h at *; refine Q0 ?_; refine Q1 ?_)
  refine zKL hS 9 [0, 3, 4] (fun A LL ρ' w' => ∃ (q1 : Bool), Has ρ' A ∧ Has ρ' [(18, .pointer (some ⟨b, 0, none⟩)), (26, .bool q1)] ∧ (q1 = true ↔ (Q1K h 97 = false ∧ x.a ≠ 0)) ∧ St cx w' (LL)) ?_ ?_
  · skip
    all_goals (refine zm ?_; refine zm ?_; refine zR2 (c := Qg0 hsz hS) (h := ?_); rintro v1 w1 ⟨rfl, hS⟩)
    all_goals (cases ha1 : Q1K h 97)
    all_goals (refine Q2b rfl ?_; refine zm ?_; (first | refine s_gn rfl rfl ?_ | (refine s_gy rfl ?_; refine Q2 rfl ?_)); (first | refine s_gn rfl rfl ?_ | (refine s_gy rfl ?_; refine zl hS ?_)))
    all_goals (first | refine s_gn rfl rfl ?_ | (refine s_gy rfl ?_; (first | (refine Q1c ?_) | (refine Q1d ?_) | (refine Qp rfl rfl (fun hc => ?_) (fun hc => ?_)))))
    all_goals ((first | (refine zpt ?_) | (refine zpf ?_)); refine Q59 ?_; refine Q2z ?_)
    all_goals (first | (exact ⟨_, zh, zh, by exact ⟨fun _ => ⟨(by first | rfl | assumption), by omega⟩, fun _ => rfl⟩, hS.sp⟩) | (exact ⟨_, zh, zh, by exact ⟨fun h => Bool.noConfusion h, fun h => by obtain ⟨h1, h2⟩ := h; first | (exfalso; omega) | (simp_all; done)⟩, hS.sp⟩))
  rintro ρ w1 ⟨q1, hA, hρ, hq1, hS⟩; obtain ⟨ρ, rfl⟩ := env2 hA hρ
  refine zKL hS 10 [0, 3, 4, 18] (fun A LL ρ' w' => ∃ (q2 : Bool), Has ρ' A ∧ Has ρ' [(36, .bool q2)] ∧ (q2 = true ↔ ((Q1K h 97 = false ∧ x.a ≠ 0) ∨ (Q1K h 98 = false ∧ x.b ≠ 0))) ∧ St cx w' (LL)) ?_ ?_
  · skip
    all_goals (cases q1)
    all_goals (refine zm ?_; (first | refine s_gn rfl rfl ?_ | (refine s_gy rfl ?_; refine zm ?_)); (first | refine s_gn rfl rfl ?_ | (refine s_gy rfl ?_; refine zR2 (c := Qg0 hsz hS) (h := ?_); rintro v1 w1 ⟨rfl, hS⟩)))
    all_goals (cases ha2 : Q1K h 98)
    all_goals ((first | refine s_gn rfl rfl ?_ | (refine s_gy rfl ?_; refine Q2b rfl ?_)); (first | refine s_gn rfl rfl ?_ | (refine s_gy rfl ?_; refine zm ?_)); (first | refine s_gn rfl rfl ?_ | (refine s_gy rfl ?_; refine Q2 rfl ?_)); (first | refine s_gn rfl rfl ?_ | (refine s_gy rfl ?_; refine zl hS ?_)))
    all_goals (first | refine s_gn rfl rfl ?_ | (refine s_gy rfl ?_; (first | (refine Q1c ?_) | (refine Q1d ?_) | (refine Qp rfl rfl (fun hc => ?_) (fun hc => ?_)))))
    all_goals ((first | refine s_gn rfl rfl ?_ | (refine s_gy rfl ?_; (first | (refine zpt ?_) | (refine zpf ?_)))); (first | (refine zpt ?_) | (refine zpf ?_)); refine Q59 ?_; refine Q2z ?_)
    all_goals (first | (exact ⟨_, zh, zh, by exact ⟨fun _ => .inl (hq1.1 rfl), fun _ => rfl⟩, hS.sp⟩) | (exact ⟨_, zh, zh, by exact ⟨fun _ => .inr ⟨(by first | rfl | assumption), by omega⟩, fun _ => rfl⟩, hS.sp⟩) | (exact ⟨_, zh, zh, by exact ⟨fun h => Bool.noConfusion h, fun h => h.elim (fun h => hq1.2 h) (fun h => by obtain ⟨h1, h2⟩ := h; first | (exfalso; omega) | (simp_all; done))⟩, hS.sp⟩))
  rintro ρ w1 ⟨q2, hA, hρ, hq2, hS⟩; obtain ⟨ρ, rfl⟩ := env2 hA hρ
  refine zKL hS 10 [0, 3, 4, 18] (fun A LL ρ' w' => ∃ (q3 : Bool), Has ρ' A ∧ Has ρ' [(46, .bool q3)] ∧ (q3 = true ↔ (((Q1K h 97 = false ∧ x.a ≠ 0) ∨ (Q1K h 98 = false ∧ x.b ≠ 0)) ∨ (Q1K h 99 = false ∧ x.c ≠ 0))) ∧ St cx w' (LL)) ?_ ?_
  · skip
    all_goals (cases q2)
    all_goals (refine zm ?_; (first | refine s_gn rfl rfl ?_ | (refine s_gy rfl ?_; refine zm ?_)); (first | refine s_gn rfl rfl ?_ | (refine s_gy rfl ?_; refine zR2 (c := Qg0 hsz hS) (h := ?_); rintro v1 w1 ⟨rfl, hS⟩)))
    all_goals (cases ha3 : Q1K h 99)
    all_goals ((first | refine s_gn rfl rfl ?_ | (refine s_gy rfl ?_; refine Q2b rfl ?_)); (first | refine s_gn rfl rfl ?_ | (refine s_gy rfl ?_; refine zm ?_)); (first | refine s_gn rfl rfl ?_ | (refine s_gy rfl ?_; refine Q2 rfl ?_)); (first | refine s_gn rfl rfl ?_ | (refine s_gy rfl ?_; refine zl hS ?_)))
    all_goals (first | refine s_gn rfl rfl ?_ | (refine s_gy rfl ?_; (first | (refine Q1c ?_) | (refine Q1d ?_) | (refine Qp rfl rfl (fun hc => ?_) (fun hc => ?_)))))
    all_goals ((first | refine s_gn rfl rfl ?_ | (refine s_gy rfl ?_; (first | (refine zpt ?_) | (refine zpf ?_)))); (first | (refine zpt ?_) | (refine zpf ?_)); refine Q59 ?_; refine Q2z ?_)
    all_goals (first | (exact ⟨_, zh, zh, by exact ⟨fun _ => .inl (hq2.1 rfl), fun _ => rfl⟩, hS.sp⟩) | (exact ⟨_, zh, zh, by exact ⟨fun _ => .inr ⟨(by first | rfl | assumption), by omega⟩, fun _ => rfl⟩, hS.sp⟩) | (exact ⟨_, zh, zh, by exact ⟨fun h => Bool.noConfusion h, fun h => h.elim (fun h => hq2.2 h) (fun h => by obtain ⟨h1, h2⟩ := h; first | (exfalso; omega) | (simp_all; done))⟩, hS.sp⟩))
  rintro ρ w1 ⟨q3, hA, hρ, hq3, hS⟩; obtain ⟨ρ, rfl⟩ := env2 hA hρ
  refine zKL hS 10 [0, 3, 4, 18] (fun A LL ρ' w' => ∃ (q4 : Bool), Has ρ' A ∧ Has ρ' [(56, .bool q4)] ∧ (q4 = true ↔ ((((Q1K h 97 = false ∧ x.a ≠ 0) ∨ (Q1K h 98 = false ∧ x.b ≠ 0)) ∨ (Q1K h 99 = false ∧ x.c ≠ 0)) ∨ (Q1K h 107 = false ∧ x.k ≠ 0))) ∧ St cx w' (LL)) ?_ ?_
  · skip
    all_goals (cases q3)
    all_goals (refine zm ?_; (first | refine s_gn rfl rfl ?_ | (refine s_gy rfl ?_; refine zm ?_)); (first | refine s_gn rfl rfl ?_ | (refine s_gy rfl ?_; refine zR2 (c := Qg0 hsz hS) (h := ?_); rintro v1 w1 ⟨rfl, hS⟩)))
    all_goals (cases ha4 : Q1K h 107)
    all_goals ((first | refine s_gn rfl rfl ?_ | (refine s_gy rfl ?_; refine Q2b rfl ?_)); (first | refine s_gn rfl rfl ?_ | (refine s_gy rfl ?_; refine zm ?_)); (first | refine s_gn rfl rfl ?_ | (refine s_gy rfl ?_; refine Q2 rfl ?_)); (first | refine s_gn rfl rfl ?_ | (refine s_gy rfl ?_; refine zl hS ?_)))
    all_goals (first | refine s_gn rfl rfl ?_ | (refine s_gy rfl ?_; (first | (refine Q1c ?_) | (refine Q1d ?_) | (refine Qp rfl rfl (fun hc => ?_) (fun hc => ?_)))))
    all_goals ((first | refine s_gn rfl rfl ?_ | (refine s_gy rfl ?_; (first | (refine zpt ?_) | (refine zpf ?_)))); (first | (refine zpt ?_) | (refine zpf ?_)); refine Q59 ?_; refine Q2z ?_)
    all_goals (first | (exact ⟨_, zh, zh, by exact ⟨fun _ => .inl (hq3.1 rfl), fun _ => rfl⟩, hS.sp⟩) | (exact ⟨_, zh, zh, by exact ⟨fun _ => .inr ⟨(by first | rfl | assumption), by omega⟩, fun _ => rfl⟩, hS.sp⟩) | (exact ⟨_, zh, zh, by exact ⟨fun h => Bool.noConfusion h, fun h => h.elim (fun h => hq3.2 h) (fun h => by obtain ⟨h1, h2⟩ := h; first | (exfalso; omega) | (simp_all; done))⟩, hS.sp⟩))
  rintro ρ w1 ⟨q4, hA, hρ, hq4, hS⟩; obtain ⟨ρ, rfl⟩ := env2 hA hρ
  refine zKL hS 10 [0, 3, 4, 18] (fun A LL ρ' w' => ∃ (q5 : Bool), Has ρ' A ∧ Has ρ' [(66, .bool q5)] ∧ (q5 = true ↔ (((((Q1K h 97 = false ∧ x.a ≠ 0) ∨ (Q1K h 98 = false ∧ x.b ≠ 0)) ∨ (Q1K h 99 = false ∧ x.c ≠ 0)) ∨ (Q1K h 107 = false ∧ x.k ≠ 0)) ∨ (Q1K h 110 = false ∧ x.n ≠ 0))) ∧ St cx w' (LL)) ?_ ?_
  · skip
    all_goals (cases q4)
    all_goals (refine zm ?_; (first | refine s_gn rfl rfl ?_ | (refine s_gy rfl ?_; refine zm ?_)); (first | refine s_gn rfl rfl ?_ | (refine s_gy rfl ?_; refine zR2 (c := Qg0 hsz hS) (h := ?_); rintro v1 w1 ⟨rfl, hS⟩)))
    all_goals (cases ha5 : Q1K h 110)
    all_goals ((first | refine s_gn rfl rfl ?_ | (refine s_gy rfl ?_; refine Q2b rfl ?_)); (first | refine s_gn rfl rfl ?_ | (refine s_gy rfl ?_; refine zm ?_)); (first | refine s_gn rfl rfl ?_ | (refine s_gy rfl ?_; refine Q2 rfl ?_)); (first | refine s_gn rfl rfl ?_ | (refine s_gy rfl ?_; refine zl hS ?_)))
    all_goals (first | refine s_gn rfl rfl ?_ | (refine s_gy rfl ?_; (first | (refine Q1c ?_) | (refine Q1d ?_) | (refine Qp rfl rfl (fun hc => ?_) (fun hc => ?_)))))
    all_goals ((first | refine s_gn rfl rfl ?_ | (refine s_gy rfl ?_; (first | (refine zpt ?_) | (refine zpf ?_)))); (first | (refine zpt ?_) | (refine zpf ?_)); refine Q59 ?_; refine Q2z ?_)
    all_goals (first | (exact ⟨_, zh, zh, by exact ⟨fun _ => .inl (hq4.1 rfl), fun _ => rfl⟩, hS.sp⟩) | (exact ⟨_, zh, zh, by exact ⟨fun _ => .inr ⟨(by first | rfl | assumption), by omega⟩, fun _ => rfl⟩, hS.sp⟩) | (exact ⟨_, zh, zh, by exact ⟨fun h => Bool.noConfusion h, fun h => h.elim (fun h => hq4.2 h) (fun h => by obtain ⟨h1, h2⟩ := h; first | (exfalso; omega) | (simp_all; done))⟩, hS.sp⟩))
  rintro ρ w1 ⟨q5, hA, hρ, hq5, hS⟩; obtain ⟨ρ, rfl⟩ := env2 hA hρ
  refine zKL hS 11 [0, 3, 4, 18] (fun A LL ρ' w' => ∃ (q6 : Bool), Has ρ' A ∧ Has ρ' [(77, .bool q6)] ∧ (q6 = true ↔ ((((((Q1K h 97 = false ∧ x.a ≠ 0) ∨ (Q1K h 98 = false ∧ x.b ≠ 0)) ∨ (Q1K h 99 = false ∧ x.c ≠ 0)) ∨ (Q1K h 107 = false ∧ x.k ≠ 0)) ∨ (Q1K h 110 = false ∧ x.n ≠ 0)) ∨ (Q1K h 103 = false ∧ 0 < x.regs.length))) ∧ St cx w' (LL)) ?_ ?_
  · skip
    all_goals (cases q5)
    all_goals (refine zm ?_; (first | refine s_gn rfl rfl ?_ | (refine s_gy rfl ?_; refine zm ?_)); (first | refine s_gn rfl rfl ?_ | (refine s_gy rfl ?_; refine zR2 (c := Qg0 hsz hS) (h := ?_); rintro v1 w1 ⟨rfl, hS⟩)))
    all_goals (cases ha6 : Q1K h 103)
    all_goals ((first | refine s_gn rfl rfl ?_ | (refine s_gy rfl ?_; refine Q2b rfl ?_)); (first | refine s_gn rfl rfl ?_ | (refine s_gy rfl ?_; refine zm ?_)); (first | refine s_gn rfl rfl ?_ | (refine s_gy rfl ?_; refine Q2 rfl ?_)); (first | refine s_gn rfl rfl ?_ | (refine s_gy rfl ?_; refine zl hS ?_)); (first | refine s_gn rfl rfl ?_ | (refine s_gy rfl ?_; refine zL ?_)))
    all_goals (first | refine s_gn rfl rfl ?_ | (refine s_gy rfl ?_; (first | (refine QK ?_) | (refine QM ?_) | (refine Qi rfl rfl (fun hc => ?_) (fun hc => ?_)))))
    all_goals ((first | refine s_gn rfl rfl ?_ | (refine s_gy rfl ?_; (first | (refine zpt ?_) | (refine zpf ?_)))); (first | (refine zpt ?_) | (refine zpf ?_)); refine Q59 ?_; refine Q2z ?_)
    all_goals (first | (exact ⟨_, zh, zh, by exact ⟨fun _ => .inl (hq5.1 rfl), fun _ => rfl⟩, hS.sp⟩) | (exact ⟨_, zh, zh, by exact ⟨fun _ => .inr ⟨(by first | rfl | assumption), by omega⟩, fun _ => rfl⟩, hS.sp⟩) | (exact ⟨_, zh, zh, by exact ⟨fun h => Bool.noConfusion h, fun h => h.elim (fun h => hq5.2 h) (fun h => by obtain ⟨h1, h2⟩ := h; first | (exfalso; omega) | (simp_all; done))⟩, hS.sp⟩))
  rintro ρ w1 ⟨q6, hA, hρ, hq6, hS⟩; obtain ⟨ρ, rfl⟩ := env2 hA hρ
  refine zKL hS 11 [0, 3, 18] (fun A LL ρ' w' => ∃ (q7 : Bool), Has ρ' A ∧ Has ρ' [(88, .bool q7)] ∧ (q7 = true ↔ (((((((Q1K h 97 = false ∧ x.a ≠ 0) ∨ (Q1K h 98 = false ∧ x.b ≠ 0)) ∨ (Q1K h 99 = false ∧ x.c ≠ 0)) ∨ (Q1K h 107 = false ∧ x.k ≠ 0)) ∨ (Q1K h 110 = false ∧ x.n ≠ 0)) ∨ (Q1K h 103 = false ∧ 0 < x.regs.length)) ∨ (Q1K h 114 = false ∧ 0 < x.args.length))) ∧ St cx w' (LL)) ?_ ?_
  · skip
    all_goals (cases q6)
    all_goals (refine zm ?_; (first | refine s_gn rfl rfl ?_ | (refine s_gy rfl ?_; refine zm ?_)); (first | refine s_gn rfl rfl ?_ | (refine s_gy rfl ?_; refine zR2 (c := Qg0 hsz hS) (h := ?_); rintro v1 w1 ⟨rfl, hS⟩)))
    all_goals (cases ha7 : Q1K h 114)
    all_goals ((first | refine s_gn rfl rfl ?_ | (refine s_gy rfl ?_; refine Q2b rfl ?_)); (first | refine s_gn rfl rfl ?_ | (refine s_gy rfl ?_; refine zm ?_)); (first | refine s_gn rfl rfl ?_ | (refine s_gy rfl ?_; refine Q2 rfl ?_)); (first | refine s_gn rfl rfl ?_ | (refine s_gy rfl ?_; refine zl hS ?_)); (first | refine s_gn rfl rfl ?_ | (refine s_gy rfl ?_; refine zL ?_)))
    all_goals (first | refine s_gn rfl rfl ?_ | (refine s_gy rfl ?_; (first | (refine QK ?_) | (refine QM ?_) | (refine Qi rfl rfl (fun hc => ?_) (fun hc => ?_)))))
    all_goals ((first | refine s_gn rfl rfl ?_ | (refine s_gy rfl ?_; (first | (refine zpt ?_) | (refine zpf ?_)))); (first | (refine zpt ?_) | (refine zpf ?_)); refine Q59 ?_; refine Q2z ?_)
    all_goals (first | (exact ⟨_, zh, zh, by exact ⟨fun _ => .inl (hq6.1 rfl), fun _ => rfl⟩, hS.sp⟩) | (exact ⟨_, zh, zh, by exact ⟨fun _ => .inr ⟨(by first | rfl | assumption), by omega⟩, fun _ => rfl⟩, hS.sp⟩) | (exact ⟨_, zh, zh, by exact ⟨fun h => Bool.noConfusion h, fun h => h.elim (fun h => hq6.2 h) (fun h => by obtain ⟨h1, h2⟩ := h; first | (exfalso; omega) | (simp_all; done))⟩, hS.sp⟩))
  rintro ρ w1 ⟨q7, hA, hρ, hq7, hS⟩; obtain ⟨ρ, rfl⟩ := env2 hA hρ
  all_goals (refine zR3 (c := Q2A (by intro _; decide) hS fd) (h := ?_); rintro v1 w1 ⟨rfl, hS⟩; simp only [List.set_cons_zero, List.set_cons_succ, if_true, Bool.false_eq_true, if_false] at hS; refine zn ?_; refine Q0 ?_; clear hq1 hq2 hq3 hq4 hq5 hq6; have hq := hq7; clear hq7; refine Q1 ?_; refine Q2 rfl ?_; refine zl hS ?_; refine zn ?_; refine Q8 ?_; refine Q0 ?_; refine Q1 ?_)
  all_goals (first | (refine Qy ?_) | (refine QC ?_) | (refine Qn rfl rfl (fun hc => ?_) (fun hc => ?_)))
  all_goals (refine zm ?_; refine zn ?_)
  all_goals
    first
    | (refine Q3 rfl ?_ -- Q16 c0
       all_goals (refine Q1 ?_; refine zm ?_; refine Q2 rfl ?_; refine zl hS ?_)
       all_goals (first | (refine Q1Q ?_) | (refine Q1R ?_) | (refine QD rfl rfl (fun hc => ?_) (fun hc => ?_)))
       all_goals (refine zm ?_; (first | refine s_gn rfl rfl ?_ | (refine s_gy rfl ?_; refine Q2 rfl ?_)); (first | refine s_gn rfl rfl ?_ | (refine s_gy rfl ?_; refine zl hS ?_)))
       all_goals (first | refine s_gn rfl rfl ?_ | (refine s_gy rfl ?_; (first | (refine QK ?_) | (refine QM ?_) | (refine Qi rfl rfl (fun hc => ?_) (fun hc => ?_)))))
       all_goals ((first | (refine zpt ?_) | (refine zpf ?_)); refine zR3 (c := Q2A (by intro _; decide) hS fd) (h := ?_); rintro v1 w1 ⟨rfl, hS⟩; simp only [List.set_cons_zero, List.set_cons_succ, if_true, Bool.false_eq_true, if_false] at hS)
       all_goals refine zn ?_)
    | (refine Q4 rfl ?_ -- Q16 c0
       all_goals (refine Q0 ?_; refine Q1 ?_)
       all_goals (first | (refine Qy ?_) | (refine QC ?_) | (refine Qn rfl rfl (fun hc => ?_) (fun hc => ?_)))
       all_goals (refine zm ?_; refine zn ?_)
       all_goals
         first
         | (refine Q3 rfl ?_ -- Q16 c1
            all_goals (refine Q1 ?_; refine zm ?_; refine Q2 rfl ?_; refine zl hS ?_; refine zL ?_)
            all_goals (first | (refine QK ?_) | (refine QM ?_) | (refine Qi rfl rfl (fun hc => ?_) (fun hc => ?_)))
            all_goals (refine zR3 (c := Q2A (by intro _; decide) hS fd) (h := ?_); rintro v1 w1 ⟨rfl, hS⟩; simp only [List.set_cons_zero, List.set_cons_succ, if_true, Bool.false_eq_true, if_false] at hS)
            all_goals refine zn ?_)
         | (refine Q4 rfl ?_ -- Q16 c1
            all_goals (refine Q0 ?_; refine Q0 ?_; refine Q1 ?_)
            all_goals (first | (refine Qy ?_) | (refine QC ?_) | (refine Qn rfl rfl (fun hc => ?_) (fun hc => ?_)))
            all_goals (refine zm ?_; refine zn ?_)
            all_goals
              first
              | (refine Q3 rfl ?_ -- Q16 c2
                 all_goals refine zsk ?_)
              | (refine Q4 rfl ?_ -- Q16 c2
                 all_goals (refine Q1 ?_)
                 all_goals (first | (refine Qy ?_) | (refine QC ?_) | (refine Qn rfl rfl (fun hc => ?_) (fun hc => ?_)))
                 all_goals (refine zm ?_)
                 all_goals refine zn ?_)
            all_goals
              first
              | (refine Q3 rfl ?_ -- Q16 c3
                 all_goals (refine Q1 ?_; refine zm ?_; refine Q2 rfl ?_; refine zl hS ?_)
                 all_goals (first | (refine Q1Q ?_) | (refine Q1R ?_) | (refine QD rfl rfl (fun hc => ?_) (fun hc => ?_)))
                 all_goals (refine zm ?_; (first | refine s_gn rfl rfl ?_ | (refine s_gy rfl ?_; refine Q2 rfl ?_)); (first | refine s_gn rfl rfl ?_ | (refine s_gy rfl ?_; refine zl hS ?_)))
                 all_goals (first | refine s_gn rfl rfl ?_ | (refine s_gy rfl ?_; (first | (refine QdO ?_) | (refine QdP ?_) | (refine Q3G rfl rfl (fun hc => ?_) (fun hc => ?_)))))
                 all_goals ((first | (refine zpt ?_) | (refine zpf ?_)); refine zR3 (c := Q2A (by intro _; decide) hS fd) (h := ?_); rintro v1 w1 ⟨rfl, hS⟩; simp only [List.set_cons_zero, List.set_cons_succ, if_true, Bool.false_eq_true, if_false] at hS)
                 all_goals refine zn ?_)
              | (refine Q4 rfl ?_ -- Q16 c3
                 all_goals (refine Q0 ?_; refine Q1 ?_)
                 all_goals (first | (refine Qy ?_) | (refine QC ?_) | (refine Qn rfl rfl (fun hc => ?_) (fun hc => ?_)))
                 all_goals (refine zm ?_; refine zn ?_)
                 all_goals
                   first
                   | (refine Q3 rfl ?_ -- Q16 c4
                      all_goals (refine Q0 ?_; refine zD [(0, none), (1, none), (2, none), (3, none), (4, none), (5, none), (6, none), (7, none), (8, none), (9, none), (10, none), (11, none), (12, none), (13, none), (14, none), (15, some none)] ?_; have hS := hS.drew; refine zm ?_; refine Q2 rfl ?_; refine zl hS ?_)
                      all_goals (first | (refine Q1Q ?_) | (refine Q1R ?_) | (refine QD rfl rfl (fun hc => ?_) (fun hc => ?_)))
                      all_goals (refine zm ?_; (first | refine s_gn rfl rfl ?_ | (refine s_gy rfl ?_; refine Q2 rfl ?_)); (first | refine s_gn rfl rfl ?_ | (refine s_gy rfl ?_; refine zl hS ?_)); (first | refine s_gn rfl rfl ?_ | (refine s_gy rfl ?_; refine zm ?_)); (first | refine s_gn rfl rfl ?_ | (refine s_gy rfl ?_; refine Qv rfl ?_)); (first | refine s_gn rfl rfl ?_ | (refine s_gy rfl ?_; refine Q2 rfl ?_)); (first | refine s_gn rfl rfl ?_ | (refine s_gy rfl ?_; refine Q2 rfl ?_)); (first | refine s_gn rfl rfl ?_ | (refine s_gy rfl ?_; refine zl hS ?_)); (first | refine s_gn rfl rfl ?_ | (refine s_gy rfl ?_; refine zL ?_)))
                      all_goals (first | refine s_gn rfl rfl ?_ | (refine s_gy rfl ?_; (first | (refine QdO ?_) | (refine QdP ?_) | (refine Q3G rfl rfl (fun hc => ?_) (fun hc => ?_)))))
                      all_goals ((first | (refine zpt ?_) | (refine zpf ?_)); refine zR3 (c := Q2A (by intro _; decide) hS fd) (h := ?_); rintro v1 w1 ⟨rfl, hS⟩; simp only [List.set_cons_zero, List.set_cons_succ, if_true, Bool.false_eq_true, if_false] at hS; refine zn ?_; refine Q1 ?_; refine zm ?_; refine Q2 rfl ?_; refine zl hS ?_; refine zL ?_)
                      all_goals (first | (refine QK ?_) | (refine QM ?_) | (refine Qi rfl rfl (fun hc => ?_) (fun hc => ?_)))
                      all_goals (refine zm ?_; (first | refine s_gn rfl rfl ?_ | (refine s_gy rfl ?_; refine Q2 rfl ?_)); (first | refine s_gn rfl rfl ?_ | (refine s_gy rfl ?_; refine zl hS ?_)); (first | refine s_gn rfl rfl ?_ | (refine s_gy rfl ?_; refine zL ?_)))
                      all_goals (first | refine s_gn rfl rfl ?_ | (refine s_gy rfl ?_; (first | (refine QK ?_) | (refine QM ?_) | (refine Qi rfl rfl (fun hc => ?_) (fun hc => ?_)))))
                      all_goals ((first | (refine zpt ?_) | (refine zpf ?_)); refine zR3 (c := Q2A (by intro _; decide) hS fd) (h := ?_); rintro v1 w1 ⟨rfl, hS⟩; simp only [List.set_cons_zero, List.set_cons_succ, if_true, Bool.false_eq_true, if_false] at hS)
                      all_goals refine zn ?_)
                   | (refine Q4 rfl ?_ -- Q16 c4
                      all_goals refine zsk ?_))))
  all_goals (refine Q3j ?_; refine ⟨_, rfl, rfl, ?_⟩; subst hh; rw [← ins_end (c3 := Q2t n.length x) hq rfl]; clear hq hx hr ha hf hsz; have hS := hS.drop; refine St.back ?_ hi; first | (rw [show Q2t n.length x = 0 from (by unfold Q2t; (repeat (first | rw [if_pos (by omega)] | rw [if_neg (by omega)])))]; first | (rw [Q2s, Qty rfl]; exact hS) | exact hS | (rw [Q39, Q5Q] at hS; exact hS)) | (rw [show Q2t n.length x = 1 from (by unfold Q2t; (repeat (first | rw [if_pos (by omega)] | rw [if_neg (by omega)])))]; first | exact hS | (rw [Q39, Q6y (by decide)] at hS; exact hS)) | (rw [show Q2t n.length x = 2 from (by unfold Q2t; (repeat (first | rw [if_pos (by omega)] | rw [if_neg (by omega)])))]; first | exact hS | (rw [Q39, Q5Q] at hS; exact hS)) | (trace_state; fail "end"))
theorem to_c {x : Fun} {t : To} {is : Bool} {vf : Value} {g : Flt} {at' : Int} {b : Nat} {cs ds : List Value} (hx : funcR.at cx cs x) (ht : toR.at cx ds t) (hS : St cx w L) (hi : nth L i = some (jdg b vf g at')) :
    Rets Tryz.prog QaM [.pointer (some ⟨b, 0, none⟩), .agg ⟨cs⟩, .agg ⟨ds⟩, .bool is] w fun u w' => u = .tuple #[] ∧ St cx w' (L.set i (jdg b vf (orF g (mkF (Q2N x.blocks.length t is) at')) at')) := by
  have hS := hS.out hi
  obtain ⟨vp, vr, vb, rfl, hp, hr, hb⟩ := Q1t hx
  obtain ⟨v1, v2, rfl, h1, h2⟩ := Q2W ht
  have hlb := hb.len
  have hl1 := h1.len
  have hl2 := h2.len
  cases is with
  | false =>
    all_goals refine Q5H ?_
    all_goals (unfold code_judge_to_lc; refine Q0 ?_; refine Q1 ?_; refine zb hS ?_; intro p5 w1 hS; refine zb hS ?_; intro p6 w1 hS; refine zn ?_; refine Q0 ?_; refine Q0 ?_; refine Q1 ?_; refine zm ?_; refine Q2b rfl ?_; refine zn ?_)
    all_goals refine Q3 rfl ?_
    all_goals (refine Q0 ?_; refine Q1 ?_; refine zm ?_; refine Q2 rfl ?_; refine zl hS ?_)
    all_goals (first | (refine Q1c ?_) | (refine Q1d ?_) | (refine Qp rfl rfl (fun hc => ?_) (fun hc => ?_)))
    all_goals (refine zm ?_; (first | refine s_gn rfl rfl ?_ | (refine s_gy rfl ?_; refine Q2 rfl ?_)); (first | refine s_gn rfl rfl ?_ | (refine s_gy rfl ?_; refine zl hS ?_)); (first | refine s_gn rfl rfl ?_ | (refine s_gy rfl ?_; refine zL ?_)))
    all_goals (first | refine s_gn rfl rfl ?_ | (refine s_gy rfl ?_; (first | (refine QK ?_) | (refine QM ?_) | (refine Qi rfl rfl (fun hc => ?_) (fun hc => ?_)))))
    all_goals ((first | (refine zpt ?_) | (refine zpf ?_)); refine zm ?_; (first | refine s_gn rfl rfl ?_ | (refine s_gy rfl ?_; refine Q2 rfl ?_)); (first | refine s_gn rfl rfl ?_ | (refine s_gy rfl ?_; refine zl hS ?_)); (first | refine s_gn rfl rfl ?_ | (refine s_gy rfl ?_; refine zL ?_)))
    all_goals (first | refine s_gn rfl rfl ?_ | (refine s_gy rfl ?_; (first | (refine QK ?_) | (refine QM ?_) | (refine Qi rfl rfl (fun hc => ?_) (fun hc => ?_)))))
    all_goals ((first | (refine zpt ?_) | (refine zpf ?_)); refine zR3 (c := Q2A (by intro _; decide) hS fd) (h := ?_); rintro v1 w1 ⟨rfl, hS⟩; simp only [List.set_cons_zero, List.set_cons_succ, if_true, Bool.false_eq_true, if_false] at hS; refine zn ?_; refine zr ?_; refine q_ret0 ?_; refine ⟨_, rfl, rfl, ?_⟩; have hS := hS.drop.drop; refine St.back ?_ hi; first | (rw [show Q2N x.blocks.length t false = 4 from (by unfold Q2N; rw [if_pos rfl, if_pos (by omega)])]; exact hS) | (rw [show Q2N x.blocks.length t false = 0 from (by unfold Q2N; rw [if_pos rfl, if_neg (by omega)])]; exact hS))
  | true =>
    all_goals refine Q5H ?_
    all_goals (unfold code_judge_to_lc; refine Q0 ?_; refine Q1 ?_; refine zb hS ?_; intro p5 w1 hS; refine zb hS ?_; intro p6 w1 hS; refine zn ?_; refine Q0 ?_; refine Q0 ?_; refine Q1 ?_; refine zm ?_; refine Q2b rfl ?_; refine zn ?_)
    all_goals refine Q4 rfl ?_
    all_goals (refine zsk ?_; refine Q0 ?_; refine Q1 ?_; refine zm ?_; refine Q2 rfl ?_; refine zl hS ?_)
    all_goals (first | (refine Q1Q ?_) | (refine Q1R ?_) | (refine QD rfl rfl (fun hc => ?_) (fun hc => ?_)))
    all_goals (refine zm ?_; (first | refine s_gn rfl rfl ?_ | (refine s_gy rfl ?_; refine Q2 rfl ?_)); (first | refine s_gn rfl rfl ?_ | (refine s_gy rfl ?_; refine zl hS ?_)); (first | refine s_gn rfl rfl ?_ | (refine s_gy rfl ?_; refine Q2 rfl ?_)); (first | refine s_gn rfl rfl ?_ | (refine s_gy rfl ?_; refine zl hS ?_)); (first | refine s_gn rfl rfl ?_ | (refine s_gy rfl ?_; refine zL ?_)))
    all_goals (first | refine s_gn rfl rfl ?_ | (refine s_gy rfl ?_; (first | (refine QdO ?_) | (refine QdP ?_) | (refine Q3G rfl rfl (fun hc => ?_) (fun hc => ?_)))))
    all_goals ((first | (refine zpt ?_) | (refine zpf ?_)); refine zR3 (c := Q2A (by intro _; decide) hS fd) (h := ?_); rintro v1 w1 ⟨rfl, hS⟩; simp only [List.set_cons_zero, List.set_cons_succ, if_true, Bool.false_eq_true, if_false] at hS; refine zn ?_; refine Q1 ?_; refine zm ?_; refine Q2 rfl ?_; refine zl hS ?_; refine zL ?_)
    all_goals (first | (refine QK ?_) | (refine QM ?_) | (refine Qi rfl rfl (fun hc => ?_) (fun hc => ?_)))
    all_goals (refine zm ?_; (first | refine s_gn rfl rfl ?_ | (refine s_gy rfl ?_; refine Q2 rfl ?_)); (first | refine s_gn rfl rfl ?_ | (refine s_gy rfl ?_; refine zl hS ?_)); (first | refine s_gn rfl rfl ?_ | (refine s_gy rfl ?_; refine zL ?_)))
    all_goals (first | refine s_gn rfl rfl ?_ | (refine s_gy rfl ?_; (first | (refine QK ?_) | (refine QM ?_) | (refine Qi rfl rfl (fun hc => ?_) (fun hc => ?_)))))
    all_goals ((first | (refine zpt ?_) | (refine zpf ?_)); refine zR3 (c := Q2A (by intro _; decide) hS fd) (h := ?_); rintro v1 w1 ⟨rfl, hS⟩; simp only [List.set_cons_zero, List.set_cons_succ, if_true, Bool.false_eq_true, if_false] at hS; refine zn ?_; refine Q3j ?_; refine ⟨_, rfl, rfl, ?_⟩; have hS := hS.drop.drop; rw [Q39] at hS; refine St.back ?_ hi; first | (rw [show Q2N x.blocks.length t true = 1 from (by unfold Q2N; rw [if_neg Bool.noConfusion, if_pos (by omega)])]; rw [Q6y (by decide)] at hS; exact hS) | (rw [show Q2N x.blocks.length t true = 2 from (by unfold Q2N; rw [if_neg Bool.noConfusion, if_neg (by omega), if_pos (by omega)])]; rw [Q5Q] at hS; exact hS) | (rw [show Q2N x.blocks.length t true = 0 from (by unfold Q2N; rw [if_neg Bool.noConfusion, if_neg (by omega), if_neg (by omega)])]; rw [Q5Q] at hS; exact hS))
theorem end_sum {g : Flt} {at' : Int} {n : Nat} {e : Tail} : orF (orF (orF (orF (orF g (mkF (if e.op < 1 ∨ 3 < e.op then 3 else 0) at')) (mkF (if e.op ≠ 2 ∧ e.a ≠ 0 ∨ e.op ≠ 3 ∧ 0 < e.args.length then 4 else 0) at')) (mkF (if 8 < e.args.length then 2 else 0) at')) (mkF (Q2N n e.yes (decide (e.op ≠ 3))) at')) (mkF (Q2N n e.no (decide (e.op = 2))) at') = orF g (mkF (Q2Z n e) at') := by
  rw [Q39, Q39, Q39, Q39]
  congr 2
  unfold Q2Z
  split
  · simp only [Q6y (show (3 : Int) ≠ 0 by decide)]
  · rw [Q5Q]
    split
    · simp only [Q6y (show (4 : Int) ≠ 0 by decide)]
    · rw [Q5Q]
      split
      · simp only [Q6y (show (2 : Int) ≠ 0 by decide)]
      · rw [Q5Q]
theorem end_c {x : Fun} {e : Tail} {vf : Value} {g : Flt} {at' : Int} {b : Nat} {cs ds : List Value} (hx : funcR.at cx cs x) (he : endR.at cx ds e) (hS : St cx w L) (hi : nth L i = some (jdg b vf g at')) :
    Rets Tryz.prog Q8O [.pointer (some ⟨b, 0, none⟩), .agg ⟨cs⟩, .agg ⟨ds⟩] w fun u w' => u = .tuple #[] ∧ St cx w' (L.set i (jdg b vf (orF g (mkF (Q2Z x.blocks.length e) at')) at')) := by
  have hS := hS.out hi
  obtain ⟨vp, vr, vb, rfl, hp, hr, hb⟩ := Q1t hx
  obtain ⟨v1, v2, v3, v4, v5, rfl, h1, h2, h3, h4, h5⟩ := QfW he
  have hl5 := h5.len
  all_goals refine Qcu ?_
  all_goals (unfold code_judge_end_lc; refine Q0 ?_; refine Q1 ?_; refine zb hS ?_; intro p4 w1 hS; refine zb hS ?_; intro p5 w1 hS; refine zn ?_)
  refine zM [0, 4, 5] (fun A ρ' w' => Has ρ' A ∧ Has ρ' [] ∧ St cx w' (blk p5 45 [.int .i64 e.op, .int .i64 e.a, .int .i64 e.yes.block, v1, v2, .int .i64 e.no.block, v3, v4, v5] :: blk p4 53 [.int .i64 x.regs, vp, vr, vb] :: jdg b vf (orF g (mkF (if e.op < 1 ∨ 3 < e.op then 3 else 0) at')) at' :: L.eraseIdx i)) ?_ ?_
  · skip
    all_goals (refine Q1 ?_; refine zm ?_; refine Q2 rfl ?_; refine zl hS ?_)
    all_goals (first | (refine Q1Q ?_) | (refine Q1R ?_) | (refine QD rfl rfl (fun hc => ?_) (fun hc => ?_)))
    all_goals (refine zm ?_; (first | refine s_gn rfl rfl ?_ | (refine s_gy rfl ?_; refine Q2 rfl ?_)); (first | refine s_gn rfl rfl ?_ | (refine s_gy rfl ?_; refine zl hS ?_)))
    all_goals (first | refine s_gn rfl rfl ?_ | (refine s_gy rfl ?_; (first | (refine QK ?_) | (refine QM ?_) | (refine Qi rfl rfl (fun hc => ?_) (fun hc => ?_)))))
    all_goals ((first | (refine zpt ?_) | (refine zpf ?_)); refine zR3 (c := Q2A (by intro _; decide) hS fd) (h := ?_); rintro v1 w1 ⟨rfl, hS⟩; simp only [List.set_cons_zero, List.set_cons_succ, if_true, Bool.false_eq_true, if_false] at hS; refine zn ?_; exact ⟨zh, zh, by first | (rw [if_pos (by omega)]; exact hS.sp) | (rw [if_neg (by omega)]; exact hS.sp)⟩)
  rintro ρ w1 ⟨hA, hρ, hS⟩; obtain ⟨ρ, rfl⟩ := env2 hA hρ
  refine zM [0, 4, 5] (fun A ρ' w' => Has ρ' A ∧ Has ρ' [] ∧ St cx w' (blk p5 45 [.int .i64 e.op, .int .i64 e.a, .int .i64 e.yes.block, v1, v2, .int .i64 e.no.block, v3, v4, v5] :: blk p4 53 [.int .i64 x.regs, vp, vr, vb] :: jdg b vf (orF (orF g (mkF (if e.op < 1 ∨ 3 < e.op then 3 else 0) at')) (mkF (if e.op ≠ 2 ∧ e.a ≠ 0 ∨ e.op ≠ 3 ∧ 0 < e.args.length then 4 else 0) at')) at' :: L.eraseIdx i)) ?_ ?_
  · skip
    all_goals (refine Q1 ?_; refine zm ?_; refine Q2 rfl ?_; refine zl hS ?_)
    all_goals (first | (refine Q1c ?_) | (refine Q1d ?_) | (refine Qp rfl rfl (fun hc => ?_) (fun hc => ?_)))
    all_goals (refine zm ?_; (first | refine s_gn rfl rfl ?_ | (refine s_gy rfl ?_; refine Q2 rfl ?_)); (first | refine s_gn rfl rfl ?_ | (refine s_gy rfl ?_; refine zl hS ?_)))
    all_goals (first | refine s_gn rfl rfl ?_ | (refine s_gy rfl ?_; (first | (refine Q1c ?_) | (refine Q1d ?_) | (refine Qp rfl rfl (fun hc => ?_) (fun hc => ?_)))))
    all_goals ((first | (refine zpt ?_) | (refine zpf ?_)); refine zm ?_; (first | refine s_gn rfl rfl ?_ | (refine s_gy rfl ?_; refine Q2 rfl ?_)); (first | refine s_gn rfl rfl ?_ | (refine s_gy rfl ?_; refine zl hS ?_)))
    all_goals (first | refine s_gn rfl rfl ?_ | (refine s_gy rfl ?_; (first | (refine Q1c ?_) | (refine Q1d ?_) | (refine Qp rfl rfl (fun hc => ?_) (fun hc => ?_)))))
    all_goals ((first | refine s_gn rfl rfl ?_ | (refine s_gy rfl ?_; refine zm ?_)); (first | refine s_gn rfl rfl ?_ | (refine s_gy rfl ?_; refine Q2 rfl ?_)); (first | refine s_gn rfl rfl ?_ | (refine s_gy rfl ?_; refine zl hS ?_)); (first | refine s_gn rfl rfl ?_ | (refine s_gy rfl ?_; refine zL ?_)))
    all_goals (first | refine s_gn rfl rfl ?_ | (refine s_gy rfl ?_; (first | (refine QK ?_) | (refine QM ?_) | (refine Qi rfl rfl (fun hc => ?_) (fun hc => ?_)))))
    all_goals ((first | refine s_gn rfl rfl ?_ | (refine s_gy rfl ?_; (first | (refine zpt ?_) | (refine zpf ?_)))); (first | (refine zpt ?_) | (refine zpf ?_)); refine zR3 (c := Q2A (by intro _; decide) hS fd) (h := ?_); rintro v1 w1 ⟨rfl, hS⟩; simp only [List.set_cons_zero, List.set_cons_succ, if_true, Bool.false_eq_true, if_false] at hS; refine zn ?_; exact ⟨zh, zh, by first | (rw [if_pos (c := e.op ≠ 2 ∧ e.a ≠ 0 ∨ e.op ≠ 3 ∧ 0 < e.args.length) (by omega)]; exact hS.sp) | (rw [if_neg (c := e.op ≠ 2 ∧ e.a ≠ 0 ∨ e.op ≠ 3 ∧ 0 < e.args.length) (by omega)]; exact hS.sp)⟩)
  rintro ρ w1 ⟨hA, hρ, hS⟩; obtain ⟨ρ, rfl⟩ := env2 hA hρ
  refine zM [0, 4, 5] (fun A ρ' w' => Has ρ' A ∧ Has ρ' [] ∧ St cx w' (blk p5 45 [.int .i64 e.op, .int .i64 e.a, .int .i64 e.yes.block, v1, v2, .int .i64 e.no.block, v3, v4, v5] :: blk p4 53 [.int .i64 x.regs, vp, vr, vb] :: jdg b vf (orF (orF (orF g (mkF (if e.op < 1 ∨ 3 < e.op then 3 else 0) at')) (mkF (if e.op ≠ 2 ∧ e.a ≠ 0 ∨ e.op ≠ 3 ∧ 0 < e.args.length then 4 else 0) at')) (mkF (if 8 < e.args.length then 2 else 0) at')) at' :: L.eraseIdx i)) ?_ ?_
  · skip
    all_goals (refine Q1 ?_; refine zm ?_; refine Q2 rfl ?_; refine zl hS ?_; refine zL ?_)
    all_goals (first | (refine QK ?_) | (refine QM ?_) | (refine Qi rfl rfl (fun hc => ?_) (fun hc => ?_)))
    all_goals (refine zR3 (c := Q2A (by intro _; decide) hS fd) (h := ?_); rintro v1 w1 ⟨rfl, hS⟩; simp only [List.set_cons_zero, List.set_cons_succ, if_true, Bool.false_eq_true, if_false] at hS; refine zn ?_; exact ⟨zh, zh, by first | (rw [if_pos (c := 8 < e.args.length) (by omega)]; exact hS.sp) | (rw [if_neg (c := 8 < e.args.length) (by omega)]; exact hS.sp)⟩)
  rintro ρ w1 ⟨hA, hρ, hS⟩; obtain ⟨ρ, rfl⟩ := env2 hA hρ
  all_goals (refine Q0 ?_; refine Q1 ?_; refine zm ?_; refine zv hS ?_; refine Q2 rfl ?_; refine zv hS ?_; refine Q2 rfl ?_; refine zl hS ?_; refine Q6n rfl rfl ?_; refine zR4 (c := to_c (t := e.yes) hx ⟨_, _, rfl, h1, h2⟩ hS fd) (h := ?_); rintro v1 w1 ⟨rfl, hS⟩; have hS := hS.ns; refine zn ?_; refine Q1 ?_; refine zm ?_; refine zv hS ?_; refine Q2 rfl ?_; refine zv hS ?_; refine Q2 rfl ?_; refine zl hS ?_; refine QbF rfl rfl ?_; refine zR4 (c := to_c (t := e.no) hx ⟨_, _, rfl, h3, h4⟩ hS fd) (h := ?_); rintro v1 w1 ⟨rfl, hS⟩; have hS := hS.ns; refine zn ?_; refine Q3j ?_; refine ⟨_, rfl, rfl, ?_⟩; rw [end_sum] at hS; exact St.back hS.drop.drop hi)
end
end Go.Proofs.YtanlkfeogoganaaGreat
