/- Lemmas of the proof, part 3: what the functions of the program do (contracts), and what follows. -/
import Derived.Test.YtjecflbbcnocdaaGreatDoorProg
import Derived.Test.YtjecflbbcnocdaaGreatDoorZ2
import Derived.Test.YtjecflbbcnocdaaGreatDoorZ1
import Derived.Lib.ParseIntB
import Derived.Lib.ItoaLen
import Derived.Lib.Strings
import Derived.Lib.LaidTab
import Derived.Laws.Concat
import Derived.Below
import Derived.Sort.Grow
import Derived.Deep.Draws
namespace Go.Proofs.YtjecflbbcnocdaaGreatDoor
open Go.Lir
set_option maxRecDepth 100000

/- 3 -/
/- 4 -/
def QeS : List GO := [qk 4 (.bool false)]
def QeR : List GO := [⟨none, .call (some 9) 13 []⟩, ⟨none, .un 10 .not (.tmp 9)⟩]
def QeQ : List GO := [qk 4 (.bool false)]
def QeP : List GO := [qm 11 0, ⟨none, .slen 12 (.tmp 11)⟩, qj 13 .gtr 3 12 60000]
def QeO : List GO := [qk 4 (.bool true)]
def QeN : List GO := [qm 15 0, ⟨none, .call (some 16) 14 [(.tmp 15)]⟩, qm 14 16, qx 17 14 0, qx 18 14 1, ⟨none, .alloc 5 24 [vn]⟩, ⟨none, .alloc 6 29 [(vi 0), (vi 0)]⟩, qw 1 5 17, qw 2 6 18]
def QeM : List GO := [qm 20 0, ⟨none, .call (some 21) 15 [(.tmp 20)]⟩, qm 19 21, qx 22 19 0, qx 23 19 1, ⟨none, .alloc 7 24 [vn]⟩, ⟨none, .alloc 8 29 [(vi 0), (vi 0)]⟩, qw 1 7 22, qw 2 8 23]
def QeL : List GO := [qV 24 2 6, qV 25 2 8, qt 26 .eql 29 24 25, qm 27 26, qg 27 true (qV 28 1 5), qg 27 true (qV 29 1 7), ⟨some (27, true), .call (some 30) 12 [(.tmp 28), (.tmp 29)]⟩, ⟨none, .pick 31 (.tmp 27) (.tmp 30) (.const (.bool false))⟩, qm 32 31, qg 32 true (qm 33 1), ⟨some (32, true), .call (some 34) 16 [(.tmp 33)]⟩, qg 32 true (qm 35 1), ⟨some (32, true), .call (some 36) 17 [(.tmp 35)]⟩, qg 32 true (qt 37 .eql 9 34 36), ⟨none, .pick 38 (.tmp 32) (.tmp 37) (.const (.bool false))⟩, qm 39 38, qg 39 true (qm 40 1), ⟨some (39, true), .call (some 41) 18 [(.tmp 40)]⟩, qg 39 true (qm 42 1), ⟨some (39, true), .call (some 43) 19 [(.tmp 42)]⟩, qg 39 true (qt 44 .eql 9 41 43), ⟨none, .pick 45 (.tmp 39) (.tmp 44) (.const (.bool false))⟩, qm 4 45]
def Law_ParseReads_lc : LC := (.seq (.ops QeS) (.seq (.seq (.ops QeR) (.cond (.tmp 10) (.seq (.ops QeQ) .ret) .skip)) (.seq (.seq (.ops QeP) (.cond (.tmp 13) (.seq (.ops QeO) .ret) .skip)) (.seq (.ops QeN) (.seq (.ops QeM) (.seq (.ops QeL) .ret))))))
@[reducible] def Q1g : FuncId := 4
theorem Qci : lowF Tryz.prog Tryz.f4 = some Law_ParseReads_lc := by kernel_rfl
theorem Q5m {a0 a1 : Value} {w : World} {R : Ending → World → Prop} (h : Law_ParseReads_lc.wp Tryz.prog (retQ Tryz.prog [.tmp 4] R) (Qh [a0, a1]) w) : Calls Tryz.prog Q1g ⟨[a0, a1]⟩ w R :=
  Q3 Tryz.func4 Qci (by kernel_rfl) (by kernel_rfl) h

/- 5 -/
/- 6 -/
/- 7 -/
/- 8 -/
/- 9 -/
/- 10 -/
/- 11 -/
/- 12 -/
def Qif : List GO := [qb 2 24 0, qb 3 24 1, qk 4 (.bool false)]
def Qie : List GO := [qf 9 2 0, ql 10 9, qL 11 10, qf 12 3 0, ql 13 12, qL 14 13, qt 15 .neq 3 11 14]
def Qid : List GO := [qk 4 (.bool false)]
def Qic : List GO := [qk 5 (vi 0)]
def Qib : List GO := [qm 16 5, qf 17 2 0, ql 18 17, qL 19 18, qt 20 .lss 3 16 19]
def Qia : List GO := [qf 23 2 0, ql 24 23, qm 25 5, qi 26 4 24 25, qV 27 4 26, qf 28 3 0, ql 29 28, qm 30 5, qi 31 4 29 30, qV 32 4 31, ⟨none, .alloc 6 43 [(vi 0), vn, vn, vn]⟩, ⟨none, .alloc 7 43 [(vi 0), vn, vn, vn]⟩, qw 4 6 27, qw 4 7 32]
def Qih : List (List Nat) := [[],[0],[],[1,2],[3],[],[5],[],[6,7],[8],[],[],[10,4,0,1,2,3,4,10,11],[11,9,12,0,1,2,3,4,5,6,7,8,9,10,11,12]]
def Qi9 : List GO := [qf 33 6 0, ql 34 33, qf 35 7 0, ql 36 35, qt 37 .neq 3 34 36, qm 38 37, qg 38 false (qf 39 6 1), qg 38 false (ql 40 39), qg 38 false (qf 41 7 1), qg 38 false (ql 42 41), ⟨some (38, false), .call (some 43) 32 [(.tmp 40), (.tmp 42)]⟩, ⟨some (38, false), .un 44 .not (.tmp 43)⟩, ⟨none, .pick 45 (.tmp 38) (.const (.bool true)) (.tmp 44)⟩, qm 46 45, qg 46 false (qf 47 6 2), qg 46 false (ql 48 47), qg 46 false (qf 49 7 2), qg 46 false (ql 50 49), ⟨some (46, false), .call (some 51) 32 [(.tmp 48), (.tmp 50)]⟩, ⟨some (46, false), .un 52 .not (.tmp 51)⟩, ⟨none, .pick 53 (.tmp 46) (.const (.bool true)) (.tmp 52)⟩, qm 54 53, qg 54 false (qf 55 6 3), qg 54 false (ql 56 55), qg 54 false (qL 57 56), qg 54 false (qf 58 7 3), qg 54 false (ql 59 58), qg 54 false (qL 60 59), qg 54 false (qt 61 .neq 3 57 60), ⟨none, .pick 62 (.tmp 54) (.const (.bool true)) (.tmp 61)⟩]
def Qi8 : List GO := [qk 4 (.bool false)]
def Qi7 : List GO := [qk 8 (vi 0)]
def Qi6 : List GO := [qm 63 8, qf 64 6 3, ql 65 64, qL 66 65, qt 67 .lss 3 63 66]
def Qgb : List GO := [qf 70 6 3, ql 71 70, qm 72 8, qi 73 12 71 72, qV 74 12 73, qf 75 7 3, ql 76 75, qm 77 8, qi 78 12 76 77, qV 79 12 78, ⟨none, .call (some 80) 33 [(.tmp 74), (.tmp 79)]⟩, ⟨none, .un 81 .not (.tmp 80)⟩]
def Qgd : List (List Nat) := [[],[0],[],[1,2],[3],[],[5],[],[6,7],[8],[4,9],[10]]
def Qga : List GO := [qk 4 (.bool false)]
def Qg9 : List GO := [qm 68 8, qj 69 .add 3 68 1, qm 8 69]
def Q4p : LC := (.seq (.seq (.ops Qi6) (.cond (.tmp 67) .skip (.exit 2))) (.seq (.block 3 (.seq (.draw Qgb Qgd) (.cond (.tmp 81) (.seq (.ops Qga) .ret) .skip))) (.ops Qg9)))
def Qg8 : List GO := [qm 21 5, qj 22 .add 3 21 1, qm 5 22]
def Q7W : LC := (.seq (.seq (.ops Qib) (.cond (.tmp 20) .skip (.exit 0))) (.seq (.block 1 (.seq (.draw Qia Qih) (.seq (.seq (.ops Qi9) (.cond (.tmp 62) (.seq (.ops Qi8) .ret) .skip)) (.seq (.ops Qi7) (.block 2 (.loop Q4p)))))) (.ops Qg8)))
def Qg7 : List GO := [qk 4 (.bool true)]
def R_SameModule_lc : LC := (.seq (.ops Qif) (.seq (.seq (.ops Qie) (.cond (.tmp 15) (.seq (.ops Qid) .ret) .skip)) (.seq (.seq (.ops Qic) (.block 0 (.loop Q7W))) (.seq (.ops Qg7) .ret))))
@[reducible] def Q1a : FuncId := 12
theorem Qgc : lowF Tryz.prog Tryz.f12 = some R_SameModule_lc := by kernel_rfl
theorem Qig {a0 a1 : Value} {w : World} {R : Ending → World → Prop} (h : R_SameModule_lc.wp Tryz.prog (retQ Tryz.prog [.tmp 4] R) (Qh [a0, a1]) w) : Calls Tryz.prog Q1a ⟨[a0, a1]⟩ w R :=
  Q3 Tryz.func12 Qgc (by kernel_rfl) (by kernel_rfl) h

/- 13 -/
def QeJ : List GO := [qk 0 (.bool false)]
def QeI : List GO := [⟨none, .call (some 4) 14 [(.const (.string ⟨#[102, 117, 110, 99, 32, 48, 32, 40, 41, 32, 45, 62, 32, 40, 105, 110, 116, 41, 32, 123, 32, 98, 108, 111, 99, 107, 32, 48, 32, 40, 41, 32, 123, 32, 110, 117, 109, 32, 53, 59, 32, 114, 101, 116, 32, 40, 48, 41, 59, 32, 125, 32, 125]⟩))]⟩, qm 3 4, qx 5 3 0, qx 6 3 1, ⟨none, .alloc 1 24 [vn]⟩, ⟨none, .alloc 2 29 [(vi 0), (vi 0)]⟩, qw 1 1 5, qw 2 2 6]
def QeH : List GO := [qf 7 2 0, ql 8 7, qj 9 .eql 3 8 0, qm 10 9, qg 10 true (qf 11 1 0), qg 10 true (ql 12 11), qg 10 true (qL 13 12), qg 10 true (qj 14 .eql 3 13 1), ⟨none, .pick 15 (.tmp 10) (.tmp 14) (.const (.bool false))⟩, qm 16 15, qg 16 true (qf 17 1 0), qg 16 true (ql 18 17), ⟨some (16, true), .idx 19 4 (.tmp 18) (.const (vi 0))⟩, qg 16 true (qf 20 19 2), qg 16 true (ql 21 20), qg 16 true (qL 22 21), qg 16 true (qj 23 .eql 3 22 1), ⟨none, .pick 24 (.tmp 16) (.tmp 23) (.const (.bool false))⟩, qm 25 24, qg 25 true (qf 26 1 0), qg 25 true (ql 27 26), ⟨some (25, true), .idx 28 4 (.tmp 27) (.const (vi 0))⟩, qg 25 true (qf 29 28 3), qg 25 true (ql 30 29), ⟨some (25, true), .idx 31 12 (.tmp 30) (.const (vi 0))⟩, qg 25 true (qf 32 31 2), qg 25 true (ql 33 32), ⟨some (25, true), .idx 34 8 (.tmp 33) (.const (vi 0))⟩, qg 25 true (qf 35 34 5), qg 25 true (ql 36 35), qg 25 true (qj 37 .eql 2 36 5), ⟨none, .pick 38 (.tmp 25) (.tmp 37) (.const (.bool false))⟩, qm 39 38, ⟨some (39, true), .call (some 40) 16 [(.const (vi 14))]⟩, ⟨some (39, true), .bin 41 .eql 9 (.tmp 40) (.const (.string ⟨#[99, 97, 108, 108]⟩))⟩, ⟨none, .pick 42 (.tmp 39) (.tmp 41) (.const (.bool false))⟩, qm 43 42, ⟨some (43, true), .call (some 44) 18 [(.const (vi 0))]⟩, ⟨some (43, true), .bin 45 .eql 9 (.tmp 44) (.const (.string ⟨#[]⟩))⟩, ⟨none, .pick 46 (.tmp 43) (.tmp 45) (.const (.bool false))⟩, qm 0 46]
def Law_parseBegun_lc : LC := (.seq (.ops QeJ) (.seq (.ops QeI) (.seq (.ops QeH) .ret)))
@[reducible] def Q9W : FuncId := 13
theorem Qch : lowF Tryz.prog Tryz.f13 = some Law_parseBegun_lc := by kernel_rfl
theorem QeK {w : World} {R : Ending → World → Prop} (h : Law_parseBegun_lc.wp Tryz.prog (retQ Tryz.prog [.tmp 0] R) (Qh []) w) : Calls Tryz.prog Q9W ⟨[]⟩ w R :=
  Q3 Tryz.func13 Qch (by kernel_rfl) (by kernel_rfl) h

/- 14 -/
def Qjq : List GO := [⟨none, .alloc 2 24 [vn]⟩, ⟨none, .alloc 3 29 [(vi 0), (vi 0)]⟩]
def Qjp : List GO := [qm 8 0, ⟨none, .call (some 9) 34 [(.tmp 8)]⟩, qm 7 9, qx 10 7 0, qx 11 7 1, qm 4 10, qw 2 3 11]
def Qjo : List GO := [qf 12 3 0, ql 13 12, qj 14 .neq 3 13 0]
def Qjn : List GO := [⟨none, .build 15 [vn] []⟩, qV 16 2 3, qw 1 2 15, qw 2 3 16]
def Qjs : List (List Nat) := [[],[],[0,0],[1,2,0,1,2]]
def Qjm : List GO := [⟨none, .mkfn 17 35 [(.tmp 2), (.tmp 3)]⟩]
def Qjl : List GO := []
def Qjk : List GO := [qm 18 4, qm 19 0, ⟨none, .slen 20 (.tmp 19)⟩, ⟨none, .build 21 [vn, (vi 0)] [(0, (1, (.tmp 18))), (1, (1, (.tmp 20)))]⟩, qb 22 70 21, qm 5 22]
def Qjj : List GO := [qm 23 5, qn 24 23, qf 25 24 0, ql 26 25, qL 27 26, qj 28 .gtr 3 27 0]
def Qji : List GO := [qf 29 2 0, ql 30 29, qm 31 5, ⟨none, .call (some 32) 36 [(.tmp 31)]⟩, ⟨none, .buildS 33 43 1 [(vi 0), vn, vn, vn] [(0, (4, (.tmp 32)))]⟩, ⟨none, .raw ⟨(some 34), (.call ⟨(.builtin .append), #[(.tmp 30), (.tmp 33)], #[22, 22]⟩), 22, "", #[], none⟩⟩, qf 35 2 0, qs 35 34]
def Qjr : List (List Nat) := [[],[0],[],[2],[3],[1,4,3],[0,1,2,3,4,5],[6,5,5,0,1,2,3,4,5]]
def Q9K : LC := (.seq (.seq (.ops Qjj) (.cond (.tmp 28) .skip (.exit 0))) (.block 1 (.draw Qji Qjr)))
def Qjh : List GO := [qV 36 1 2, ⟨none, .call (some 37) 26 [(.tmp 36)]⟩, ⟨none, .alloc 6 29 [(vi 0), (vi 0)]⟩, qw 2 6 37]
def Qh3 : List GO := [qf 38 6 0, ql 39 38, qj 40 .neq 3 39 0]
def Qh2 : List GO := [⟨none, .build 41 [vn] []⟩, qV 42 2 6, qw 1 2 41, qw 2 3 42]
def Qh5 : List (List Nat) := [[],[],[0,0],[1,2,0,1,2]]
def Qh1 : List GO := [qV 43 1 2, ⟨none, .build 44 [(vi 0), (vi 0)] []⟩, qw 1 2 43, qw 2 3 44]
def parse_Parse_ld : LD := (.seq (.pl (.ops Qjq)) (.seq (.pl (.ops Qjp)) (.seq (.pl (.seq (.ops Qjo) (.cond (.tmp 14) (.seq (.draw Qjn Qjs) .ret) .skip))) (.seq (.sp Qjm (.dfr none (.tmp 17)) Qjl) (.pl (.seq (.ops Qjk) (.seq (.block 0 (.loop Q9K)) (.seq (.seq (.ops Qjh) (.seq (.ops Qh3) (.cond (.tmp 40) (.seq (.draw Qh2 Qh5) .ret) .skip))) (.seq (.ops Qh1) .ret)))))))))
@[reducible] def Q1J : FuncId := 14
theorem Qh4 : QsA Tryz.prog Tryz.f14 = some parse_Parse_ld := by kernel_rfl
theorem Q9J {a0 : Value} {w : World} {R : Ending → World → Prop} (h : parse_Parse_ld.wpD Tryz.prog (retD Tryz.prog [.cell 2 24, .cell 3 29] R) [] (Qh [a0]) w) : Calls Tryz.prog Q1J ⟨[a0]⟩ w R :=
  QmN Tryz.func14 Qh4 (by kernel_rfl) (by kernel_rfl) h
/- 15 -/
def Qtb : List GO := [⟨none, .alloc 2 24 [vn]⟩, ⟨none, .alloc 3 29 [(vi 0), (vi 0)]⟩]
def Qta : List GO := [qm 14 0, ⟨none, .call (some 15) 37 [(.tmp 14)]⟩, qm 13 15, qx 16 13 0, qx 17 13 1, ⟨none, .alloc 5 29 [(vi 0), (vi 0)]⟩, qm 4 16, qw 2 5 17]
def Qt9 : List GO := [qf 18 5 0, ql 19 18, qj 20 .neq 3 19 0]
def Qt8 : List GO := [⟨none, .build 21 [vn] []⟩, qV 22 2 5, qw 1 2 21, qw 2 3 22]
def Qtd : List (List Nat) := [[],[],[0,0],[1,2,0,1,2]]
def Qt7 : List GO := [qm 23 4, qm 24 0, ⟨none, .slen 25 (.tmp 24)⟩, ⟨none, .build 26 [vn, (vi 0), (vi 0), (vi 0), (vi 0)] [(0, (1, (.tmp 23))), (1, (1, (.tmp 25)))]⟩, qb 27 77 26, qm 6 27]
def Qt6 : List GO := [⟨none, .alloc 7 24 [vn]⟩]
def Qt5 : List GO := [qm 28 6, ⟨none, .call (some 29) 38 [(.tmp 28)]⟩, qm 30 29, qg 30 true (qm 31 6), qg 30 true (qn 32 31), qg 30 true (qf 33 32 2), qg 30 true (ql 34 33), qg 30 true (qm 35 4), qg 30 true (qL 36 35), qg 30 true (qt 37 .lss 3 34 36), ⟨none, .pick 38 (.tmp 30) (.tmp 37) (.const (.bool false))⟩]
def Qt4 : List GO := [qm 39 6, ⟨none, .call (some 40) 39 [(.tmp 39), (.const (.string ⟨#[102, 117, 110, 99]⟩))]⟩]
def Qt3 : List GO := [qm 41 6, ⟨none, .call (some 42) 40 [(.tmp 41)]⟩, ⟨none, .build 43 [(vi 0), vn, vn, vn] [(0, (1, (.tmp 42)))]⟩, ⟨none, .alloc 8 43 [(vi 0), vn, vn, vn]⟩, qw 4 8 43]
def Qt2 : List GO := [qm 44 6, ⟨none, .call (some 45) 41 [(.tmp 44), (.const (vi 0))]⟩, qf 46 8 1, qs 46 45]
def Qr3 : List GO := [qm 47 6, ⟨none, .call (some 48) 39 [(.tmp 47), (.const (.string ⟨#[45, 62]⟩))]⟩]
def Qr2 : List GO := [qm 49 6, ⟨none, .call (some 50) 41 [(.tmp 49), (.const (vi 0))]⟩, qf 51 8 2, qs 51 50]
def Qr1 : List GO := [qm 52 6, ⟨none, .call (some 53) 39 [(.tmp 52), (.const (.string ⟨#[123]⟩))]⟩]
def Qr0 : List GO := [qm 54 6, ⟨none, .call (some 55) 42 [(.tmp 54), (.const (.string ⟨#[98, 108, 111, 99, 107]⟩))]⟩]
def QqZ : List GO := [qm 56 6, qn 57 56, qf 58 57 2, ql 59 58, qj 60 .add 3 59 1, qn 61 56, qf 62 61 2, qs 62 60]
def QqY : List GO := [qm 63 6, ⟨none, .call (some 64) 40 [(.tmp 63)]⟩, ⟨none, .build 65 [(vi 0), vn, vn, (vi 0), (vi 0), (vi 0), vn, vn, (vi 0), vn, vn, vn] [(0, (1, (.tmp 64)))]⟩, ⟨none, .alloc 9 52 [(vi 0), vn, vn, (vi 0), (vi 0), (vi 0), vn, vn, (vi 0), vn, vn, vn]⟩, qw 12 9 65]
def QqX : List GO := [qm 66 6, ⟨none, .call (some 67) 41 [(.tmp 66), (.const (vi 0))]⟩, qf 68 9 1, qs 68 67]
def QqW : List GO := [qm 69 6, ⟨none, .call (some 70) 39 [(.tmp 69), (.const (.string ⟨#[123]⟩))]⟩]
def QqV : List GO := [qm 72 6, ⟨none, .call (some 73) 43 [(.tmp 72)]⟩, qm 71 73, qx 74 71 0, qx 75 71 1, ⟨none, .alloc 10 54 [(vi 0), (vi 0), (vi 0), (vi 0), (vi 0), (vi 0), vn, vn]⟩, qw 8 10 74, qm 11 75]
def QqU : List GO := [qm 76 11, ⟨none, .un 77 .not (.tmp 76)⟩]
def QqT : List GO := [qf 78 9 2, ql 79 78, qV 80 8 10, ⟨none, .buildS 81 54 1 [(vi 0), (vi 0), (vi 0), (vi 0), (vi 0), (vi 0), vn, vn] [(0, (8, (.tmp 80)))]⟩, ⟨none, .raw ⟨(some 82), (.call ⟨(.builtin .append), #[(.tmp 79), (.tmp 81)], #[45, 45]⟩), 45, "", #[], none⟩⟩, qf 83 9 2, qs 83 82]
def Qii : LC := (.block 5 (.seq (.ops QqV) (.seq (.seq (.ops QqU) (.cond (.tmp 77) (.exit 4) .skip)) (.ops QqT))))
def QqS : List GO := [qm 84 6, ⟨none, .call (some 85) 44 [(.tmp 84)]⟩, qf 86 9 3, qw 9 86 85]
def QqR : List GO := [qm 87 6, ⟨none, .call (some 88) 39 [(.tmp 87), (.const (.string ⟨#[125]⟩))]⟩]
def QqQ : List GO := [qf 89 8 3, ql 90 89, qV 91 12 9, ⟨none, .buildS 92 52 1 [(vi 0), vn, vn, (vi 0), (vi 0), (vi 0), vn, vn, (vi 0), vn, vn, vn] [(0, (12, (.tmp 91)))]⟩, ⟨none, .raw ⟨(some 93), (.call ⟨(.builtin .append), #[(.tmp 90), (.tmp 92)], #[41, 41]⟩), 41, "", #[], none⟩⟩, qf 94 8 3, qs 94 93]
def Qij : LC := (.seq (.seq (.ops Qr0) (.cond (.tmp 55) .skip (.exit 2))) (.block 3 (.seq (.ops QqZ) (.seq (.ops QqY) (.seq (.ops QqX) (.seq (.ops QqW) (.seq (.block 4 (.loop Qii)) (.seq (.ops QqS) (.seq (.ops QqR) (.ops QqQ))))))))))
def QqP : List GO := [qm 95 6, ⟨none, .call (some 96) 39 [(.tmp 95), (.const (.string ⟨#[125]⟩))]⟩]
def QqO : List GO := [qf 97 7 0, ql 98 97, qV 99 4 8, ⟨none, .buildS 100 43 1 [(vi 0), vn, vn, vn] [(0, (4, (.tmp 99)))]⟩, ⟨none, .raw ⟨(some 101), (.call ⟨(.builtin .append), #[(.tmp 98), (.tmp 100)], #[22, 22]⟩), 22, "", #[], none⟩⟩, qf 102 7 0, qs 102 101]
def Qlk : LC := (.seq (.seq (.ops Qt5) (.cond (.tmp 38) .skip (.exit 0))) (.block 1 (.seq (.ops Qt4) (.seq (.ops Qt3) (.seq (.ops Qt2) (.seq (.ops Qr3) (.seq (.ops Qr2) (.seq (.ops Qr1) (.seq (.block 2 (.loop Qij)) (.seq (.ops QqP) (.ops QqO)))))))))))
def QqN : List GO := [qm 103 6, ⟨none, .call (some 104) 38 [(.tmp 103)]⟩, ⟨none, .un 105 .not (.tmp 104)⟩]
def QqM : List GO := [⟨none, .build 106 [vn] []⟩, qm 107 6, qn 108 107, qf 109 108 3, qV 110 2 109, qw 1 2 106, qw 2 3 110]
def Qr6 : List (List Nat) := [[],[],[1],[2],[3],[0,0],[4,5,0,1,2,3,4,5]]
def QqL : List GO := [qV 111 1 7, ⟨none, .call (some 112) 20 [(.tmp 111)]⟩, ⟨none, .alloc 12 29 [(vi 0), (vi 0)]⟩, qw 2 12 112]
def QqK : List GO := [qf 113 12 0, ql 114 113, qj 115 .neq 3 114 0]
def QqJ : List GO := [⟨none, .build 116 [vn] []⟩, qV 117 2 12, qw 1 2 116, qw 2 3 117]
def Qr5 : List (List Nat) := [[],[],[0,0],[1,2,0,1,2]]
def QqI : List GO := [qV 118 1 7, ⟨none, .build 119 [(vi 0), (vi 0)] []⟩, qw 1 2 118, qw 2 3 119]
def R_Parse_lc : LC := (.seq (.ops Qtb) (.seq (.ops Qta) (.seq (.seq (.ops Qt9) (.cond (.tmp 20) (.seq (.draw Qt8 Qtd) .ret) .skip)) (.seq (.ops Qt7) (.seq (.ops Qt6) (.seq (.block 0 (.loop Qlk)) (.seq (.seq (.ops QqN) (.cond (.tmp 105) (.seq (.draw QqM Qr6) .ret) .skip)) (.seq (.seq (.ops QqL) (.seq (.ops QqK) (.cond (.tmp 115) (.seq (.draw QqJ Qr5) .ret) .skip))) (.seq (.ops QqI) .ret)))))))))
@[reducible] def Q2T : FuncId := 15
theorem Qr4 : lowF Tryz.prog Tryz.f15 = some R_Parse_lc := by kernel_rfl
theorem Qtc {a0 : Value} {w : World} {R : Ending → World → Prop} (h : R_Parse_lc.wp Tryz.prog (retQ Tryz.prog [.cell 2 24, .cell 3 29] R) (Qh [a0]) w) : Calls Tryz.prog Q2T ⟨[a0]⟩ w R :=
  Q3 Tryz.func15 Qr4 (by kernel_rfl) (by kernel_rfl) h

/- 16 -/
def QpT : List GO := [qk 2 (.string ⟨#[]⟩)]
def QpS : List GO := [qm 3 0, qj 4 .lss 3 3 0, qm 5 4, qg 5 false (qm 6 0), qg 5 false (qj 7 .gtr 3 6 14), ⟨none, .pick 8 (.tmp 5) (.const (.bool true)) (.tmp 7)⟩]
def QpR : List GO := [qk 2 (.string ⟨#[]⟩)]
def QpQ : List GO := [⟨none, .build 9 [(.string ⟨#[]⟩), (.string ⟨#[]⟩), (.string ⟨#[]⟩), (.string ⟨#[]⟩), (.string ⟨#[]⟩), (.string ⟨#[]⟩), (.string ⟨#[]⟩), (.string ⟨#[]⟩), (.string ⟨#[]⟩), (.string ⟨#[]⟩), (.string ⟨#[]⟩), (.string ⟨#[]⟩), (.string ⟨#[]⟩), (.string ⟨#[]⟩), (.string ⟨#[]⟩)] [(0, (1, (.const (.string ⟨#[]⟩)))), (1, (1, (.const (.string ⟨#[110, 117, 109]⟩)))), (2, (1, (.const (.string ⟨#[98, 105, 110]⟩)))), (3, (1, (.const (.string ⟨#[110, 101, 119]⟩)))), (4, (1, (.const (.string ⟨#[102, 114, 101, 101]⟩)))), (5, (1, (.const (.string ⟨#[116, 117, 112, 108, 101]⟩)))), (6, (1, (.const (.string ⟨#[103, 101, 116]⟩)))), (7, (1, (.const (.string ⟨#[115, 101, 116]⟩)))), (8, (1, (.const (.string ⟨#[97, 114, 114, 97, 121]⟩)))), (9, (1, (.const (.string ⟨#[108, 111, 97, 100]⟩)))), (10, (1, (.const (.string ⟨#[115, 116, 111, 114, 101]⟩)))), (11, (1, (.const (.string ⟨#[108, 101, 110]⟩)))), (12, (1, (.const (.string ⟨#[105, 110]⟩)))), (13, (1, (.const (.string ⟨#[111, 117, 116]⟩)))), (14, (1, (.const (.string ⟨#[99, 97, 108, 108]⟩))))]⟩, qm 10 0, ⟨none, .raw ⟨(some 11), (.index 85 (.tmp 9) (.tmp 10)), 9, "", #[], none⟩⟩, qm 2 11]
def parse_Op_lc : LC := (.seq (.ops QpT) (.seq (.seq (.ops QpS) (.cond (.tmp 8) (.seq (.ops QpR) .ret) .skip)) (.seq (.ops QpQ) .ret)))
@[reducible] def QrT : FuncId := 16
theorem Qoi : lowF Tryz.prog Tryz.f16 = some parse_Op_lc := by kernel_rfl
theorem Qat {a0 : Value} {w : World} {R : Ending → World → Prop} (h : parse_Op_lc.wp Tryz.prog (retQ Tryz.prog [.tmp 2] R) (Qh [a0]) w) : Calls Tryz.prog QrT ⟨[a0]⟩ w R :=
  Q3 Tryz.func16 Qoi (by kernel_rfl) (by kernel_rfl) h

/- 17 -/
def Qra : List GO := [qk 2 (.string ⟨#[]⟩)]
def Qr9 : List GO := [qm 3 0, qj 4 .lss 3 3 1, qm 5 4, qg 5 false (qm 6 0), qg 5 false (qj 7 .gtr 3 6 14), ⟨none, .pick 8 (.tmp 5) (.const (.bool true)) (.tmp 7)⟩]
def Qr8 : List GO := [qk 2 (.string ⟨#[]⟩)]
def Qr7 : List GO := [⟨none, .buildS 9 9 14 [(.string ⟨#[]⟩), (.string ⟨#[]⟩), (.string ⟨#[]⟩), (.string ⟨#[]⟩), (.string ⟨#[]⟩), (.string ⟨#[]⟩), (.string ⟨#[]⟩), (.string ⟨#[]⟩), (.string ⟨#[]⟩), (.string ⟨#[]⟩), (.string ⟨#[]⟩), (.string ⟨#[]⟩), (.string ⟨#[]⟩), (.string ⟨#[]⟩)] [(0, (1, (.const (.string ⟨#[110, 117, 109]⟩)))), (1, (1, (.const (.string ⟨#[98, 105, 110]⟩)))), (2, (1, (.const (.string ⟨#[110, 101, 119]⟩)))), (3, (1, (.const (.string ⟨#[102, 114, 101, 101]⟩)))), (4, (1, (.const (.string ⟨#[116, 117, 112, 108, 101]⟩)))), (5, (1, (.const (.string ⟨#[103, 101, 116]⟩)))), (6, (1, (.const (.string ⟨#[115, 101, 116]⟩)))), (7, (1, (.const (.string ⟨#[97, 114, 114, 97, 121]⟩)))), (8, (1, (.const (.string ⟨#[108, 111, 97, 100]⟩)))), (9, (1, (.const (.string ⟨#[115, 116, 111, 114, 101]⟩)))), (10, (1, (.const (.string ⟨#[108, 101, 110]⟩)))), (11, (1, (.const (.string ⟨#[105, 110]⟩)))), (12, (1, (.const (.string ⟨#[111, 117, 116]⟩)))), (13, (1, (.const (.string ⟨#[99, 97, 108, 108]⟩))))]⟩, qm 10 0, qj 11 .sub 3 10 1, qi 12 1 9 11, ql 13 12, qm 2 13]
def R_OpWord_lc : LC := (.seq (.ops Qra) (.seq (.seq (.ops Qr9) (.cond (.tmp 8) (.seq (.ops Qr8) .ret) .skip)) (.seq (.ops Qr7) .ret)))
@[reducible] def Qse : FuncId := 17
theorem QoY : lowF Tryz.prog Tryz.f17 = some R_OpWord_lc := by kernel_rfl
theorem Qik {a0 : Value} {w : World} {R : Ending → World → Prop} (h : R_OpWord_lc.wp Tryz.prog (retQ Tryz.prog [.tmp 2] R) (Qh [a0]) w) : Calls Tryz.prog Qse ⟨[a0]⟩ w R :=
  Q3 Tryz.func17 QoY (by kernel_rfl) (by kernel_rfl) h

/- 18 -/
def Qmg : List GO := [qk 2 (.string ⟨#[]⟩)]
def Qmf : List GO := [qm 3 0, qj 4 .lss 3 3 0, qm 5 4, qg 5 false (qm 6 0), qg 5 false (qj 7 .gtr 3 6 9), ⟨none, .pick 8 (.tmp 5) (.const (.bool true)) (.tmp 7)⟩]
def Qme : List GO := [qk 2 (.string ⟨#[]⟩)]
def Qmd : List GO := [⟨none, .build 9 [(.string ⟨#[]⟩), (.string ⟨#[]⟩), (.string ⟨#[]⟩), (.string ⟨#[]⟩), (.string ⟨#[]⟩), (.string ⟨#[]⟩), (.string ⟨#[]⟩), (.string ⟨#[]⟩), (.string ⟨#[]⟩), (.string ⟨#[]⟩)] [(0, (1, (.const (.string ⟨#[]⟩)))), (1, (1, (.const (.string ⟨#[97, 100, 100]⟩)))), (2, (1, (.const (.string ⟨#[115, 117, 98]⟩)))), (3, (1, (.const (.string ⟨#[109, 117, 108]⟩)))), (4, (1, (.const (.string ⟨#[100, 105, 118]⟩)))), (5, (1, (.const (.string ⟨#[109, 111, 100]⟩)))), (6, (1, (.const (.string ⟨#[108, 101, 115, 115]⟩)))), (7, (1, (.const (.string ⟨#[101, 113]⟩)))), (8, (1, (.const (.string ⟨#[97, 110, 100]⟩)))), (9, (1, (.const (.string ⟨#[120, 111, 114]⟩))))]⟩, qm 10 0, ⟨none, .raw ⟨(some 11), (.index 87 (.tmp 9) (.tmp 10)), 9, "", #[], none⟩⟩, qm 2 11]
def parse_Kind_lc : LC := (.seq (.ops Qmg) (.seq (.seq (.ops Qmf) (.cond (.tmp 8) (.seq (.ops Qme) .ret) .skip)) (.seq (.ops Qmd) .ret)))
@[reducible] def Ql6 : FuncId := 18
theorem Qjt : lowF Tryz.prog Tryz.f18 = some parse_Kind_lc := by kernel_rfl
theorem Q5N {a0 : Value} {w : World} {R : Ending → World → Prop} (h : parse_Kind_lc.wp Tryz.prog (retQ Tryz.prog [.tmp 2] R) (Qh [a0]) w) : Calls Tryz.prog Ql6 ⟨[a0]⟩ w R :=
  Q3 Tryz.func18 Qjt (by kernel_rfl) (by kernel_rfl) h

/- 19 -/
def Qnn : List GO := [qk 2 (.string ⟨#[]⟩)]
def Qnm : List GO := [qm 3 0, qj 4 .lss 3 3 1, qm 5 4, qg 5 false (qm 6 0), qg 5 false (qj 7 .gtr 3 6 9), ⟨none, .pick 8 (.tmp 5) (.const (.bool true)) (.tmp 7)⟩]
def Qnl : List GO := [qk 2 (.string ⟨#[]⟩)]
def Qnk : List GO := [⟨none, .buildS 9 9 9 [(.string ⟨#[]⟩), (.string ⟨#[]⟩), (.string ⟨#[]⟩), (.string ⟨#[]⟩), (.string ⟨#[]⟩), (.string ⟨#[]⟩), (.string ⟨#[]⟩), (.string ⟨#[]⟩), (.string ⟨#[]⟩)] [(0, (1, (.const (.string ⟨#[97, 100, 100]⟩)))), (1, (1, (.const (.string ⟨#[115, 117, 98]⟩)))), (2, (1, (.const (.string ⟨#[109, 117, 108]⟩)))), (3, (1, (.const (.string ⟨#[100, 105, 118]⟩)))), (4, (1, (.const (.string ⟨#[109, 111, 100]⟩)))), (5, (1, (.const (.string ⟨#[108, 101, 115, 115]⟩)))), (6, (1, (.const (.string ⟨#[101, 113]⟩)))), (7, (1, (.const (.string ⟨#[97, 110, 100]⟩)))), (8, (1, (.const (.string ⟨#[120, 111, 114]⟩))))]⟩, qm 10 0, qj 11 .sub 3 10 1, qi 12 1 9 11, ql 13 12, qm 2 13]
def R_KindWord_lc : LC := (.seq (.ops Qnn) (.seq (.seq (.ops Qnm) (.cond (.tmp 8) (.seq (.ops Qnl) .ret) .skip)) (.seq (.ops Qnk) .ret)))
@[reducible] def Qll : FuncId := 19
theorem Qkt : lowF Tryz.prog Tryz.f19 = some R_KindWord_lc := by kernel_rfl
theorem Qcf {a0 : Value} {w : World} {R : Ending → World → Prop} (h : R_KindWord_lc.wp Tryz.prog (retQ Tryz.prog [.tmp 2] R) (Qh [a0]) w) : Calls Tryz.prog Qll ⟨[a0]⟩ w R :=
  Q3 Tryz.func19 Qkt (by kernel_rfl) (by kernel_rfl) h

/- 20 -/
def QkU : List GO := [qb 1 24 0, ⟨none, .alloc 2 29 [(vi 0), (vi 0)]⟩]
def QkT : List GO := [qf 11 1 0, ql 12 11, qL 13 12, qj 14 .lss 3 13 1, qm 15 14, qg 15 false (qf 16 1 0), qg 15 false (ql 17 16), qg 15 false (qL 18 17), qg 15 false (qj 19 .gtr 3 18 8), ⟨none, .pick 20 (.tmp 15) (.const (.bool true)) (.tmp 19)⟩]
def QkS : List GO := [⟨none, .call (some 21) 30 [(.const (vi 2)), (.const (vi (-1)))]⟩, qw 2 2 21]
def QkR : List GO := [qk 3 (vi 0)]
def QkQ : List GO := [qm 22 3, qf 23 1 0, ql 24 23, qL 25 24, qt 26 .lss 3 22 25]
def QkP : List GO := [qf 29 1 0, ql 30 29, qm 31 3, qi 32 4 30 31, qV 33 4 32, ⟨none, .alloc 4 43 [(vi 0), vn, vn, vn]⟩, qw 4 4 33]
def QkO : List GO := [qf 34 4 0, ql 35 34, qj 36 .lss 3 35 0, qm 37 36, qg 37 false (qf 38 4 0), qg 37 false (ql 39 38), qg 37 false (qj 40 .gtr 3 39 6), ⟨none, .pick 41 (.tmp 37) (.const (.bool true)) (.tmp 40)⟩]
def QkN : List GO := [qm 42 3, ⟨none, .call (some 43) 45 [(.tmp 42)]⟩, ⟨none, .call (some 44) 30 [(.const (vi 1)), (.tmp 43)]⟩, qw 2 2 44]
def QkM : List GO := [qf 45 4 1, ql 46 45, qf 47 4 0, ql 48 47, ⟨none, .call (some 49) 46 [(.tmp 46), (.tmp 48)]⟩, qm 5 49]
def QkL : List GO := [qm 50 5, qj 51 .neq 3 50 0]
def QiH : List GO := [qm 52 5, qm 53 3, ⟨none, .call (some 54) 45 [(.tmp 53)]⟩, ⟨none, .call (some 55) 30 [(.tmp 52), (.tmp 54)]⟩, qw 2 2 55]
def QiG : List GO := [qf 56 4 2, ql 57 56, qf 58 4 0, ql 59 58, ⟨none, .call (some 60) 46 [(.tmp 57), (.tmp 59)]⟩, qm 6 60]
def QiF : List GO := [qm 61 6, qj 62 .neq 3 61 0]
def QiE : List GO := [qm 63 6, qm 64 3, ⟨none, .call (some 65) 45 [(.tmp 64)]⟩, ⟨none, .call (some 66) 30 [(.tmp 63), (.tmp 65)]⟩, qw 2 2 66]
def QiD : List GO := [qf 67 4 3, ql 68 67, qL 69 68, qj 70 .lss 3 69 1, qm 71 70, qg 71 false (qf 72 4 3), qg 71 false (ql 73 72), qg 71 false (qL 74 73), qg 71 false (qj 75 .gtr 3 74 12), ⟨none, .pick 76 (.tmp 71) (.const (.bool true)) (.tmp 75)⟩]
def QiC : List GO := [qm 77 3, ⟨none, .call (some 78) 45 [(.tmp 77)]⟩, ⟨none, .call (some 79) 30 [(.const (vi 2)), (.tmp 78)]⟩, qw 2 2 79]
def QiB : List GO := [qm 80 3, qj 81 .eql 3 80 0]
def QiA : List GO := [qf 82 4 0, ql 83 82, qj 84 .eql 3 83 0, qm 85 84, qg 85 true (qf 86 4 1), qg 85 true (ql 87 86), qg 85 true (qL 88 87), qg 85 true (qj 89 .eql 3 88 0), ⟨none, .pick 90 (.tmp 85) (.tmp 89) (.const (.bool false))⟩, qm 7 90]
def Qiz : List GO := [qk 8 (vi 0)]
def Qiy : List GO := [qm 91 8, qf 92 4 2, ql 93 92, qL 94 93, qt 95 .lss 3 91 94]
def Qix : List GO := [qm 98 7, qm 99 98, qg 99 true (qf 100 4 2), qg 99 true (ql 101 100), qg 99 true (qm 102 8), qg 99 true (qi 103 3 101 102), qg 99 true (qf 104 103 0), qg 99 true (ql 105 104), qg 99 true (qj 106 .eql 3 105 1), ⟨none, .pick 107 (.tmp 99) (.tmp 106) (.const (.bool false))⟩, qm 7 107]
def Qiw : List GO := [qm 96 8, qj 97 .add 3 96 1, qm 8 97]
def Q7Y : LC := (.seq (.seq (.ops Qiy) (.cond (.tmp 95) .skip (.exit 2))) (.seq (.block 3 (.ops Qix)) (.ops Qiw)))
def Qiv : List GO := [qm 108 7, ⟨none, .un 109 .not (.tmp 108)⟩]
def Qiu : List GO := [qm 110 3, ⟨none, .call (some 111) 45 [(.tmp 110)]⟩, ⟨none, .call (some 112) 30 [(.const (vi 18)), (.tmp 111)]⟩, qw 2 2 112]
def Qit : List GO := [qk 9 (vi 0)]
def Qis : List GO := [qm 113 9, qf 114 4 3, ql 115 114, qL 116 115, qt 117 .lss 3 113 116]
def Qir : List GO := [qV 120 1 1, qm 121 3, qm 122 9, ⟨none, .call (some 123) 47 [(.tmp 120), (.tmp 121), (.tmp 122)]⟩, ⟨none, .alloc 10 29 [(vi 0), (vi 0)]⟩, qw 2 10 123]
def Qiq : List GO := [qf 124 10 0, ql 125 124, qj 126 .neq 3 125 0]
def Qip : List GO := [qV 127 2 10, qw 2 2 127]
def Qio : List GO := [qm 118 9, qj 119 .add 3 118 1, qm 9 119]
def Q7X : LC := (.seq (.seq (.ops Qis) (.cond (.tmp 117) .skip (.exit 4))) (.seq (.block 5 (.seq (.ops Qir) (.seq (.ops Qiq) (.cond (.tmp 126) (.seq (.ops Qip) .ret) .skip)))) (.ops Qio)))
def Qin : List GO := [qm 27 3, qj 28 .add 3 27 1, qm 3 28]
def Q9V : LC := (.seq (.seq (.ops QkQ) (.cond (.tmp 26) .skip (.exit 0))) (.seq (.block 1 (.seq (.ops QkP) (.seq (.seq (.ops QkO) (.cond (.tmp 41) (.seq (.ops QkN) .ret) .skip)) (.seq (.seq (.ops QkM) (.seq (.ops QkL) (.cond (.tmp 51) (.seq (.ops QiH) .ret) .skip))) (.seq (.seq (.ops QiG) (.seq (.ops QiF) (.cond (.tmp 62) (.seq (.ops QiE) .ret) .skip))) (.seq (.seq (.ops QiD) (.cond (.tmp 76) (.seq (.ops QiC) .ret) .skip)) (.seq (.seq (.ops QiB) (.cond (.tmp 81) (.seq (.ops QiA) (.seq (.seq (.ops Qiz) (.block 2 (.loop Q7Y))) (.seq (.ops Qiv) (.cond (.tmp 109) (.seq (.ops Qiu) .ret) .skip)))) .skip)) (.seq (.ops Qit) (.block 4 (.loop Q7X)))))))))) (.ops Qin)))
def Qim : List GO := [⟨none, .build 128 [(vi 0), (vi 0)] []⟩, qw 2 2 128]
def R_CodeFault_lc : LC := (.seq (.ops QkU) (.seq (.seq (.ops QkT) (.cond (.tmp 20) (.seq (.ops QkS) .ret) .skip)) (.seq (.seq (.ops QkR) (.block 0 (.loop Q9V))) (.seq (.ops Qim) .ret))))
@[reducible] def QO : FuncId := 20
theorem QiI : lowF Tryz.prog Tryz.f20 = some R_CodeFault_lc := by kernel_rfl
theorem QkV {a0 : Value} {w : World} {R : Ending → World → Prop} (h : R_CodeFault_lc.wp Tryz.prog (retQ Tryz.prog [.cell 2 29] R) (Qh [a0]) w) : Calls Tryz.prog QO ⟨[a0]⟩ w R :=
  Q3 Tryz.func20 QiI (by kernel_rfl) (by kernel_rfl) h

/- 21 -/
/- 22 -/
/- 23 -/
/- 24 -/
/- 25 -/
/- 26 -/
def QmL : List GO := [qb 1 24 0, ⟨none, .alloc 2 29 [(vi 0), (vi 0)]⟩]
def QmK : List GO := [qV 7 1 1, ⟨none, .build 8 [vn, (vi 0), (vi 0), (vi 0)] [(0, (1, (.tmp 7))), (3, (1, (.const (vi (-1)))))]⟩, qb 9 97 8, qm 3 9]
def QmJ : List GO := [qm 10 3, qf 11 1 0, ql 12 11, qL 13 12, qj 14 .eql 3 13 0, qm 15 14, qg 15 false (qf 16 1 0), qg 15 false (ql 17 16), qg 15 false (qL 18 17), qg 15 false (qj 19 .gtr 3 18 8), ⟨none, .pick 20 (.tmp 15) (.const (.bool true)) (.tmp 19)⟩, ⟨none, .call (some 21) 50 [(.tmp 10), (.tmp 20), (.const (vi 2))]⟩]
def QmI : List GO := [qk 4 (vi 0)]
def QmH : List GO := [qm 22 4, qf 23 1 0, ql 24 23, qL 25 24, qt 26 .lss 3 22 25, qm 27 26, qg 27 true (qm 28 3), qg 27 true (qn 29 28), qg 27 true (qf 30 29 1), qg 27 true (qf 31 30 0), qg 27 true (ql 32 31), qg 27 true (qj 33 .eql 3 32 0), ⟨none, .pick 34 (.tmp 27) (.tmp 33) (.const (.bool false))⟩]
def QmG : List GO := [qf 37 1 0, ql 38 37, qm 39 4, qi 40 4 38 39, qV 41 4 40, ⟨none, .alloc 5 43 [(vi 0), vn, vn, vn]⟩, qw 4 5 41]
def QmF : List GO := [qm 42 3, qm 43 4, ⟨none, .call (some 44) 51 [(.tmp 43)]⟩, qn 45 42, qf 46 45 3, qs 46 44]
def QmE : List GO := [qm 47 3, qf 48 5 0, ql 49 48, qj 50 .lss 3 49 0, qm 51 50, qg 51 false (qf 52 5 0), qg 51 false (ql 53 52), qg 51 false (qj 54 .gtr 3 53 6), ⟨none, .pick 55 (.tmp 51) (.const (.bool true)) (.tmp 54)⟩, ⟨none, .call (some 56) 50 [(.tmp 47), (.tmp 55), (.const (vi 1))]⟩]
def QmD : List GO := [qm 57 3, qf 58 5 1, ql 59 58, qf 60 5 0, ql 61 60, ⟨none, .call (some 62) 52 [(.tmp 57), (.tmp 59), (.tmp 61)]⟩]
def QmC : List GO := [qm 63 3, qf 64 5 2, ql 65 64, qf 66 5 0, ql 67 66, ⟨none, .call (some 68) 52 [(.tmp 63), (.tmp 65), (.tmp 67)]⟩]
def QjI : List GO := [qm 69 3, qf 70 5 3, ql 71 70, qL 72 71, qj 73 .eql 3 72 0, qm 74 73, qg 74 false (qf 75 5 3), qg 74 false (ql 76 75), qg 74 false (qL 77 76), qg 74 false (qj 78 .gtr 3 77 12), ⟨none, .pick 79 (.tmp 74) (.const (.bool true)) (.tmp 78)⟩, ⟨none, .call (some 80) 50 [(.tmp 69), (.tmp 79), (.const (vi 2))]⟩]
def QjH : List GO := [qm 81 3, qm 82 4, qj 83 .eql 3 82 0, qm 84 83, qg 84 true (qf 85 5 0), qg 84 true (ql 86 85), qg 84 true (qj 87 .gtr 3 86 0), qg 84 true (qm 88 87), qg 88 false (qf 89 5 1), qg 88 false (ql 90 89), qg 88 false (qL 91 90), qg 88 false (qj 92 .gtr 3 91 0), ⟨some (84, true), .pick 93 (.tmp 88) (.const (.bool true)) (.tmp 92)⟩, qg 84 true (qm 94 93), qg 94 false (qf 95 5 2), qg 94 false (ql 96 95), ⟨some (94, false), .call (some 97) 53 [(.tmp 96), (.func 54)]⟩, ⟨some (84, true), .pick 98 (.tmp 94) (.const (.bool true)) (.tmp 97)⟩, ⟨none, .pick 99 (.tmp 84) (.tmp 98) (.const (.bool false))⟩, ⟨none, .call (some 100) 50 [(.tmp 81), (.tmp 99), (.const (vi 18))]⟩]
def QjG : List GO := [qk 6 (vi 0)]
def QjF : List GO := [qm 101 6, qf 102 5 3, ql 103 102, qL 104 103, qt 105 .lss 3 101 104, qm 106 105, qg 106 true (qm 107 3), qg 106 true (qn 108 107), qg 106 true (qf 109 108 1), qg 106 true (qf 110 109 0), qg 106 true (ql 111 110), qg 106 true (qj 112 .eql 3 111 0), ⟨none, .pick 113 (.tmp 106) (.tmp 112) (.const (.bool false))⟩]
def QjE : List GO := [qm 116 3, qm 117 4, qm 118 6, ⟨none, .call (some 119) 55 [(.tmp 116), (.tmp 117), (.tmp 118)]⟩]
def QjD : List GO := [qm 114 6, qj 115 .add 3 114 1, qm 6 115]
def Q9P : LC := (.seq (.seq (.ops QjF) (.cond (.tmp 113) .skip (.exit 2))) (.seq (.block 3 (.ops QjE)) (.ops QjD)))
def QjC : List GO := [qm 35 4, qj 36 .add 3 35 1, qm 4 36]
def QbF : LC := (.seq (.seq (.ops QmH) (.cond (.tmp 34) .skip (.exit 0))) (.seq (.block 1 (.seq (.ops QmG) (.seq (.ops QmF) (.seq (.ops QmE) (.seq (.ops QmD) (.seq (.ops QmC) (.seq (.ops QjI) (.seq (.ops QjH) (.seq (.ops QjG) (.block 2 (.loop Q9P))))))))))) (.ops QjC)))
def QjB : List GO := [qm 120 3, qn 121 120, qf 122 121 1, qV 123 2 122, qw 2 2 123]
def code_Check_lc : LC := (.seq (.ops QmL) (.seq (.ops QmK) (.seq (.ops QmJ) (.seq (.seq (.ops QmI) (.block 0 (.loop QbF))) (.seq (.ops QjB) .ret)))))
@[reducible] def Q4b : FuncId := 26
theorem QjJ : lowF Tryz.prog Tryz.f26 = some code_Check_lc := by kernel_rfl
theorem QmM {a0 : Value} {w : World} {R : Ending → World → Prop} (h : code_Check_lc.wp Tryz.prog (retQ Tryz.prog [.cell 2 29] R) (Qh [a0]) w) : Calls Tryz.prog Q4b ⟨[a0]⟩ w R :=
  Q3 Tryz.func26 QjJ (by kernel_rfl) (by kernel_rfl) h

/- 27 -/
/- 28 -/
/- 29 -/
/- 30 -/
def R_F_r0 : List GO := [⟨none, .alloc 4 29 [(vi 0), (vi 0)]⟩]
def R_F_r1 : List GO := [qm 5 0, qm 6 1, ⟨none, .build 7 [(vi 0), (vi 0)] [(0, (1, (.tmp 5))), (1, (1, (.tmp 6)))]⟩, qw 2 4 7]
def R_F_lc : LC := (.seq (.ops R_F_r0) (.seq (.ops R_F_r1) .ret))
@[reducible] def R_F : FuncId := 30
theorem R_F_low : lowF Tryz.prog Tryz.f30 = some R_F_lc := by kernel_rfl
theorem R_F_in {a0 a1 : Value} {w : World} {R : Ending → World → Prop} (h : R_F_lc.wp Tryz.prog (retQ Tryz.prog [.cell 4 29] R) (Qh [a0, a1]) w) : Calls Tryz.prog R_F ⟨[a0, a1]⟩ w R :=
  Q3 Tryz.func30 R_F_low (by kernel_rfl) (by kernel_rfl) h

/- 31 -/
/- 32 -/
def Qko : List GO := [qk 4 (.bool false)]
def Qkn : List GO := [qm 6 0, qL 7 6, qm 8 1, qL 9 8, qt 10 .neq 3 7 9]
def Qkm : List GO := [qk 4 (.bool false)]
def Qkl : List GO := [qk 5 (vi 0)]
def Qkk : List GO := [qm 11 5, qm 12 0, qL 13 12, qt 14 .lss 3 11 13]
def Qkj : List GO := [qm 17 0, qm 18 5, qi 19 3 17 18, qV 20 3 19, qm 21 1, qm 22 5, qi 23 3 21 22, qV 24 3 23, ⟨none, .call (some 25) 68 [(.tmp 20), (.tmp 24)]⟩, ⟨none, .un 26 .not (.tmp 25)⟩]
def Qkq : List (List Nat) := [[],[],[0,1],[2],[],[],[4,5],[6],[3,7],[8]]
def Qki : List GO := [qk 4 (.bool false)]
def Qkh : List GO := [qm 15 5, qj 16 .add 3 15 1, qm 5 16]
def Q9U : LC := (.seq (.seq (.ops Qkk) (.cond (.tmp 14) .skip (.exit 0))) (.seq (.block 1 (.seq (.draw Qkj Qkq) (.cond (.tmp 26) (.seq (.ops Qki) .ret) .skip))) (.ops Qkh)))
def Qkg : List GO := [qk 4 (.bool true)]
def R_SameTypes_lc : LC := (.seq (.ops Qko) (.seq (.seq (.ops Qkn) (.cond (.tmp 10) (.seq (.ops Qkm) .ret) .skip)) (.seq (.seq (.ops Qkl) (.block 0 (.loop Q9U))) (.seq (.ops Qkg) .ret))))
@[reducible] def Q3d : FuncId := 32
theorem Qi5 : lowF Tryz.prog Tryz.f32 = some R_SameTypes_lc := by kernel_rfl
theorem Qkp {a0 a1 : Value} {w : World} {R : Ending → World → Prop} (h : R_SameTypes_lc.wp Tryz.prog (retQ Tryz.prog [.tmp 4] R) (Qh [a0, a1]) w) : Calls Tryz.prog Q3d ⟨[a0, a1]⟩ w R :=
  Q3 Tryz.func32 Qi5 (by kernel_rfl) (by kernel_rfl) h

/- 33 -/
def Qk6 : List GO := [qb 2 52 0, qb 3 52 1, qk 4 (.bool false)]
def Qk5 : List GO := [qf 6 2 0, ql 7 6, qf 8 3 0, ql 9 8, qt 10 .neq 3 7 9, qm 11 10, qg 11 false (qf 12 2 1), qg 11 false (ql 13 12), qg 11 false (qf 14 3 1), qg 11 false (ql 15 14), ⟨some (11, false), .call (some 16) 32 [(.tmp 13), (.tmp 15)]⟩, ⟨some (11, false), .un 17 .not (.tmp 16)⟩, ⟨none, .pick 18 (.tmp 11) (.const (.bool true)) (.tmp 17)⟩, qm 19 18, qg 19 false (qf 20 2 2), qg 19 false (ql 21 20), qg 19 false (qL 22 21), qg 19 false (qf 23 3 2), qg 19 false (ql 24 23), qg 19 false (qL 25 24), qg 19 false (qt 26 .neq 3 22 25), ⟨none, .pick 27 (.tmp 19) (.const (.bool true)) (.tmp 26)⟩]
def Qk4 : List GO := [qk 4 (.bool false)]
def Qk3 : List GO := [qk 5 (vi 0)]
def Qk2 : List GO := [qm 28 5, qf 29 2 2, ql 30 29, qL 31 30, qt 32 .lss 3 28 31]
def Qk1 : List GO := [qf 35 2 2, ql 36 35, qm 37 5, qi 38 8 36 37, qV 39 8 38, qf 40 3 2, ql 41 40, qm 42 5, qi 43 8 41 42, qV 44 8 43, ⟨none, .call (some 45) 69 [(.tmp 39), (.tmp 44)]⟩, ⟨none, .un 46 .not (.tmp 45)⟩]
def Qk8 : List (List Nat) := [[],[0],[],[1,2],[3],[],[5],[],[6,7],[8],[4,9],[10]]
def Qk0 : List GO := [qk 4 (.bool false)]
def QjZ : List GO := [qm 33 5, qj 34 .add 3 33 1, qm 5 34]
def Q9Q : LC := (.seq (.seq (.ops Qk2) (.cond (.tmp 32) .skip (.exit 0))) (.seq (.block 1 (.seq (.draw Qk1 Qk8) (.cond (.tmp 46) (.seq (.ops Qk0) .ret) .skip))) (.ops QjZ)))
def QjY : List GO := [qf 47 2 3, qf 48 47 0, ql 49 48, qf 50 3 3, qf 51 50 0, ql 52 51, qt 53 .eql 3 49 52, qm 54 53, qg 54 true (qf 55 2 3), qg 54 true (qf 56 55 1), qg 54 true (ql 57 56), qg 54 true (qf 58 3 3), qg 54 true (qf 59 58 1), qg 54 true (ql 60 59), qg 54 true (qt 61 .eql 3 57 60), ⟨none, .pick 62 (.tmp 54) (.tmp 61) (.const (.bool false))⟩, qm 63 62, qg 63 true (qf 64 2 3), qg 63 true (qf 65 64 2), qg 63 true (qV 66 3 65), qg 63 true (qf 67 3 3), qg 63 true (qf 68 67 2), qg 63 true (qV 69 3 68), ⟨some (63, true), .call (some 70) 70 [(.tmp 66), (.tmp 69)]⟩, ⟨none, .pick 71 (.tmp 63) (.tmp 70) (.const (.bool false))⟩, qm 72 71, qg 72 true (qf 73 2 3), qg 72 true (qf 74 73 5), qg 72 true (qV 75 3 74), qg 72 true (qf 76 3 3), qg 72 true (qf 77 76 5), qg 72 true (qV 78 3 77), ⟨some (72, true), .call (some 79) 70 [(.tmp 75), (.tmp 78)]⟩, ⟨none, .pick 80 (.tmp 72) (.tmp 79) (.const (.bool false))⟩, qm 81 80, qg 81 true (qf 82 2 3), qg 81 true (qf 83 82 8), qg 81 true (ql 84 83), qg 81 true (qf 85 3 3), qg 81 true (qf 86 85 8), qg 81 true (ql 87 86), ⟨some (81, true), .call (some 88) 71 [(.tmp 84), (.tmp 87)]⟩, ⟨none, .pick 89 (.tmp 81) (.tmp 88) (.const (.bool false))⟩, qm 4 89]
def R_sameBlock_lc : LC := (.seq (.ops Qk6) (.seq (.seq (.ops Qk5) (.cond (.tmp 27) (.seq (.ops Qk4) .ret) .skip)) (.seq (.seq (.ops Qk3) (.block 0 (.loop Q9Q))) (.seq (.ops QjY) .ret))))
@[reducible] def Q3J : FuncId := 33
theorem QhD : lowF Tryz.prog Tryz.f33 = some R_sameBlock_lc := by kernel_rfl
theorem Qk7 {a0 a1 : Value} {w : World} {R : Ending → World → Prop} (h : R_sameBlock_lc.wp Tryz.prog (retQ Tryz.prog [.tmp 4] R) (Qh [a0, a1]) w) : Calls Tryz.prog Q3J ⟨[a0, a1]⟩ w R :=
  Q3 Tryz.func33 QhD (by kernel_rfl) (by kernel_rfl) h

/- 34 -/
def QlN : List GO := [qk 2 vn, ⟨none, .alloc 3 29 [(vi 0), (vi 0)]⟩]
def QlM : List GO := [qm 9 0, ⟨none, .slen 10 (.tmp 9)⟩, qj 11 .gtr 3 10 40000]
def QlL : List GO := [⟨none, .build 12 [(vi 0), (vi 0)] [(0, (1, (.const (vi 2)))), (1, (1, (.const (vi 40000))))]⟩, qk 2 vn, qw 2 3 12]
def QlK : List GO := [qm 13 0, ⟨none, .build 14 [(.string ⟨#[]⟩), (vi 0)] [(0, (1, (.tmp 13)))]⟩, qb 15 124 14, qm 4 15]
def QlJ : List GO := [qk 5 vn]
def QlI : List GO := [qm 16 4, ⟨none, .call (some 17) 72 [(.tmp 16)]⟩]
def QlH : List GO := [qm 18 4, qn 19 18, qf 20 19 1, ql 21 20, qm 22 0, ⟨none, .slen 23 (.tmp 22)⟩, qt 24 .lss 3 21 23]
def QlG : List GO := [qm 27 4, qn 28 27, qf 29 28 1, ql 30 29, qm 6 30]
def QlF : List GO := [qm 32 4, ⟨none, .call (some 33) 73 [(.tmp 32)]⟩, qm 31 33, qx 34 31 0, qx 35 31 1, ⟨none, .alloc 7 126 [(vi 0), (.string ⟨#[]⟩), (.bool false), (vi 0)]⟩, qw 4 7 34, qm 8 35]
def QlE : List GO := [qm 36 8, qj 37 .neq 3 36 0]
def Qjb : List GO := [qm 38 8, qm 39 6, ⟨none, .build 40 [(vi 0), (vi 0)] [(0, (1, (.tmp 38))), (1, (1, (.tmp 39)))]⟩, qk 2 vn, qw 2 3 40]
def Qja : List GO := [qm 41 5, qV 42 4 7, ⟨none, .buildS 43 126 1 [(vi 0), (.string ⟨#[]⟩), (.bool false), (vi 0)] [(0, (4, (.tmp 42)))]⟩, ⟨none, .raw ⟨(some 44), (.call ⟨(.builtin .append), #[(.tmp 41), (.tmp 43)], #[63, 63]⟩), 63, "", #[], none⟩⟩, qm 5 44]
def Qj9 : List GO := [qm 25 4, ⟨none, .call (some 26) 72 [(.tmp 25)]⟩]
def QaS : LC := (.seq (.seq (.ops QlH) (.cond (.tmp 24) .skip (.exit 0))) (.seq (.block 1 (.seq (.ops QlG) (.seq (.ops QlF) (.seq (.seq (.ops QlE) (.cond (.tmp 37) (.seq (.ops Qjb) .ret) .skip)) (.ops Qja))))) (.ops Qj9)))
def Qj8 : List GO := [qm 45 5, ⟨none, .build 46 [(vi 0), (vi 0)] []⟩, qm 2 45, qw 2 3 46]
def token_Scan_lc : LC := (.seq (.ops QlN) (.seq (.seq (.ops QlM) (.cond (.tmp 11) (.seq (.ops QlL) .ret) .skip)) (.seq (.ops QlK) (.seq (.ops QlJ) (.seq (.seq (.ops QlI) (.block 0 (.loop QaS))) (.seq (.ops Qj8) .ret))))))
@[reducible] def Q3F : FuncId := 34
theorem Qjc : lowF Tryz.prog Tryz.f34 = some token_Scan_lc := by kernel_rfl
theorem QaR {a0 : Value} {w : World} {R : Ending → World → Prop} (h : token_Scan_lc.wp Tryz.prog (retQ Tryz.prog [.tmp 2, .cell 3 29] R) (Qh [a0]) w) : Calls Tryz.prog Q3F ⟨[a0]⟩ w R :=
  Q3 Tryz.func34 Qjc (by kernel_rfl) (by kernel_rfl) h

/- 35 -/
def Qfg : List GO := []
def Qff : List GO := [qm 2 5]
def Qfe : List GO := [qm 6 2, ⟨none, .bin 7 .neq 20 (.tmp 6) (.const .nilIface)⟩]
def Qfd : List GO := [qm 9 2, ⟨none, .raw ⟨(some 10), (.typeAssert (.tmp 9) 20 66 true), 67, "", #[], none⟩⟩, qm 8 10, qx 11 8 0, qx 12 8 1, ⟨none, .alloc 3 66 [(vi 0), (vi 0)]⟩, qw 2 3 11, qm 4 12]
def Qfc : List GO := [qm 13 4, ⟨none, .un 14 .not (.tmp 13)⟩]
def Qfb : List GO := [qm 15 2, ⟨none, .raw ⟨none, (.panic (.tmp 15)), 0, "", #[], none⟩⟩]
def Qfa : List GO := [⟨none, .build 16 [vn] []⟩, qV 17 2 3, qw 1 0 16, qw 2 1 17]
def Qfh : List (List Nat) := [[],[],[0,0],[1,2,0,1,2]]
def parse_Parse_1_ld : LD := (.seq (.sp Qfg (.rcv (some 5)) Qff) (.pl (.seq (.ops Qfe) (.cond (.tmp 7) (.seq (.ops Qfd) (.seq (.seq (.ops Qfc) (.cond (.tmp 14) (.ops Qfb) .skip)) (.draw Qfa Qfh))) .skip))))
@[reducible] def Q5M : FuncId := 35
theorem QcI : QsA Tryz.prog Tryz.f35 = some parse_Parse_1_ld := by kernel_rfl
theorem Q5h {a0 a1 : Value} {u : FrameMode} {w : World} {R : Ending → FrameMode → World → Prop} (h : parse_Parse_1_ld.wpR Tryz.prog (retR Tryz.prog [] R) u (Qh [a0, a1]) w) : CallsD Tryz.prog Q5M ⟨[a0, a1]⟩ u w R :=
  QjL Tryz.func35 QcI (by kernel_rfl) (by kernel_rfl) h

/- 36 -/
def Q5d : List GO := [⟨none, .alloc 2 43 [(vi 0), vn, vn, vn]⟩]
def Q5c : List GO := [qm 4 0, ⟨none, .buildS 5 9 1 [(.string ⟨#[]⟩)] [(0, (1, (.const (.string ⟨#[102, 117, 110, 99]⟩))))]⟩, ⟨none, .call (some 6) 74 [(.tmp 4), (.tmp 5)]⟩]
def Q5b : List GO := [qm 7 0, ⟨none, .call (some 8) 75 [(.tmp 7)]⟩, ⟨none, .build 9 [(vi 0), vn, vn, vn] [(0, (1, (.tmp 8)))]⟩, ⟨none, .alloc 3 43 [(vi 0), vn, vn, vn]⟩, qw 4 3 9]
def Q5a : List GO := [qm 10 0, ⟨none, .call (some 11) 76 [(.tmp 10)]⟩, qf 12 3 1, qs 12 11]
def Q59 : List GO := [qm 13 0, ⟨none, .buildS 14 9 1 [(.string ⟨#[]⟩)] [(0, (1, (.const (.string ⟨#[45, 62]⟩))))]⟩, ⟨none, .call (some 15) 74 [(.tmp 13), (.tmp 14)]⟩]
def Q58 : List GO := [qm 16 0, ⟨none, .call (some 17) 76 [(.tmp 16)]⟩, qf 18 3 2, qs 18 17]
def Q57 : List GO := [qm 19 0, ⟨none, .buildS 20 9 1 [(.string ⟨#[]⟩)] [(0, (1, (.const (.string ⟨#[123]⟩))))]⟩, ⟨none, .call (some 21) 74 [(.tmp 19), (.tmp 20)]⟩]
def Q56 : List GO := [qm 22 0, ⟨none, .call (some 23) 77 [(.tmp 22), (.const (.string ⟨#[98, 108, 111, 99, 107]⟩))]⟩]
def Q55 : List GO := [qf 24 3 3, ql 25 24, qm 26 0, ⟨none, .call (some 27) 78 [(.tmp 26)]⟩, ⟨none, .buildS 28 52 1 [(vi 0), vn, vn, (vi 0), (vi 0), (vi 0), vn, vn, (vi 0), vn, vn, vn] [(0, (12, (.tmp 27)))]⟩, ⟨none, .raw ⟨(some 29), (.call ⟨(.builtin .append), #[(.tmp 25), (.tmp 28)], #[41, 41]⟩), 41, "", #[], none⟩⟩, qf 30 3 3, qs 30 29]
def Q5f : List (List Nat) := [[],[0],[],[2],[3],[1,4,3],[0,1,2,3,4,5],[6,5,5,0,1,2,3,4,5]]
def Q3e : LC := (.seq (.seq (.ops Q56) (.cond (.tmp 23) .skip (.exit 0))) (.block 1 (.draw Q55 Q5f)))
def Q54 : List GO := [qm 31 0, ⟨none, .buildS 32 9 1 [(.string ⟨#[]⟩)] [(0, (1, (.const (.string ⟨#[125]⟩))))]⟩, ⟨none, .call (some 33) 74 [(.tmp 31), (.tmp 32)]⟩]
def Q4Q : List GO := [qV 34 4 3, qw 4 2 34]
def parse_parser_function_lc : LC := (.seq (.ops Q5d) (.seq (.ops Q5c) (.seq (.ops Q5b) (.seq (.ops Q5a) (.seq (.ops Q59) (.seq (.ops Q58) (.seq (.ops Q57) (.seq (.block 0 (.loop Q3e)) (.seq (.ops Q54) (.seq (.ops Q4Q) .ret))))))))))
@[reducible] def Q1V : FuncId := 36
theorem Q4R : lowF Tryz.prog Tryz.f36 = some parse_parser_function_lc := by kernel_rfl
theorem Q5e {a0 : Value} {w : World} {R : Ending → World → Prop} (h : parse_parser_function_lc.wp Tryz.prog (retQ Tryz.prog [.cell 2 43] R) (Qh [a0]) w) : Calls Tryz.prog Q1V ⟨[a0]⟩ w R :=
  Q3 Tryz.func36 Q4R (by kernel_rfl) (by kernel_rfl) h

/- 37 -/
def Qv4 : List GO := [qk 2 vn, ⟨none, .alloc 3 29 [(vi 0), (vi 0)]⟩]
def Qv3 : List GO := [qm 9 0, ⟨none, .slen 10 (.tmp 9)⟩, qj 11 .gtr 3 10 40000]
def Qv2 : List GO := [⟨none, .call (some 12) 30 [(.const (vi 2)), (.const (vi 40000))]⟩, qk 2 vn, qw 2 3 12]
def Qv1 : List GO := [qk 4 vn]
def Qv0 : List GO := [qm 13 0, ⟨none, .call (some 14) 79 [(.tmp 13), (.const (vi 0))]⟩, qm 5 14]
def QuZ : List GO := [qm 15 5, qm 16 0, ⟨none, .slen 17 (.tmp 16)⟩, qt 18 .lss 3 15 17]
def QuY : List GO := [qm 19 5, qm 6 19]
def QuX : List GO := [qm 20 0, qm 21 5, ⟨none, .sidx 22 (.tmp 20) (.tmp 21)⟩, ⟨none, .call (some 23) 80 [(.tmp 22)]⟩]
def QuW : List GO := [qm 24 5, qm 25 0, ⟨none, .slen 26 (.tmp 25)⟩, qt 27 .lss 3 24 26, qm 28 27, qg 28 true (qm 29 0), qg 28 true (qm 30 5), ⟨some (28, true), .sidx 31 (.tmp 29) (.tmp 30)⟩, ⟨some (28, true), .call (some 32) 80 [(.tmp 31)]⟩, ⟨none, .pick 33 (.tmp 28) (.tmp 32) (.const (.bool false))⟩]
def QuV : List GO := [qm 34 5, qj 35 .add 3 34 1, qm 5 35]
def QoW : LC := (.seq (.seq (.ops QuW) (.cond (.tmp 33) .skip (.exit 2))) (.block 3 (.ops QuV)))
def Qt0 : List GO := [qm 36 4, qm 37 6, qm 38 0, qm 39 6, qm 40 5, ⟨none, .ssub 41 (.tmp 38) (some (.tmp 39)) (some (.tmp 40))⟩, ⟨none, .build 42 [(vi 0), (.string ⟨#[]⟩), (.bool false), (vi 0)] [(0, (1, (.tmp 37))), (1, (1, (.tmp 41)))]⟩, ⟨none, .buildS 43 134 1 [(vi 0), (.string ⟨#[]⟩), (.bool false), (vi 0)] [(0, (4, (.tmp 42)))]⟩, ⟨none, .raw ⟨(some 44), (.call ⟨(.builtin .append), #[(.tmp 36), (.tmp 43)], #[72, 72]⟩), 72, "", #[], none⟩⟩, qm 4 44]
def QsZ : List GO := [qm 45 0, qm 46 5, ⟨none, .sidx 47 (.tmp 45) (.tmp 46)⟩, ⟨none, .call (some 48) 81 [(.tmp 47)]⟩]
def QsY : List GO := [qm 49 5, qj 50 .add 3 49 1, qm 5 50]
def QsX : List GO := [qm 51 4, qm 52 6, qm 53 0, qm 54 6, qm 55 5, ⟨none, .ssub 56 (.tmp 53) (some (.tmp 54)) (some (.tmp 55))⟩, ⟨none, .build 57 [(vi 0), (.string ⟨#[]⟩), (.bool false), (vi 0)] [(0, (1, (.tmp 52))), (1, (1, (.tmp 56)))]⟩, ⟨none, .buildS 58 134 1 [(vi 0), (.string ⟨#[]⟩), (.bool false), (vi 0)] [(0, (4, (.tmp 57)))]⟩, ⟨none, .raw ⟨(some 59), (.call ⟨(.builtin .append), #[(.tmp 51), (.tmp 58)], #[72, 72]⟩), 72, "", #[], none⟩⟩, qm 4 59]
def QsW : List GO := [qm 60 0, qm 61 5, ⟨none, .sidx 62 (.tmp 60) (.tmp 61)⟩, ⟨none, .bin 63 .eql 5 (.tmp 62) (.const (.int .u8 45))⟩, qm 64 63, qg 64 true (qm 65 5), qg 64 true (qj 66 .add 3 65 1), qg 64 true (qm 67 0), ⟨some (64, true), .slen 68 (.tmp 67)⟩, qg 64 true (qt 69 .lss 3 66 68), ⟨none, .pick 70 (.tmp 64) (.tmp 69) (.const (.bool false))⟩, qm 71 70, qg 71 true (qm 72 0), qg 71 true (qm 73 5), qg 71 true (qj 74 .add 3 73 1), ⟨some (71, true), .sidx 75 (.tmp 72) (.tmp 74)⟩, ⟨some (71, true), .bin 76 .eql 5 (.tmp 75) (.const (.int .u8 62))⟩, ⟨none, .pick 77 (.tmp 71) (.tmp 76) (.const (.bool false))⟩]
def QsV : List GO := [qm 78 5, qj 79 .add 3 78 2, qm 5 79]
def QsU : List GO := [qm 80 4, qm 81 6, qm 82 0, qm 83 6, qm 84 5, ⟨none, .ssub 85 (.tmp 82) (some (.tmp 83)) (some (.tmp 84))⟩, ⟨none, .build 86 [(vi 0), (.string ⟨#[]⟩), (.bool false), (vi 0)] [(0, (1, (.tmp 81))), (1, (1, (.tmp 85)))]⟩, ⟨none, .buildS 87 134 1 [(vi 0), (.string ⟨#[]⟩), (.bool false), (vi 0)] [(0, (4, (.tmp 86)))]⟩, ⟨none, .raw ⟨(some 88), (.call ⟨(.builtin .append), #[(.tmp 80), (.tmp 87)], #[72, 72]⟩), 72, "", #[], none⟩⟩, qm 4 88]
def QsT : List GO := [qm 89 0, qm 90 5, ⟨none, .sidx 91 (.tmp 89) (.tmp 90)⟩, ⟨none, .call (some 92) 82 [(.tmp 91)]⟩, qm 93 92, qg 93 false (qm 94 0), qg 93 false (qm 95 5), ⟨some (93, false), .sidx 96 (.tmp 94) (.tmp 95)⟩, ⟨some (93, false), .bin 97 .eql 5 (.tmp 96) (.const (.int .u8 45))⟩, qg 93 false (qm 98 97), qg 98 true (qm 99 5), qg 98 true (qj 100 .add 3 99 1), qg 98 true (qm 101 0), ⟨some (98, true), .slen 102 (.tmp 101)⟩, qg 98 true (qt 103 .lss 3 100 102), ⟨some (93, false), .pick 104 (.tmp 98) (.tmp 103) (.const (.bool false))⟩, qg 93 false (qm 105 104), qg 105 true (qm 106 0), qg 105 true (qm 107 5), qg 105 true (qj 108 .add 3 107 1), ⟨some (105, true), .sidx 109 (.tmp 106) (.tmp 108)⟩, ⟨some (105, true), .call (some 110) 82 [(.tmp 109)]⟩, ⟨some (93, false), .pick 111 (.tmp 105) (.tmp 110) (.const (.bool false))⟩, ⟨none, .pick 112 (.tmp 93) (.const (.bool true)) (.tmp 111)⟩]
def QsS : List GO := [qm 113 5, qj 114 .add 3 113 1, qm 5 114]
def QsR : List GO := [qm 115 5, qm 116 0, ⟨none, .slen 117 (.tmp 116)⟩, qt 118 .lss 3 115 117, qm 119 118, qg 119 true (qm 120 0), qg 119 true (qm 121 5), ⟨some (119, true), .sidx 122 (.tmp 120) (.tmp 121)⟩, ⟨some (119, true), .call (some 123) 82 [(.tmp 122)]⟩, ⟨none, .pick 124 (.tmp 119) (.tmp 123) (.const (.bool false))⟩]
def QsQ : List GO := [qm 125 5, qj 126 .add 3 125 1, qm 5 126]
def Qlj : LC := (.seq (.seq (.ops QsR) (.cond (.tmp 124) .skip (.exit 4))) (.block 5 (.ops QsQ)))
def QsP : List GO := [qm 128 0, qm 129 6, qm 130 5, ⟨none, .ssub 131 (.tmp 128) (some (.tmp 129)) (some (.tmp 130))⟩, ⟨none, .call (some 132) 83 [(.tmp 131)]⟩, qm 127 132, qx 133 127 0, qx 134 127 1, qm 7 133, qm 8 134]
def QsO : List GO := [qm 135 8, ⟨none, .un 136 .not (.tmp 135)⟩]
def QsN : List GO := [qm 137 6, ⟨none, .call (some 138) 30 [(.const (vi 8)), (.tmp 137)]⟩, qk 2 vn, qw 2 3 138]
def QsM : List GO := [qm 139 4, qm 140 6, qm 141 0, qm 142 6, qm 143 5, ⟨none, .ssub 144 (.tmp 141) (some (.tmp 142)) (some (.tmp 143))⟩, qm 145 7, ⟨none, .build 146 [(vi 0), (.string ⟨#[]⟩), (.bool false), (vi 0)] [(0, (1, (.tmp 140))), (1, (1, (.tmp 144))), (2, (1, (.const (.bool true)))), (3, (1, (.tmp 145)))]⟩, ⟨none, .buildS 147 134 1 [(vi 0), (.string ⟨#[]⟩), (.bool false), (vi 0)] [(0, (4, (.tmp 146)))]⟩, ⟨none, .raw ⟨(some 148), (.call ⟨(.builtin .append), #[(.tmp 139), (.tmp 147)], #[72, 72]⟩), 72, "", #[], none⟩⟩, qm 4 148]
def QsL : List GO := [qm 149 6, ⟨none, .call (some 150) 30 [(.const (vi 6)), (.tmp 149)]⟩, qk 2 vn, qw 2 3 150]
def QsK : List GO := [qm 151 0, qm 152 5, ⟨none, .call (some 153) 79 [(.tmp 151), (.tmp 152)]⟩, qm 5 153]
def QoX : LC := (.seq (.seq (.ops QuZ) (.cond (.tmp 18) .skip (.exit 0))) (.block 1 (.seq (.ops QuY) (.seq (.seq (.ops QuX) (.cond (.tmp 23) (.seq (.block 2 (.loop QoW)) (.ops Qt0)) (.seq (.ops QsZ) (.cond (.tmp 48) (.seq (.ops QsY) (.ops QsX)) (.seq (.ops QsW) (.cond (.tmp 77) (.seq (.ops QsV) (.ops QsU)) (.seq (.ops QsT) (.cond (.tmp 112) (.seq (.ops QsS) (.seq (.block 4 (.loop Qlj)) (.seq (.ops QsP) (.seq (.seq (.ops QsO) (.cond (.tmp 136) (.seq (.ops QsN) .ret) .skip)) (.ops QsM))))) (.seq (.ops QsL) .ret))))))))) (.ops QsK)))))
def QsJ : List GO := [qm 154 4, ⟨none, .build 155 [(vi 0), (vi 0)] []⟩, qm 2 154, qw 2 3 155]
def R_Scan_lc : LC := (.seq (.ops Qv4) (.seq (.seq (.ops Qv3) (.cond (.tmp 11) (.seq (.ops Qv2) .ret) .skip)) (.seq (.ops Qv1) (.seq (.ops Qv0) (.seq (.block 0 (.loop QoX)) (.seq (.ops QsJ) .ret))))))
@[reducible] def Q3D : FuncId := 37
theorem Qt1 : lowF Tryz.prog Tryz.f37 = some R_Scan_lc := by kernel_rfl
theorem Qv5 {a0 : Value} {w : World} {R : Ending → World → Prop} (h : R_Scan_lc.wp Tryz.prog (retQ Tryz.prog [.tmp 2, .cell 3 29] R) (Qh [a0]) w) : Calls Tryz.prog Q3D ⟨[a0]⟩ w R :=
  Q3 Tryz.func37 Qt1 (by kernel_rfl) (by kernel_rfl) h

/- 38 -/
def QhL : List GO := [qk 2 (.bool false)]
def QhK : List GO := [qm 3 0, qn 4 3, qf 5 4 3, qf 6 5 0, ql 7 6, qj 8 .eql 3 7 0, qm 2 8]
def R_reading_ok_lc : LC := (.seq (.ops QhL) (.seq (.ops QhK) .ret))
@[reducible] def Qf5 : FuncId := 38
theorem QfC : lowF Tryz.prog Tryz.f38 = some R_reading_ok_lc := by kernel_rfl
theorem QhM {a0 : Value} {w : World} {R : Ending → World → Prop} (h : R_reading_ok_lc.wp Tryz.prog (retQ Tryz.prog [.tmp 2] R) (Qh [a0]) w) : Calls Tryz.prog Qf5 ⟨[a0]⟩ w R :=
  Q3 Tryz.func38 QfC (by kernel_rfl) (by kernel_rfl) h

/- 39 -/
def Qdw : List GO := [qm 4 0, qm 5 1, ⟨none, .call (some 6) 42 [(.tmp 4), (.tmp 5)]⟩]
def Qdv : List GO := [qm 7 0, qn 8 7, qf 9 8 2, ql 10 9, qj 11 .add 3 10 1, qn 12 7, qf 13 12 2, qs 13 11]
def Qdu : List GO := [qm 14 0, ⟨none, .call (some 15) 84 [(.tmp 14), (.const (vi 4))]⟩]
def R_reading_must_lc : LC := (.seq (.ops Qdw) (.cond (.tmp 6) (.ops Qdv) (.ops Qdu)))
@[reducible] def Q9R : FuncId := 39
theorem Qc0 : lowF Tryz.prog Tryz.f39 = some R_reading_must_lc := by kernel_rfl
theorem Q3K {a0 a1 : Value} {w : World} {R : Ending → World → Prop} (h : R_reading_must_lc.wp Tryz.prog (retQ Tryz.prog [] R) (Qh [a0, a1]) w) : Calls Tryz.prog Q9R ⟨[a0, a1]⟩ w R :=
  Q3 Tryz.func39 Qc0 (by kernel_rfl) (by kernel_rfl) h

/- 40 -/
def QfG : List GO := [qk 2 (vi 0)]
def QfF : List GO := [qm 3 0, ⟨none, .call (some 4) 38 [(.tmp 3)]⟩, qm 5 4, qg 5 true (qm 6 0), qg 5 true (qn 7 6), qg 5 true (qf 8 7 2), qg 5 true (ql 9 8), qg 5 true (qm 10 0), qg 5 true (qn 11 10), qg 5 true (qf 12 11 0), qg 5 true (ql 13 12), qg 5 true (qL 14 13), qg 5 true (qt 15 .lss 3 9 14), ⟨none, .pick 16 (.tmp 5) (.tmp 15) (.const (.bool false))⟩, qm 17 16, qg 17 true (qm 18 0), qg 17 true (qn 19 18), qg 17 true (qf 20 19 0), qg 17 true (ql 21 20), qg 17 true (qm 22 0), qg 17 true (qn 23 22), qg 17 true (qf 24 23 2), qg 17 true (ql 25 24), qg 17 true (qi 26 4 21 25), qg 17 true (qf 27 26 2), qg 17 true (ql 28 27), ⟨none, .pick 29 (.tmp 17) (.tmp 28) (.const (.bool false))⟩, qm 30 29, qg 30 true (qm 31 0), qg 30 true (qn 32 31), qg 30 true (qf 33 32 0), qg 30 true (ql 34 33), qg 30 true (qm 35 0), qg 30 true (qn 36 35), qg 30 true (qf 37 36 2), qg 30 true (ql 38 37), qg 30 true (qi 39 4 34 38), qg 30 true (qf 40 39 3), qg 30 true (ql 41 40), qg 30 true (qj 42 .lss 2 41 0), qg 30 true (qm 43 42), qg 43 false (qm 44 0), qg 43 false (qn 45 44), qg 43 false (qf 46 45 0), qg 43 false (ql 47 46), qg 43 false (qm 48 0), qg 43 false (qn 49 48), qg 43 false (qf 50 49 2), qg 43 false (ql 51 50), qg 43 false (qi 52 4 47 51), qg 43 false (qf 53 52 3), qg 43 false (ql 54 53), qg 43 false (qj 55 .gtr 2 54 1000000), ⟨some (30, true), .pick 56 (.tmp 43) (.const (.bool true)) (.tmp 55)⟩, ⟨none, .pick 57 (.tmp 30) (.tmp 56) (.const (.bool false))⟩]
def QfH : List (List Nat) := [[],[0],[1,1],[2],[3,2],[4,2],[5,2],[2],[7,2],[8,2],[9,2],[10,2],[6,11,2],[2,12],[13,2],[14],[15,14],[16,14],[17,14],[14],[19,14],[20,14],[21,14],[18,22,14],[23,14],[24,14],[14,25],[26,14],[27],[28,27],[29,27],[30,27],[27],[32,27],[33,27],[34,27],[31,35,27],[36,27],[37,27],[38,27],[39,27,27],[40],[41,40],[42,40],[43,40],[40],[45,40],[46,40],[47,40],[44,48,40],[49,40],[50,40],[51,40],[40,52,27],[27,53]]
def QfE : List GO := [qm 58 0, ⟨none, .call (some 59) 84 [(.tmp 58), (.const (vi 8))]⟩]
def QfD : List GO := [qm 60 0, ⟨none, .call (some 61) 85 [(.tmp 60)]⟩, qm 2 61]
def R_reading_num_lc : LC := (.seq (.ops QfG) (.seq (.seq (.draw QfF QfH) (.cond (.tmp 57) (.ops QfE) .skip)) (.seq (.ops QfD) .ret)))
@[reducible] def QbZ : FuncId := 40
theorem Qdt : lowF Tryz.prog Tryz.f40 = some R_reading_num_lc := by kernel_rfl
theorem Q1T {a0 : Value} {w : World} {R : Ending → World → Prop} (h : R_reading_num_lc.wp Tryz.prog (retQ Tryz.prog [.tmp 2] R) (Qh [a0]) w) : Calls Tryz.prog QbZ ⟨[a0]⟩ w R :=
  Q3 Tryz.func40 Qdt (by kernel_rfl) (by kernel_rfl) h

/- 41 -/
def QbW : List GO := [qk 4 vn]
def QbV : List GO := [qk 5 vn]
def QbU : List GO := [qm 6 0, ⟨none, .call (some 7) 39 [(.tmp 6), (.const (.string ⟨#[40]⟩))]⟩]
def QbT : List GO := [qm 8 0, qm 9 5, qL 10 9, ⟨none, .call (some 11) 86 [(.tmp 8), (.const (.string ⟨#[41]⟩)), (.tmp 10)]⟩]
def QbS : List GO := [qm 12 5, qm 13 0, qm 14 1, ⟨none, .call (some 15) 87 [(.tmp 13), (.tmp 14)]⟩, ⟨none, .buildS 16 91 1 [(vi 0), (vi 0), vn] [(0, (3, (.tmp 15)))]⟩, ⟨none, .raw ⟨(some 17), (.call ⟨(.builtin .append), #[(.tmp 12), (.tmp 16)], #[40, 40]⟩), 40, "", #[], none⟩⟩, qm 5 17]
def Q4C : LC := (.seq (.seq (.ops QbT) (.cond (.tmp 11) .skip (.exit 0))) (.block 1 (.ops QbS)))
def QbR : List GO := [qm 18 0, ⟨none, .call (some 19) 39 [(.tmp 18), (.const (.string ⟨#[41]⟩))]⟩]
def QbQ : List GO := [qm 20 5, qm 4 20]
def R_reading_types_lc : LC := (.seq (.ops QbW) (.seq (.ops QbV) (.seq (.ops QbU) (.seq (.block 0 (.loop Q4C)) (.seq (.ops QbR) (.seq (.ops QbQ) .ret))))))
@[reducible] def Q2y : FuncId := 41
theorem QaN : lowF Tryz.prog Tryz.f41 = some R_reading_types_lc := by kernel_rfl
theorem QbX {a0 a1 : Value} {w : World} {R : Ending → World → Prop} (h : R_reading_types_lc.wp Tryz.prog (retQ Tryz.prog [.tmp 4] R) (Qh [a0, a1]) w) : Calls Tryz.prog Q2y ⟨[a0, a1]⟩ w R :=
  Q3 Tryz.func41 QaN (by kernel_rfl) (by kernel_rfl) h

/- 42 -/
def QhO : List GO := [qk 4 (.bool false)]
def QhN : List GO := [qm 5 0, ⟨none, .call (some 6) 38 [(.tmp 5)]⟩, qm 7 6, qg 7 true (qm 8 0), qg 7 true (qn 9 8), qg 7 true (qf 10 9 2), qg 7 true (ql 11 10), qg 7 true (qm 12 0), qg 7 true (qn 13 12), qg 7 true (qf 14 13 0), qg 7 true (ql 15 14), qg 7 true (qL 16 15), qg 7 true (qt 17 .lss 3 11 16), ⟨none, .pick 18 (.tmp 7) (.tmp 17) (.const (.bool false))⟩, qm 19 18, qg 19 true (qm 20 0), qg 19 true (qn 21 20), qg 19 true (qf 22 21 0), qg 19 true (ql 23 22), qg 19 true (qm 24 0), qg 19 true (qn 25 24), qg 19 true (qf 26 25 2), qg 19 true (ql 27 26), qg 19 true (qi 28 4 23 27), qg 19 true (qf 29 28 2), qg 19 true (ql 30 29), ⟨some (19, true), .un 31 .not (.tmp 30)⟩, ⟨none, .pick 32 (.tmp 19) (.tmp 31) (.const (.bool false))⟩, qm 33 32, qg 33 true (qm 34 0), qg 33 true (qn 35 34), qg 33 true (qf 36 35 0), qg 33 true (ql 37 36), qg 33 true (qm 38 0), qg 33 true (qn 39 38), qg 33 true (qf 40 39 2), qg 33 true (ql 41 40), qg 33 true (qi 42 4 37 41), qg 33 true (qf 43 42 1), qg 33 true (ql 44 43), qg 33 true (qm 45 1), qg 33 true (qt 46 .eql 9 44 45), ⟨none, .pick 47 (.tmp 33) (.tmp 46) (.const (.bool false))⟩, qm 4 47]
def QhP : List (List Nat) := [[],[0],[1,1],[2],[3,2],[4,2],[5,2],[2],[7,2],[8,2],[9,2],[10,2],[6,11,2],[2,12],[13,2],[14],[15,14],[16,14],[17,14],[14],[19,14],[20,14],[21,14],[18,22,14],[23,14],[24,14],[25,14],[14,26],[27,14],[28],[29,28],[30,28],[31,28],[28],[33,28],[34,28],[35,28],[32,36,28],[37,28],[38,28],[28],[39,40,28],[28,41],[42,28,0,1,2,3,4,5,6,7,8,9,10,11,12,13,14,15,16,17,18,19,20,21,22,23,24,25,26,27,28,29,30,31,32,33,34,35,36,37,38,39,40,41,42]]
def R_reading_is_lc : LC := (.seq (.ops QhO) (.seq (.draw QhN QhP) .ret))
@[reducible] def Qf6 : FuncId := 42
theorem QfI : lowF Tryz.prog Tryz.f42 = some R_reading_is_lc := by kernel_rfl
theorem Q3w {a0 a1 : Value} {w : World} {R : Ending → World → Prop} (h : R_reading_is_lc.wp Tryz.prog (retQ Tryz.prog [.tmp 4] R) (Qh [a0, a1]) w) : Calls Tryz.prog Qf6 ⟨[a0, a1]⟩ w R :=
  Q3 Tryz.func42 QfI (by kernel_rfl) (by kernel_rfl) h

/- 43 -/
def QfS : List GO := [⟨none, .alloc 2 54 [(vi 0), (vi 0), (vi 0), (vi 0), (vi 0), (vi 0), vn, vn]⟩, qk 3 (.bool false)]
def QfR : List GO := [⟨none, .alloc 4 54 [(vi 0), (vi 0), (vi 0), (vi 0), (vi 0), (vi 0), vn, vn]⟩]
def QfQ : List GO := [qk 5 (vi 1)]
def QfP : List GO := [qm 7 5, qj 8 .leq 3 7 14]
def QfO : List GO := [qm 11 0, qm 12 5, ⟨none, .call (some 13) 17 [(.tmp 12)]⟩, ⟨none, .call (some 14) 42 [(.tmp 11), (.tmp 13)]⟩]
def QfN : List GO := [qm 15 5, qf 16 4 0, qs 16 15]
def QfM : List GO := [qm 9 5, qj 10 .add 3 9 1, qm 5 10]
def Q3Z : LC := (.seq (.seq (.ops QfP) (.cond (.tmp 8) .skip (.exit 0))) (.seq (.block 1 (.seq (.ops QfO) (.cond (.tmp 14) (.ops QfN) .skip))) (.ops QfM)))
def QfL : List GO := [qf 17 4 0, ql 18 17, qj 19 .eql 3 18 0]
def QfK : List GO := [qV 20 8 4, qw 8 2 20, qk 3 (.bool false)]
def QfJ : List GO := [qm 21 0, qn 22 21, qf 23 22 2, ql 24 23, qj 25 .add 3 24 1, qn 26 21, qf 27 26 2, qs 27 25]
def Qes : List GO := [qf 28 4 0, ql 29 28]
def Qer : List GO := [qj 31 .eql 3 29 1, qm 30 31]
def Qeq : List GO := [qm 32 0, ⟨none, .call (some 33) 85 [(.tmp 32)]⟩, qf 34 4 5, qs 34 33]
def Qep : List GO := [qj 36 .eql 3 29 2, qm 35 36]
def Qeo : List GO := [qk 6 (vi 1)]
def Qen : List GO := [qm 37 6, qj 38 .leq 3 37 9]
def Qem : List GO := [qm 41 0, qm 42 6, ⟨none, .call (some 43) 19 [(.tmp 42)]⟩, ⟨none, .call (some 44) 42 [(.tmp 41), (.tmp 43)]⟩]
def Qel : List GO := [qm 45 6, qf 46 4 4, qs 46 45]
def Qek : List GO := [qm 39 6, qj 40 .add 3 39 1, qm 6 40]
def Q5l : LC := (.seq (.seq (.ops Qen) (.cond (.tmp 38) .skip (.exit 3))) (.seq (.block 4 (.seq (.ops Qem) (.cond (.tmp 44) (.ops Qel) .skip))) (.ops Qek)))
def Qej : List GO := [qf 47 4 4, ql 48 47, qj 49 .eql 3 48 0]
def Qei : List GO := [qm 50 0, ⟨none, .call (some 51) 84 [(.tmp 50), (.const (vi 4))]⟩]
def Qeh : List GO := [qm 52 0, qn 53 52, qf 54 53 2, ql 55 54, qj 56 .add 3 55 1, qn 57 52, qf 58 57 2, qs 58 56]
def Qeg : List GO := [qm 59 0, ⟨none, .call (some 60) 40 [(.tmp 59)]⟩, qf 61 4 1, qs 61 60]
def Qef : List GO := [qm 62 0, ⟨none, .call (some 63) 40 [(.tmp 62)]⟩, qf 64 4 2, qs 64 63]
def Qee : List GO := [qj 66 .eql 3 29 5, qm 65 66]
def Qed : List GO := [qm 67 0, ⟨none, .call (some 68) 40 [(.tmp 67)]⟩, qf 69 4 1, qs 69 68]
def Qec : List GO := [qm 70 0, ⟨none, .call (some 71) 88 [(.tmp 70), (.const (.string ⟨#[40]⟩)), (.const (.string ⟨#[41]⟩))]⟩, qf 72 4 7, qs 72 71]
def Qeb : List GO := [qj 74 .eql 3 29 6, qm 73 74]
def Qea : List GO := [qj 75 .eql 3 29 7, qm 73 75]
def Qe9 : List GO := [qm 76 0, ⟨none, .call (some 77) 40 [(.tmp 76)]⟩, qf 78 4 1, qs 78 77]
def Qe8 : List GO := [qm 79 0, ⟨none, .call (some 80) 40 [(.tmp 79)]⟩, qf 81 4 4, qs 81 80]
def Qe7 : List GO := [qf 82 4 0, ql 83 82, qj 84 .eql 3 83 7]
def Qe6 : List GO := [qm 85 0, ⟨none, .call (some 86) 40 [(.tmp 85)]⟩, qf 87 4 2, qs 87 86]
def Qe5 : List GO := [qj 89 .eql 3 29 14, qm 88 89]
def Qe4 : List GO := [qm 90 0, ⟨none, .call (some 91) 40 [(.tmp 90)]⟩, qf 92 4 4, qs 92 91]
def Qe3 : List GO := [qm 93 0, ⟨none, .call (some 94) 88 [(.tmp 93), (.const (.string ⟨#[60]⟩)), (.const (.string ⟨#[62]⟩))]⟩, qf 95 4 6, qs 95 94]
def Qe2 : List GO := [qm 96 0, ⟨none, .call (some 97) 88 [(.tmp 96), (.const (.string ⟨#[40]⟩)), (.const (.string ⟨#[41]⟩))]⟩, qf 98 4 7, qs 98 97]
def Qe1 : List GO := [qj 100 .eql 3 29 4, qm 99 100]
def Qe0 : List GO := [qj 101 .eql 3 29 11, qm 99 101]
def QdZ : List GO := [qj 102 .eql 3 29 13, qm 99 102]
def QdY : List GO := [qm 103 0, ⟨none, .call (some 104) 40 [(.tmp 103)]⟩, qf 105 4 1, qs 105 104]
def QdX : List GO := [qj 107 .eql 3 29 8, qm 106 107]
def QdW : List GO := [qj 108 .eql 3 29 9, qm 106 108]
def QdV : List GO := [qj 109 .eql 3 29 10, qm 106 109]
def QdU : List GO := [qm 110 0, ⟨none, .call (some 111) 40 [(.tmp 110)]⟩, qf 112 4 1, qs 112 111]
def QdT : List GO := [qm 113 0, ⟨none, .call (some 114) 40 [(.tmp 113)]⟩, qf 115 4 2, qs 115 114]
def QdS : List GO := [qf 116 4 0, ql 117 116, qj 118 .eql 3 117 10]
def QdR : List GO := [qm 119 0, ⟨none, .call (some 120) 40 [(.tmp 119)]⟩, qf 121 4 3, qs 121 120]
def QdQ : List GO := [qm 122 0, ⟨none, .call (some 123) 39 [(.tmp 122), (.const (.string ⟨#[59]⟩))]⟩]
def QdP : List GO := [qV 124 8 4, qm 125 0, ⟨none, .call (some 126) 38 [(.tmp 125)]⟩, qw 8 2 124, qm 3 126]
def Qeu : List (List Nat) := [[],[],[1],[0,2,0],[2,3,0,1,2,3]]
def R_reading_ins_lc : LC := (.seq (.ops QfS) (.seq (.ops QfR) (.seq (.seq (.ops QfQ) (.block 0 (.loop Q3Z))) (.seq (.seq (.ops QfL) (.cond (.tmp 19) (.seq (.ops QfK) .ret) .skip)) (.seq (.ops QfJ) (.seq (.seq (.ops Qes) (.block 2 (.seq (.ops Qer) (.cond (.tmp 30) (.ops Qeq) (.seq (.ops Qep) (.cond (.tmp 35) (.seq (.seq (.ops Qeo) (.block 3 (.loop Q5l))) (.seq (.seq (.ops Qej) (.cond (.tmp 49) (.ops Qei) (.ops Qeh))) (.seq (.ops Qeg) (.ops Qef)))) (.seq (.ops Qee) (.cond (.tmp 65) (.seq (.ops Qed) (.ops Qec)) (.seq (.seq (.ops Qeb) (.cond (.tmp 73) .skip (.ops Qea))) (.cond (.tmp 73) (.seq (.ops Qe9) (.seq (.ops Qe8) (.seq (.ops Qe7) (.cond (.tmp 84) (.ops Qe6) .skip)))) (.seq (.ops Qe5) (.cond (.tmp 88) (.seq (.ops Qe4) (.seq (.ops Qe3) (.ops Qe2))) (.seq (.seq (.ops Qe1) (.cond (.tmp 99) .skip (.seq (.ops Qe0) (.cond (.tmp 99) .skip (.ops QdZ))))) (.cond (.tmp 99) (.ops QdY) (.seq (.seq (.ops QdX) (.cond (.tmp 106) .skip (.seq (.ops QdW) (.cond (.tmp 106) .skip (.ops QdV))))) (.cond (.tmp 106) (.seq (.ops QdU) (.seq (.ops QdT) (.seq (.ops QdS) (.cond (.tmp 118) (.ops QdR) .skip)))) .skip)))))))))))))))) (.seq (.ops QdQ) (.seq (.draw QdP Qeu) .ret))))))))
@[reducible] def Qc : FuncId := 43
theorem Qet : lowF Tryz.prog Tryz.f43 = some R_reading_ins_lc := by kernel_rfl
theorem Q5W {a0 : Value} {w : World} {R : Ending → World → Prop} (h : R_reading_ins_lc.wp Tryz.prog (retQ Tryz.prog [.cell 2 54, .tmp 3] R) (Qh [a0]) w) : Calls Tryz.prog Qc ⟨[a0]⟩ w R :=
  Q3 Tryz.func43 Qet (by kernel_rfl) (by kernel_rfl) h

/- 44 -/
def QeE : List GO := [⟨none, .alloc 2 50 [(vi 0), (vi 0), (vi 0), vn, vn, (vi 0), vn, vn, vn]⟩]
def QeD : List GO := [⟨none, .alloc 3 50 [(vi 0), (vi 0), (vi 0), vn, vn, (vi 0), vn, vn, vn]⟩]
def QeC : List GO := [qm 4 0, ⟨none, .call (some 5) 42 [(.tmp 4), (.const (.string ⟨#[106, 117, 109, 112]⟩))]⟩]
def QeB : List GO := [qm 6 0, qn 7 6, qf 8 7 2, ql 9 8, qj 10 .add 3 9 1, qn 11 6, qf 12 11 2, qs 12 10]
def QeA : List GO := [qf 13 3 0, ⟨none, .store1 (.tmp 13) (.const (vi 1))⟩]
def Qez : List GO := [qm 14 0, ⟨none, .call (some 15) 89 [(.tmp 14)]⟩, qf 16 3 2, qw 3 16 15]
def Qey : List GO := [qm 17 0, ⟨none, .call (some 18) 42 [(.tmp 17), (.const (.string ⟨#[105, 102]⟩))]⟩]
def Qex : List GO := [qm 19 0, qn 20 19, qf 21 20 2, ql 22 21, qj 23 .add 3 22 1, qn 24 19, qf 25 24 2, qs 25 23]
def Qew : List GO := [qf 26 3 0, ⟨none, .store1 (.tmp 26) (.const (vi 2))⟩]
def Qev : List GO := [qm 27 0, ⟨none, .call (some 28) 40 [(.tmp 27)]⟩, qf 29 3 1, qs 29 28]
def Qcb : List GO := [qm 30 0, ⟨none, .call (some 31) 39 [(.tmp 30), (.const (.string ⟨#[116, 111]⟩))]⟩]
def Qca : List GO := [qm 32 0, ⟨none, .call (some 33) 89 [(.tmp 32)]⟩, qf 34 3 2, qw 3 34 33]
def Qc9 : List GO := [qm 35 0, ⟨none, .call (some 36) 39 [(.tmp 35), (.const (.string ⟨#[101, 108, 115, 101]⟩))]⟩]
def Qc8 : List GO := [qm 37 0, ⟨none, .call (some 38) 89 [(.tmp 37)]⟩, qf 39 3 5, qw 3 39 38]
def Qc7 : List GO := [qm 40 0, ⟨none, .call (some 41) 39 [(.tmp 40), (.const (.string ⟨#[114, 101, 116]⟩))]⟩]
def Qc6 : List GO := [qf 42 3 0, ⟨none, .store1 (.tmp 42) (.const (vi 3))⟩]
def Qc5 : List GO := [qm 43 0, ⟨none, .call (some 44) 88 [(.tmp 43), (.const (.string ⟨#[40]⟩)), (.const (.string ⟨#[41]⟩))]⟩, qf 45 3 8, qs 45 44]
def Qc4 : List GO := [qm 46 0, ⟨none, .call (some 47) 39 [(.tmp 46), (.const (.string ⟨#[59]⟩))]⟩]
def Qc3 : List GO := [qV 48 9 3, qw 9 2 48]
def R_reading_ends_lc : LC := (.seq (.ops QeE) (.seq (.ops QeD) (.seq (.seq (.ops QeC) (.cond (.tmp 5) (.seq (.ops QeB) (.seq (.ops QeA) (.ops Qez))) (.seq (.ops Qey) (.cond (.tmp 18) (.seq (.ops Qex) (.seq (.ops Qew) (.seq (.ops Qev) (.seq (.ops Qcb) (.seq (.ops Qca) (.seq (.ops Qc9) (.ops Qc8))))))) (.seq (.ops Qc7) (.seq (.ops Qc6) (.ops Qc5))))))) (.seq (.ops Qc4) (.seq (.ops Qc3) .ret)))))
@[reducible] def Q2a : FuncId := 44
theorem Qcc : lowF Tryz.prog Tryz.f44 = some R_reading_ends_lc := by kernel_rfl
theorem QeF {a0 : Value} {w : World} {R : Ending → World → Prop} (h : R_reading_ends_lc.wp Tryz.prog (retQ Tryz.prog [.cell 2 50] R) (Qh [a0]) w) : Calls Tryz.prog Q2a ⟨[a0]⟩ w R :=
  Q3 Tryz.func44 Qcc (by kernel_rfl) (by kernel_rfl) h

/- 45 -/
def Qru : List GO := [qk 2 (vi 0)]
def Qrt : List GO := [qm 3 0, ⟨none, .bin 4 .mul 3 (.const (vi 10000)) (.tmp 3)⟩, qj 5 .add 3 4 9999, qm 2 5]
def R_AtFunc_lc : LC := (.seq (.ops Qru) (.seq (.ops Qrt) .ret))
@[reducible] def Qsf : FuncId := 45
theorem Qpo : lowF Tryz.prog Tryz.f45 = some R_AtFunc_lc := by kernel_rfl
theorem Qrv {a0 : Value} {w : World} {R : Ending → World → Prop} (h : R_AtFunc_lc.wp Tryz.prog (retQ Tryz.prog [.tmp 2] R) (Qh [a0]) w) : Calls Tryz.prog Qsf ⟨[a0]⟩ w R :=
  Q3 Tryz.func45 Qpo (by kernel_rfl) (by kernel_rfl) h

/- 46 -/
def Qn0 : List GO := [qk 4 (vi 0)]
def QmZ : List GO := [qm 7 0, qL 8 7, qj 9 .gtr 3 8 8]
def QmY : List GO := [qk 4 (vi 2)]
def QmX : List GO := [qk 5 (vi 0)]
def QmW : List GO := [qm 10 5, qm 11 0, qL 12 11, qt 13 .lss 3 10 12]
def QmV : List GO := [qm 16 0, qm 17 5, qi 18 3 16 17, qV 19 3 18, qm 20 1, ⟨none, .call (some 21) 90 [(.tmp 19), (.tmp 20)]⟩, qm 6 21]
def QmU : List GO := [qm 22 6, qj 23 .neq 3 22 0]
def QmT : List GO := [qm 24 6, qm 4 24]
def QmS : List GO := [qm 14 5, qj 15 .add 3 14 1, qm 5 15]
def Qcd : LC := (.seq (.seq (.ops QmW) (.cond (.tmp 13) .skip (.exit 0))) (.seq (.block 1 (.seq (.ops QmV) (.seq (.ops QmU) (.cond (.tmp 23) (.seq (.ops QmT) .ret) .skip)))) (.ops QmS)))
def QmR : List GO := [qk 4 (vi 0)]
def R_listForm_lc : LC := (.seq (.ops Qn0) (.seq (.seq (.ops QmZ) (.cond (.tmp 9) (.seq (.ops QmY) .ret) .skip)) (.seq (.seq (.ops QmX) (.block 0 (.loop Qcd))) (.seq (.ops QmR) .ret))))
@[reducible] def Q4c : FuncId := 46
theorem Qk9 : lowF Tryz.prog Tryz.f46 = some R_listForm_lc := by kernel_rfl
theorem Qn1 {a0 a1 : Value} {w : World} {R : Ending → World → Prop} (h : R_listForm_lc.wp Tryz.prog (retQ Tryz.prog [.tmp 4] R) (Qh [a0, a1]) w) : Calls Tryz.prog Q4c ⟨[a0, a1]⟩ w R :=
  Q3 Tryz.func46 Qk9 (by kernel_rfl) (by kernel_rfl) h

/- 47 -/
def Qi0 : List GO := [qb 3 24 0, ⟨none, .alloc 6 29 [(vi 0), (vi 0)]⟩]
def QhZ : List GO := [qf 13 3 0, ql 14 13, qm 15 1, qi 16 4 14 15, qV 17 4 16, ⟨none, .alloc 7 43 [(vi 0), vn, vn, vn]⟩, qw 4 7 17]
def QhY : List GO := [qf 18 7 3, ql 19 18, qm 20 2, qi 21 12 19 20, qV 22 12 21, ⟨none, .alloc 8 52 [(vi 0), vn, vn, (vi 0), (vi 0), (vi 0), vn, vn, (vi 0), vn, vn, vn]⟩, qw 12 8 22]
def QhX : List GO := [qf 23 8 0, ql 24 23, qf 25 7 0, ql 26 25, qt 27 .lss 3 24 26, qm 28 27, qg 28 false (qf 29 8 0), qg 28 false (ql 30 29), qg 28 false (qj 31 .gtr 3 30 16), ⟨none, .pick 32 (.tmp 28) (.const (.bool true)) (.tmp 31)⟩]
def QhW : List GO := [qm 33 1, qm 34 2, ⟨none, .call (some 35) 91 [(.tmp 33), (.tmp 34)]⟩, ⟨none, .call (some 36) 30 [(.const (vi 1)), (.tmp 35)]⟩, qw 2 6 36]
def QhV : List GO := [qf 37 8 1, ql 38 37, qf 39 8 0, ql 40 39, ⟨none, .call (some 41) 46 [(.tmp 38), (.tmp 40)]⟩, qm 9 41]
def QhU : List GO := [qm 42 9, qj 43 .neq 3 42 0]
def QhT : List GO := [qm 44 9, qm 45 1, qm 46 2, ⟨none, .call (some 47) 91 [(.tmp 45), (.tmp 46)]⟩, ⟨none, .call (some 48) 30 [(.tmp 44), (.tmp 47)]⟩, qw 2 6 48]
def QhS : List GO := [qm 49 2, qj 50 .eql 3 49 0, qm 51 50, qg 51 true (qf 52 8 0), qg 51 true (ql 53 52), qg 51 true (qf 54 7 0), qg 51 true (ql 55 54), qg 51 true (qt 56 .neq 3 53 55), qg 51 true (qm 57 56), qg 57 false (qf 58 8 1), qg 57 false (ql 59 58), qg 57 false (qf 60 7 1), qg 57 false (ql 61 60), ⟨some (57, false), .call (some 62) 32 [(.tmp 59), (.tmp 61)]⟩, ⟨some (57, false), .un 63 .not (.tmp 62)⟩, ⟨some (51, true), .pick 64 (.tmp 57) (.const (.bool true)) (.tmp 63)⟩, ⟨none, .pick 65 (.tmp 51) (.tmp 64) (.const (.bool false))⟩]
def QhR : List GO := [qm 66 1, qm 67 2, ⟨none, .call (some 68) 91 [(.tmp 66), (.tmp 67)]⟩, ⟨none, .call (some 69) 30 [(.const (vi 9)), (.tmp 68)]⟩, qw 2 6 69]
def Qg4 : List GO := [qf 70 8 2, ql 71 70, qL 72 71, qj 73 .gtr 3 72 40]
def Qg3 : List GO := [qm 74 1, qm 75 2, ⟨none, .call (some 76) 91 [(.tmp 74), (.tmp 75)]⟩, ⟨none, .call (some 77) 30 [(.const (vi 2)), (.tmp 76)]⟩, qw 2 6 77]
def Qg2 : List GO := [qk 10 (vi 0)]
def Qg1 : List GO := [qm 78 10, qf 79 8 2, ql 80 79, qL 81 80, qt 82 .lss 3 78 81]
def Qg0 : List GO := [qV 85 1 3, qf 86 8 2, ql 87 86, qm 88 10, qi 89 8 87 88, qV 90 8 89, ⟨none, .call (some 91) 92 [(.tmp 85), (.tmp 90)]⟩, qm 11 91]
def Qg6 : List (List Nat) := [[],[],[1],[],[2,3],[4],[0,5],[6,6,0,1,2,3,4,5,6]]
def QfZ : List GO := [qm 92 11, qj 93 .neq 3 92 0]
def QfY : List GO := [qm 94 11, qm 95 1, qm 96 2, qm 97 10, ⟨none, .call (some 98) 93 [(.tmp 95), (.tmp 96), (.tmp 97)]⟩, ⟨none, .call (some 99) 30 [(.tmp 94), (.tmp 98)]⟩, qw 2 6 99]
def QfX : List GO := [qm 83 10, qj 84 .add 3 83 1, qm 10 84]
def Q5X : LC := (.seq (.seq (.ops Qg1) (.cond (.tmp 82) .skip (.exit 0))) (.seq (.block 1 (.seq (.draw Qg0 Qg6) (.seq (.ops QfZ) (.cond (.tmp 93) (.seq (.ops QfY) .ret) .skip)))) (.ops QfX)))
def QfW : List GO := [qV 100 4 7, qf 101 8 3, qV 102 9 101, ⟨none, .call (some 103) 94 [(.tmp 100), (.tmp 102)]⟩, qm 12 103]
def QfV : List GO := [qm 104 12, qj 105 .neq 3 104 0]
def QfU : List GO := [qm 106 12, qm 107 1, qm 108 2, ⟨none, .call (some 109) 95 [(.tmp 107), (.tmp 108)]⟩, ⟨none, .call (some 110) 30 [(.tmp 106), (.tmp 109)]⟩, qw 2 6 110]
def QfT : List GO := [⟨none, .build 111 [(vi 0), (vi 0)] []⟩, qw 2 6 111]
def R_blockFault_lc : LC := (.seq (.ops Qi0) (.seq (.ops QhZ) (.seq (.ops QhY) (.seq (.seq (.ops QhX) (.cond (.tmp 32) (.seq (.ops QhW) .ret) .skip)) (.seq (.seq (.ops QhV) (.seq (.ops QhU) (.cond (.tmp 43) (.seq (.ops QhT) .ret) .skip))) (.seq (.seq (.ops QhS) (.cond (.tmp 65) (.seq (.ops QhR) .ret) .skip)) (.seq (.seq (.ops Qg4) (.cond (.tmp 73) (.seq (.ops Qg3) .ret) .skip)) (.seq (.seq (.ops Qg2) (.block 0 (.loop Q5X))) (.seq (.seq (.ops QfW) (.seq (.ops QfV) (.cond (.tmp 105) (.seq (.ops QfU) .ret) .skip))) (.seq (.ops QfT) .ret))))))))))
@[reducible] def QX : FuncId := 47
theorem Qg5 : lowF Tryz.prog Tryz.f47 = some R_blockFault_lc := by kernel_rfl
theorem Qi1 {a0 a1 a2 : Value} {w : World} {R : Ending → World → Prop} (h : R_blockFault_lc.wp Tryz.prog (retQ Tryz.prog [.cell 6 29] R) (Qh [a0, a1, a2]) w) : Calls Tryz.prog QX ⟨[a0, a1, a2]⟩ w R :=
  Q3 Tryz.func47 Qg5 (by kernel_rfl) (by kernel_rfl) h

/- 48 -/
/- 49 -/
/- 50 -/
def QbD : List GO := [qm 6 1, qm 7 6, qg 7 true (qm 8 0), qg 7 true (qn 9 8), qg 7 true (qf 10 9 1), qg 7 true (qf 11 10 0), qg 7 true (ql 12 11), qg 7 true (qj 13 .eql 3 12 0), ⟨none, .pick 14 (.tmp 7) (.tmp 13) (.const (.bool false))⟩]
def QbC : List GO := [qm 15 0, qm 16 2, qm 17 0, qn 18 17, qf 19 18 3, ql 20 19, ⟨none, .build 21 [(vi 0), (vi 0)] [(0, (1, (.tmp 16))), (1, (1, (.tmp 20)))]⟩, qn 22 15, qf 23 22 1, qw 2 23 21]
def code_judge_fail_lc : LC := (.seq (.ops QbD) (.cond (.tmp 14) (.ops QbC) .skip))
@[reducible] def Q3u : FuncId := 50
theorem Qaz : lowF Tryz.prog Tryz.f50 = some code_judge_fail_lc := by kernel_rfl
theorem Q3t {a0 a1 a2 : Value} {w : World} {R : Ending → World → Prop} (h : code_judge_fail_lc.wp Tryz.prog (retQ Tryz.prog [] R) (Qh [a0, a1, a2]) w) : Calls Tryz.prog Q3u ⟨[a0, a1, a2]⟩ w R :=
  Q3 Tryz.func50 Qaz (by kernel_rfl) (by kernel_rfl) h

/- 51 -/
def Qjy : List GO := [qk 2 (vi 0)]
def Qjx : List GO := [qm 3 0, qj 4 .mul 3 3 10000, qj 5 .add 3 4 9999, qm 2 5]
def code_FuncAt_lc : LC := (.seq (.ops Qjy) (.seq (.ops Qjx) .ret))
@[reducible] def Qhk : FuncId := 51
theorem Qhj : lowF Tryz.prog Tryz.f51 = some code_FuncAt_lc := by kernel_rfl
theorem Qjz {a0 : Value} {w : World} {R : Ending → World → Prop} (h : code_FuncAt_lc.wp Tryz.prog (retQ Tryz.prog [.tmp 2] R) (Qh [a0]) w) : Calls Tryz.prog Qhk ⟨[a0]⟩ w R :=
  Q3 Tryz.func51 Qhj (by kernel_rfl) (by kernel_rfl) h

/- 52 -/
def Qbt : List GO := [qm 9 0, qm 10 1, qL 11 10, qj 12 .gtr 3 11 8, ⟨none, .call (some 13) 50 [(.tmp 9), (.tmp 12), (.const (vi 2))]⟩]
def Qbs : List GO := [qm 14 1, qL 15 14, qk 16 (vi 0)]
def Qbr : List GO := [qt 17 .lss 3 16 15]
def Qbq : List GO := [qi 18 3 14 16, qV 19 3 18, ⟨none, .alloc 7 91 [(vi 0), (vi 0), vn]⟩, qw 3 7 19]
def Qbp : List GO := [qV 20 3 7, qm 21 2, ⟨none, .call (some 22) 97 [(.tmp 20), (.tmp 21)]⟩, qm 8 22]
def Qbo : List GO := [qm 23 0, qm 24 8, qj 25 .neq 3 24 0, qm 26 8, ⟨none, .call (some 27) 50 [(.tmp 23), (.tmp 25), (.tmp 26)]⟩]
def Qbn : List GO := [qj 28 .add 3 16 1, qm 16 28]
def Q4z : LC := (.seq (.ops Qbr) (.seq (.cond (.tmp 17) .skip (.exit 0)) (.seq (.block 1 (.seq (.ops Qbq) (.seq (.ops Qbp) (.ops Qbo)))) (.ops Qbn))))
def code_judge_list_lc : LC := (.seq (.ops Qbt) (.seq (.ops Qbs) (.block 0 (.loop Q4z))))
@[reducible] def Q7Q : FuncId := 52
theorem Qay : lowF Tryz.prog Tryz.f52 = some code_judge_list_lc := by kernel_rfl
theorem Qbu {a0 a1 a2 : Value} {w : World} {R : Ending → World → Prop} (h : code_judge_list_lc.wp Tryz.prog (retQ Tryz.prog [] R) (Qh [a0, a1, a2]) w) : Calls Tryz.prog Q7Q ⟨[a0, a1, a2]⟩ w R :=
  Q3 Tryz.func52 Qay (by kernel_rfl) (by kernel_rfl) h

/- 53 -/
def Q2m : List GO := [qk 4 (.bool false)]
def Q2l : List GO := [qm 5 0, qm 6 1, ⟨none, .call (some 7) 98 [(.tmp 5), (.tmp 6)]⟩, qj 8 .geq 3 7 0, qm 4 8]
def slices_ContainsFunc_api_Type_api_Type_lc : LC := (.seq (.ops Q2m) (.seq (.ops Q2l) .ret))
@[reducible] def Q1C : FuncId := 53
theorem Q2b : lowF Tryz.prog Tryz.f53 = some slices_ContainsFunc_api_Type_api_Type_lc := by kernel_rfl
theorem Q2n {a0 a1 : Value} {w : World} {R : Ending → World → Prop} (h : slices_ContainsFunc_api_Type_api_Type_lc.wp Tryz.prog (retQ Tryz.prog [.tmp 4] R) (Qh [a0, a1]) w) : Calls Tryz.prog Q1C ⟨[a0, a1]⟩ w R :=
  Q3 Tryz.func53 Q2b (by kernel_rfl) (by kernel_rfl) h

/- 54 -/
def Qhm : List GO := [qb 1 91 0, qk 2 (.bool false)]
def Qhl : List GO := [qf 3 1 0, ql 4 3, qj 5 .neq 3 4 1, qm 2 5]
def code_Check_1_lc : LC := (.seq (.ops Qhm) (.seq (.ops Qhl) .ret))
@[reducible] def Q4A : FuncId := 54
theorem Qfo : lowF Tryz.prog Tryz.f54 = some code_Check_1_lc := by kernel_rfl
theorem Qhn {a0 : Value} {w : World} {R : Ending → World → Prop} (h : code_Check_1_lc.wp Tryz.prog (retQ Tryz.prog [.tmp 2] R) (Qh [a0]) w) : Calls Tryz.prog Q4A ⟨[a0]⟩ w R :=
  Q3 Tryz.func54 Qfo (by kernel_rfl) (by kernel_rfl) h

/- 55 -/
def QaJ : List GO := [qm 9 0, qn 10 9, qf 11 10 0, qf 12 11 0, ql 13 12, qm 14 1, qi 15 4 13 14, qV 16 4 15, ⟨none, .alloc 6 43 [(vi 0), vn, vn, vn]⟩, qw 4 6 16]
def QaI : List GO := [qf 17 6 3, ql 18 17, qm 19 2, qi 20 12 18 19, qV 21 12 20, ⟨none, .alloc 7 52 [(vi 0), vn, vn, (vi 0), (vi 0), (vi 0), vn, vn, (vi 0), vn, vn, vn]⟩, qw 12 7 21]
def QaH : List GO := [qm 22 0, qm 23 1, qm 24 2, ⟨none, .call (some 25) 99 [(.tmp 23), (.tmp 24)]⟩, qn 26 22, qf 27 26 3, qs 27 25]
def QaG : List GO := [qm 28 0, qf 29 7 0, ql 30 29, qf 31 6 0, ql 32 31, qt 33 .lss 3 30 32, qm 34 33, qg 34 false (qf 35 7 0), qg 34 false (ql 36 35), qg 34 false (qj 37 .gtr 3 36 16), ⟨none, .pick 38 (.tmp 34) (.const (.bool true)) (.tmp 37)⟩, ⟨none, .call (some 39) 50 [(.tmp 28), (.tmp 38), (.const (vi 1))]⟩]
def QaF : List GO := [qm 40 0, qf 41 7 1, ql 42 41, qf 43 7 0, ql 44 43, ⟨none, .call (some 45) 52 [(.tmp 40), (.tmp 42), (.tmp 44)]⟩]
def QaE : List GO := [qm 46 0, qm 47 2, qj 48 .eql 3 47 0, qm 49 48, qg 49 true (qf 50 7 0), qg 49 true (ql 51 50), qg 49 true (qf 52 6 0), qg 49 true (ql 53 52), qg 49 true (qt 54 .neq 3 51 53), qg 49 true (qm 55 54), qg 55 false (qf 56 7 1), qg 55 false (ql 57 56), qg 55 false (qf 58 6 1), qg 55 false (ql 59 58), ⟨some (55, false), .call (some 60) 100 [(.tmp 57), (.tmp 59), (.func 101)]⟩, ⟨some (55, false), .un 61 .not (.tmp 60)⟩, ⟨some (49, true), .pick 62 (.tmp 55) (.const (.bool true)) (.tmp 61)⟩, ⟨none, .pick 63 (.tmp 49) (.tmp 62) (.const (.bool false))⟩, ⟨none, .call (some 64) 50 [(.tmp 46), (.tmp 63), (.const (vi 9))]⟩]
def QaD : List GO := [qm 65 0, qf 66 7 2, ql 67 66, qL 68 67, qj 69 .gtr 3 68 40, ⟨none, .call (some 70) 50 [(.tmp 65), (.tmp 69), (.const (vi 2))]⟩]
def QaC : List GO := [qk 8 (vi 0)]
def QaB : List GO := [qm 71 8, qf 72 7 2, ql 73 72, qL 74 73, qt 75 .lss 3 71 74, qm 76 75, qg 76 true (qm 77 0), qg 76 true (qn 78 77), qg 76 true (qf 79 78 1), qg 76 true (qf 80 79 0), qg 76 true (ql 81 80), qg 76 true (qj 82 .eql 3 81 0), ⟨none, .pick 83 (.tmp 76) (.tmp 82) (.const (.bool false))⟩]
def QaA : List GO := [qm 86 0, qm 87 1, qm 88 2, qm 89 8, ⟨none, .call (some 90) 102 [(.tmp 87), (.tmp 88), (.tmp 89)]⟩, qn 91 86, qf 92 91 3, qs 92 90]
def Q9D : List GO := [qm 93 0, qf 94 7 2, ql 95 94, qm 96 8, qi 97 8 95 96, qV 98 8 97, ⟨none, .call (some 99) 103 [(.tmp 93), (.tmp 98)]⟩]
def Q9C : List GO := [qm 84 8, qj 85 .add 3 84 1, qm 8 85]
def Q4o : LC := (.seq (.seq (.ops QaB) (.cond (.tmp 83) .skip (.exit 0))) (.seq (.block 1 (.seq (.ops QaA) (.ops Q9D))) (.ops Q9C)))
def Q9B : List GO := [qm 100 0, qm 101 1, qm 102 2, ⟨none, .call (some 103) 104 [(.tmp 101), (.tmp 102)]⟩, qn 104 100, qf 105 104 3, qs 105 103]
def Q9A : List GO := [qm 106 0, qV 107 4 6, qf 108 7 3, qV 109 9 108, ⟨none, .call (some 110) 105 [(.tmp 106), (.tmp 107), (.tmp 109)]⟩]
def code_judge_block_lc : LC := (.seq (.ops QaJ) (.seq (.ops QaI) (.seq (.ops QaH) (.seq (.ops QaG) (.seq (.ops QaF) (.seq (.ops QaE) (.seq (.ops QaD) (.seq (.seq (.ops QaC) (.block 0 (.loop Q4o))) (.seq (.ops Q9B) (.ops Q9A))))))))))
@[reducible] def Q32 : FuncId := 55
theorem Q9E : lowF Tryz.prog Tryz.f55 = some code_judge_block_lc := by kernel_rfl
theorem QaK {a0 a1 a2 : Value} {w : World} {R : Ending → World → Prop} (h : code_judge_block_lc.wp Tryz.prog (retQ Tryz.prog [] R) (Qh [a0, a1, a2]) w) : Calls Tryz.prog Q32 ⟨[a0, a1, a2]⟩ w R :=
  Q3 Tryz.func55 Q9E (by kernel_rfl) (by kernel_rfl) h

/- 56 -/
/- 57 -/
/- 58 -/
/- 59 -/
/- 60 -/
/- 61 -/
/- 62 -/
/- 63 -/
@[reducible] def strconv_Itoa : FuncId := 63
/- 64 -/
/- 65 -/
/- 66 -/
/- 67 -/
/- 68 -/
def Qn7 : List GO := [qb 2 91 0, qb 3 91 1, qk 4 (.bool false)]
def Qn6 : List GO := [qf 5 2 0, ql 6 5, qf 7 3 0, ql 8 7, qt 9 .eql 3 6 8, qm 10 9, qg 10 true (qf 11 2 1), qg 10 true (ql 12 11), qg 10 true (qf 13 3 1), qg 10 true (ql 14 13), qg 10 true (qt 15 .eql 3 12 14), ⟨none, .pick 16 (.tmp 10) (.tmp 15) (.const (.bool false))⟩, qm 17 16, qg 17 true (qf 18 2 2), qg 17 true (ql 19 18), qg 17 true (qf 20 3 2), qg 17 true (ql 21 20), ⟨some (17, true), .call (some 22) 32 [(.tmp 19), (.tmp 21)]⟩, ⟨none, .pick 23 (.tmp 17) (.tmp 22) (.const (.bool false))⟩, qm 4 23]
def R_SameType_lc : LC := (.seq (.ops Qn7) (.seq (.ops Qn6) .ret))
@[reducible] def QeG : FuncId := 68
theorem Qkr : lowF Tryz.prog Tryz.f68 = some R_SameType_lc := by kernel_rfl
theorem Qn8 {a0 a1 : Value} {w : World} {R : Ending → World → Prop} (h : R_SameType_lc.wp Tryz.prog (retQ Tryz.prog [.tmp 4] R) (Qh [a0, a1]) w) : Calls Tryz.prog QeG ⟨[a0, a1]⟩ w R :=
  Q3 Tryz.func68 Qkr (by kernel_rfl) (by kernel_rfl) h

/- 69 -/
def QoN : List GO := [qb 2 54 0, qb 3 54 1, qk 4 (.bool false)]
def QoM : List GO := [qf 5 2 0, ql 6 5, qf 7 3 0, ql 8 7, qt 9 .eql 3 6 8, qm 10 9, qg 10 true (qf 11 2 1), qg 10 true (ql 12 11), qg 10 true (qf 13 3 1), qg 10 true (ql 14 13), qg 10 true (qt 15 .eql 3 12 14), ⟨none, .pick 16 (.tmp 10) (.tmp 15) (.const (.bool false))⟩, qm 17 16, qg 17 true (qf 18 2 2), qg 17 true (ql 19 18), qg 17 true (qf 20 3 2), qg 17 true (ql 21 20), qg 17 true (qt 22 .eql 3 19 21), ⟨none, .pick 23 (.tmp 17) (.tmp 22) (.const (.bool false))⟩, qm 24 23, qg 24 true (qf 25 2 3), qg 24 true (ql 26 25), qg 24 true (qf 27 3 3), qg 24 true (ql 28 27), qg 24 true (qt 29 .eql 3 26 28), ⟨none, .pick 30 (.tmp 24) (.tmp 29) (.const (.bool false))⟩, qm 31 30, qg 31 true (qf 32 2 4), qg 31 true (ql 33 32), qg 31 true (qf 34 3 4), qg 31 true (ql 35 34), qg 31 true (qt 36 .eql 3 33 35), ⟨none, .pick 37 (.tmp 31) (.tmp 36) (.const (.bool false))⟩, qm 38 37, qg 38 true (qf 39 2 5), qg 38 true (ql 40 39), qg 38 true (qf 41 3 5), qg 38 true (ql 42 41), qg 38 true (qt 43 .eql 2 40 42), ⟨none, .pick 44 (.tmp 38) (.tmp 43) (.const (.bool false))⟩, qm 45 44, qg 45 true (qf 46 2 6), qg 45 true (ql 47 46), qg 45 true (qf 48 3 6), qg 45 true (ql 49 48), ⟨some (45, true), .call (some 50) 71 [(.tmp 47), (.tmp 49)]⟩, ⟨none, .pick 51 (.tmp 45) (.tmp 50) (.const (.bool false))⟩, qm 52 51, qg 52 true (qf 53 2 7), qg 52 true (ql 54 53), qg 52 true (qf 55 3 7), qg 52 true (ql 56 55), ⟨some (52, true), .call (some 57) 71 [(.tmp 54), (.tmp 56)]⟩, ⟨none, .pick 58 (.tmp 52) (.tmp 57) (.const (.bool false))⟩, qm 4 58]
def R_sameIns_lc : LC := (.seq (.ops QoN) (.seq (.ops QoM) .ret))
@[reducible] def QoP : FuncId := 69
theorem QmQ : lowF Tryz.prog Tryz.f69 = some R_sameIns_lc := by kernel_rfl
theorem QoO {a0 a1 : Value} {w : World} {R : Ending → World → Prop} (h : R_sameIns_lc.wp Tryz.prog (retQ Tryz.prog [.tmp 4] R) (Qh [a0, a1]) w) : Calls Tryz.prog QoP ⟨[a0, a1]⟩ w R :=
  Q3 Tryz.func69 QmQ (by kernel_rfl) (by kernel_rfl) h

/- 70 -/
def Qqo : List GO := [qb 2 48 0, qb 3 48 1, qk 4 (.bool false)]
def Qqn : List GO := [qf 5 2 0, ql 6 5, qf 7 3 0, ql 8 7, qt 9 .eql 3 6 8, qm 10 9, qg 10 true (qf 11 2 1), qg 10 true (ql 12 11), qg 10 true (qf 13 3 1), qg 10 true (ql 14 13), ⟨some (10, true), .call (some 15) 71 [(.tmp 12), (.tmp 14)]⟩, ⟨none, .pick 16 (.tmp 10) (.tmp 15) (.const (.bool false))⟩, qm 17 16, qg 17 true (qf 18 2 2), qg 17 true (ql 19 18), qg 17 true (qf 20 3 2), qg 17 true (ql 21 20), ⟨some (17, true), .call (some 22) 71 [(.tmp 19), (.tmp 21)]⟩, ⟨none, .pick 23 (.tmp 17) (.tmp 22) (.const (.bool false))⟩, qm 4 23]
def R_sameTo_lc : LC := (.seq (.ops Qqo) (.seq (.ops Qqn) .ret))
@[reducible] def Qsd : FuncId := 70
theorem QoL : lowF Tryz.prog Tryz.f70 = some R_sameTo_lc := by kernel_rfl
theorem Qqp {a0 a1 : Value} {w : World} {R : Ending → World → Prop} (h : R_sameTo_lc.wp Tryz.prog (retQ Tryz.prog [.tmp 4] R) (Qh [a0, a1]) w) : Calls Tryz.prog Qsd ⟨[a0, a1]⟩ w R :=
  Q3 Tryz.func70 QoL (by kernel_rfl) (by kernel_rfl) h

/- 71 -/
def Qnh : List GO := [qk 4 (.bool false)]
def Qng : List GO := [qm 6 0, qL 7 6, qm 8 1, qL 9 8, qt 10 .neq 3 7 9]
def Qnf : List GO := [qk 4 (.bool false)]
def Qne : List GO := [qk 5 (vi 0)]
def Qnd : List GO := [qm 11 5, qm 12 0, qL 13 12, qt 14 .lss 3 11 13]
def Qnc : List GO := [qm 17 0, qm 18 5, qi 19 1 17 18, ql 20 19, qm 21 1, qm 22 5, qi 23 1 21 22, ql 24 23, qt 25 .neq 3 20 24]
def Qnj : List (List Nat) := [[],[],[0,1],[2],[],[],[4,5],[6],[3,7]]
def Qnb : List GO := [qk 4 (.bool false)]
def Qna : List GO := [qm 15 5, qj 16 .add 3 15 1, qm 5 16]
def Qce : LC := (.seq (.seq (.ops Qnd) (.cond (.tmp 14) .skip (.exit 0))) (.seq (.block 1 (.seq (.draw Qnc Qnj) (.cond (.tmp 25) (.seq (.ops Qnb) .ret) .skip))) (.ops Qna)))
def Qn9 : List GO := [qk 4 (.bool true)]
def R_SameInts_lc : LC := (.seq (.ops Qnh) (.seq (.seq (.ops Qng) (.cond (.tmp 10) (.seq (.ops Qnf) .ret) .skip)) (.seq (.seq (.ops Qne) (.block 0 (.loop Qce))) (.seq (.ops Qn9) .ret))))
@[reducible] def Q4d : FuncId := 71
theorem Qks : lowF Tryz.prog Tryz.f71 = some R_SameInts_lc := by kernel_rfl
theorem Qni {a0 a1 : Value} {w : World} {R : Ending → World → Prop} (h : R_SameInts_lc.wp Tryz.prog (retQ Tryz.prog [.tmp 4] R) (Qh [a0, a1]) w) : Calls Tryz.prog Q4d ⟨[a0, a1]⟩ w R :=
  Q3 Tryz.func71 Qks (by kernel_rfl) (by kernel_rfl) h

/- 72 -/
def Q6n : List GO := [qk 2 (.bool false)]
def Q6m : List GO := [qm 4 0, qn 5 4, qf 6 5 1, ql 7 6, qm 8 0, qn 9 8, qf 10 9 0, ql 11 10, ⟨none, .slen 12 (.tmp 11)⟩, qt 13 .lss 3 7 12]
def Q6q : List (List Nat) := [[],[0],[1],[2],[],[4],[5],[6],[7],[3,8]]
def Q6l : List GO := [qm 21 0, qn 22 21, qf 23 22 0, ql 24 23, qm 25 0, qn 26 25, qf 27 26 1, ql 28 27, ⟨none, .sidx 29 (.tmp 24) (.tmp 28)⟩, qm 3 29]
def Q6p : List (List Nat) := [[],[0],[1],[2],[],[4],[5],[6],[3,7],[8,0,1,2,3,4,5,6,7,8]]
def Q6k : List GO := [qm 31 3, ⟨none, .bin 32 .eql 5 (.tmp 31) (.const (.int .u8 10))⟩, qm 30 32]
def Q6j : List GO := [qk 2 (.bool false)]
def Q6i : List GO := [qm 34 2, qm 35 34, qg 35 false (qm 36 3), ⟨some (35, false), .bin 37 .eql 5 (.tmp 36) (.const (.int .u8 32))⟩, ⟨none, .pick 38 (.tmp 35) (.const (.bool true)) (.tmp 37)⟩, qm 39 38, qg 39 false (qm 40 3), ⟨some (39, false), .bin 41 .eql 5 (.tmp 40) (.const (.int .u8 9))⟩, ⟨none, .pick 42 (.tmp 39) (.const (.bool true)) (.tmp 41)⟩, qm 43 42, qg 43 false (qm 44 3), ⟨some (43, false), .bin 45 .eql 5 (.tmp 44) (.const (.int .u8 13))⟩, ⟨none, .pick 46 (.tmp 43) (.const (.bool true)) (.tmp 45)⟩, qm 33 46]
def Q6h : List GO := [qm 48 3, ⟨none, .bin 49 .eql 5 (.tmp 48) (.const (.int .u8 35))⟩, qm 47 49]
def Q6g : List GO := [qk 2 (.bool true)]
def Q6f : List GO := [qm 14 0, qn 15 14, qf 16 15 1, ql 17 16, qj 18 .add 3 17 1, qn 19 14, qf 20 19 1, qs 20 18]
def Q3y : LC := (.seq (.seq (.draw Q6m Q6q) (.cond (.tmp 13) .skip (.exit 0))) (.seq (.block 1 (.seq (.draw Q6l Q6p) (.block 2 (.seq (.ops Q6k) (.cond (.tmp 30) (.ops Q6j) (.seq (.ops Q6i) (.cond (.tmp 33) .skip (.seq (.ops Q6h) (.cond (.tmp 47) (.ops Q6g) .ret))))))))) (.ops Q6f)))
def token_scanner_blank_lc : LC := (.seq (.ops Q6n) (.block 0 (.loop Q3y)))
@[reducible] def Qz : FuncId := 72
theorem Q5x : lowF Tryz.prog Tryz.f72 = some token_scanner_blank_lc := by kernel_rfl
theorem Q6o {a0 : Value} {w : World} {R : Ending → World → Prop} (h : token_scanner_blank_lc.wp Tryz.prog (retQ Tryz.prog [] R) (Qh [a0]) w) : Calls Tryz.prog Qz ⟨[a0]⟩ w R :=
  Q3 Tryz.func72 Q5x (by kernel_rfl) (by kernel_rfl) h

/- 73 -/
def Q6Y : List GO := [⟨none, .alloc 2 126 [(vi 0), (.string ⟨#[]⟩), (.bool false), (vi 0)]⟩, qk 3 (vi 0)]
def Q6X : List GO := [qm 6 0, qn 7 6, qf 8 7 1, ql 9 8, qm 4 9]
def Q6W : List GO := [qm 10 0, qn 11 10, qf 12 11 0, ql 13 12, qm 14 4, ⟨none, .sidx 15 (.tmp 13) (.tmp 14)⟩, qm 5 15]
def Q6V : List GO := [qm 17 5, ⟨none, .call (some 18) 116 [(.tmp 17)]⟩, qm 16 18]
def Q6U : List GO := [qm 19 4, qm 20 0, ⟨none, .call (some 21) 117 [(.tmp 20), (.func 116)]⟩, ⟨none, .build 22 [(vi 0), (.string ⟨#[]⟩), (.bool false), (vi 0)] [(0, (1, (.tmp 19))), (1, (1, (.tmp 21)))]⟩, qw 4 2 22, qk 3 (vi 0)]
def Q6T : List GO := [qm 24 5, ⟨none, .call (some 25) 118 [(.tmp 24)]⟩, qm 23 25]
def Q6S : List GO := [qm 26 0, qm 27 4, ⟨none, .call (some 28) 119 [(.tmp 26), (.tmp 27), (.const (.string ⟨#[]⟩))]⟩, qx 29 28 0, qx 30 28 1, qw 4 2 29, qm 3 30]
def Q6R : List GO := [qm 32 0, qn 33 32, qf 34 33 0, ql 35 34, qm 36 4, ⟨none, .ssub 37 (.tmp 35) (some (.tmp 36)) none⟩, ⟨none, .call (some 38) 120 [(.tmp 37), (.const (.string ⟨#[45, 62]⟩))]⟩, qm 31 38]
def Q6Q : List GO := [qm 39 0, qn 40 39, qf 41 40 1, ql 42 41, qj 43 .add 3 42 2, qn 44 39, qf 45 44 1, qs 45 43]
def Q6P : List GO := [qm 46 4, ⟨none, .build 47 [(vi 0), (.string ⟨#[]⟩), (.bool false), (vi 0)] [(0, (1, (.tmp 46))), (1, (1, (.const (.string ⟨#[45, 62]⟩))))]⟩, qw 4 2 47, qk 3 (vi 0)]
def Q6d : List GO := [qm 49 5, ⟨none, .bin 50 .eql 5 (.tmp 49) (.const (.int .u8 45))⟩, qm 51 50, qg 51 true (qm 52 4), qg 51 true (qj 53 .add 3 52 1), qg 51 true (qm 54 0), qg 51 true (qn 55 54), qg 51 true (qf 56 55 0), qg 51 true (ql 57 56), ⟨some (51, true), .slen 58 (.tmp 57)⟩, qg 51 true (qt 59 .lss 3 53 58), ⟨none, .pick 60 (.tmp 51) (.tmp 59) (.const (.bool false))⟩, qm 61 60, qg 61 true (qm 62 0), qg 61 true (qn 63 62), qg 61 true (qf 64 63 0), qg 61 true (ql 65 64), qg 61 true (qm 66 4), qg 61 true (qj 67 .add 3 66 1), ⟨some (61, true), .sidx 68 (.tmp 65) (.tmp 67)⟩, ⟨some (61, true), .call (some 69) 118 [(.tmp 68)]⟩, ⟨none, .pick 70 (.tmp 61) (.tmp 69) (.const (.bool false))⟩, qm 48 70]
def Q6c : List GO := [qm 71 0, qn 72 71, qf 73 72 1, ql 74 73, qj 75 .add 3 74 1, qn 76 71, qf 77 76 1, qs 77 75]
def Q6b : List GO := [qm 78 0, qm 79 4, ⟨none, .call (some 80) 119 [(.tmp 78), (.tmp 79), (.const (.string ⟨#[45]⟩))]⟩, qx 81 80 0, qx 82 80 1, qw 4 2 81, qm 3 82]
def Q6a : List GO := [qm 84 5, ⟨none, .bin 85 .neq 5 (.tmp 84) (.const (.int .u8 45))⟩, qm 86 85, qg 86 true (qm 87 5), ⟨some (86, true), .call (some 88) 121 [(.const (.string ⟨#[40, 41, 123, 125, 60, 62, 44, 59, 45]⟩)), (.tmp 87)]⟩, qg 86 true (qj 89 .geq 3 88 0), ⟨none, .pick 90 (.tmp 86) (.tmp 89) (.const (.bool false))⟩, qm 83 90]
def Q69 : List GO := [qm 91 0, qn 92 91, qf 93 92 1, ql 94 93, qj 95 .add 3 94 1, qn 96 91, qf 97 96 1, qs 97 95]
def Q68 : List GO := [qm 98 4, qm 99 0, qn 100 99, qf 101 100 0, ql 102 101, qm 103 4, qm 104 4, qj 105 .add 3 104 1, ⟨none, .ssub 106 (.tmp 102) (some (.tmp 103)) (some (.tmp 105))⟩, ⟨none, .build 107 [(vi 0), (.string ⟨#[]⟩), (.bool false), (vi 0)] [(0, (1, (.tmp 98))), (1, (1, (.tmp 106)))]⟩, qw 4 2 107, qk 3 (vi 0)]
def Q67 : List GO := [⟨none, .build 108 [(vi 0), (.string ⟨#[]⟩), (.bool false), (vi 0)] []⟩, qw 4 2 108, qk 3 (vi 6)]
def token_scanner_next_lc : LC := (.seq (.ops Q6Y) (.seq (.ops Q6X) (.seq (.seq (.ops Q6W) (.block 0 (.seq (.ops Q6V) (.cond (.tmp 16) (.seq (.ops Q6U) .ret) (.seq (.ops Q6T) (.cond (.tmp 23) (.seq (.ops Q6S) .ret) (.seq (.ops Q6R) (.cond (.tmp 31) (.seq (.ops Q6Q) (.seq (.ops Q6P) .ret)) (.seq (.ops Q6d) (.cond (.tmp 48) (.seq (.ops Q6c) (.seq (.ops Q6b) .ret)) (.seq (.ops Q6a) (.cond (.tmp 83) (.seq (.ops Q69) (.seq (.ops Q68) .ret)) .skip)))))))))))) (.seq (.ops Q67) .ret))))
@[reducible] def Qw : FuncId := 73
theorem Q6e : lowF Tryz.prog Tryz.f73 = some token_scanner_next_lc := by kernel_rfl
theorem Q6Z {a0 : Value} {w : World} {R : Ending → World → Prop} (h : token_scanner_next_lc.wp Tryz.prog (retQ Tryz.prog [.cell 2 126, .tmp 3] R) (Qh [a0]) w) : Calls Tryz.prog Qw ⟨[a0]⟩ w R :=
  Q3 Tryz.func73 Q6e (by kernel_rfl) (by kernel_rfl) h

/- 74 -/
def Q8m : List GO := [qm 6 1, qL 7 6, qk 8 (vi 0)]
def Q8l : List GO := [qt 9 .lss 3 8 7]
def Q8k : List GO := [qi 10 1 6 8, ql 11 10, qm 5 11]
def Q8j : List GO := [qm 12 0, qm 13 5, ⟨none, .call (some 14) 77 [(.tmp 12), (.tmp 13)]⟩, ⟨none, .un 15 .not (.tmp 14)⟩]
def Q8i : List GO := [qm 16 0, ⟨none, .call (some 17) 122 [(.tmp 16), (.const (vi 4))]⟩]
def Q8h : List GO := [qm 18 0, ⟨none, .call (some 19) 123 [(.tmp 18)]⟩]
def Q8g : List GO := [qj 20 .add 3 8 1, qm 8 20]
def Q40 : LC := (.seq (.ops Q8l) (.seq (.cond (.tmp 9) .skip (.exit 0)) (.seq (.block 1 (.seq (.ops Q8k) (.seq (.seq (.ops Q8j) (.cond (.tmp 15) (.ops Q8i) .skip)) (.ops Q8h)))) (.ops Q8g))))
def parse_parser_want_lc : LC := (.seq (.ops Q8m) (.block 0 (.loop Q40)))
@[reducible] def Q20 : FuncId := 74
theorem Q7e : lowF Tryz.prog Tryz.f74 = some parse_parser_want_lc := by kernel_rfl
theorem Q8n {a0 a1 : Value} {w : World} {R : Ending → World → Prop} (h : parse_parser_want_lc.wp Tryz.prog (retQ Tryz.prog [] R) (Qh [a0, a1]) w) : Calls Tryz.prog Q20 ⟨[a0, a1]⟩ w R :=
  Q3 Tryz.func74 Q7e (by kernel_rfl) (by kernel_rfl) h

/- 75 -/
def Qah : List GO := [qk 2 (vi 0)]
def Qag : List GO := [qm 3 0, qn 4 3, qf 5 4 0, ql 6 5, qL 7 6, qj 8 .gtr 3 7 0, qm 9 8, qg 9 true (qm 10 0), qg 9 true (qn 11 10), qg 9 true (qf 12 11 0), qg 9 true (ql 13 12), ⟨some (9, true), .idx 14 4 (.tmp 13) (.const (vi 0))⟩, qg 9 true (qf 15 14 2), qg 9 true (ql 16 15), ⟨none, .pick 17 (.tmp 9) (.tmp 16) (.const (.bool false))⟩, qm 18 17, qg 18 true (qm 19 0), qg 18 true (qn 20 19), qg 18 true (qf 21 20 0), qg 18 true (ql 22 21), ⟨some (18, true), .idx 23 4 (.tmp 22) (.const (vi 0))⟩, qg 18 true (qf 24 23 3), qg 18 true (ql 25 24), qg 18 true (qj 26 .lss 2 25 0), qg 18 true (qm 27 26), qg 27 false (qm 28 0), qg 27 false (qn 29 28), qg 27 false (qf 30 29 0), qg 27 false (ql 31 30), ⟨some (27, false), .idx 32 4 (.tmp 31) (.const (vi 0))⟩, qg 27 false (qf 33 32 3), qg 27 false (ql 34 33), qg 27 false (qj 35 .gtr 2 34 1000000), ⟨some (18, true), .pick 36 (.tmp 27) (.const (.bool true)) (.tmp 35)⟩, ⟨none, .pick 37 (.tmp 18) (.tmp 36) (.const (.bool false))⟩]
def Qaf : List GO := [qm 38 0, ⟨none, .call (some 39) 122 [(.tmp 38), (.const (vi 8))]⟩]
def Qae : List GO := [qm 40 0, ⟨none, .call (some 41) 124 [(.tmp 40)]⟩, qm 2 41]
def parse_parser_num_lc : LC := (.seq (.ops Qah) (.seq (.seq (.ops Qag) (.cond (.tmp 37) (.ops Qaf) .skip)) (.seq (.ops Qae) .ret)))
@[reducible] def Q1S : FuncId := 75
theorem Q8y : lowF Tryz.prog Tryz.f75 = some parse_parser_num_lc := by kernel_rfl
theorem Q36 {a0 : Value} {w : World} {R : Ending → World → Prop} (h : parse_parser_num_lc.wp Tryz.prog (retQ Tryz.prog [.tmp 2] R) (Qh [a0]) w) : Calls Tryz.prog Q1S ⟨[a0]⟩ w R :=
  Q3 Tryz.func75 Q8y (by kernel_rfl) (by kernel_rfl) h

/- 76 -/
def Q7g : List GO := [qb 1 68 0, qk 2 vn]
def Q7f : List GO := [ql 3 1, ⟨none, .mkfn 4 126 [(.tmp 1)]⟩, ⟨none, .call (some 5) 125 [(.tmp 3), (.const (.string ⟨#[40]⟩)), (.const (.string ⟨#[41]⟩)), (.tmp 4)]⟩, qm 2 5]
def parse_parser_types_lc : LC := (.seq (.ops Q7g) (.seq (.ops Q7f) .ret))
@[reducible] def Q4u : FuncId := 76
theorem Q6s : lowF Tryz.prog Tryz.f76 = some parse_parser_types_lc := by kernel_rfl
theorem Q7h {a0 : Value} {w : World} {R : Ending → World → Prop} (h : parse_parser_types_lc.wp Tryz.prog (retQ Tryz.prog [.tmp 2] R) (Qh [a0]) w) : Calls Tryz.prog Q4u ⟨[a0]⟩ w R :=
  Q3 Tryz.func76 Q6s (by kernel_rfl) (by kernel_rfl) h

/- 77 -/
def Qba : List GO := [qk 4 (.bool false)]
def Qb9 : List GO := [qm 5 0, qn 6 5, qf 7 6 0, ql 8 7, qL 9 8, qj 10 .gtr 3 9 0, qm 11 10, qg 11 true (qm 12 0), qg 11 true (qn 13 12), qg 11 true (qf 14 13 0), qg 11 true (ql 15 14), ⟨some (11, true), .idx 16 4 (.tmp 15) (.const (vi 0))⟩, qg 11 true (qf 17 16 2), qg 11 true (ql 18 17), ⟨some (11, true), .un 19 .not (.tmp 18)⟩, ⟨none, .pick 20 (.tmp 11) (.tmp 19) (.const (.bool false))⟩, qm 21 20, qg 21 true (qm 22 0), qg 21 true (qn 23 22), qg 21 true (qf 24 23 0), qg 21 true (ql 25 24), ⟨some (21, true), .idx 26 4 (.tmp 25) (.const (vi 0))⟩, qg 21 true (qf 27 26 1), qg 21 true (ql 28 27), qg 21 true (qm 29 1), qg 21 true (qt 30 .eql 9 28 29), ⟨none, .pick 31 (.tmp 21) (.tmp 30) (.const (.bool false))⟩, qm 4 31]
def parse_parser_is_lc : LC := (.seq (.ops Qba) (.seq (.ops Qb9) .ret))
@[reducible] def Q4k : FuncId := 77
theorem Qai : lowF Tryz.prog Tryz.f77 = some parse_parser_is_lc := by kernel_rfl
theorem Q3l {a0 a1 : Value} {w : World} {R : Ending → World → Prop} (h : parse_parser_is_lc.wp Tryz.prog (retQ Tryz.prog [.tmp 4] R) (Qh [a0, a1]) w) : Calls Tryz.prog Q4k ⟨[a0, a1]⟩ w R :=
  Q3 Tryz.func77 Qai (by kernel_rfl) (by kernel_rfl) h

/- 78 -/
def Q7G : List GO := [⟨none, .alloc 2 52 [(vi 0), vn, vn, (vi 0), (vi 0), (vi 0), vn, vn, (vi 0), vn, vn, vn]⟩]
def Q7F : List GO := [qm 6 0, ⟨none, .buildS 7 9 1 [(.string ⟨#[]⟩)] [(0, (1, (.const (.string ⟨#[98, 108, 111, 99, 107]⟩))))]⟩, ⟨none, .call (some 8) 74 [(.tmp 6), (.tmp 7)]⟩]
def Q7E : List GO := [qm 9 0, ⟨none, .call (some 10) 75 [(.tmp 9)]⟩, ⟨none, .build 11 [(vi 0), vn, vn, (vi 0), (vi 0), (vi 0), vn, vn, (vi 0), vn, vn, vn] [(0, (1, (.tmp 10)))]⟩, ⟨none, .alloc 3 52 [(vi 0), vn, vn, (vi 0), (vi 0), (vi 0), vn, vn, (vi 0), vn, vn, vn]⟩, qw 12 3 11]
def Q7D : List GO := [qm 12 0, ⟨none, .call (some 13) 76 [(.tmp 12)]⟩, qf 14 3 1, qs 14 13]
def Q7C : List GO := [qm 15 0, ⟨none, .buildS 16 9 1 [(.string ⟨#[]⟩)] [(0, (1, (.const (.string ⟨#[123]⟩))))]⟩, ⟨none, .call (some 17) 74 [(.tmp 15), (.tmp 16)]⟩]
def Q7B : List GO := [qm 19 0, ⟨none, .call (some 20) 128 [(.tmp 19)]⟩, qm 18 20, qx 21 18 0, qx 22 18 1, ⟨none, .alloc 4 54 [(vi 0), (vi 0), (vi 0), (vi 0), (vi 0), (vi 0), vn, vn]⟩, qw 8 4 21, qm 5 22]
def Q7A : List GO := [qm 23 5]
def Q7z : List GO := [qf 29 3 2, ql 30 29, qV 31 8 4, ⟨none, .buildS 32 54 1 [(vi 0), (vi 0), (vi 0), (vi 0), (vi 0), (vi 0), vn, vn] [(0, (8, (.tmp 31)))]⟩, ⟨none, .raw ⟨(some 33), (.call ⟨(.builtin .append), #[(.tmp 30), (.tmp 32)], #[45, 45]⟩), 45, "", #[], none⟩⟩, qf 34 3 2, qs 34 33]
def Q7y : List GO := [qV 35 8 4]
def Q7x : List GO := [⟨none, .alloc 4 54 [(vi 0), (vi 0), (vi 0), (vi 0), (vi 0), (vi 0), vn, vn]⟩, qw 8 4 35]
def Q6x : List GO := [qm 25 0, ⟨none, .call (some 26) 128 [(.tmp 25)]⟩, qm 24 26, qx 27 24 0, qx 28 24 1, qw 8 4 27, qm 5 28]
def Q3Q : LC := (.seq (.seq (.ops Q7A) (.cond (.tmp 23) .skip (.exit 0))) (.seq (.block 1 (.ops Q7z)) (.seq (.seq (.ops Q7y) (.ops Q7x)) (.ops Q6x))))
def Q6w : List GO := [qm 36 0, ⟨none, .call (some 37) 129 [(.tmp 36)]⟩, qf 38 3 3, qw 9 38 37]
def Q6v : List GO := [qm 39 0, ⟨none, .buildS 40 9 1 [(.string ⟨#[]⟩)] [(0, (1, (.const (.string ⟨#[125]⟩))))]⟩, ⟨none, .call (some 41) 74 [(.tmp 39), (.tmp 40)]⟩]
def Q6u : List GO := [qV 42 12 3, qw 12 2 42]
def parse_parser_block_lc : LC := (.seq (.ops Q7G) (.seq (.ops Q7F) (.seq (.ops Q7E) (.seq (.ops Q7D) (.seq (.ops Q7C) (.seq (.seq (.ops Q7B) (.block 0 (.loop Q3Q))) (.seq (.ops Q6w) (.seq (.ops Q6v) (.seq (.ops Q6u) .ret)))))))))
@[reducible] def Q2g : FuncId := 78
theorem Q6y : lowF Tryz.prog Tryz.f78 = some parse_parser_block_lc := by kernel_rfl
theorem Q7H {a0 : Value} {w : World} {R : Ending → World → Prop} (h : parse_parser_block_lc.wp Tryz.prog (retQ Tryz.prog [.cell 2 52] R) (Qh [a0]) w) : Calls Tryz.prog Q2g ⟨[a0]⟩ w R :=
  Q3 Tryz.func78 Q6y (by kernel_rfl) (by kernel_rfl) h

/- 79 -/
def QqG : List GO := [qk 4 (vi 0)]
def QqF : List GO := [qm 5 1, qm 6 0, ⟨none, .slen 7 (.tmp 6)⟩, qt 8 .lss 3 5 7]
def QqE : List GO := [qm 9 0, qm 10 1, ⟨none, .sidx 11 (.tmp 9) (.tmp 10)⟩, ⟨none, .bin 12 .eql 5 (.tmp 11) (.const (.int .u8 32))⟩, qm 13 12, qg 13 false (qm 14 0), qg 13 false (qm 15 1), ⟨some (13, false), .sidx 16 (.tmp 14) (.tmp 15)⟩, ⟨some (13, false), .bin 17 .eql 5 (.tmp 16) (.const (.int .u8 9))⟩, ⟨none, .pick 18 (.tmp 13) (.const (.bool true)) (.tmp 17)⟩, qm 19 18, qg 19 false (qm 20 0), qg 19 false (qm 21 1), ⟨some (19, false), .sidx 22 (.tmp 20) (.tmp 21)⟩, ⟨some (19, false), .bin 23 .eql 5 (.tmp 22) (.const (.int .u8 13))⟩, ⟨none, .pick 24 (.tmp 19) (.const (.bool true)) (.tmp 23)⟩, qm 25 24, qg 25 false (qm 26 0), qg 25 false (qm 27 1), ⟨some (25, false), .sidx 28 (.tmp 26) (.tmp 27)⟩, ⟨some (25, false), .bin 29 .eql 5 (.tmp 28) (.const (.int .u8 10))⟩, ⟨none, .pick 30 (.tmp 25) (.const (.bool true)) (.tmp 29)⟩]
def QqD : List GO := [qm 31 1, qj 32 .add 3 31 1, qm 1 32]
def QqC : List GO := [qm 33 0, qm 34 1, ⟨none, .sidx 35 (.tmp 33) (.tmp 34)⟩, ⟨none, .bin 36 .eql 5 (.tmp 35) (.const (.int .u8 35))⟩]
def QqB : List GO := [qm 37 1, qm 38 0, ⟨none, .slen 39 (.tmp 38)⟩, qt 40 .lss 3 37 39, qm 41 40, qg 41 true (qm 42 0), qg 41 true (qm 43 1), ⟨some (41, true), .sidx 44 (.tmp 42) (.tmp 43)⟩, ⟨some (41, true), .bin 45 .neq 5 (.tmp 44) (.const (.int .u8 10))⟩, ⟨none, .pick 46 (.tmp 41) (.tmp 45) (.const (.bool false))⟩]
def QqA : List GO := [qm 47 1, qj 48 .add 3 47 1, qm 1 48]
def Qi2 : LC := (.seq (.seq (.ops QqB) (.cond (.tmp 46) .skip (.exit 2))) (.block 3 (.ops QqA)))
def Qi3 : LC := (.seq (.seq (.ops QqF) (.cond (.tmp 8) .skip (.exit 0))) (.block 1 (.seq (.ops QqE) (.cond (.tmp 30) (.ops QqD) (.seq (.ops QqC) (.cond (.tmp 36) (.block 2 (.loop Qi2)) (.exit 0)))))))
def Qqz : List GO := [qm 49 1, qm 4 49]
def R_begins_lc : LC := (.seq (.ops QqG) (.seq (.block 0 (.loop Qi3)) (.seq (.ops Qqz) .ret)))
@[reducible] def Q4D : FuncId := 79
theorem QoV : lowF Tryz.prog Tryz.f79 = some R_begins_lc := by kernel_rfl
theorem QqH {a0 a1 : Value} {w : World} {R : Ending → World → Prop} (h : R_begins_lc.wp Tryz.prog (retQ Tryz.prog [.tmp 4] R) (Qh [a0, a1]) w) : Calls Tryz.prog Q4D ⟨[a0, a1]⟩ w R :=
  Q3 Tryz.func79 QoV (by kernel_rfl) (by kernel_rfl) h

/- 80 -/
def Qn3 : List GO := [qk 2 (.bool false)]
def Qn2 : List GO := [qm 3 0, ⟨none, .bin 4 .geq 5 (.tmp 3) (.const (.int .u8 97))⟩, qm 5 4, qg 5 true (qm 6 0), ⟨some (5, true), .bin 7 .leq 5 (.tmp 6) (.const (.int .u8 122))⟩, ⟨none, .pick 8 (.tmp 5) (.tmp 7) (.const (.bool false))⟩, qm 2 8]
def R_isLetter_lc : LC := (.seq (.ops Qn3) (.seq (.ops Qn2) .ret))
@[reducible] def Qli : FuncId := 80
theorem Qka : lowF Tryz.prog Tryz.f80 = some R_isLetter_lc := by kernel_rfl
theorem Qn4 {a0 : Value} {w : World} {R : Ending → World → Prop} (h : R_isLetter_lc.wp Tryz.prog (retQ Tryz.prog [.tmp 2] R) (Qh [a0]) w) : Calls Tryz.prog Qli ⟨[a0]⟩ w R :=
  Q3 Tryz.func80 Qka (by kernel_rfl) (by kernel_rfl) h

/- 81 -/
def Qqx : List GO := [qk 2 (.bool false)]
def Qqw : List GO := [qk 3 (.string ⟨#[40, 41, 123, 125, 60, 62, 44, 59]⟩)]
def Qqv : List GO := [qk 4 (vi 0)]
def Qqu : List GO := [qm 5 4, qm 6 3, ⟨none, .slen 7 (.tmp 6)⟩, qt 8 .lss 3 5 7]
def Qqt : List GO := [qm 11 3, qm 12 4, ⟨none, .sidx 13 (.tmp 11) (.tmp 12)⟩, qm 14 0, qt 15 .eql 5 13 14]
def Qqs : List GO := [qk 2 (.bool true)]
def Qqr : List GO := [qm 9 4, qj 10 .add 3 9 1, qm 4 10]
def QhQ : LC := (.seq (.seq (.ops Qqu) (.cond (.tmp 8) .skip (.exit 0))) (.seq (.block 1 (.seq (.ops Qqt) (.cond (.tmp 15) (.seq (.ops Qqs) .ret) .skip))) (.ops Qqr)))
def Qqq : List GO := [qk 2 (.bool false)]
def R_isSign_lc : LC := (.seq (.ops Qqx) (.seq (.ops Qqw) (.seq (.seq (.ops Qqv) (.block 0 (.loop QhQ))) (.seq (.ops Qqq) .ret))))
@[reducible] def Qgm : FuncId := 81
theorem QoQ : lowF Tryz.prog Tryz.f81 = some R_isSign_lc := by kernel_rfl
theorem Qqy {a0 : Value} {w : World} {R : Ending → World → Prop} (h : R_isSign_lc.wp Tryz.prog (retQ Tryz.prog [.tmp 2] R) (Qh [a0]) w) : Calls Tryz.prog Qgm ⟨[a0]⟩ w R :=
  Q3 Tryz.func81 QoQ (by kernel_rfl) (by kernel_rfl) h

/- 82 -/
def QoS : List GO := [qk 2 (.bool false)]
def QoR : List GO := [qm 3 0, ⟨none, .bin 4 .geq 5 (.tmp 3) (.const (.int .u8 48))⟩, qm 5 4, qg 5 true (qm 6 0), ⟨some (5, true), .bin 7 .leq 5 (.tmp 6) (.const (.int .u8 57))⟩, ⟨none, .pick 8 (.tmp 5) (.tmp 7) (.const (.bool false))⟩, qm 2 8]
def R_isDigit_lc : LC := (.seq (.ops QoS) (.seq (.ops QoR) .ret))
@[reducible] def QoU : FuncId := 82
theorem Qn5 : lowF Tryz.prog Tryz.f82 = some R_isDigit_lc := by kernel_rfl
theorem QoT {a0 : Value} {w : World} {R : Ending → World → Prop} (h : R_isDigit_lc.wp Tryz.prog (retQ Tryz.prog [.tmp 2] R) (Qh [a0]) w) : Calls Tryz.prog QoU ⟨[a0]⟩ w R :=
  Q3 Tryz.func82 Qn5 (by kernel_rfl) (by kernel_rfl) h

/- 83 -/
def Qrf : List GO := [qk 2 (vi 0), qk 3 (.bool false)]
def Qre : List GO := [qm 7 0, ⟨none, .call (some 8) 130 [(.tmp 7), (.const (vi 10)), (.const (vi 64))]⟩, qm 6 8, qx 9 6 0, qx 10 6 1, qm 4 9, qm 5 10]
def Qrd : List GO := [qm 11 5, ⟨none, .bin 12 .neq 109 (.tmp 11) (.const .nilIface)⟩, qm 13 12, qg 13 false (qm 14 4), ⟨some (13, false), .call (some 15) 109 [(.tmp 14), (.const (vi 10))]⟩, qg 13 false (qm 16 0), qg 13 false (qt 17 .neq 9 15 16), ⟨none, .pick 18 (.tmp 13) (.const (.bool true)) (.tmp 17)⟩]
def Qrc : List GO := [qk 2 (vi 0), qk 3 (.bool false)]
def Qrb : List GO := [qm 19 4, qm 2 19, qk 3 (.bool true)]
def R_LongOf_lc : LC := (.seq (.ops Qrf) (.seq (.ops Qre) (.seq (.seq (.ops Qrd) (.cond (.tmp 18) (.seq (.ops Qrc) .ret) .skip)) (.seq (.ops Qrb) .ret))))
@[reducible] def Qgn : FuncId := 83
theorem QoZ : lowF Tryz.prog Tryz.f83 = some R_LongOf_lc := by kernel_rfl
theorem Qrg {a0 : Value} {w : World} {R : Ending → World → Prop} (h : R_LongOf_lc.wp Tryz.prog (retQ Tryz.prog [.tmp 2, .tmp 3] R) (Qh [a0]) w) : Calls Tryz.prog Qgn ⟨[a0]⟩ w R :=
  Q3 Tryz.func83 QoZ (by kernel_rfl) (by kernel_rfl) h

/- 84 -/
def QbN : List GO := [qm 4 0, ⟨none, .call (some 5) 38 [(.tmp 4)]⟩, ⟨none, .un 6 .not (.tmp 5)⟩]
def QbM : List GO := [qm 7 0, qn 8 7, qf 9 8 2, ql 10 9, qm 11 0, qn 12 11, qf 13 12 0, ql 14 13, qL 15 14, qt 16 .lss 3 10 15]
def QbP : List (List Nat) := [[],[0],[1],[2],[],[4],[5],[6],[7],[3,8]]
def QbL : List GO := [qm 17 0, qm 18 1, qm 19 0, qn 20 19, qf 21 20 0, ql 22 21, qm 23 0, qn 24 23, qf 25 24 2, ql 26 25, qi 27 4 22 26, qf 28 27 0, ql 29 28, ⟨none, .call (some 30) 30 [(.tmp 18), (.tmp 29)]⟩, qn 31 17, qf 32 31 3, qw 2 32 30]
def QbO : List (List Nat) := [[],[],[],[2],[3],[4],[],[6],[7],[8],[5,9],[10],[11],[1,12],[0,0,1,2,3,4,5,6,7,8,9,10,11,12,13],[14,0,1,2,3,4,5,6,7,8,9,10,11,12,13],[15,13,13,0,1,2,3,4,5,6,7,8,9,10,11,12,13]]
def QbK : List GO := [qm 33 1, qj 34 .eql 3 33 4]
def QbJ : List GO := [qm 35 0, qm 36 0, qn 37 36, qf 38 37 1, ql 39 38, ⟨none, .call (some 40) 30 [(.const (vi 5)), (.tmp 39)]⟩, qn 41 35, qf 42 41 3, qw 2 42 40]
def QbI : List GO := [qm 43 0, qm 44 1, qm 45 0, qn 46 45, qf 47 46 1, ql 48 47, ⟨none, .call (some 49) 30 [(.tmp 44), (.tmp 48)]⟩, qn 50 43, qf 51 50 3, qw 2 51 49]
def R_reading_wrong_lc : LC := (.seq (.seq (.ops QbN) (.cond (.tmp 6) .ret .skip)) (.seq (.draw QbM QbP) (.cond (.tmp 16) (.draw QbL QbO) (.seq (.ops QbK) (.cond (.tmp 34) (.ops QbJ) (.ops QbI))))))
@[reducible] def Q7V : FuncId := 84
theorem QaM : lowF Tryz.prog Tryz.f84 = some R_reading_wrong_lc := by kernel_rfl
theorem Q2k {a0 a1 : Value} {w : World} {R : Ending → World → Prop} (h : R_reading_wrong_lc.wp Tryz.prog (retQ Tryz.prog [] R) (Qh [a0, a1]) w) : Calls Tryz.prog Q7V ⟨[a0, a1]⟩ w R :=
  Q3 Tryz.func84 QaM (by kernel_rfl) (by kernel_rfl) h

/- 85 -/
def QdM : List GO := [qk 2 (vi 0)]
def QdL : List GO := [qm 3 0, ⟨none, .call (some 4) 38 [(.tmp 3)]⟩, ⟨none, .un 5 .not (.tmp 4)⟩]
def QdK : List GO := [qk 2 (vi 0)]
def QdJ : List GO := [qm 6 0, qn 7 6, qf 8 7 2, ql 9 8, qm 10 0, qn 11 10, qf 12 11 0, ql 13 12, qL 14 13, qt 15 .geq 3 9 14, qm 16 15, qg 16 false (qm 17 0), qg 16 false (qn 18 17), qg 16 false (qf 19 18 0), qg 16 false (ql 20 19), qg 16 false (qm 21 0), qg 16 false (qn 22 21), qg 16 false (qf 23 22 2), qg 16 false (ql 24 23), qg 16 false (qi 25 4 20 24), qg 16 false (qf 26 25 2), qg 16 false (ql 27 26), ⟨some (16, false), .un 28 .not (.tmp 27)⟩, ⟨none, .pick 29 (.tmp 16) (.const (.bool true)) (.tmp 28)⟩]
def QdO : List (List Nat) := [[],[0],[1],[2],[],[4],[5],[6],[7],[3,8],[9],[10],[11,10],[12,10],[13,10],[10],[15,10],[16,10],[17,10],[14,18,10],[19,10],[20,10],[21,10],[10,22]]
def QdI : List GO := [qm 30 0, ⟨none, .call (some 31) 84 [(.tmp 30), (.const (vi 4))]⟩]
def QdH : List GO := [qk 2 (vi 0)]
def QdG : List GO := [qm 32 0, qn 33 32, qf 34 33 2, ql 35 34, qj 36 .add 3 35 1, qn 37 32, qf 38 37 2, qs 38 36]
def QdF : List GO := [qm 39 0, qn 40 39, qf 41 40 0, ql 42 41, qm 43 0, qn 44 43, qf 45 44 2, ql 46 45, qj 47 .sub 3 46 1, qi 48 4 42 47, qf 49 48 3, ql 50 49, qm 2 50]
def QdN : List (List Nat) := [[],[0],[1],[2],[],[4],[5],[6],[7],[3,8],[9],[10],[11,0,1,2,3,4,5,6,7,8,9,10,11]]
def R_reading_long_lc : LC := (.seq (.ops QdM) (.seq (.seq (.ops QdL) (.cond (.tmp 5) (.seq (.ops QdK) .ret) .skip)) (.seq (.seq (.draw QdJ QdO) (.cond (.tmp 29) (.seq (.ops QdI) (.seq (.ops QdH) .ret)) .skip)) (.seq (.ops QdG) (.seq (.draw QdF QdN) .ret)))))
@[reducible] def Q9T : FuncId := 85
theorem Qc2 : lowF Tryz.prog Tryz.f85 = some R_reading_long_lc := by kernel_rfl
theorem Q2E {a0 : Value} {w : World} {R : Ending → World → Prop} (h : R_reading_long_lc.wp Tryz.prog (retQ Tryz.prog [.tmp 2] R) (Qh [a0]) w) : Calls Tryz.prog Q9T ⟨[a0]⟩ w R :=
  Q3 Tryz.func85 Qc2 (by kernel_rfl) (by kernel_rfl) h

/- 86 -/
def QdE : List GO := [qk 6 (.bool false)]
def QdD : List GO := [qm 7 2, qj 8 .gtr 3 7 100]
def QdC : List GO := [qm 9 0, ⟨none, .call (some 10) 84 [(.tmp 9), (.const (vi 2))]⟩]
def QdB : List GO := [qm 11 0, ⟨none, .call (some 12) 38 [(.tmp 11)]⟩, ⟨none, .un 13 .not (.tmp 12)⟩, qm 14 13, qg 14 false (qm 15 0), qg 14 false (qm 16 1), ⟨some (14, false), .call (some 17) 42 [(.tmp 15), (.tmp 16)]⟩, ⟨none, .pick 18 (.tmp 14) (.const (.bool true)) (.tmp 17)⟩]
def QdA : List GO := [qk 6 (.bool false)]
def Qdz : List GO := [qm 19 2, qj 20 .gtr 3 19 0]
def Qdy : List GO := [qm 21 0, ⟨none, .call (some 22) 39 [(.tmp 21), (.const (.string ⟨#[44]⟩))]⟩]
def Qdx : List GO := [qm 23 0, ⟨none, .call (some 24) 38 [(.tmp 23)]⟩, qm 6 24]
def R_reading_more_lc : LC := (.seq (.ops QdE) (.seq (.seq (.ops QdD) (.cond (.tmp 8) (.ops QdC) .skip)) (.seq (.seq (.ops QdB) (.cond (.tmp 18) (.seq (.ops QdA) .ret) .skip)) (.seq (.seq (.ops Qdz) (.cond (.tmp 20) (.ops Qdy) .skip)) (.seq (.ops Qdx) .ret)))))
@[reducible] def Q9S : FuncId := 86
theorem Qc1 : lowF Tryz.prog Tryz.f86 = some R_reading_more_lc := by kernel_rfl
theorem Q1G {a0 a1 a2 : Value} {w : World} {R : Ending → World → Prop} (h : R_reading_more_lc.wp Tryz.prog (retQ Tryz.prog [.tmp 6] R) (Qh [a0, a1, a2]) w) : Calls Tryz.prog Q9S ⟨[a0, a1, a2]⟩ w R :=
  Q3 Tryz.func86 Qc1 (by kernel_rfl) (by kernel_rfl) h

/- 87 -/
def QfA : List GO := [⟨none, .alloc 4 91 [(vi 0), (vi 0), vn]⟩]
def Qfz : List GO := [qm 6 1, qj 7 .gtr 3 6 4]
def Qfy : List GO := [qm 8 0, ⟨none, .call (some 9) 84 [(.tmp 8), (.const (vi 19))]⟩]
def Qfx : List GO := [qm 10 0, ⟨none, .call (some 11) 42 [(.tmp 10), (.const (.string ⟨#[105, 110, 116]⟩))]⟩]
def Qfw : List GO := [qm 12 0, qn 13 12, qf 14 13 2, ql 15 14, qj 16 .add 3 15 1, qn 17 12, qf 18 17 2, qs 18 16]
def Qfv : List GO := [⟨none, .build 19 [(vi 0), (vi 0), vn] [(0, (1, (.const (vi 1))))]⟩, qw 3 4 19]
def Qfu : List GO := [qm 20 0, ⟨none, .call (some 21) 42 [(.tmp 20), (.const (.string ⟨#[104, 97, 110, 100, 108, 101]⟩))]⟩]
def Qft : List GO := [qm 22 0, qn 23 22, qf 24 23 2, ql 25 24, qj 26 .add 3 25 1, qn 27 22, qf 28 27 2, qs 28 26]
def Qfs : List GO := [qm 29 0, ⟨none, .call (some 30) 40 [(.tmp 29)]⟩, ⟨none, .build 31 [(vi 0), (vi 0), vn] [(0, (1, (.const (vi 2)))), (1, (1, (.tmp 30)))]⟩, qw 3 4 31]
def Qfr : List GO := [qm 32 0, ⟨none, .call (some 33) 42 [(.tmp 32), (.const (.string ⟨#[97, 114, 114, 97, 121]⟩))]⟩]
def Qdj : List GO := [qm 34 0, qn 35 34, qf 36 35 2, ql 37 36, qj 38 .add 3 37 1, qn 39 34, qf 40 39 2, qs 40 38]
def Qdi : List GO := [qm 41 0, ⟨none, .call (some 42) 40 [(.tmp 41)]⟩, ⟨none, .build 43 [(vi 0), (vi 0), vn] [(0, (1, (.const (vi 4)))), (1, (1, (.tmp 42)))]⟩, qw 3 4 43]
def Qdh : List GO := [qm 44 0, ⟨none, .call (some 45) 39 [(.tmp 44), (.const (.string ⟨#[116, 117, 112, 108, 101]⟩))]⟩]
def Qdg : List GO := [qm 46 0, ⟨none, .call (some 47) 40 [(.tmp 46)]⟩, ⟨none, .build 48 [(vi 0), (vi 0), vn] [(0, (1, (.const (vi 3)))), (1, (1, (.tmp 47)))]⟩, ⟨none, .alloc 5 91 [(vi 0), (vi 0), vn]⟩, qw 3 5 48]
def Qdf : List GO := [qm 49 0, qm 50 1, qj 51 .add 3 50 1, ⟨none, .call (some 52) 41 [(.tmp 49), (.tmp 51)]⟩, qf 53 5 2, qs 53 52]
def Qde : List GO := [qV 54 3 5, qw 3 4 54]
def R_reading_typ_lc : LC := (.seq (.ops QfA) (.seq (.seq (.ops Qfz) (.cond (.tmp 7) (.ops Qfy) .skip)) (.seq (.seq (.ops Qfx) (.cond (.tmp 11) (.seq (.ops Qfw) (.seq (.ops Qfv) .ret)) .skip)) (.seq (.seq (.ops Qfu) (.cond (.tmp 21) (.seq (.ops Qft) (.seq (.ops Qfs) .ret)) .skip)) (.seq (.seq (.ops Qfr) (.cond (.tmp 33) (.seq (.ops Qdj) (.seq (.ops Qdi) .ret)) .skip)) (.seq (.ops Qdh) (.seq (.ops Qdg) (.seq (.ops Qdf) (.seq (.ops Qde) .ret)))))))))
@[reducible] def Q11 : FuncId := 87
theorem Qdk : lowF Tryz.prog Tryz.f87 = some R_reading_typ_lc := by kernel_rfl
theorem Q34 {a0 a1 : Value} {w : World} {R : Ending → World → Prop} (h : R_reading_typ_lc.wp Tryz.prog (retQ Tryz.prog [.cell 4 91] R) (Qh [a0, a1]) w) : Calls Tryz.prog Q11 ⟨[a0, a1]⟩ w R :=
  Q3 Tryz.func87 Qdk (by kernel_rfl) (by kernel_rfl) h

/- 88 -/
def Qdr : List GO := [qk 6 vn]
def Qdq : List GO := [qk 7 vn]
def Qdp : List GO := [qm 8 0, qm 9 1, ⟨none, .call (some 10) 39 [(.tmp 8), (.tmp 9)]⟩]
def Qdo : List GO := [qm 11 0, qm 12 2, qm 13 7, qL 14 13, ⟨none, .call (some 15) 86 [(.tmp 11), (.tmp 12), (.tmp 14)]⟩]
def Qdn : List GO := [qm 16 7, qm 17 0, ⟨none, .call (some 18) 40 [(.tmp 17)]⟩, ⟨none, .buildS 19 3 1 [(vi 0)] [(0, (1, (.tmp 18)))]⟩, ⟨none, .raw ⟨(some 20), (.call ⟨(.builtin .append), #[(.tmp 16), (.tmp 19)], #[46, 46]⟩), 46, "", #[], none⟩⟩, qm 7 20]
def Q5k : LC := (.seq (.seq (.ops Qdo) (.cond (.tmp 15) .skip (.exit 0))) (.block 1 (.ops Qdn)))
def Qdm : List GO := [qm 21 0, qm 22 2, ⟨none, .call (some 23) 39 [(.tmp 21), (.tmp 22)]⟩]
def Qdl : List GO := [qm 24 7, qm 6 24]
def R_reading_nums_lc : LC := (.seq (.ops Qdr) (.seq (.ops Qdq) (.seq (.ops Qdp) (.seq (.block 0 (.loop Q5k)) (.seq (.ops Qdm) (.seq (.ops Qdl) .ret))))))
@[reducible] def Q3N : FuncId := 88
theorem QbY : lowF Tryz.prog Tryz.f88 = some R_reading_nums_lc := by kernel_rfl
theorem Qds {a0 a1 a2 : Value} {w : World} {R : Ending → World → Prop} (h : R_reading_nums_lc.wp Tryz.prog (retQ Tryz.prog [.tmp 6] R) (Qh [a0, a1, a2]) w) : Calls Tryz.prog Q3N ⟨[a0, a1, a2]⟩ w R :=
  Q3 Tryz.func88 QbY (by kernel_rfl) (by kernel_rfl) h

/- 89 -/
def QhI : List GO := [⟨none, .alloc 2 48 [(vi 0), vn, vn]⟩]
def QhH : List GO := [qm 4 0, ⟨none, .call (some 5) 40 [(.tmp 4)]⟩, ⟨none, .build 6 [(vi 0), vn, vn] [(0, (1, (.tmp 5)))]⟩, ⟨none, .alloc 3 48 [(vi 0), vn, vn]⟩, qw 3 3 6]
def QhG : List GO := [qm 7 0, ⟨none, .call (some 8) 88 [(.tmp 7), (.const (.string ⟨#[60]⟩)), (.const (.string ⟨#[62]⟩))]⟩, qf 9 3 1, qs 9 8]
def QhF : List GO := [qm 10 0, ⟨none, .call (some 11) 88 [(.tmp 10), (.const (.string ⟨#[40]⟩)), (.const (.string ⟨#[41]⟩))]⟩, qf 12 3 2, qs 12 11]
def QhE : List GO := [qV 13 3 3, qw 3 2 13]
def R_reading_to_lc : LC := (.seq (.ops QhI) (.seq (.ops QhH) (.seq (.ops QhG) (.seq (.ops QhF) (.seq (.ops QhE) .ret)))))
@[reducible] def Qf4 : FuncId := 89
theorem QfB : lowF Tryz.prog Tryz.f89 = some R_reading_to_lc := by kernel_rfl
theorem QhJ {a0 : Value} {w : World} {R : Ending → World → Prop} (h : R_reading_to_lc.wp Tryz.prog (retQ Tryz.prog [.cell 2 48] R) (Qh [a0]) w) : Calls Tryz.prog Qf4 ⟨[a0]⟩ w R :=
  Q3 Tryz.func89 QfB (by kernel_rfl) (by kernel_rfl) h

/- 90 -/
def Qke : List GO := [qb 2 91 0, qk 4 (vi 0)]
def Qkd : List GO := [qV 5 3 2, ⟨none, .call (some 6) 131 [(.tmp 5), (.const (vi 4))]⟩, qj 7 .gtr 3 6 4]
def Qkc : List GO := [qk 4 (vi 19)]
def Qkb : List GO := [qV 8 3 2, qm 9 1, ⟨none, .call (some 10) 132 [(.tmp 8), (.tmp 9)]⟩, qm 4 10]
def R_TypeFault_lc : LC := (.seq (.ops Qke) (.seq (.seq (.ops Qkd) (.cond (.tmp 7) (.seq (.ops Qkc) .ret) .skip)) (.seq (.ops Qkb) .ret)))
@[reducible] def Q5S : FuncId := 90
theorem Qi4 : lowF Tryz.prog Tryz.f90 = some R_TypeFault_lc := by kernel_rfl
theorem Qkf {a0 a1 : Value} {w : World} {R : Ending → World → Prop} (h : R_TypeFault_lc.wp Tryz.prog (retQ Tryz.prog [.tmp 4] R) (Qh [a0, a1]) w) : Calls Tryz.prog Q5S ⟨[a0, a1]⟩ w R :=
  Q3 Tryz.func90 Qi4 (by kernel_rfl) (by kernel_rfl) h

/- 91 -/
def Qpq : List GO := [qk 4 (vi 0)]
def Qpp : List GO := [qm 5 0, ⟨none, .bin 6 .mul 3 (.const (vi 10000)) (.tmp 5)⟩, qm 7 1, ⟨none, .bin 8 .mul 3 (.const (vi 100)) (.tmp 7)⟩, qt 9 .add 3 6 8, qj 10 .add 3 9 90, qm 4 10]
def R_AtBlock_lc : LC := (.seq (.ops Qpq) (.seq (.ops Qpp) .ret))
@[reducible] def Qps : FuncId := 91
theorem QnO : lowF Tryz.prog Tryz.f91 = some R_AtBlock_lc := by kernel_rfl
theorem Qpr {a0 a1 : Value} {w : World} {R : Ending → World → Prop} (h : R_AtBlock_lc.wp Tryz.prog (retQ Tryz.prog [.tmp 4] R) (Qh [a0, a1]) w) : Calls Tryz.prog Qps ⟨[a0, a1]⟩ w R :=
  Q3 Tryz.func91 QnO (by kernel_rfl) (by kernel_rfl) h

/- 92 -/
def Qp9 : List GO := [qb 2 24 0, qb 3 54 1, qk 4 (vi 0)]
def Qp8 : List GO := [qf 8 3 0, ql 9 8, ⟨none, .call (some 10) 114 [(.tmp 9)]⟩, qm 7 10, qx 11 7 0, qx 12 7 1, ⟨none, .alloc 5 156 [(.bool false), (.bool false), (.bool false), (.bool false), (.bool false), (.bool false), (.bool false)]⟩, qw 7 5 11, qm 6 12]
def Qp7 : List GO := [qm 13 6, ⟨none, .un 14 .not (.tmp 13)⟩]
def Qp6 : List GO := [qk 4 (vi 3)]
def Qp5 : List GO := [qf 15 5 0, ql 16 15, ⟨none, .un 17 .not (.tmp 16)⟩, qm 18 17, qg 18 true (qf 19 3 1), qg 18 true (ql 20 19), qg 18 true (qj 21 .neq 3 20 0), ⟨none, .pick 22 (.tmp 18) (.tmp 21) (.const (.bool false))⟩, qm 23 22, qg 23 false (qf 24 5 1), qg 23 false (ql 25 24), ⟨some (23, false), .un 26 .not (.tmp 25)⟩, qg 23 false (qm 27 26), qg 27 true (qf 28 3 2), qg 27 true (ql 29 28), qg 27 true (qj 30 .neq 3 29 0), ⟨some (23, false), .pick 31 (.tmp 27) (.tmp 30) (.const (.bool false))⟩, ⟨none, .pick 32 (.tmp 23) (.const (.bool true)) (.tmp 31)⟩, qm 33 32, qg 33 false (qf 34 5 2), qg 33 false (ql 35 34), ⟨some (33, false), .un 36 .not (.tmp 35)⟩, qg 33 false (qm 37 36), qg 37 true (qf 38 3 3), qg 37 true (ql 39 38), qg 37 true (qj 40 .neq 3 39 0), ⟨some (33, false), .pick 41 (.tmp 37) (.tmp 40) (.const (.bool false))⟩, ⟨none, .pick 42 (.tmp 33) (.const (.bool true)) (.tmp 41)⟩, qm 43 42, qg 43 false (qf 44 5 3), qg 43 false (ql 45 44), ⟨some (43, false), .un 46 .not (.tmp 45)⟩, qg 43 false (qm 47 46), qg 47 true (qf 48 3 4), qg 47 true (ql 49 48), qg 47 true (qj 50 .neq 3 49 0), ⟨some (43, false), .pick 51 (.tmp 47) (.tmp 50) (.const (.bool false))⟩, ⟨none, .pick 52 (.tmp 43) (.const (.bool true)) (.tmp 51)⟩, qm 53 52, qg 53 false (qf 54 5 4), qg 53 false (ql 55 54), ⟨some (53, false), .un 56 .not (.tmp 55)⟩, qg 53 false (qm 57 56), qg 57 true (qf 58 3 5), qg 57 true (ql 59 58), qg 57 true (qj 60 .neq 2 59 0), ⟨some (53, false), .pick 61 (.tmp 57) (.tmp 60) (.const (.bool false))⟩, ⟨none, .pick 62 (.tmp 53) (.const (.bool true)) (.tmp 61)⟩, qm 63 62, qg 63 false (qf 64 5 5), qg 63 false (ql 65 64), ⟨some (63, false), .un 66 .not (.tmp 65)⟩, qg 63 false (qm 67 66), qg 67 true (qf 68 3 6), qg 67 true (ql 69 68), qg 67 true (qL 70 69), qg 67 true (qj 71 .gtr 3 70 0), ⟨some (63, false), .pick 72 (.tmp 67) (.tmp 71) (.const (.bool false))⟩, ⟨none, .pick 73 (.tmp 63) (.const (.bool true)) (.tmp 72)⟩, qm 74 73, qg 74 false (qf 75 5 6), qg 74 false (ql 76 75), ⟨some (74, false), .un 77 .not (.tmp 76)⟩, qg 74 false (qm 78 77), qg 78 true (qf 79 3 7), qg 78 true (ql 80 79), qg 78 true (qL 81 80), qg 78 true (qj 82 .gtr 3 81 0), ⟨some (74, false), .pick 83 (.tmp 78) (.tmp 82) (.const (.bool false))⟩, ⟨none, .pick 84 (.tmp 74) (.const (.bool true)) (.tmp 83)⟩]
def Qp4 : List GO := [qk 4 (vi 4)]
def Qp3 : List GO := [qf 85 3 0, ql 86 85]
def Qp2 : List GO := [qj 88 .eql 3 86 2, qm 87 88]
def Qp1 : List GO := [qf 89 3 4, ql 90 89, qj 91 .lss 3 90 1, qm 92 91, qg 92 false (qf 93 3 4), qg 92 false (ql 94 93), qg 92 false (qj 95 .gtr 3 94 9), ⟨none, .pick 96 (.tmp 92) (.const (.bool true)) (.tmp 95)⟩]
def Qp0 : List GO := [qk 4 (vi 1)]
def QnA : List GO := [qj 98 .eql 3 86 5, qm 97 98]
def Qnz : List GO := [qf 99 3 7, ql 100 99, qL 101 100, qj 102 .gtr 3 101 8]
def Qny : List GO := [qk 4 (vi 2)]
def Qnx : List GO := [qj 104 .eql 3 86 6, qm 103 104]
def Qnw : List GO := [qj 105 .eql 3 86 7, qm 103 105]
def Qnv : List GO := [qf 106 3 4, ql 107 106, qj 108 .lss 3 107 0, qm 109 108, qg 109 false (qf 110 3 4), qg 109 false (ql 111 110), qg 109 false (qj 112 .gtr 3 111 7), ⟨none, .pick 113 (.tmp 109) (.const (.bool true)) (.tmp 112)⟩]
def Qnu : List GO := [qk 4 (vi 1)]
def Qnt : List GO := [qj 115 .eql 3 86 14, qm 114 115]
def Qns : List GO := [qf 116 3 4, ql 117 116, qj 118 .lss 3 117 0, qm 119 118, qg 119 false (qf 120 3 4), qg 119 false (ql 121 120), qg 119 false (qf 122 2 0), qg 119 false (ql 123 122), qg 119 false (qL 124 123), qg 119 false (qt 125 .geq 3 121 124), ⟨none, .pick 126 (.tmp 119) (.const (.bool true)) (.tmp 125)⟩]
def Qnr : List GO := [qk 4 (vi 1)]
def Qnq : List GO := [qf 127 3 6, ql 128 127, qL 129 128, qj 130 .gtr 3 129 6, qm 131 130, qg 131 false (qf 132 3 7), qg 131 false (ql 133 132), qg 131 false (qL 134 133), qg 131 false (qj 135 .gtr 3 134 8), ⟨none, .pick 136 (.tmp 131) (.const (.bool true)) (.tmp 135)⟩]
def Qnp : List GO := [qk 4 (vi 2)]
def Qno : List GO := [qk 4 (vi 0)]
def R_InsForm_lc : LC := (.seq (.ops Qp9) (.seq (.ops Qp8) (.seq (.seq (.ops Qp7) (.cond (.tmp 14) (.seq (.ops Qp6) .ret) .skip)) (.seq (.seq (.ops Qp5) (.cond (.tmp 84) (.seq (.ops Qp4) .ret) .skip)) (.seq (.seq (.ops Qp3) (.block 0 (.seq (.ops Qp2) (.cond (.tmp 87) (.seq (.ops Qp1) (.cond (.tmp 96) (.seq (.ops Qp0) .ret) .skip)) (.seq (.ops QnA) (.cond (.tmp 97) (.seq (.ops Qnz) (.cond (.tmp 102) (.seq (.ops Qny) .ret) .skip)) (.seq (.seq (.ops Qnx) (.cond (.tmp 103) .skip (.ops Qnw))) (.cond (.tmp 103) (.seq (.ops Qnv) (.cond (.tmp 113) (.seq (.ops Qnu) .ret) .skip)) (.seq (.ops Qnt) (.cond (.tmp 114) (.seq (.seq (.ops Qns) (.cond (.tmp 126) (.seq (.ops Qnr) .ret) .skip)) (.seq (.ops Qnq) (.cond (.tmp 136) (.seq (.ops Qnp) .ret) .skip))) .skip)))))))))) (.seq (.ops Qno) .ret))))))
@[reducible] def QG : FuncId := 92
theorem QnB : lowF Tryz.prog Tryz.f92 = some R_InsForm_lc := by kernel_rfl
theorem Qpa {a0 a1 : Value} {w : World} {R : Ending → World → Prop} (h : R_InsForm_lc.wp Tryz.prog (retQ Tryz.prog [.tmp 4] R) (Qh [a0, a1]) w) : Calls Tryz.prog QG ⟨[a0, a1]⟩ w R :=
  Q3 Tryz.func92 QnB (by kernel_rfl) (by kernel_rfl) h

/- 93 -/
def Qtf : List GO := [qk 6 (vi 0)]
def Qte : List GO := [qm 7 0, ⟨none, .bin 8 .mul 3 (.const (vi 10000)) (.tmp 7)⟩, qm 9 1, ⟨none, .bin 10 .mul 3 (.const (vi 100)) (.tmp 9)⟩, qt 11 .add 3 8 10, qm 12 2, qt 13 .add 3 11 12, qm 6 13]
def R_AtIns_lc : LC := (.seq (.ops Qtf) (.seq (.ops Qte) .ret))
@[reducible] def Qv6 : FuncId := 93
theorem Qrs : lowF Tryz.prog Tryz.f93 = some R_AtIns_lc := by kernel_rfl
theorem Qtg {a0 a1 a2 : Value} {w : World} {R : Ending → World → Prop} (h : R_AtIns_lc.wp Tryz.prog (retQ Tryz.prog [.tmp 6] R) (Qh [a0, a1, a2]) w) : Calls Tryz.prog Qv6 ⟨[a0, a1, a2]⟩ w R :=
  Q3 Tryz.func93 Qrs (by kernel_rfl) (by kernel_rfl) h

/- 94 -/
def Qpk : List GO := [qb 2 43 0, qb 3 50 1, qk 4 (vi 0)]
def Qpj : List GO := [qf 6 3 0, ql 7 6, qj 8 .lss 3 7 1, qm 9 8, qg 9 false (qf 10 3 0), qg 9 false (ql 11 10), qg 9 false (qj 12 .gtr 3 11 3), ⟨none, .pick 13 (.tmp 9) (.const (.bool true)) (.tmp 12)⟩]
def Qpi : List GO := [qk 4 (vi 3)]
def Qph : List GO := [qf 14 3 1, ql 15 14, qj 16 .neq 3 15 0, qm 17 16, qg 17 true (qf 18 3 0), qg 17 true (ql 19 18), qg 17 true (qj 20 .neq 3 19 2), ⟨none, .pick 21 (.tmp 17) (.tmp 20) (.const (.bool false))⟩, qm 22 21, qg 22 false (qf 23 3 8), qg 22 false (ql 24 23), qg 22 false (qL 25 24), qg 22 false (qj 26 .gtr 3 25 0), qg 22 false (qm 27 26), qg 27 true (qf 28 3 0), qg 27 true (ql 29 28), qg 27 true (qj 30 .neq 3 29 3), ⟨some (22, false), .pick 31 (.tmp 27) (.tmp 30) (.const (.bool false))⟩, ⟨none, .pick 32 (.tmp 22) (.const (.bool true)) (.tmp 31)⟩]
def Qpg : List GO := [qk 4 (vi 4)]
def Qpf : List GO := [qf 33 3 8, ql 34 33, qL 35 34, qj 36 .gtr 3 35 8]
def Qpe : List GO := [qk 4 (vi 2)]
def Qpd : List GO := [qV 37 4 2, qf 38 3 2, qV 39 3 38, qf 40 3 0, ql 41 40, qj 42 .neq 3 41 3, ⟨none, .call (some 43) 133 [(.tmp 37), (.tmp 39), (.tmp 42)]⟩, qm 5 43]
def Qpc : List GO := [qm 44 5, qj 45 .neq 3 44 0]
def Qpb : List GO := [qm 46 5, qm 4 46]
def QnM : List GO := [qV 47 4 2, qf 48 3 5, qV 49 3 48, qf 50 3 0, ql 51 50, qj 52 .eql 3 51 2, ⟨none, .call (some 53) 133 [(.tmp 47), (.tmp 49), (.tmp 52)]⟩, qm 4 53]
def R_EndForm_lc : LC := (.seq (.ops Qpk) (.seq (.seq (.ops Qpj) (.cond (.tmp 13) (.seq (.ops Qpi) .ret) .skip)) (.seq (.seq (.ops Qph) (.cond (.tmp 32) (.seq (.ops Qpg) .ret) .skip)) (.seq (.seq (.ops Qpf) (.cond (.tmp 36) (.seq (.ops Qpe) .ret) .skip)) (.seq (.seq (.ops Qpd) (.seq (.ops Qpc) (.cond (.tmp 45) (.seq (.ops Qpb) .ret) .skip))) (.seq (.ops QnM) .ret))))))
@[reducible] def Q2Z : FuncId := 94
theorem QnN : lowF Tryz.prog Tryz.f94 = some R_EndForm_lc := by kernel_rfl
theorem Qpl {a0 a1 : Value} {w : World} {R : Ending → World → Prop} (h : R_EndForm_lc.wp Tryz.prog (retQ Tryz.prog [.tmp 4] R) (Qh [a0, a1]) w) : Calls Tryz.prog Q2Z ⟨[a0, a1]⟩ w R :=
  Q3 Tryz.func94 QnN (by kernel_rfl) (by kernel_rfl) h

/- 95 -/
def Qti : List GO := [qk 4 (vi 0)]
def Qth : List GO := [qm 5 0, ⟨none, .bin 6 .mul 3 (.const (vi 10000)) (.tmp 5)⟩, qm 7 1, ⟨none, .bin 8 .mul 3 (.const (vi 100)) (.tmp 7)⟩, qt 9 .add 3 6 8, qj 10 .add 3 9 91, qm 4 10]
def R_AtEnd_lc : LC := (.seq (.ops Qti) (.seq (.ops Qth) .ret))
@[reducible] def Qv7 : FuncId := 95
theorem Qrw : lowF Tryz.prog Tryz.f95 = some R_AtEnd_lc := by kernel_rfl
theorem Qtj {a0 a1 : Value} {w : World} {R : Ending → World → Prop} (h : R_AtEnd_lc.wp Tryz.prog (retQ Tryz.prog [.tmp 4] R) (Qh [a0, a1]) w) : Calls Tryz.prog Qv7 ⟨[a0, a1]⟩ w R :=
  Q3 Tryz.func95 Qrw (by kernel_rfl) (by kernel_rfl) h

/- 96 -/
/- 97 -/
def Qj3 : List GO := [qb 2 91 0, qk 4 (vi 0)]
def Qj2 : List GO := [qV 5 3 2, ⟨none, .call (some 6) 134 [(.tmp 5), (.const (vi 4))]⟩, ⟨none, .un 7 .not (.tmp 6)⟩]
def Qj1 : List GO := [qk 4 (vi 19)]
def Qj0 : List GO := [qV 8 3 2, qm 9 1, ⟨none, .call (some 10) 135 [(.tmp 8), (.tmp 9)]⟩, qm 4 10]
def types_Check_lc : LC := (.seq (.ops Qj3) (.seq (.seq (.ops Qj2) (.cond (.tmp 7) (.seq (.ops Qj1) .ret) .skip)) (.seq (.ops Qj0) .ret)))
@[reducible] def Q5o : FuncId := 97
theorem QgG : lowF Tryz.prog Tryz.f97 = some types_Check_lc := by kernel_rfl
theorem Qj4 {a0 a1 : Value} {w : World} {R : Ending → World → Prop} (h : types_Check_lc.wp Tryz.prog (retQ Tryz.prog [.tmp 4] R) (Qh [a0, a1]) w) : Calls Tryz.prog Q5o ⟨[a0, a1]⟩ w R :=
  Q3 Tryz.func97 QgG (by kernel_rfl) (by kernel_rfl) h

/- 98 -/
def Q2P : List GO := [qk 4 (vi 0)]
def Q2O : List GO := [qm 6 0, qL 7 6, qk 8 (vi 0)]
def Q2N : List GO := [qt 9 .lss 3 8 7]
def Q2M : List GO := [qm 10 8, qm 5 10]
def Q2L : List GO := [qm 11 1, qm 12 0, qm 13 5, qi 14 3 12 13, qV 15 3 14, ⟨none, .callv (some 16) (.tmp 11) [(.tmp 15)]⟩]
def Q2K : List GO := [qm 17 5, qm 4 17]
def Q2J : List GO := [qj 18 .add 3 8 1, qm 8 18]
def Q1B : LC := (.seq (.ops Q2N) (.seq (.cond (.tmp 9) .skip (.exit 0)) (.seq (.block 1 (.seq (.ops Q2M) (.seq (.ops Q2L) (.cond (.tmp 16) (.seq (.ops Q2K) .ret) .skip)))) (.ops Q2J))))
def Q2I : List GO := [qk 4 (vi (-1))]
def slices_IndexFunc_api_Type_api_Type_lc : LC := (.seq (.ops Q2P) (.seq (.seq (.ops Q2O) (.block 0 (.loop Q1B))) (.seq (.ops Q2I) .ret)))
@[reducible] def QL : FuncId := 98
theorem Q2A : lowF Tryz.prog Tryz.f98 = some slices_IndexFunc_api_Type_api_Type_lc := by kernel_rfl
theorem Q2Q {a0 a1 : Value} {w : World} {R : Ending → World → Prop} (h : slices_IndexFunc_api_Type_api_Type_lc.wp Tryz.prog (retQ Tryz.prog [.tmp 4] R) (Qh [a0, a1]) w) : Calls Tryz.prog QL ⟨[a0, a1]⟩ w R :=
  Q3 Tryz.func98 Q2A (by kernel_rfl) (by kernel_rfl) h

/- 99 -/
def Qhp : List GO := [qk 4 (vi 0)]
def Qho : List GO := [qm 5 0, qj 6 .mul 3 5 10000, qm 7 1, qj 8 .mul 3 7 100, qt 9 .add 3 6 8, qj 10 .add 3 9 90, qm 4 10]
def code_BlockAt_lc : LC := (.seq (.ops Qhp) (.seq (.ops Qho) .ret))
@[reducible] def Qf1 : FuncId := 99
theorem Qfp : lowF Tryz.prog Tryz.f99 = some code_BlockAt_lc := by kernel_rfl
theorem Qhq {a0 a1 : Value} {w : World} {R : Ending → World → Prop} (h : code_BlockAt_lc.wp Tryz.prog (retQ Tryz.prog [.tmp 4] R) (Qh [a0, a1]) w) : Calls Tryz.prog Qf1 ⟨[a0, a1]⟩ w R :=
  Q3 Tryz.func99 Qfp (by kernel_rfl) (by kernel_rfl) h

/- 100 -/
def Q1w : List GO := [qk 6 (.bool false)]
def Q1v : List GO := [qm 10 0, qL 11 10, qm 12 1, qL 13 12, qt 14 .neq 3 11 13]
def Q1u : List GO := [qk 6 (.bool false)]
def Q1t : List GO := [qm 15 0, qL 16 15, qk 17 (vi 0)]
def Q1s : List GO := [qt 18 .lss 3 17 16]
def Q1r : List GO := [qm 19 17, qi 20 3 15 17, qV 21 3 20, ⟨none, .alloc 8 91 [(vi 0), (vi 0), vn]⟩, qm 7 19, qw 3 8 21]
def Q1q : List GO := [qm 22 1, qm 23 7, qi 24 3 22 23, qV 25 3 24, ⟨none, .alloc 9 91 [(vi 0), (vi 0), vn]⟩, qw 3 9 25]
def Q1p : List GO := [qm 26 2, qV 27 3 8, qV 28 3 9, ⟨none, .callv (some 29) (.tmp 26) [(.tmp 27), (.tmp 28)]⟩, ⟨none, .un 30 .not (.tmp 29)⟩]
def Q1o : List GO := [qk 6 (.bool false)]
def Q1n : List GO := [qj 31 .add 3 17 1, qm 17 31]
def QK : LC := (.seq (.ops Q1s) (.seq (.cond (.tmp 18) .skip (.exit 0)) (.seq (.block 1 (.seq (.ops Q1r) (.seq (.ops Q1q) (.seq (.ops Q1p) (.cond (.tmp 30) (.seq (.ops Q1o) .ret) .skip))))) (.ops Q1n))))
def Q1k : List GO := [qk 6 (.bool true)]
def slices_EqualFunc_api_Type_api_Type_api_Type_api_Type_lc : LC := (.seq (.ops Q1w) (.seq (.seq (.ops Q1v) (.cond (.tmp 14) (.seq (.ops Q1u) .ret) .skip)) (.seq (.seq (.ops Q1t) (.block 0 (.loop QK))) (.seq (.ops Q1k) .ret))))
@[reducible] def Qf : FuncId := 100
theorem Q1l : lowF Tryz.prog Tryz.f100 = some slices_EqualFunc_api_Type_api_Type_api_Type_api_Type_lc := by kernel_rfl
theorem Q1x {a0 a1 a2 : Value} {w : World} {R : Ending → World → Prop} (h : slices_EqualFunc_api_Type_api_Type_api_Type_api_Type_lc.wp Tryz.prog (retQ Tryz.prog [.tmp 6] R) (Qh [a0, a1, a2]) w) : Calls Tryz.prog Qf ⟨[a0, a1, a2]⟩ w R :=
  Q3 Tryz.func100 Q1l (by kernel_rfl) (by kernel_rfl) h

/- 101 -/
def QlB : List GO := [qb 2 91 0, qb 3 91 1, qk 4 (.bool false)]
def QlA : List GO := [qf 5 2 0, ql 6 5, qf 7 3 0, ql 8 7, qt 9 .eql 3 6 8, qm 10 9, qg 10 true (qf 11 2 1), qg 10 true (ql 12 11), qg 10 true (qf 13 3 1), qg 10 true (ql 14 13), qg 10 true (qt 15 .eql 3 12 14), ⟨none, .pick 16 (.tmp 10) (.tmp 15) (.const (.bool false))⟩, qm 17 16, qg 17 true (qf 18 2 2), qg 17 true (ql 19 18), qg 17 true (qf 20 3 2), qg 17 true (ql 21 20), ⟨some (17, true), .call (some 22) 100 [(.tmp 19), (.tmp 21), (.func 101)]⟩, ⟨none, .pick 23 (.tmp 17) (.tmp 22) (.const (.bool false))⟩, qm 4 23]
def types_Same_lc : LC := (.seq (.ops QlB) (.seq (.ops QlA) .ret))
@[reducible] def QkY : FuncId := 101
theorem QiZ : lowF Tryz.prog Tryz.f101 = some types_Same_lc := by kernel_rfl
theorem QlC {a0 a1 : Value} {w : World} {R : Ending → World → Prop} (h : types_Same_lc.wp Tryz.prog (retQ Tryz.prog [.tmp 4] R) (Qh [a0, a1]) w) : Calls Tryz.prog QkY ⟨[a0, a1]⟩ w R :=
  Q3 Tryz.func101 QiZ (by kernel_rfl) (by kernel_rfl) h

/- 102 -/
def Qmx : List GO := [qk 6 (vi 0)]
def Qmw : List GO := [qm 7 0, qj 8 .mul 3 7 10000, qm 9 1, qj 10 .mul 3 9 100, qt 11 .add 3 8 10, qm 12 2, qt 13 .add 3 11 12, qm 6 13]
def code_InsAt_lc : LC := (.seq (.ops Qmx) (.seq (.ops Qmw) .ret))
@[reducible] def Qle : FuncId := 102
theorem Qjw : lowF Tryz.prog Tryz.f102 = some code_InsAt_lc := by kernel_rfl
theorem Qmy {a0 a1 a2 : Value} {w : World} {R : Ending → World → Prop} (h : code_InsAt_lc.wp Tryz.prog (retQ Tryz.prog [.tmp 6] R) (Qh [a0, a1, a2]) w) : Calls Tryz.prog Qle ⟨[a0, a1, a2]⟩ w R :=
  Q3 Tryz.func102 Qjw (by kernel_rfl) (by kernel_rfl) h

/- 103 -/
def Qd4 : List GO := [qb 3 54 1]
def Qd3 : List GO := [qm 5 0, qf 6 3 0, ql 7 6, qj 8 .lss 3 7 1, qm 9 8, qg 9 false (qf 10 3 0), qg 9 false (ql 11 10), qg 9 false (qj 12 .gtr 3 11 14), ⟨none, .pick 13 (.tmp 9) (.const (.bool true)) (.tmp 12)⟩, ⟨none, .call (some 14) 50 [(.tmp 5), (.tmp 13), (.const (vi 3))]⟩]
def Qd2 : List GO := [qf 15 3 0, ql 16 15, ⟨none, .call (some 17) 136 [(.tmp 16)]⟩, qm 4 17]
def Qd1 : List GO := [qm 18 0, qm 19 4, ⟨none, .call (some 20) 137 [(.tmp 19), (.const (.int .u8 97))]⟩, ⟨none, .un 21 .not (.tmp 20)⟩, qm 22 21, qg 22 true (qf 23 3 1), qg 22 true (ql 24 23), qg 22 true (qj 25 .neq 3 24 0), ⟨none, .pick 26 (.tmp 22) (.tmp 25) (.const (.bool false))⟩, qm 27 26, qg 27 false (qm 28 4), ⟨some (27, false), .call (some 29) 137 [(.tmp 28), (.const (.int .u8 98))]⟩, ⟨some (27, false), .un 30 .not (.tmp 29)⟩, qg 27 false (qm 31 30), qg 31 true (qf 32 3 2), qg 31 true (ql 33 32), qg 31 true (qj 34 .neq 3 33 0), ⟨some (27, false), .pick 35 (.tmp 31) (.tmp 34) (.const (.bool false))⟩, ⟨none, .pick 36 (.tmp 27) (.const (.bool true)) (.tmp 35)⟩, qm 37 36, qg 37 false (qm 38 4), ⟨some (37, false), .call (some 39) 137 [(.tmp 38), (.const (.int .u8 99))]⟩, ⟨some (37, false), .un 40 .not (.tmp 39)⟩, qg 37 false (qm 41 40), qg 41 true (qf 42 3 3), qg 41 true (ql 43 42), qg 41 true (qj 44 .neq 3 43 0), ⟨some (37, false), .pick 45 (.tmp 41) (.tmp 44) (.const (.bool false))⟩, ⟨none, .pick 46 (.tmp 37) (.const (.bool true)) (.tmp 45)⟩, qm 47 46, qg 47 false (qm 48 4), ⟨some (47, false), .call (some 49) 137 [(.tmp 48), (.const (.int .u8 107))]⟩, ⟨some (47, false), .un 50 .not (.tmp 49)⟩, qg 47 false (qm 51 50), qg 51 true (qf 52 3 4), qg 51 true (ql 53 52), qg 51 true (qj 54 .neq 3 53 0), ⟨some (47, false), .pick 55 (.tmp 51) (.tmp 54) (.const (.bool false))⟩, ⟨none, .pick 56 (.tmp 47) (.const (.bool true)) (.tmp 55)⟩, qm 57 56, qg 57 false (qm 58 4), ⟨some (57, false), .call (some 59) 137 [(.tmp 58), (.const (.int .u8 110))]⟩, ⟨some (57, false), .un 60 .not (.tmp 59)⟩, qg 57 false (qm 61 60), qg 61 true (qf 62 3 5), qg 61 true (ql 63 62), qg 61 true (qj 64 .neq 2 63 0), ⟨some (57, false), .pick 65 (.tmp 61) (.tmp 64) (.const (.bool false))⟩, ⟨none, .pick 66 (.tmp 57) (.const (.bool true)) (.tmp 65)⟩, qm 67 66, qg 67 false (qm 68 4), ⟨some (67, false), .call (some 69) 137 [(.tmp 68), (.const (.int .u8 103))]⟩, ⟨some (67, false), .un 70 .not (.tmp 69)⟩, qg 67 false (qm 71 70), qg 71 true (qf 72 3 6), qg 71 true (ql 73 72), qg 71 true (qL 74 73), qg 71 true (qj 75 .gtr 3 74 0), ⟨some (67, false), .pick 76 (.tmp 71) (.tmp 75) (.const (.bool false))⟩, ⟨none, .pick 77 (.tmp 67) (.const (.bool true)) (.tmp 76)⟩, qm 78 77, qg 78 false (qm 79 4), ⟨some (78, false), .call (some 80) 137 [(.tmp 79), (.const (.int .u8 114))]⟩, ⟨some (78, false), .un 81 .not (.tmp 80)⟩, qg 78 false (qm 82 81), qg 82 true (qf 83 3 7), qg 82 true (ql 84 83), qg 82 true (qL 85 84), qg 82 true (qj 86 .gtr 3 85 0), ⟨some (78, false), .pick 87 (.tmp 82) (.tmp 86) (.const (.bool false))⟩, ⟨none, .pick 88 (.tmp 78) (.const (.bool true)) (.tmp 87)⟩, ⟨none, .call (some 89) 50 [(.tmp 18), (.tmp 88), (.const (vi 4))]⟩]
def Qd0 : List GO := [qf 90 3 0, ql 91 90]
def QcZ : List GO := [qj 93 .eql 3 91 2, qm 92 93]
def QcY : List GO := [qm 94 0, qf 95 3 4, ql 96 95, qj 97 .lss 3 96 1, qm 98 97, qg 98 false (qf 99 3 4), qg 98 false (ql 100 99), qg 98 false (qj 101 .gtr 3 100 9), ⟨none, .pick 102 (.tmp 98) (.const (.bool true)) (.tmp 101)⟩, ⟨none, .call (some 103) 50 [(.tmp 94), (.tmp 102), (.const (vi 1))]⟩]
def QcX : List GO := [qj 105 .eql 3 91 5, qm 104 105]
def QcW : List GO := [qm 106 0, qf 107 3 7, ql 108 107, qL 109 108, qj 110 .gtr 3 109 8, ⟨none, .call (some 111) 50 [(.tmp 106), (.tmp 110), (.const (vi 2))]⟩]
def QcV : List GO := [qj 113 .eql 3 91 6, qm 112 113]
def Qbz : List GO := [qj 114 .eql 3 91 7, qm 112 114]
def Qby : List GO := [qm 115 0, qf 116 3 4, ql 117 116, qj 118 .lss 3 117 0, qm 119 118, qg 119 false (qf 120 3 4), qg 119 false (ql 121 120), qg 119 false (qj 122 .geq 3 121 8), ⟨none, .pick 123 (.tmp 119) (.const (.bool true)) (.tmp 122)⟩, ⟨none, .call (some 124) 50 [(.tmp 115), (.tmp 123), (.const (vi 1))]⟩]
def Qbx : List GO := [qj 126 .eql 3 91 14, qm 125 126]
def Qbw : List GO := [qm 127 0, qf 128 3 4, ql 129 128, qj 130 .lss 3 129 0, qm 131 130, qg 131 false (qf 132 3 4), qg 131 false (ql 133 132), qg 131 false (qm 134 0), qg 131 false (qn 135 134), qg 131 false (qf 136 135 0), qg 131 false (qf 137 136 0), qg 131 false (ql 138 137), qg 131 false (qL 139 138), qg 131 false (qt 140 .geq 3 133 139), ⟨none, .pick 141 (.tmp 131) (.const (.bool true)) (.tmp 140)⟩, ⟨none, .call (some 142) 50 [(.tmp 127), (.tmp 141), (.const (vi 1))]⟩]
def QbB : List (List Nat) := [[],[],[1],[2],[3],[4],[5,4],[4],[7,4],[8,4],[9,4],[10,4],[11,4],[6,12,4],[4,13],[0,14,4]]
def Qbv : List GO := [qm 143 0, qf 144 3 6, ql 145 144, qL 146 145, qj 147 .gtr 3 146 6, qm 148 147, qg 148 false (qf 149 3 7), qg 148 false (ql 150 149), qg 148 false (qL 151 150), qg 148 false (qj 152 .gtr 3 151 8), ⟨none, .pick 153 (.tmp 148) (.const (.bool true)) (.tmp 152)⟩, ⟨none, .call (some 154) 50 [(.tmp 143), (.tmp 153), (.const (vi 2))]⟩]
def code_judge_ins_lc : LC := (.seq (.ops Qd4) (.seq (.ops Qd3) (.seq (.ops Qd2) (.seq (.ops Qd1) (.seq (.ops Qd0) (.block 0 (.seq (.ops QcZ) (.cond (.tmp 92) (.ops QcY) (.seq (.ops QcX) (.cond (.tmp 104) (.ops QcW) (.seq (.seq (.ops QcV) (.cond (.tmp 112) .skip (.ops Qbz))) (.cond (.tmp 112) (.ops Qby) (.seq (.ops Qbx) (.cond (.tmp 125) (.seq (.draw Qbw QbB) (.ops Qbv)) .skip))))))))))))))
@[reducible] def QQ : FuncId := 103
theorem QbA : lowF Tryz.prog Tryz.f103 = some code_judge_ins_lc := by kernel_rfl
theorem Qd5 {a0 a1 : Value} {w : World} {R : Ending → World → Prop} (h : code_judge_ins_lc.wp Tryz.prog (retQ Tryz.prog [] R) (Qh [a0, a1]) w) : Calls Tryz.prog QQ ⟨[a0, a1]⟩ w R :=
  Q3 Tryz.func103 QbA (by kernel_rfl) (by kernel_rfl) h

/- 104 -/
def QmA : List GO := [qk 4 (vi 0)]
def Qmz : List GO := [qm 5 0, qj 6 .mul 3 5 10000, qm 7 1, qj 8 .mul 3 7 100, qt 9 .add 3 6 8, qj 10 .add 3 9 91, qm 4 10]
def code_EndAt_lc : LC := (.seq (.ops QmA) (.seq (.ops Qmz) .ret))
@[reducible] def Qlf : FuncId := 104
theorem QjA : lowF Tryz.prog Tryz.f104 = some code_EndAt_lc := by kernel_rfl
theorem QmB {a0 a1 : Value} {w : World} {R : Ending → World → Prop} (h : code_EndAt_lc.wp Tryz.prog (retQ Tryz.prog [.tmp 4] R) (Qh [a0, a1]) w) : Calls Tryz.prog Qlf ⟨[a0, a1]⟩ w R :=
  Q3 Tryz.func104 QjA (by kernel_rfl) (by kernel_rfl) h

/- 105 -/
def Qdb : List GO := [qb 4 43 1, qb 5 50 2]
def Qda : List GO := [qm 6 0, qf 7 5 0, ql 8 7, qj 9 .lss 3 8 1, qm 10 9, qg 10 false (qf 11 5 0), qg 10 false (ql 12 11), qg 10 false (qj 13 .gtr 3 12 3), ⟨none, .pick 14 (.tmp 10) (.const (.bool true)) (.tmp 13)⟩, ⟨none, .call (some 15) 50 [(.tmp 6), (.tmp 14), (.const (vi 3))]⟩]
def Qd9 : List GO := [qm 16 0, qf 17 5 0, ql 18 17, qj 19 .neq 3 18 2, qm 20 19, qg 20 true (qf 21 5 1), qg 20 true (ql 22 21), qg 20 true (qj 23 .neq 3 22 0), ⟨none, .pick 24 (.tmp 20) (.tmp 23) (.const (.bool false))⟩, qm 25 24, qg 25 false (qf 26 5 0), qg 25 false (ql 27 26), qg 25 false (qj 28 .neq 3 27 3), qg 25 false (qm 29 28), qg 29 true (qf 30 5 8), qg 29 true (ql 31 30), qg 29 true (qL 32 31), qg 29 true (qj 33 .gtr 3 32 0), ⟨some (25, false), .pick 34 (.tmp 29) (.tmp 33) (.const (.bool false))⟩, ⟨none, .pick 35 (.tmp 25) (.const (.bool true)) (.tmp 34)⟩, ⟨none, .call (some 36) 50 [(.tmp 16), (.tmp 35), (.const (vi 4))]⟩]
def Qd8 : List GO := [qm 37 0, qf 38 5 8, ql 39 38, qL 40 39, qj 41 .gtr 3 40 8, ⟨none, .call (some 42) 50 [(.tmp 37), (.tmp 41), (.const (vi 2))]⟩]
def Qd7 : List GO := [qm 43 0, qV 44 4 4, qf 45 5 2, qV 46 3 45, qf 47 5 0, ql 48 47, qj 49 .neq 3 48 3, ⟨none, .call (some 50) 138 [(.tmp 43), (.tmp 44), (.tmp 46), (.tmp 49)]⟩]
def Qd6 : List GO := [qm 51 0, qV 52 4 4, qf 53 5 5, qV 54 3 53, qf 55 5 0, ql 56 55, qj 57 .eql 3 56 2, ⟨none, .call (some 58) 138 [(.tmp 51), (.tmp 52), (.tmp 54), (.tmp 57)]⟩]
def code_judge_end_lc : LC := (.seq (.ops Qdb) (.seq (.ops Qda) (.seq (.ops Qd9) (.seq (.ops Qd8) (.seq (.ops Qd7) (.ops Qd6))))))
@[reducible] def Q9O : FuncId := 105
theorem QbE : lowF Tryz.prog Tryz.f105 = some code_judge_end_lc := by kernel_rfl
theorem Qdc {a0 a1 a2 : Value} {w : World} {R : Ending → World → Prop} (h : code_judge_end_lc.wp Tryz.prog (retQ Tryz.prog [] R) (Qh [a0, a1, a2]) w) : Calls Tryz.prog Q9O ⟨[a0, a1, a2]⟩ w R :=
  Q3 Tryz.func105 QbE (by kernel_rfl) (by kernel_rfl) h

/- 106 -/
/- 107 -/
/- 108 -/
@[reducible] def strings_Join : FuncId := 108
/- 109 -/
def Q8e : List GO := [qk 4 (.string ⟨#[]⟩)]
def Q8d : List GO := [qm 5 0, qm 6 1, ⟨none, .call (some 7) 141 [(.tmp 5), (.tmp 6)]⟩, qm 4 7]
def strconv_FormatInt_lc : LC := (.seq (.ops Q8e) (.seq (.ops Q8d) .ret))
@[reducible] def Qco : FuncId := 109
theorem Q72 : lowF Tryz.prog Tryz.f109 = some strconv_FormatInt_lc := by kernel_rfl
theorem Q8f {a0 a1 : Value} {w : World} {R : Ending → World → Prop} (h : strconv_FormatInt_lc.wp Tryz.prog (retQ Tryz.prog [.tmp 4] R) (Qh [a0, a1]) w) : Calls Tryz.prog Qco ⟨[a0, a1]⟩ w R :=
  Q3 Tryz.func109 Q72 (by kernel_rfl) (by kernel_rfl) h

/- 110 -/
/- 111 -/
/- 112 -/
@[reducible] def internal_strconv_Itoa : FuncId := 112
/- 113 -/
/- 114 -/
def QnL : List GO := [⟨none, .alloc 2 156 [(.bool false), (.bool false), (.bool false), (.bool false), (.bool false), (.bool false), (.bool false)]⟩, qk 3 (.bool false)]
def QnK : List GO := [qm 4 0]
def QnJ : List GO := [qj 6 .eql 3 4 1, qm 5 6]
def QnI : List GO := [⟨none, .build 7 [(.bool false), (.bool false), (.bool false), (.bool false), (.bool false), (.bool false), (.bool false)] [(4, (1, (.const (.bool true))))]⟩, qw 7 2 7, qk 3 (.bool true)]
def QnH : List GO := [qj 9 .eql 3 4 2, qm 8 9]
def QnG : List GO := [qj 10 .eql 3 4 7, qm 8 10]
def QnF : List GO := [⟨none, .build 11 [(.bool false), (.bool false), (.bool false), (.bool false), (.bool false), (.bool false), (.bool false)] [(0, (1, (.const (.bool true)))), (1, (1, (.const (.bool true)))), (3, (1, (.const (.bool true))))]⟩, qw 7 2 11, qk 3 (.bool true)]
def QnE : List GO := [qj 13 .eql 3 4 3, qm 12 13]
def QnD : List GO := [qj 14 .eql 3 4 12, qm 12 14]
def QnC : List GO := [⟨none, .build 15 [(.bool false), (.bool false), (.bool false), (.bool false), (.bool false), (.bool false), (.bool false)] []⟩, qw 7 2 15, qk 3 (.bool true)]
def QkJ : List GO := [qj 17 .eql 3 4 4, qm 16 17]
def QkI : List GO := [qj 18 .eql 3 4 11, qm 16 18]
def QkH : List GO := [qj 19 .eql 3 4 13, qm 16 19]
def QkG : List GO := [⟨none, .build 20 [(.bool false), (.bool false), (.bool false), (.bool false), (.bool false), (.bool false), (.bool false)] [(0, (1, (.const (.bool true))))]⟩, qw 7 2 20, qk 3 (.bool true)]
def QkF : List GO := [qj 22 .eql 3 4 5, qm 21 22]
def QkE : List GO := [⟨none, .build 23 [(.bool false), (.bool false), (.bool false), (.bool false), (.bool false), (.bool false), (.bool false)] [(0, (1, (.const (.bool true)))), (6, (1, (.const (.bool true))))]⟩, qw 7 2 23, qk 3 (.bool true)]
def QkD : List GO := [qj 25 .eql 3 4 6, qm 24 25]
def QkC : List GO := [⟨none, .build 26 [(.bool false), (.bool false), (.bool false), (.bool false), (.bool false), (.bool false), (.bool false)] [(0, (1, (.const (.bool true)))), (3, (1, (.const (.bool true))))]⟩, qw 7 2 26, qk 3 (.bool true)]
def QkB : List GO := [qj 28 .eql 3 4 8, qm 27 28]
def QkA : List GO := [qj 29 .eql 3 4 9, qm 27 29]
def Qkz : List GO := [⟨none, .build 30 [(.bool false), (.bool false), (.bool false), (.bool false), (.bool false), (.bool false), (.bool false)] [(0, (1, (.const (.bool true)))), (1, (1, (.const (.bool true))))]⟩, qw 7 2 30, qk 3 (.bool true)]
def Qky : List GO := [qj 32 .eql 3 4 10, qm 31 32]
def Qkx : List GO := [⟨none, .build 33 [(.bool false), (.bool false), (.bool false), (.bool false), (.bool false), (.bool false), (.bool false)] [(0, (1, (.const (.bool true)))), (1, (1, (.const (.bool true)))), (2, (1, (.const (.bool true))))]⟩, qw 7 2 33, qk 3 (.bool true)]
def Qkw : List GO := [qj 35 .eql 3 4 14, qm 34 35]
def Qkv : List GO := [⟨none, .build 36 [(.bool false), (.bool false), (.bool false), (.bool false), (.bool false), (.bool false), (.bool false)] [(3, (1, (.const (.bool true)))), (5, (1, (.const (.bool true)))), (6, (1, (.const (.bool true))))]⟩, qw 7 2 36, qk 3 (.bool true)]
def Qku : List GO := [⟨none, .build 37 [(.bool false), (.bool false), (.bool false), (.bool false), (.bool false), (.bool false), (.bool false)] []⟩, qw 7 2 37, qk 3 (.bool false)]
def R_FieldsOf_lc : LC := (.seq (.ops QnL) (.seq (.seq (.ops QnK) (.block 0 (.seq (.ops QnJ) (.cond (.tmp 5) (.seq (.ops QnI) .ret) (.seq (.seq (.ops QnH) (.cond (.tmp 8) .skip (.ops QnG))) (.cond (.tmp 8) (.seq (.ops QnF) .ret) (.seq (.seq (.ops QnE) (.cond (.tmp 12) .skip (.ops QnD))) (.cond (.tmp 12) (.seq (.ops QnC) .ret) (.seq (.seq (.ops QkJ) (.cond (.tmp 16) .skip (.seq (.ops QkI) (.cond (.tmp 16) .skip (.ops QkH))))) (.cond (.tmp 16) (.seq (.ops QkG) .ret) (.seq (.ops QkF) (.cond (.tmp 21) (.seq (.ops QkE) .ret) (.seq (.ops QkD) (.cond (.tmp 24) (.seq (.ops QkC) .ret) (.seq (.seq (.ops QkB) (.cond (.tmp 27) .skip (.ops QkA))) (.cond (.tmp 27) (.seq (.ops Qkz) .ret) (.seq (.ops Qky) (.cond (.tmp 31) (.seq (.ops Qkx) .ret) (.seq (.ops Qkw) (.cond (.tmp 34) (.seq (.ops Qkv) .ret) .skip)))))))))))))))))))) (.seq (.ops Qku) .ret)))
@[reducible] def Qb : FuncId := 114
theorem QkK : lowF Tryz.prog Tryz.f114 = some R_FieldsOf_lc := by kernel_rfl
theorem Qcg {a0 : Value} {w : World} {R : Ending → World → Prop} (h : R_FieldsOf_lc.wp Tryz.prog (retQ Tryz.prog [.cell 2 156, .tmp 3] R) (Qh [a0]) w) : Calls Tryz.prog Qb ⟨[a0]⟩ w R :=
  Q3 Tryz.func114 QkK (by kernel_rfl) (by kernel_rfl) h

/- 115 -/
/- 116 -/
def QgJ : List GO := [qk 2 (.bool false)]
def QgI : List GO := [qm 3 0, ⟨none, .bin 4 .geq 5 (.tmp 3) (.const (.int .u8 97))⟩, qm 5 4, qg 5 true (qm 6 0), ⟨some (5, true), .bin 7 .leq 5 (.tmp 6) (.const (.int .u8 122))⟩, ⟨none, .pick 8 (.tmp 5) (.tmp 7) (.const (.bool false))⟩, qm 2 8]
def token_letter_lc : LC := (.seq (.ops QgJ) (.seq (.ops QgI) .ret))
@[reducible] def QeV : FuncId := 116
theorem Qf7 : lowF Tryz.prog Tryz.f116 = some token_letter_lc := by kernel_rfl
theorem QgK {a0 : Value} {w : World} {R : Ending → World → Prop} (h : token_letter_lc.wp Tryz.prog (retQ Tryz.prog [.tmp 2] R) (Qh [a0]) w) : Calls Tryz.prog QeV ⟨[a0]⟩ w R :=
  Q3 Tryz.func116 Qf7 (by kernel_rfl) (by kernel_rfl) h

/- 117 -/
def Q63 : List GO := [qk 4 (.string ⟨#[]⟩)]
def Q62 : List GO := [qm 6 0, qn 7 6, qf 8 7 1, ql 9 8, qm 5 9]
def Q61 : List GO := [qm 10 0, qn 11 10, qf 12 11 1, ql 13 12, qm 14 0, qn 15 14, qf 16 15 0, ql 17 16, ⟨none, .slen 18 (.tmp 17)⟩, qt 19 .lss 3 13 18, qm 20 19, qg 20 true (qm 21 1), qg 20 true (qm 22 0), qg 20 true (qn 23 22), qg 20 true (qf 24 23 0), qg 20 true (ql 25 24), qg 20 true (qm 26 0), qg 20 true (qn 27 26), qg 20 true (qf 28 27 1), qg 20 true (ql 29 28), ⟨some (20, true), .sidx 30 (.tmp 25) (.tmp 29)⟩, ⟨some (20, true), .callv (some 31) (.tmp 21) [(.tmp 30)]⟩, ⟨none, .pick 32 (.tmp 20) (.tmp 31) (.const (.bool false))⟩]
def Q66 : List (List Nat) := [[],[0],[1],[2],[],[4],[5],[6],[7],[3,8],[9],[10],[10],[12,10],[13,10],[14,10],[10],[16,10],[17,10],[18,10],[15,19,10],[11,20,10,10],[10,21]]
def Q60 : List GO := [qm 33 0, qn 34 33, qf 35 34 1, ql 36 35, qj 37 .add 3 36 1, qn 38 33, qf 39 38 1, qs 39 37]
def Q3x : LC := (.seq (.seq (.draw Q61 Q66) (.cond (.tmp 32) .skip (.exit 0))) (.block 1 (.ops Q60)))
def Q5Z : List GO := [qm 40 0, qn 41 40, qf 42 41 0, ql 43 42, qm 44 5, qm 45 0, qn 46 45, qf 47 46 1, ql 48 47, ⟨none, .ssub 49 (.tmp 43) (some (.tmp 44)) (some (.tmp 48))⟩, qm 4 49]
def Q65 : List (List Nat) := [[],[0],[1],[2],[],[],[5],[6],[7],[3,4,8],[9,0,1,2,3,4,5,6,7,8,9]]
def token_scanner_while_lc : LC := (.seq (.ops Q63) (.seq (.ops Q62) (.seq (.block 0 (.loop Q3x)) (.seq (.draw Q5Z Q65) .ret))))
@[reducible] def Q23 : FuncId := 117
theorem Q5p : lowF Tryz.prog Tryz.f117 = some token_scanner_while_lc := by kernel_rfl
theorem Q64 {a0 a1 : Value} {w : World} {R : Ending → World → Prop} (h : token_scanner_while_lc.wp Tryz.prog (retQ Tryz.prog [.tmp 4] R) (Qh [a0, a1]) w) : Calls Tryz.prog Q23 ⟨[a0, a1]⟩ w R :=
  Q3 Tryz.func117 Q5p (by kernel_rfl) (by kernel_rfl) h

/- 118 -/
def Qj6 : List GO := [qk 2 (.bool false)]
def Qj5 : List GO := [qm 3 0, ⟨none, .bin 4 .geq 5 (.tmp 3) (.const (.int .u8 48))⟩, qm 5 4, qg 5 true (qm 6 0), ⟨some (5, true), .bin 7 .leq 5 (.tmp 6) (.const (.int .u8 57))⟩, ⟨none, .pick 8 (.tmp 5) (.tmp 7) (.const (.bool false))⟩, qm 2 8]
def token_digit_lc : LC := (.seq (.ops Qj6) (.seq (.ops Qj5) .ret))
@[reducible] def QgM : FuncId := 118
theorem QgL : lowF Tryz.prog Tryz.f118 = some token_digit_lc := by kernel_rfl
theorem Qj7 {a0 : Value} {w : World} {R : Ending → World → Prop} (h : token_digit_lc.wp Tryz.prog (retQ Tryz.prog [.tmp 2] R) (Qh [a0]) w) : Calls Tryz.prog QgM ⟨[a0]⟩ w R :=
  Q3 Tryz.func118 QgL (by kernel_rfl) (by kernel_rfl) h

/- 119 -/
def Q5v : List GO := [⟨none, .alloc 6 126 [(vi 0), (.string ⟨#[]⟩), (.bool false), (vi 0)]⟩, qk 7 (vi 0)]
def Q5u : List GO := [qm 11 2, qm 12 0, ⟨none, .call (some 13) 117 [(.tmp 12), (.func 118)]⟩, qt 14 .add 9 11 13, qm 8 14]
def Q5t : List GO := [qm 16 8, ⟨none, .call (some 17) 130 [(.tmp 16), (.const (vi 10)), (.const (vi 64))]⟩, qm 15 17, qx 18 15 0, qx 19 15 1, qm 9 18, qm 10 19]
def Q5s : List GO := [qm 20 10, ⟨none, .bin 21 .neq 109 (.tmp 20) (.const .nilIface)⟩, qm 22 21, qg 22 false (qm 23 9), ⟨some (22, false), .call (some 24) 109 [(.tmp 23), (.const (vi 10))]⟩, qg 22 false (qm 25 8), qg 22 false (qt 26 .neq 9 24 25), ⟨none, .pick 27 (.tmp 22) (.const (.bool true)) (.tmp 26)⟩]
def Q5r : List GO := [⟨none, .build 28 [(vi 0), (.string ⟨#[]⟩), (.bool false), (vi 0)] []⟩, qw 4 6 28, qk 7 (vi 8)]
def Q5q : List GO := [qm 29 1, qm 30 8, qm 31 9, ⟨none, .build 32 [(vi 0), (.string ⟨#[]⟩), (.bool false), (vi 0)] [(0, (1, (.tmp 29))), (1, (1, (.tmp 30))), (2, (1, (.const (.bool true)))), (3, (1, (.tmp 31)))]⟩, qw 4 6 32, qk 7 (vi 0)]
def token_scanner_number_lc : LC := (.seq (.ops Q5v) (.seq (.ops Q5u) (.seq (.ops Q5t) (.seq (.seq (.ops Q5s) (.cond (.tmp 27) (.seq (.ops Q5r) .ret) .skip)) (.seq (.ops Q5q) .ret)))))
@[reducible] def Q1Y : FuncId := 119
theorem Q4Z : lowF Tryz.prog Tryz.f119 = some token_scanner_number_lc := by kernel_rfl
theorem Q5w {a0 a1 a2 : Value} {w : World} {R : Ending → World → Prop} (h : token_scanner_number_lc.wp Tryz.prog (retQ Tryz.prog [.cell 6 126, .tmp 7] R) (Qh [a0, a1, a2]) w) : Calls Tryz.prog Q1Y ⟨[a0, a1, a2]⟩ w R :=
  Q3 Tryz.func119 Q4Z (by kernel_rfl) (by kernel_rfl) h

/- 120 -/
def Q8b : List GO := [qk 4 (.bool false)]
def Q8a : List GO := [qm 5 0, qm 6 1, ⟨none, .call (some 7) 142 [(.tmp 5), (.tmp 6)]⟩, qm 4 7]
def strings_HasPrefix_lc : LC := (.seq (.ops Q8b) (.seq (.ops Q8a) .ret))
@[reducible] def Qcn : FuncId := 120
theorem Q71 : lowF Tryz.prog Tryz.f120 = some strings_HasPrefix_lc := by kernel_rfl
theorem Q8c {a0 a1 : Value} {w : World} {R : Ending → World → Prop} (h : strings_HasPrefix_lc.wp Tryz.prog (retQ Tryz.prog [.tmp 4] R) (Qh [a0, a1]) w) : Calls Tryz.prog Qcn ⟨[a0, a1]⟩ w R :=
  Q3 Tryz.func120 Q71 (by kernel_rfl) (by kernel_rfl) h

/- 121 -/
@[reducible] def strings_IndexByte : FuncId := 121
/- 122 -/
def Q9o : List GO := [qm 5 0, qn 6 5, qf 7 6 1, ql 8 7, qm 4 8]
def Q9n : List GO := [qm 9 0, qn 10 9, qf 11 10 0, ql 12 11, qL 13 12, qj 14 .gtr 3 13 0]
def Q9m : List GO := [qm 15 0, qn 16 15, qf 17 16 0, ql 18 17, ⟨none, .idx 19 4 (.tmp 18) (.const (vi 0))⟩, qf 20 19 0, ql 21 20, qm 4 21]
def Q9l : List GO := [qm 22 1, qj 23 .eql 3 22 4]
def Q9k : List GO := [qk 1 (vi 5)]
def Q9j : List GO := [qm 24 1, qm 25 4, ⟨none, .build 26 [(vi 0), (vi 0)] [(0, (1, (.tmp 24))), (1, (1, (.tmp 25)))]⟩, ⟨none, .mki 27 66 (.tmp 26)⟩, ⟨none, .raw ⟨none, (.panic (.tmp 27)), 0, "", #[], none⟩⟩]
def parse_parser_fail_lc : LC := (.seq (.ops Q9o) (.seq (.seq (.ops Q9n) (.cond (.tmp 14) (.ops Q9m) (.seq (.ops Q9l) (.cond (.tmp 23) (.ops Q9k) .skip)))) (.ops Q9j)))
@[reducible] def Q2B : FuncId := 122
theorem Q7p : lowF Tryz.prog Tryz.f122 = some parse_parser_fail_lc := by kernel_rfl
theorem Q41 {a0 a1 : Value} {w : World} {R : Ending → World → Prop} (h : parse_parser_fail_lc.wp Tryz.prog (retQ Tryz.prog [] R) (Qh [a0, a1]) w) : Calls Tryz.prog Q2B ⟨[a0, a1]⟩ w R :=
  Q3 Tryz.func122 Q7p (by kernel_rfl) (by kernel_rfl) h

/- 123 -/
def Q8C : List GO := [⟨none, .alloc 2 126 [(vi 0), (.string ⟨#[]⟩), (.bool false), (vi 0)]⟩]
def Q8B : List GO := [qm 4 0, qn 5 4, qf 6 5 0, ql 7 6, ⟨none, .idx 8 4 (.tmp 7) (.const (vi 0))⟩, qV 9 4 8, ⟨none, .alloc 3 126 [(vi 0), (.string ⟨#[]⟩), (.bool false), (vi 0)]⟩, qw 4 3 9]
def Q8A : List GO := [qm 10 0, qm 11 0, qn 12 11, qf 13 12 0, ql 14 13, ⟨none, .sub 15 4 (.tmp 14) (some (.const (vi 1))) none none⟩, qn 16 10, qf 17 16 0, qs 17 15]
def Q8z : List GO := [qV 18 4 3, qw 4 2 18]
def parse_parser_next_lc : LC := (.seq (.ops Q8C) (.seq (.ops Q8B) (.seq (.ops Q8A) (.seq (.ops Q8z) .ret))))
@[reducible] def Q1E : FuncId := 123
theorem Q7n : lowF Tryz.prog Tryz.f123 = some parse_parser_next_lc := by kernel_rfl
theorem Q8D {a0 : Value} {w : World} {R : Ending → World → Prop} (h : parse_parser_next_lc.wp Tryz.prog (retQ Tryz.prog [.cell 2 126] R) (Qh [a0]) w) : Calls Tryz.prog Q1E ⟨[a0]⟩ w R :=
  Q3 Tryz.func123 Q7n (by kernel_rfl) (by kernel_rfl) h

/- 124 -/
def Q8H : List GO := [qk 2 (vi 0)]
def Q8G : List GO := [qm 3 0, qn 4 3, qf 5 4 0, ql 6 5, qL 7 6, qj 8 .eql 3 7 0, qm 9 8, qg 9 false (qm 10 0), qg 9 false (qn 11 10), qg 9 false (qf 12 11 0), qg 9 false (ql 13 12), ⟨some (9, false), .idx 14 4 (.tmp 13) (.const (vi 0))⟩, qg 9 false (qf 15 14 2), qg 9 false (ql 16 15), ⟨some (9, false), .un 17 .not (.tmp 16)⟩, ⟨none, .pick 18 (.tmp 9) (.const (.bool true)) (.tmp 17)⟩]
def Q8F : List GO := [qm 19 0, ⟨none, .call (some 20) 122 [(.tmp 19), (.const (vi 4))]⟩]
def Q8E : List GO := [qm 21 0, ⟨none, .call (some 22) 123 [(.tmp 21)]⟩, ⟨none, .fldv 23 (.tmp 22) 3⟩, qm 2 23]
def parse_parser_long_lc : LC := (.seq (.ops Q8H) (.seq (.seq (.ops Q8G) (.cond (.tmp 18) (.ops Q8F) .skip)) (.seq (.ops Q8E) .ret)))
@[reducible] def Q53 : FuncId := 124
theorem Q7o : lowF Tryz.prog Tryz.f124 = some parse_parser_long_lc := by kernel_rfl
theorem Q2S {a0 : Value} {w : World} {R : Ending → World → Prop} (h : parse_parser_long_lc.wp Tryz.prog (retQ Tryz.prog [.tmp 2] R) (Qh [a0]) w) : Calls Tryz.prog Q53 ⟨[a0]⟩ w R :=
  Q3 Tryz.func124 Q7o (by kernel_rfl) (by kernel_rfl) h

/- 125 -/
def Q6I : List GO := [qk 8 vn]
def Q6H : List GO := [qm 10 0, qm 11 1, ⟨none, .buildS 12 9 1 [(.string ⟨#[]⟩)] [(0, (1, (.tmp 11)))]⟩, ⟨none, .call (some 13) 74 [(.tmp 10), (.tmp 12)]⟩]
def Q6G : List GO := [qk 9 vn]
def Q6F : List GO := [qm 14 0, qm 15 2, ⟨none, .call (some 16) 77 [(.tmp 14), (.tmp 15)]⟩, ⟨none, .un 17 .not (.tmp 16)⟩]
def Q6E : List GO := [qm 18 9, qL 19 18, qj 20 .gtr 3 19 0]
def Q6D : List GO := [qm 21 0, ⟨none, .buildS 22 9 1 [(.string ⟨#[]⟩)] [(0, (1, (.const (.string ⟨#[44]⟩))))]⟩, ⟨none, .call (some 23) 74 [(.tmp 21), (.tmp 22)]⟩]
def Q6C : List GO := [qm 24 9, qm 25 3, ⟨none, .callv (some 26) (.tmp 25) []⟩, ⟨none, .buildS 27 91 1 [(vi 0), (vi 0), vn] [(0, (3, (.tmp 26)))]⟩, ⟨none, .raw ⟨(some 28), (.call ⟨(.builtin .append), #[(.tmp 24), (.tmp 27)], #[40, 40]⟩), 40, "", #[], none⟩⟩, qm 9 28]
def Q6B : List GO := [qm 29 9, qL 30 29, qj 31 .gtr 3 30 100]
def Q6A : List GO := [qm 32 0, ⟨none, .call (some 33) 122 [(.tmp 32), (.const (vi 2))]⟩]
def Q3A : LC := (.seq (.seq (.ops Q6F) (.cond (.tmp 17) .skip (.exit 0))) (.block 1 (.seq (.seq (.ops Q6E) (.cond (.tmp 20) (.ops Q6D) .skip)) (.seq (.ops Q6C) (.seq (.ops Q6B) (.cond (.tmp 31) (.ops Q6A) .skip))))))
def Q6z : List GO := [qm 34 0, qm 35 2, ⟨none, .buildS 36 9 1 [(.string ⟨#[]⟩)] [(0, (1, (.tmp 35)))]⟩, ⟨none, .call (some 37) 74 [(.tmp 34), (.tmp 36)]⟩]
def Q5K : List GO := [qm 38 9, qm 8 38]
def parse_list_api_Type_lc : LC := (.seq (.ops Q6I) (.seq (.ops Q6H) (.seq (.ops Q6G) (.seq (.block 0 (.loop Q3A)) (.seq (.ops Q6z) (.seq (.ops Q5K) .ret))))))
@[reducible] def QI : FuncId := 125
theorem Q5L : lowF Tryz.prog Tryz.f125 = some parse_list_api_Type_lc := by kernel_rfl
theorem Q6J {a0 a1 a2 a3 : Value} {w : World} {R : Ending → World → Prop} (h : parse_list_api_Type_lc.wp Tryz.prog (retQ Tryz.prog [.tmp 8] R) (Qh [a0, a1, a2, a3]) w) : Calls Tryz.prog QI ⟨[a0, a1, a2, a3]⟩ w R :=
  Q3 Tryz.func125 Q5L (by kernel_rfl) (by kernel_rfl) h

/- 126 -/
def Q5I : List GO := [⟨none, .alloc 1 91 [(vi 0), (vi 0), vn]⟩]
def Q5H : List GO := [ql 2 0, ⟨none, .call (some 3) 127 [(.tmp 2), (.const (vi 0))]⟩, qw 3 1 3]
def parse_parser_types_1_lc : LC := (.seq (.ops Q5I) (.seq (.ops Q5H) .ret))
@[reducible] def Q2R : FuncId := 126
theorem Q51 : lowF Tryz.prog Tryz.f126 = some parse_parser_types_1_lc := by kernel_rfl
theorem Q5J {a0 : Value} {w : World} {R : Ending → World → Prop} (h : parse_parser_types_1_lc.wp Tryz.prog (retQ Tryz.prog [.cell 1 91] R) (Qh [a0]) w) : Calls Tryz.prog Q2R ⟨[a0]⟩ w R :=
  Q3 Tryz.func126 Q51 (by kernel_rfl) (by kernel_rfl) h

/- 127 -/
def Qac : List GO := [qb 2 68 0, qb 3 3 1, ⟨none, .alloc 4 91 [(vi 0), (vi 0), vn]⟩]
def Qab : List GO := [ql 6 3, qj 7 .gtr 3 6 4]
def Qaa : List GO := [ql 8 2, ⟨none, .call (some 9) 122 [(.tmp 8), (.const (vi 19))]⟩]
def Qa9 : List GO := [ql 11 2, ⟨none, .call (some 12) 77 [(.tmp 11), (.const (.string ⟨#[105, 110, 116]⟩))]⟩, qm 10 12]
def Qa8 : List GO := [ql 13 2, ⟨none, .call (some 14) 123 [(.tmp 13)]⟩]
def Qa7 : List GO := [⟨none, .build 15 [(vi 0), (vi 0), vn] [(0, (1, (.const (vi 1))))]⟩, qw 3 4 15]
def Qa6 : List GO := [ql 17 2, ⟨none, .call (some 18) 77 [(.tmp 17), (.const (.string ⟨#[104, 97, 110, 100, 108, 101]⟩))]⟩, qm 16 18]
def Qa5 : List GO := [ql 19 2, ⟨none, .call (some 20) 123 [(.tmp 19)]⟩]
def Qa4 : List GO := [ql 21 2, ⟨none, .call (some 22) 75 [(.tmp 21)]⟩, ⟨none, .build 23 [(vi 0), (vi 0), vn] [(0, (1, (.const (vi 2)))), (1, (1, (.tmp 22)))]⟩, qw 3 4 23]
def Qa3 : List GO := [ql 25 2, ⟨none, .call (some 26) 77 [(.tmp 25), (.const (.string ⟨#[97, 114, 114, 97, 121]⟩))]⟩, qm 24 26]
def Q8t : List GO := [ql 27 2, ⟨none, .call (some 28) 123 [(.tmp 27)]⟩]
def Q8s : List GO := [ql 29 2, ⟨none, .call (some 30) 75 [(.tmp 29)]⟩, ⟨none, .build 31 [(vi 0), (vi 0), vn] [(0, (1, (.const (vi 4)))), (1, (1, (.tmp 30)))]⟩, qw 3 4 31]
def Q8r : List GO := [ql 32 2, ⟨none, .buildS 33 9 1 [(.string ⟨#[]⟩)] [(0, (1, (.const (.string ⟨#[116, 117, 112, 108, 101]⟩))))]⟩, ⟨none, .call (some 34) 74 [(.tmp 32), (.tmp 33)]⟩]
def Q8q : List GO := [ql 35 2, ⟨none, .call (some 36) 75 [(.tmp 35)]⟩, ⟨none, .build 37 [(vi 0), (vi 0), vn] [(0, (1, (.const (vi 3)))), (1, (1, (.tmp 36)))]⟩, ⟨none, .alloc 5 91 [(vi 0), (vi 0), vn]⟩, qw 3 5 37]
def Q8p : List GO := [ql 38 2, ⟨none, .mkfn 39 144 [(.tmp 2), (.tmp 3)]⟩, ⟨none, .call (some 40) 125 [(.tmp 38), (.const (.string ⟨#[40]⟩)), (.const (.string ⟨#[41]⟩)), (.tmp 39)]⟩, qf 41 5 2, qs 41 40]
def Q8o : List GO := [qV 42 3 5, qw 3 4 42]
def parse_parser_typ_lc : LC := (.seq (.ops Qac) (.seq (.seq (.ops Qab) (.cond (.tmp 7) (.ops Qaa) .skip)) (.seq (.block 0 (.seq (.ops Qa9) (.cond (.tmp 10) (.seq (.ops Qa8) (.seq (.ops Qa7) .ret)) (.seq (.ops Qa6) (.cond (.tmp 16) (.seq (.ops Qa5) (.seq (.ops Qa4) .ret)) (.seq (.ops Qa3) (.cond (.tmp 24) (.seq (.ops Q8t) (.seq (.ops Q8s) .ret)) .skip))))))) (.seq (.ops Q8r) (.seq (.ops Q8q) (.seq (.ops Q8p) (.seq (.ops Q8o) .ret)))))))
@[reducible] def Q10 : FuncId := 127
theorem Q8u : lowF Tryz.prog Tryz.f127 = some parse_parser_typ_lc := by kernel_rfl
theorem Q4j {a0 a1 : Value} {w : World} {R : Ending → World → Prop} (h : parse_parser_typ_lc.wp Tryz.prog (retQ Tryz.prog [.cell 4 91] R) (Qh [a0, a1]) w) : Calls Tryz.prog Q10 ⟨[a0, a1]⟩ w R :=
  Q3 Tryz.func127 Q8u (by kernel_rfl) (by kernel_rfl) h

/- 128 -/
def Qas : List GO := [⟨none, .alloc 2 54 [(vi 0), (vi 0), (vi 0), (vi 0), (vi 0), (vi 0), vn, vn]⟩, qk 3 (.bool false)]
def Qar : List GO := [qm 5 0, qn 6 5, qf 7 6 0, ql 8 7, qL 9 8, qj 10 .eql 3 9 0, qm 11 10, qg 11 false (qm 12 0), qg 11 false (qn 13 12), qg 11 false (qf 14 13 0), qg 11 false (ql 15 14), ⟨some (11, false), .idx 16 4 (.tmp 15) (.const (vi 0))⟩, qg 11 false (qf 17 16 2), qg 11 false (ql 18 17), ⟨none, .pick 19 (.tmp 11) (.const (.bool true)) (.tmp 18)⟩]
def Qaq : List GO := [⟨none, .build 20 [(vi 0), (vi 0), (vi 0), (vi 0), (vi 0), (vi 0), vn, vn] []⟩, qw 8 2 20, qk 3 (.bool false)]
def Qap : List GO := [qm 21 0, qn 22 21, qf 23 22 0, ql 24 23, ⟨none, .idx 25 4 (.tmp 24) (.const (vi 0))⟩, qf 26 25 1, ql 27 26, ⟨none, .call (some 28) 145 [(.tmp 27), (.const (vi 14)), (.func 16)]⟩, ⟨none, .build 29 [(vi 0), (vi 0), (vi 0), (vi 0), (vi 0), (vi 0), vn, vn] [(0, (1, (.tmp 28)))]⟩, ⟨none, .alloc 4 54 [(vi 0), (vi 0), (vi 0), (vi 0), (vi 0), (vi 0), vn, vn]⟩, qw 8 4 29]
def Qao : List GO := [qf 30 4 0, ql 31 30, qj 32 .eql 3 31 0]
def Qan : List GO := [⟨none, .build 33 [(vi 0), (vi 0), (vi 0), (vi 0), (vi 0), (vi 0), vn, vn] []⟩, qw 8 2 33, qk 3 (.bool false)]
def Qam : List GO := [qm 34 0, ⟨none, .call (some 35) 123 [(.tmp 34)]⟩]
def Qal : List GO := [qf 36 4 0, ql 37 36]
def Qak : List GO := [qj 39 .eql 3 37 1, qm 38 39]
def Qaj : List GO := [qm 40 0, ⟨none, .call (some 41) 124 [(.tmp 40)]⟩, qf 42 4 5, qs 42 41]
def Q9h : List GO := [qj 44 .eql 3 37 2, qm 43 44]
def Q9g : List GO := [qm 45 0, qn 46 45, qf 47 46 0, ql 48 47, qL 49 48, qj 50 .gtr 3 49 0, qm 51 50, qg 51 true (qm 52 0), qg 51 true (qn 53 52), qg 51 true (qf 54 53 0), qg 51 true (ql 55 54), ⟨some (51, true), .idx 56 4 (.tmp 55) (.const (vi 0))⟩, qg 51 true (qf 57 56 2), qg 51 true (ql 58 57), ⟨some (51, true), .un 59 .not (.tmp 58)⟩, ⟨none, .pick 60 (.tmp 51) (.tmp 59) (.const (.bool false))⟩]
def Q9f : List GO := [qm 61 0, qn 62 61, qf 63 62 0, ql 64 63, ⟨none, .idx 65 4 (.tmp 64) (.const (vi 0))⟩, qf 66 65 1, ql 67 66, ⟨none, .call (some 68) 145 [(.tmp 67), (.const (vi 9)), (.func 18)]⟩, qf 69 4 4, qs 69 68]
def Q9e : List GO := [qf 70 4 4, ql 71 70, qj 72 .eql 3 71 0]
def Q9d : List GO := [qm 73 0, ⟨none, .call (some 74) 122 [(.tmp 73), (.const (vi 4))]⟩]
def Q9c : List GO := [qm 75 0, ⟨none, .call (some 76) 123 [(.tmp 75)]⟩]
def Q9b : List GO := [qm 77 0, ⟨none, .call (some 78) 75 [(.tmp 77)]⟩, qf 79 4 1, qs 79 78]
def Q9a : List GO := [qm 80 0, ⟨none, .call (some 81) 75 [(.tmp 80)]⟩, qf 82 4 2, qs 82 81]
def Q99 : List GO := [qj 84 .eql 3 37 4, qm 83 84]
def Q98 : List GO := [qj 85 .eql 3 37 11, qm 83 85]
def Q97 : List GO := [qj 86 .eql 3 37 13, qm 83 86]
def Q96 : List GO := [qm 87 0, ⟨none, .call (some 88) 75 [(.tmp 87)]⟩, qf 89 4 1, qs 89 88]
def Q95 : List GO := [qj 91 .eql 3 37 5, qm 90 91]
def Q94 : List GO := [qm 92 0, ⟨none, .call (some 93) 75 [(.tmp 92)]⟩, qf 94 4 1, qs 94 93]
def Q93 : List GO := [qm 95 0, ⟨none, .call (some 96) 146 [(.tmp 95), (.const (.string ⟨#[40]⟩)), (.const (.string ⟨#[41]⟩))]⟩, qf 97 4 7, qs 97 96]
def Q92 : List GO := [qj 99 .eql 3 37 6, qm 98 99]
def Q91 : List GO := [qm 100 0, ⟨none, .call (some 101) 75 [(.tmp 100)]⟩, qf 102 4 1, qs 102 101]
def Q90 : List GO := [qm 103 0, ⟨none, .call (some 104) 75 [(.tmp 103)]⟩, qf 105 4 4, qs 105 104]
def Q8Z : List GO := [qj 107 .eql 3 37 7, qm 106 107]
def Q8Y : List GO := [qm 108 0, ⟨none, .call (some 109) 75 [(.tmp 108)]⟩, qf 110 4 1, qs 110 109]
def Q8X : List GO := [qm 111 0, ⟨none, .call (some 112) 75 [(.tmp 111)]⟩, qf 113 4 4, qs 113 112]
def Q8W : List GO := [qm 114 0, ⟨none, .call (some 115) 75 [(.tmp 114)]⟩, qf 116 4 2, qs 116 115]
def Q8V : List GO := [qj 118 .eql 3 37 8, qm 117 118]
def Q8U : List GO := [qj 119 .eql 3 37 9, qm 117 119]
def Q8T : List GO := [qm 120 0, ⟨none, .call (some 121) 75 [(.tmp 120)]⟩, qf 122 4 1, qs 122 121]
def Q8S : List GO := [qm 123 0, ⟨none, .call (some 124) 75 [(.tmp 123)]⟩, qf 125 4 2, qs 125 124]
def Q8R : List GO := [qj 127 .eql 3 37 10, qm 126 127]
def Q8Q : List GO := [qm 128 0, ⟨none, .call (some 129) 75 [(.tmp 128)]⟩, qf 130 4 1, qs 130 129]
def Q8P : List GO := [qm 131 0, ⟨none, .call (some 132) 75 [(.tmp 131)]⟩, qf 133 4 2, qs 133 132]
def Q8O : List GO := [qm 134 0, ⟨none, .call (some 135) 75 [(.tmp 134)]⟩, qf 136 4 3, qs 136 135]
def Q8N : List GO := [qj 138 .eql 3 37 14, qm 137 138]
def Q8M : List GO := [qm 139 0, ⟨none, .call (some 140) 75 [(.tmp 139)]⟩, qf 141 4 4, qs 141 140]
def Q8L : List GO := [qm 142 0, ⟨none, .call (some 143) 146 [(.tmp 142), (.const (.string ⟨#[60]⟩)), (.const (.string ⟨#[62]⟩))]⟩, qf 144 4 6, qs 144 143]
def Q8K : List GO := [qm 145 0, ⟨none, .call (some 146) 146 [(.tmp 145), (.const (.string ⟨#[40]⟩)), (.const (.string ⟨#[41]⟩))]⟩, qf 147 4 7, qs 147 146]
def Q8J : List GO := [qm 148 0, ⟨none, .buildS 149 9 1 [(.string ⟨#[]⟩)] [(0, (1, (.const (.string ⟨#[59]⟩))))]⟩, ⟨none, .call (some 150) 74 [(.tmp 148), (.tmp 149)]⟩]
def Q8I : List GO := [qV 151 8 4, qw 8 2 151, qk 3 (.bool true)]
def parse_parser_ins_lc : LC := (.seq (.ops Qas) (.seq (.seq (.ops Qar) (.cond (.tmp 19) (.seq (.ops Qaq) .ret) .skip)) (.seq (.ops Qap) (.seq (.seq (.ops Qao) (.cond (.tmp 32) (.seq (.ops Qan) .ret) .skip)) (.seq (.ops Qam) (.seq (.seq (.ops Qal) (.block 0 (.seq (.ops Qak) (.cond (.tmp 38) (.ops Qaj) (.seq (.ops Q9h) (.cond (.tmp 43) (.seq (.seq (.ops Q9g) (.cond (.tmp 60) (.ops Q9f) .skip)) (.seq (.seq (.ops Q9e) (.cond (.tmp 72) (.ops Q9d) .skip)) (.seq (.ops Q9c) (.seq (.ops Q9b) (.ops Q9a))))) (.seq (.seq (.ops Q99) (.cond (.tmp 83) .skip (.seq (.ops Q98) (.cond (.tmp 83) .skip (.ops Q97))))) (.cond (.tmp 83) (.ops Q96) (.seq (.ops Q95) (.cond (.tmp 90) (.seq (.ops Q94) (.ops Q93)) (.seq (.ops Q92) (.cond (.tmp 98) (.seq (.ops Q91) (.ops Q90)) (.seq (.ops Q8Z) (.cond (.tmp 106) (.seq (.ops Q8Y) (.seq (.ops Q8X) (.ops Q8W))) (.seq (.seq (.ops Q8V) (.cond (.tmp 117) .skip (.ops Q8U))) (.cond (.tmp 117) (.seq (.ops Q8T) (.ops Q8S)) (.seq (.ops Q8R) (.cond (.tmp 126) (.seq (.ops Q8Q) (.seq (.ops Q8P) (.ops Q8O))) (.seq (.ops Q8N) (.cond (.tmp 137) (.seq (.ops Q8M) (.seq (.ops Q8L) (.ops Q8K))) .skip)))))))))))))))))))) (.seq (.ops Q8J) (.seq (.ops Q8I) .ret))))))))
@[reducible] def Q7 : FuncId := 128
theorem Q9i : lowF Tryz.prog Tryz.f128 = some parse_parser_ins_lc := by kernel_rfl
theorem Q37 {a0 : Value} {w : World} {R : Ending → World → Prop} (h : parse_parser_ins_lc.wp Tryz.prog (retQ Tryz.prog [.cell 2 54, .tmp 3] R) (Qh [a0]) w) : Calls Tryz.prog Q7 ⟨[a0]⟩ w R :=
  Q3 Tryz.func128 Q9i (by kernel_rfl) (by kernel_rfl) h

/- 129 -/
def Q9y : List GO := [⟨none, .alloc 2 50 [(vi 0), (vi 0), (vi 0), vn, vn, (vi 0), vn, vn, vn]⟩]
def Q9x : List GO := [⟨none, .alloc 3 50 [(vi 0), (vi 0), (vi 0), vn, vn, (vi 0), vn, vn, vn]⟩]
def Q9w : List GO := [qm 11 0, ⟨none, .call (some 12) 77 [(.tmp 11), (.const (.string ⟨#[106, 117, 109, 112]⟩))]⟩, qm 10 12]
def Q9v : List GO := [qm 13 0, ⟨none, .call (some 14) 123 [(.tmp 13)]⟩]
def Q9u : List GO := [qm 15 0, ⟨none, .call (some 16) 147 [(.tmp 15)]⟩, ⟨none, .build 17 [(vi 0), (vi 0), (vi 0), vn, vn, (vi 0), vn, vn, vn] [(0, (1, (.const (vi 1)))), (2, (3, (.tmp 16)))]⟩, qw 9 3 17]
def Q9t : List GO := [qm 19 0, ⟨none, .call (some 20) 77 [(.tmp 19), (.const (.string ⟨#[105, 102]⟩))]⟩, qm 18 20]
def Q9s : List GO := [qm 21 0, ⟨none, .call (some 22) 123 [(.tmp 21)]⟩]
def Q9r : List GO := [qm 23 0, ⟨none, .call (some 24) 75 [(.tmp 23)]⟩, ⟨none, .build 25 [(vi 0), (vi 0), (vi 0), vn, vn, (vi 0), vn, vn, vn] [(0, (1, (.const (vi 2)))), (1, (1, (.tmp 24)))]⟩, qw 9 3 25]
def Q9q : List GO := [qm 26 0, ⟨none, .buildS 27 9 1 [(.string ⟨#[]⟩)] [(0, (1, (.const (.string ⟨#[116, 111]⟩))))]⟩, ⟨none, .call (some 28) 74 [(.tmp 26), (.tmp 27)]⟩]
def Q9p : List GO := [qm 29 0, ⟨none, .call (some 30) 147 [(.tmp 29)]⟩, qf 31 3 2, qw 3 31 30]
def Q7v : List GO := [qm 32 0, ⟨none, .buildS 33 9 1 [(.string ⟨#[]⟩)] [(0, (1, (.const (.string ⟨#[101, 108, 115, 101]⟩))))]⟩, ⟨none, .call (some 34) 74 [(.tmp 32), (.tmp 33)]⟩]
def Q7u : List GO := [qm 35 0, ⟨none, .call (some 36) 147 [(.tmp 35)]⟩, qf 37 3 5, qw 3 37 36]
def Q7t : List GO := [qm 4 0, ⟨none, .buildS 5 9 1 [(.string ⟨#[]⟩)] [(0, (1, (.const (.string ⟨#[114, 101, 116]⟩))))]⟩, ⟨none, .call (some 6) 74 [(.tmp 4), (.tmp 5)]⟩]
def Q7s : List GO := [qm 7 0, ⟨none, .call (some 8) 146 [(.tmp 7), (.const (.string ⟨#[40]⟩)), (.const (.string ⟨#[41]⟩))]⟩, ⟨none, .build 9 [(vi 0), (vi 0), (vi 0), vn, vn, (vi 0), vn, vn, vn] [(0, (1, (.const (vi 3)))), (8, (1, (.tmp 8)))]⟩, qw 9 3 9]
def Q7r : List GO := [qm 38 0, ⟨none, .buildS 39 9 1 [(.string ⟨#[]⟩)] [(0, (1, (.const (.string ⟨#[59]⟩))))]⟩, ⟨none, .call (some 40) 74 [(.tmp 38), (.tmp 39)]⟩]
def Q7q : List GO := [qV 41 9 3, qw 9 2 41]
def parse_parser_ends_lc : LC := (.seq (.ops Q9y) (.seq (.ops Q9x) (.seq (.block 0 (.seq (.ops Q9w) (.cond (.tmp 10) (.seq (.ops Q9v) (.ops Q9u)) (.seq (.ops Q9t) (.cond (.tmp 18) (.seq (.ops Q9s) (.seq (.ops Q9r) (.seq (.ops Q9q) (.seq (.ops Q9p) (.seq (.ops Q7v) (.ops Q7u)))))) (.seq (.ops Q7t) (.ops Q7s))))))) (.seq (.ops Q7r) (.seq (.ops Q7q) .ret)))))
@[reducible] def Q1F : FuncId := 129
theorem Q7w : lowF Tryz.prog Tryz.f129 = some parse_parser_ends_lc := by kernel_rfl
theorem Q9z {a0 : Value} {w : World} {R : Ending → World → Prop} (h : parse_parser_ends_lc.wp Tryz.prog (retQ Tryz.prog [.cell 2 50] R) (Qh [a0]) w) : Calls Tryz.prog Q1F ⟨[a0]⟩ w R :=
  Q3 Tryz.func129 Q7w (by kernel_rfl) (by kernel_rfl) h

/- 130 -/
/- 131 -/
def Qrq : List GO := [qb 2 91 0, qk 4 (vi 0)]
def Qrp : List GO := [qk 5 (vi 0)]
def Qro : List GO := [qk 6 (vi 0)]
def Qrn : List GO := [qm 8 6, qf 9 2 2, ql 10 9, qL 11 10, qt 12 .lss 3 8 11, qm 13 12, qg 13 true (qm 14 5), qg 13 true (qm 15 1), qg 13 true (qt 16 .leq 3 14 15), ⟨none, .pick 17 (.tmp 13) (.tmp 16) (.const (.bool false))⟩]
def Qrm : List GO := [qm 20 1, qj 21 .eql 3 20 0]
def Qrl : List GO := [qk 4 (vi 1)]
def Qrk : List GO := [qf 22 2 2, ql 23 22, qm 24 6, qi 25 3 23 24, qV 26 3 25, qm 27 1, qj 28 .sub 3 27 1, ⟨none, .call (some 29) 131 [(.tmp 26), (.tmp 28)]⟩, ⟨none, .bin 30 .add 3 (.const (vi 1)) (.tmp 29)⟩, qm 7 30]
def Qrj : List GO := [qm 31 7, qm 32 5, qt 33 .gtr 3 31 32]
def Qri : List GO := [qm 34 7, qm 5 34]
def Qrh : List GO := [qm 18 6, qj 19 .add 3 18 1, qm 6 19]
def Qil : LC := (.seq (.seq (.ops Qrn) (.cond (.tmp 17) .skip (.exit 0))) (.seq (.block 1 (.seq (.seq (.ops Qrm) (.cond (.tmp 21) (.seq (.ops Qrl) .ret) .skip)) (.seq (.ops Qrk) (.seq (.ops Qrj) (.cond (.tmp 33) (.ops Qri) .skip))))) (.ops Qrh)))
def Qpm : List GO := [qm 35 5, qm 4 35]
def R_DeepOf_lc : LC := (.seq (.ops Qrq) (.seq (.ops Qrp) (.seq (.seq (.ops Qro) (.block 0 (.loop Qil))) (.seq (.ops Qpm) .ret))))
@[reducible] def Q4E : FuncId := 131
theorem Qpn : lowF Tryz.prog Tryz.f131 = some R_DeepOf_lc := by kernel_rfl
theorem Qrr {a0 a1 : Value} {w : World} {R : Ending → World → Prop} (h : R_DeepOf_lc.wp Tryz.prog (retQ Tryz.prog [.tmp 4] R) (Qh [a0, a1]) w) : Calls Tryz.prog Q4E ⟨[a0, a1]⟩ w R :=
  Q3 Tryz.func131 Qpn (by kernel_rfl) (by kernel_rfl) h

/- 132 -/
def QjW : List GO := [qb 2 91 0, qk 4 (vi 0)]
def QjV : List GO := [qf 7 2 0, ql 8 7, qj 9 .lss 3 8 1, qm 10 9, qg 10 false (qf 11 2 0), qg 10 false (ql 12 11), qg 10 false (qj 13 .gtr 3 12 4), ⟨none, .pick 14 (.tmp 10) (.const (.bool true)) (.tmp 13)⟩]
def QjU : List GO := [qk 4 (vi 3)]
def QjT : List GO := [qf 15 2 0, ql 16 15, qj 17 .eql 3 16 1, qm 18 17, qg 18 true (qf 19 2 1), qg 18 true (ql 20 19), qg 18 true (qj 21 .neq 3 20 0), ⟨none, .pick 22 (.tmp 18) (.tmp 21) (.const (.bool false))⟩, qm 23 22, qg 23 false (qf 24 2 0), qg 23 false (ql 25 24), qg 23 false (qj 26 .neq 3 25 3), qg 23 false (qm 27 26), qg 27 true (qf 28 2 2), qg 27 true (ql 29 28), qg 27 true (qL 30 29), qg 27 true (qj 31 .gtr 3 30 0), ⟨some (23, false), .pick 32 (.tmp 27) (.tmp 31) (.const (.bool false))⟩, ⟨none, .pick 33 (.tmp 23) (.const (.bool true)) (.tmp 32)⟩]
def QjS : List GO := [qk 4 (vi 4)]
def QjR : List GO := [qf 34 2 2, ql 35 34, qL 36 35, qj 37 .gtr 3 36 8]
def QjQ : List GO := [qk 4 (vi 2)]
def QjP : List GO := [qf 38 2 0, ql 39 38, qj 40 .neq 3 39 1, qm 41 40, qg 41 true (qf 42 2 1), qg 41 true (ql 43 42), qg 41 true (qj 44 .lss 3 43 0), qg 41 true (qm 45 44), qg 45 false (qf 46 2 1), qg 45 false (ql 47 46), qg 45 false (qm 48 1), qg 45 false (qt 49 .geq 3 47 48), ⟨some (41, true), .pick 50 (.tmp 45) (.const (.bool true)) (.tmp 49)⟩, ⟨none, .pick 51 (.tmp 41) (.tmp 50) (.const (.bool false))⟩]
def QjO : List GO := [qk 4 (vi 1)]
def QjN : List GO := [qk 5 (vi 0)]
def QhA : List GO := [qm 52 5, qf 53 2 2, ql 54 53, qL 55 54, qt 56 .lss 3 52 55]
def Qhz : List GO := [qf 59 2 2, ql 60 59, qm 61 5, qi 62 3 60 61, qV 63 3 62, qm 64 1, ⟨none, .call (some 65) 132 [(.tmp 63), (.tmp 64)]⟩, qm 6 65]
def Qhy : List GO := [qm 66 6, qj 67 .neq 3 66 0]
def Qhx : List GO := [qm 68 6, qm 4 68]
def Qhw : List GO := [qm 57 5, qj 58 .add 3 57 1, qm 5 58]
def Q7U : LC := (.seq (.seq (.ops QhA) (.cond (.tmp 56) .skip (.exit 0))) (.seq (.block 1 (.seq (.ops Qhz) (.seq (.ops Qhy) (.cond (.tmp 67) (.seq (.ops Qhx) .ret) .skip)))) (.ops Qhw)))
def Qhv : List GO := [qk 4 (vi 0)]
def R_typeFault_lc : LC := (.seq (.ops QjW) (.seq (.seq (.ops QjV) (.cond (.tmp 14) (.seq (.ops QjU) .ret) .skip)) (.seq (.seq (.ops QjT) (.cond (.tmp 33) (.seq (.ops QjS) .ret) .skip)) (.seq (.seq (.ops QjR) (.cond (.tmp 37) (.seq (.ops QjQ) .ret) .skip)) (.seq (.seq (.ops QjP) (.cond (.tmp 51) (.seq (.ops QjO) .ret) .skip)) (.seq (.seq (.ops QjN) (.block 0 (.loop Q7U))) (.seq (.ops Qhv) .ret)))))))
@[reducible] def Q1y : FuncId := 132
theorem QhB : lowF Tryz.prog Tryz.f132 = some R_typeFault_lc := by kernel_rfl
theorem QjX {a0 a1 : Value} {w : World} {R : Ending → World → Prop} (h : R_typeFault_lc.wp Tryz.prog (retQ Tryz.prog [.tmp 4] R) (Qh [a0, a1]) w) : Calls Tryz.prog Q1y ⟨[a0, a1]⟩ w R :=
  Q3 Tryz.func132 QhB (by kernel_rfl) (by kernel_rfl) h

/- 133 -/
def Qqm : List GO := [qb 3 43 0, qb 4 48 1, qk 6 (vi 0)]
def Qql : List GO := [qm 7 2, ⟨none, .un 8 .not (.tmp 7)⟩]
def Qqk : List GO := [qf 9 4 0, ql 10 9, qj 11 .neq 3 10 0, qm 12 11, qg 12 false (qf 13 4 1), qg 12 false (ql 14 13), qg 12 false (qL 15 14), qg 12 false (qf 16 4 2), qg 12 false (ql 17 16), qg 12 false (qL 18 17), qg 12 false (qt 19 .add 3 15 18), qg 12 false (qj 20 .gtr 3 19 0), ⟨none, .pick 21 (.tmp 12) (.const (.bool true)) (.tmp 20)⟩]
def Qqj : List GO := [qk 6 (vi 4)]
def Qqi : List GO := [qk 6 (vi 0)]
def Qqh : List GO := [qf 22 4 0, ql 23 22, qj 24 .lss 3 23 0, qm 25 24, qg 25 false (qf 26 4 0), qg 25 false (ql 27 26), qg 25 false (qf 28 3 3), qg 25 false (ql 29 28), qg 25 false (qL 30 29), qg 25 false (qt 31 .geq 3 27 30), ⟨none, .pick 32 (.tmp 25) (.const (.bool true)) (.tmp 31)⟩]
def Qqg : List GO := [qk 6 (vi 1)]
def Qqf : List GO := [qf 33 4 1, ql 34 33, qL 35 34, qj 36 .gtr 3 35 16, qm 37 36, qg 37 false (qf 38 4 2), qg 37 false (ql 39 38), qg 37 false (qL 40 39), qg 37 false (qj 41 .gtr 3 40 8), ⟨none, .pick 42 (.tmp 37) (.const (.bool true)) (.tmp 41)⟩]
def Qqe : List GO := [qk 6 (vi 2)]
def Qqd : List GO := [qk 6 (vi 0)]
def R_toForm_lc : LC := (.seq (.ops Qqm) (.seq (.seq (.ops Qql) (.cond (.tmp 8) (.seq (.seq (.ops Qqk) (.cond (.tmp 21) (.seq (.ops Qqj) .ret) .skip)) (.seq (.ops Qqi) .ret)) .skip)) (.seq (.seq (.ops Qqh) (.cond (.tmp 32) (.seq (.ops Qqg) .ret) .skip)) (.seq (.seq (.ops Qqf) (.cond (.tmp 42) (.seq (.ops Qqe) .ret) .skip)) (.seq (.ops Qqd) .ret)))))
@[reducible] def Q4B : FuncId := 133
theorem QoK : lowF Tryz.prog Tryz.f133 = some R_toForm_lc := by kernel_rfl
theorem QhC {a0 a1 a2 : Value} {w : World} {R : Ending → World → Prop} (h : R_toForm_lc.wp Tryz.prog (retQ Tryz.prog [.tmp 6] R) (Qh [a0, a1, a2]) w) : Calls Tryz.prog Q4B ⟨[a0, a1, a2]⟩ w R :=
  Q3 Tryz.func133 QoK (by kernel_rfl) (by kernel_rfl) h

/- 134 -/
def Qly : List GO := [qb 2 91 0, qk 4 (.bool false)]
def Qlx : List GO := [qm 7 1, qj 8 .lss 3 7 0]
def Qlw : List GO := [qk 4 (.bool false)]
def Qlv : List GO := [qf 9 2 2, ql 10 9, qL 11 10, qk 12 (vi 0)]
def Qlu : List GO := [qt 13 .lss 3 12 11]
def Qlt : List GO := [qi 14 3 10 12, qV 15 3 14, ⟨none, .alloc 6 91 [(vi 0), (vi 0), vn]⟩, qw 3 6 15]
def Qls : List GO := [qV 16 3 6, qm 17 1, qj 18 .sub 3 17 1, ⟨none, .call (some 19) 134 [(.tmp 16), (.tmp 18)]⟩, ⟨none, .un 20 .not (.tmp 19)⟩]
def Qlr : List GO := [qk 4 (.bool false)]
def Qlq : List GO := [qj 21 .add 3 12 1, qm 12 21]
def QaQ : LC := (.seq (.ops Qlu) (.seq (.cond (.tmp 13) .skip (.exit 0)) (.seq (.block 1 (.seq (.ops Qlt) (.seq (.ops Qls) (.cond (.tmp 20) (.seq (.ops Qlr) .ret) .skip)))) (.ops Qlq))))
def Qlp : List GO := [qk 4 (.bool true)]
def types_deep_lc : LC := (.seq (.ops Qly) (.seq (.seq (.ops Qlx) (.cond (.tmp 8) (.seq (.ops Qlw) .ret) .skip)) (.seq (.seq (.ops Qlv) (.block 0 (.loop QaQ))) (.seq (.ops Qlp) .ret))))
@[reducible] def Q49 : FuncId := 134
theorem QiY : lowF Tryz.prog Tryz.f134 = some types_deep_lc := by kernel_rfl
theorem Qlz {a0 a1 : Value} {w : World} {R : Ending → World → Prop} (h : types_deep_lc.wp Tryz.prog (retQ Tryz.prog [.tmp 4] R) (Qh [a0, a1]) w) : Calls Tryz.prog Q49 ⟨[a0, a1]⟩ w R :=
  Q3 Tryz.func134 QiY (by kernel_rfl) (by kernel_rfl) h

/- 135 -/
def QiW : List GO := [qb 2 91 0, qk 4 (vi 0)]
def QiV : List GO := [qf 8 2 0, ql 9 8]
def QiU : List GO := [qj 11 .eql 3 9 1, qm 10 11]
def QiT : List GO := [qf 12 2 1, ql 13 12, qj 14 .neq 3 13 0, qm 15 14, qg 15 false (qf 16 2 2), qg 15 false (ql 17 16), qg 15 false (qL 18 17), qg 15 false (qj 19 .gtr 3 18 0), ⟨none, .pick 20 (.tmp 15) (.const (.bool true)) (.tmp 19)⟩]
def QiS : List GO := [qk 4 (vi 4)]
def QiR : List GO := [qk 4 (vi 0)]
def QiQ : List GO := [qj 22 .eql 3 9 2, qm 21 22]
def QiP : List GO := [qj 23 .eql 3 9 4, qm 21 23]
def QiO : List GO := [qf 24 2 2, ql 25 24, qL 26 25, qj 27 .gtr 3 26 0]
def QiN : List GO := [qk 4 (vi 4)]
def QgE : List GO := [qj 29 .eql 3 9 3, qm 28 29]
def QgD : List GO := [qf 30 2 2, ql 31 30, qL 32 31, qj 33 .gtr 3 32 8]
def QgC : List GO := [qk 4 (vi 2)]
def QgB : List GO := [qk 4 (vi 3)]
def QgA : List GO := [qf 34 2 1, ql 35 34, qj 36 .lss 3 35 0, qm 37 36, qg 37 false (qf 38 2 1), qg 37 false (ql 39 38), qg 37 false (qm 40 1), qg 37 false (qt 41 .geq 3 39 40), ⟨none, .pick 42 (.tmp 37) (.const (.bool true)) (.tmp 41)⟩]
def Qgz : List GO := [qk 4 (vi 1)]
def Qgy : List GO := [qf 43 2 2, ql 44 43, qL 45 44, qk 46 (vi 0)]
def Qgx : List GO := [qt 47 .lss 3 46 45]
def Qgw : List GO := [qi 48 3 44 46, qV 49 3 48, ⟨none, .alloc 6 91 [(vi 0), (vi 0), vn]⟩, qw 3 6 49]
def Qgv : List GO := [qV 50 3 6, qm 51 1, ⟨none, .call (some 52) 135 [(.tmp 50), (.tmp 51)]⟩, qm 7 52]
def Qgu : List GO := [qm 53 7, qj 54 .neq 3 53 0]
def Qgt : List GO := [qm 55 7, qm 4 55]
def Qgs : List GO := [qj 56 .add 3 46 1, qm 46 56]
def Q6O : LC := (.seq (.ops Qgx) (.seq (.cond (.tmp 47) .skip (.exit 1)) (.seq (.block 2 (.seq (.ops Qgw) (.seq (.ops Qgv) (.seq (.ops Qgu) (.cond (.tmp 54) (.seq (.ops Qgt) .ret) .skip))))) (.ops Qgs))))
def Qgr : List GO := [qk 4 (vi 0)]
def types_wrong_lc : LC := (.seq (.ops QiW) (.seq (.seq (.ops QiV) (.block 0 (.seq (.ops QiU) (.cond (.tmp 10) (.seq (.seq (.ops QiT) (.cond (.tmp 20) (.seq (.ops QiS) .ret) .skip)) (.seq (.ops QiR) .ret)) (.seq (.seq (.ops QiQ) (.cond (.tmp 21) .skip (.ops QiP))) (.cond (.tmp 21) (.seq (.ops QiO) (.cond (.tmp 27) (.seq (.ops QiN) .ret) .skip)) (.seq (.ops QgE) (.cond (.tmp 28) (.seq (.ops QgD) (.cond (.tmp 33) (.seq (.ops QgC) .ret) .skip)) (.seq (.ops QgB) .ret))))))))) (.seq (.seq (.ops QgA) (.cond (.tmp 42) (.seq (.ops Qgz) .ret) .skip)) (.seq (.seq (.ops Qgy) (.block 1 (.loop Q6O))) (.seq (.ops Qgr) .ret)))))
@[reducible] def QC : FuncId := 135
theorem QgF : lowF Tryz.prog Tryz.f135 = some types_wrong_lc := by kernel_rfl
theorem QiX {a0 a1 : Value} {w : World} {R : Ending → World → Prop} (h : types_wrong_lc.wp Tryz.prog (retQ Tryz.prog [.tmp 4] R) (Qh [a0, a1]) w) : Calls Tryz.prog QC ⟨[a0, a1]⟩ w R :=
  Q3 Tryz.func135 QgF (by kernel_rfl) (by kernel_rfl) h

/- 136 -/
def Qqa : List GO := [qk 2 (.string ⟨#[]⟩)]
def Qq9 : List GO := [qm 3 0, qj 4 .lss 3 3 1, qm 5 4, qg 5 false (qm 6 0), qg 5 false (qj 7 .gtr 3 6 14), ⟨none, .pick 8 (.tmp 5) (.const (.bool true)) (.tmp 7)⟩]
def Qq8 : List GO := [qk 2 (.string ⟨#[]⟩)]
def Qq7 : List GO := [⟨none, .build 9 [(.string ⟨#[]⟩), (.string ⟨#[]⟩), (.string ⟨#[]⟩), (.string ⟨#[]⟩), (.string ⟨#[]⟩), (.string ⟨#[]⟩), (.string ⟨#[]⟩), (.string ⟨#[]⟩), (.string ⟨#[]⟩), (.string ⟨#[]⟩), (.string ⟨#[]⟩), (.string ⟨#[]⟩), (.string ⟨#[]⟩), (.string ⟨#[]⟩), (.string ⟨#[]⟩)] [(0, (1, (.const (.string ⟨#[]⟩)))), (1, (1, (.const (.string ⟨#[110]⟩)))), (2, (1, (.const (.string ⟨#[97, 98, 107]⟩)))), (3, (1, (.const (.string ⟨#[]⟩)))), (4, (1, (.const (.string ⟨#[97]⟩)))), (5, (1, (.const (.string ⟨#[97, 114]⟩)))), (6, (1, (.const (.string ⟨#[97, 107]⟩)))), (7, (1, (.const (.string ⟨#[97, 98, 107]⟩)))), (8, (1, (.const (.string ⟨#[97, 98]⟩)))), (9, (1, (.const (.string ⟨#[97, 98]⟩)))), (10, (1, (.const (.string ⟨#[97, 98, 99]⟩)))), (11, (1, (.const (.string ⟨#[97]⟩)))), (12, (1, (.const (.string ⟨#[]⟩)))), (13, (1, (.const (.string ⟨#[97]⟩)))), (14, (1, (.const (.string ⟨#[107, 103, 114]⟩))))]⟩, qm 10 0, ⟨none, .raw ⟨(some 11), (.index 85 (.tmp 9) (.tmp 10)), 9, "", #[], none⟩⟩, qm 2 11]
def code_has_lc : LC := (.seq (.ops Qqa) (.seq (.seq (.ops Qq9) (.cond (.tmp 8) (.seq (.ops Qq8) .ret) .skip)) (.seq (.ops Qq7) .ret)))
@[reducible] def Qs8 : FuncId := 136
theorem QoF : lowF Tryz.prog Tryz.f136 = some code_has_lc := by kernel_rfl
theorem Qhi {a0 : Value} {w : World} {R : Ending → World → Prop} (h : code_has_lc.wp Tryz.prog (retQ Tryz.prog [.tmp 2] R) (Qh [a0]) w) : Calls Tryz.prog Qs8 ⟨[a0]⟩ w R :=
  Q3 Tryz.func136 QoF (by kernel_rfl) (by kernel_rfl) h

/- 137 -/
def QoC : List GO := [qk 4 (.bool false)]
def QoB : List GO := [qm 5 0, ⟨none, .raw ⟨(some 6), (.convert 9 105 (.tmp 5)), 105, "", #[], none⟩⟩, qm 7 1, ⟨none, .call (some 8) 150 [(.tmp 6), (.tmp 7)]⟩, qm 4 8]
def code_with_lc : LC := (.seq (.ops QoC) (.seq (.ops QoB) .ret))
@[reducible] def QoE : FuncId := 137
theorem Qmv : lowF Tryz.prog Tryz.f137 = some code_with_lc := by kernel_rfl
theorem QoD {a0 a1 : Value} {w : World} {R : Ending → World → Prop} (h : code_with_lc.wp Tryz.prog (retQ Tryz.prog [.tmp 4] R) (Qh [a0, a1]) w) : Calls Tryz.prog QoE ⟨[a0, a1]⟩ w R :=
  Q3 Tryz.func137 Qmv (by kernel_rfl) (by kernel_rfl) h

/- 138 -/
def Qfn : List GO := [qb 5 43 1, qb 6 48 2]
def Qfm : List GO := [qm 8 3, ⟨none, .un 9 .not (.tmp 8)⟩]
def Qfl : List GO := [qm 10 0, qf 11 6 0, ql 12 11, qj 13 .neq 3 12 0, qm 14 13, qg 14 false (qf 15 6 1), qg 14 false (ql 16 15), qg 14 false (qL 17 16), qg 14 false (qj 18 .gtr 3 17 0), ⟨none, .pick 19 (.tmp 14) (.const (.bool true)) (.tmp 18)⟩, qm 20 19, qg 20 false (qf 21 6 2), qg 20 false (ql 22 21), qg 20 false (qL 23 22), qg 20 false (qj 24 .gtr 3 23 0), ⟨none, .pick 25 (.tmp 20) (.const (.bool true)) (.tmp 24)⟩, ⟨none, .call (some 26) 50 [(.tmp 10), (.tmp 25), (.const (vi 4))]⟩]
def Qfk : List GO := [qm 27 0, qf 28 6 0, ql 29 28, qj 30 .lss 3 29 0, qm 31 30, qg 31 false (qf 32 6 0), qg 31 false (ql 33 32), qg 31 false (qf 34 5 3), qg 31 false (ql 35 34), qg 31 false (qL 36 35), qg 31 false (qt 37 .geq 3 33 36), ⟨none, .pick 38 (.tmp 31) (.const (.bool true)) (.tmp 37)⟩, ⟨none, .call (some 39) 50 [(.tmp 27), (.tmp 38), (.const (vi 1))]⟩]
def Qfj : List GO := [qm 40 0, qf 41 6 1, ql 42 41, qL 43 42, qj 44 .gtr 3 43 16, qm 45 44, qg 45 false (qf 46 6 2), qg 45 false (ql 47 46), qg 45 false (qL 48 47), qg 45 false (qj 49 .gtr 3 48 8), ⟨none, .pick 50 (.tmp 45) (.const (.bool true)) (.tmp 49)⟩, ⟨none, .call (some 51) 50 [(.tmp 40), (.tmp 50), (.const (vi 2))]⟩]
def code_judge_to_lc : LC := (.seq (.ops Qfn) (.seq (.seq (.ops Qfm) (.cond (.tmp 9) (.seq (.ops Qfl) .ret) .skip)) (.seq (.ops Qfk) (.ops Qfj))))
@[reducible] def Qbm : FuncId := 138
theorem QcU : lowF Tryz.prog Tryz.f138 = some code_judge_to_lc := by kernel_rfl
theorem Q5U {a0 a1 a2 a3 : Value} {w : World} {R : Ending → World → Prop} (h : code_judge_to_lc.wp Tryz.prog (retQ Tryz.prog [] R) (Qh [a0, a1, a2, a3]) w) : Calls Tryz.prog Qbm ⟨[a0, a1, a2, a3]⟩ w R :=
  Q3 Tryz.func138 QcU (by kernel_rfl) (by kernel_rfl) h

/- 142 -/
def Q3q : List GO := [qk 4 (.bool false)]
def Q3p : List GO := [qm 5 0, ⟨none, .slen 6 (.tmp 5)⟩, qm 7 1, ⟨none, .slen 8 (.tmp 7)⟩, qt 9 .geq 3 6 8, qm 10 9, qg 10 true (qm 11 0), qg 10 true (qm 12 1), ⟨some (10, true), .slen 13 (.tmp 12)⟩, ⟨some (10, true), .ssub 14 (.tmp 11) none (some (.tmp 13))⟩, qg 10 true (qm 15 1), qg 10 true (qt 16 .eql 9 14 15), ⟨none, .pick 17 (.tmp 10) (.tmp 16) (.const (.bool false))⟩, qm 4 17]
def internal_stringslite_HasPrefix_lc : LC := (.seq (.ops Q3q) (.seq (.ops Q3p) .ret))
@[reducible] def Q3S : FuncId := 142
theorem Q3g : lowF Tryz.prog Tryz.f142 = some internal_stringslite_HasPrefix_lc := by kernel_rfl
theorem Q3r {a0 a1 : Value} {w : World} {R : Ending → World → Prop} (h : internal_stringslite_HasPrefix_lc.wp Tryz.prog (retQ Tryz.prog [.tmp 4] R) (Qh [a0, a1]) w) : Calls Tryz.prog Q3S ⟨[a0, a1]⟩ w R :=
  Q3 Tryz.func142 Q3g (by kernel_rfl) (by kernel_rfl) h

/- 144 -/
def Q7j : List GO := [⟨none, .alloc 2 91 [(vi 0), (vi 0), vn]⟩]
def Q7i : List GO := [ql 3 0, ql 4 1, qj 5 .add 3 4 1, ⟨none, .call (some 6) 127 [(.tmp 3), (.tmp 5)]⟩, qw 3 2 6]
def parse_parser_typ_1_lc : LC := (.seq (.ops Q7j) (.seq (.ops Q7i) .ret))
@[reducible] def Q3k : FuncId := 144
theorem Q6t : lowF Tryz.prog Tryz.f144 = some parse_parser_typ_1_lc := by kernel_rfl
theorem Q7k {a0 a1 : Value} {w : World} {R : Ending → World → Prop} (h : parse_parser_typ_1_lc.wp Tryz.prog (retQ Tryz.prog [.cell 2 91] R) (Qh [a0, a1]) w) : Calls Tryz.prog Q3k ⟨[a0, a1]⟩ w R :=
  Q3 Tryz.func144 Q6t (by kernel_rfl) (by kernel_rfl) h

/- 145 -/
def Qm9 : List GO := [qk 6 (vi 0)]
def Qm8 : List GO := [qk 7 (vi 1)]
def Qm7 : List GO := [qm 8 7, qm 9 1, qt 10 .leq 3 8 9]
def Qm6 : List GO := [qm 13 2, qm 14 7, ⟨none, .callv (some 15) (.tmp 13) [(.tmp 14)]⟩, qm 16 0, qt 17 .eql 9 15 16]
def Qm5 : List GO := [qm 18 7, qm 6 18]
def Qm4 : List GO := [qm 11 7, qj 12 .add 3 11 1, qm 7 12]
def Qbd : LC := (.seq (.seq (.ops Qm7) (.cond (.tmp 10) .skip (.exit 0))) (.seq (.block 1 (.seq (.ops Qm6) (.cond (.tmp 17) (.seq (.ops Qm5) .ret) .skip))) (.ops Qm4)))
def Qm3 : List GO := [qk 6 (vi 0)]
def parse_find_lc : LC := (.seq (.ops Qm9) (.seq (.seq (.ops Qm8) (.block 0 (.loop Qbd))) (.seq (.ops Qm3) .ret)))
@[reducible] def Q85 : FuncId := 145
theorem Qjg : lowF Tryz.prog Tryz.f145 = some parse_find_lc := by kernel_rfl
theorem Qma {a0 a1 a2 : Value} {w : World} {R : Ending → World → Prop} (h : parse_find_lc.wp Tryz.prog (retQ Tryz.prog [.tmp 6] R) (Qh [a0, a1, a2]) w) : Calls Tryz.prog Q85 ⟨[a0, a1, a2]⟩ w R :=
  Q3 Tryz.func145 Qjg (by kernel_rfl) (by kernel_rfl) h

/- 146 -/
def Q8w : List GO := [qk 6 vn]
def Q8v : List GO := [qm 7 0, qm 8 1, qm 9 2, qm 10 0, ⟨none, .raw ⟨(some 11), (.makeFunc (.func 75) #[(.tmp 10)] #[]), 79, "", #[], none⟩⟩, ⟨none, .call (some 12) 157 [(.tmp 7), (.tmp 8), (.tmp 9), (.tmp 11)]⟩, qm 6 12]
def parse_parser_nums_lc : LC := (.seq (.ops Q8w) (.seq (.ops Q8v) .ret))
@[reducible] def Q52 : FuncId := 146
theorem Q7m : lowF Tryz.prog Tryz.f146 = some parse_parser_nums_lc := by kernel_rfl
theorem Q8x {a0 a1 a2 : Value} {w : World} {R : Ending → World → Prop} (h : parse_parser_nums_lc.wp Tryz.prog (retQ Tryz.prog [.tmp 6] R) (Qh [a0, a1, a2]) w) : Calls Tryz.prog Q52 ⟨[a0, a1, a2]⟩ w R :=
  Q3 Tryz.func146 Q7m (by kernel_rfl) (by kernel_rfl) h

/- 147 -/
def Qb7 : List GO := [⟨none, .alloc 2 48 [(vi 0), vn, vn]⟩]
def Qb6 : List GO := [qm 4 0, ⟨none, .call (some 5) 75 [(.tmp 4)]⟩, ⟨none, .build 6 [(vi 0), vn, vn] [(0, (1, (.tmp 5)))]⟩, ⟨none, .alloc 3 48 [(vi 0), vn, vn]⟩, qw 3 3 6]
def Qb5 : List GO := [qm 7 0, ⟨none, .call (some 8) 146 [(.tmp 7), (.const (.string ⟨#[60]⟩)), (.const (.string ⟨#[62]⟩))]⟩, qf 9 3 1, qs 9 8]
def Qb4 : List GO := [qm 10 0, ⟨none, .call (some 11) 146 [(.tmp 10), (.const (.string ⟨#[40]⟩)), (.const (.string ⟨#[41]⟩))]⟩, qf 12 3 2, qs 12 11]
def Qb3 : List GO := [qV 13 3 3, qw 3 2 13]
def parse_parser_to_lc : LC := (.seq (.ops Qb7) (.seq (.ops Qb6) (.seq (.ops Qb5) (.seq (.ops Qb4) (.seq (.ops Qb3) .ret)))))
@[reducible] def Q7l : FuncId := 147
theorem Qad : lowF Tryz.prog Tryz.f147 = some parse_parser_to_lc := by kernel_rfl
theorem Qb8 {a0 : Value} {w : World} {R : Ending → World → Prop} (h : parse_parser_to_lc.wp Tryz.prog (retQ Tryz.prog [.cell 2 48] R) (Qh [a0]) w) : Calls Tryz.prog Q7l ⟨[a0]⟩ w R :=
  Q3 Tryz.func147 Qad (by kernel_rfl) (by kernel_rfl) h

/- 150 -/
def Q45 : List GO := [qk 4 (.bool false)]
def Q44 : List GO := [qm 5 0, qm 6 1, ⟨none, .call (some 7) 163 [(.tmp 5), (.tmp 6)]⟩, qj 8 .geq 3 7 0, qm 4 8]
def slices_Contains_byte_byte_lc : LC := (.seq (.ops Q45) (.seq (.ops Q44) .ret))
@[reducible] def Q2W : FuncId := 150
theorem Q3U : lowF Tryz.prog Tryz.f150 = some slices_Contains_byte_byte_lc := by kernel_rfl
theorem Q46 {a0 a1 : Value} {w : World} {R : Ending → World → Prop} (h : slices_Contains_byte_byte_lc.wp Tryz.prog (retQ Tryz.prog [.tmp 4] R) (Qh [a0, a1]) w) : Calls Tryz.prog Q2W ⟨[a0, a1]⟩ w R :=
  Q3 Tryz.func150 Q3U (by kernel_rfl) (by kernel_rfl) h

/- 157 -/
def QcG : List GO := [qk 8 vn]
def QcF : List GO := [qm 10 0, qm 11 1, ⟨none, .buildS 12 9 1 [(.string ⟨#[]⟩)] [(0, (1, (.tmp 11)))]⟩, ⟨none, .call (some 13) 74 [(.tmp 10), (.tmp 12)]⟩]
def QcE : List GO := [qk 9 vn]
def QcD : List GO := [qm 14 0, qm 15 2, ⟨none, .call (some 16) 77 [(.tmp 14), (.tmp 15)]⟩, ⟨none, .un 17 .not (.tmp 16)⟩]
def QcC : List GO := [qm 18 9, qL 19 18, qj 20 .gtr 3 19 0]
def QcB : List GO := [qm 21 0, ⟨none, .buildS 22 9 1 [(.string ⟨#[]⟩)] [(0, (1, (.const (.string ⟨#[44]⟩))))]⟩, ⟨none, .call (some 23) 74 [(.tmp 21), (.tmp 22)]⟩]
def QcA : List GO := [qm 24 9, qm 25 3, ⟨none, .callv (some 26) (.tmp 25) []⟩, ⟨none, .buildS 27 3 1 [(vi 0)] [(0, (1, (.tmp 26)))]⟩, ⟨none, .raw ⟨(some 28), (.call ⟨(.builtin .append), #[(.tmp 24), (.tmp 27)], #[46, 46]⟩), 46, "", #[], none⟩⟩, qm 9 28]
def Qcz : List GO := [qm 29 9, qL 30 29, qj 31 .gtr 3 30 100]
def Qcy : List GO := [qm 32 0, ⟨none, .call (some 33) 122 [(.tmp 32), (.const (vi 2))]⟩]
def Q5g : LC := (.seq (.seq (.ops QcD) (.cond (.tmp 17) .skip (.exit 0))) (.block 1 (.seq (.seq (.ops QcC) (.cond (.tmp 20) (.ops QcB) .skip)) (.seq (.ops QcA) (.seq (.ops Qcz) (.cond (.tmp 31) (.ops Qcy) .skip))))))
def Qcx : List GO := [qm 34 0, qm 35 2, ⟨none, .buildS 36 9 1 [(.string ⟨#[]⟩)] [(0, (1, (.tmp 35)))]⟩, ⟨none, .call (some 37) 74 [(.tmp 34), (.tmp 36)]⟩]
def Qbb : List GO := [qm 38 9, qm 8 38]
def parse_list_int_lc : LC := (.seq (.ops QcG) (.seq (.ops QcF) (.seq (.ops QcE) (.seq (.block 0 (.loop Q5g)) (.seq (.ops Qcx) (.seq (.ops Qbb) .ret))))))
@[reducible] def Q1D : FuncId := 157
theorem Qbc : lowF Tryz.prog Tryz.f157 = some parse_list_int_lc := by kernel_rfl
theorem QcH {a0 a1 a2 a3 : Value} {w : World} {R : Ending → World → Prop} (h : parse_list_int_lc.wp Tryz.prog (retQ Tryz.prog [.tmp 8] R) (Qh [a0, a1, a2, a3]) w) : Calls Tryz.prog Q1D ⟨[a0, a1, a2, a3]⟩ w R :=
  Q3 Tryz.func157 Qbc (by kernel_rfl) (by kernel_rfl) h

/- 163 -/
def Q4N : List GO := [qk 4 (vi 0)]
def Q4M : List GO := [qm 6 0, qL 7 6, qk 8 (vi 0)]
def Q4L : List GO := [qt 9 .lss 3 8 7]
def Q4K : List GO := [qm 10 8, qm 5 10]
def Q4J : List GO := [qm 11 1, qm 12 0, qm 13 5, qi 14 1 12 13, ql 15 14, qt 16 .eql 5 11 15]
def Q4I : List GO := [qm 17 5, qm 4 17]
def Q4H : List GO := [qj 18 .add 3 8 1, qm 8 18]
def Q2V : LC := (.seq (.ops Q4L) (.seq (.cond (.tmp 9) .skip (.exit 0)) (.seq (.block 1 (.seq (.ops Q4K) (.seq (.ops Q4J) (.cond (.tmp 16) (.seq (.ops Q4I) .ret) .skip)))) (.ops Q4H))))
def Q4G : List GO := [qk 4 (vi (-1))]
def slices_Index_byte_byte_lc : LC := (.seq (.ops Q4N) (.seq (.seq (.ops Q4M) (.block 0 (.loop Q2V))) (.seq (.ops Q4G) .ret)))
@[reducible] def Q1N : FuncId := 163
theorem Q4q : lowF Tryz.prog Tryz.f163 = some slices_Index_byte_byte_lc := by kernel_rfl
theorem Q4O {a0 a1 : Value} {w : World} {R : Ending → World → Prop} (h : slices_Index_byte_byte_lc.wp Tryz.prog (retQ Tryz.prog [.tmp 4] R) (Qh [a0, a1]) w) : Calls Tryz.prog Q1N ⟨[a0, a1]⟩ w R :=
  Q3 Tryz.func163 Q4q (by kernel_rfl) (by kernel_rfl) h

end Go.Proofs.YtjecflbbcnocdaaGreatDoor
namespace Go.Proofs.YtjecflbbcnocdaaGreatDoor
open Go.Lir
set_option maxRecDepth 100000
theorem el_T22 : Q4x Tryz.prog 22 = some (43, 4, 80, [(.int .i64 0), (.slice none 0 0), (.slice none 0 0), (.slice none 0 0)]) := by kernel_rfl
theorem u_T22 : ∃ e2, Tryz.prog.underlying 22 = some (.slice e2) := ⟨43, by kernel_rfl⟩
theorem el_T40 : Q4x Tryz.prog 40 = some (91, 3, 40, [(.int .i64 0), (.int .i64 0), (.slice none 0 0)]) := by kernel_rfl
theorem u_T40 : ∃ e2, Tryz.prog.underlying 40 = some (.slice e2) := ⟨91, by kernel_rfl⟩
theorem el_T41 : Q4x Tryz.prog 41 = some (52, 12, 208, [(.int .i64 0), (.slice none 0 0), (.slice none 0 0), (.int .i64 0), (.int .i64 0), (.int .i64 0), (.slice none 0 0), (.slice none 0 0), (.int .i64 0), (.slice none 0 0), (.slice none 0 0), (.slice none 0 0)]) := by kernel_rfl
theorem u_T41 : ∃ e2, Tryz.prog.underlying 41 = some (.slice e2) := ⟨52, by kernel_rfl⟩
theorem el_T45 : Q4x Tryz.prog 45 = some (54, 8, 96, [(.int .i64 0), (.int .i64 0), (.int .i64 0), (.int .i64 0), (.int .i64 0), (.int .i64 0), (.slice none 0 0), (.slice none 0 0)]) := by kernel_rfl
theorem u_T45 : ∃ e2, Tryz.prog.underlying 45 = some (.slice e2) := ⟨54, by kernel_rfl⟩
theorem el_T46 : Q4x Tryz.prog 46 = some (3, 1, 8, [(.int .i64 0)]) := by kernel_rfl
theorem u_T46 : ∃ e2, Tryz.prog.underlying 46 = some (.slice e2) := ⟨3, by kernel_rfl⟩
theorem el_T63 : Q4x Tryz.prog 63 = some (126, 4, 40, [(.int .i64 0), (.string ⟨#[]⟩), (.bool false), (.int .i64 0)]) := by kernel_rfl
theorem u_T63 : ∃ e2, Tryz.prog.underlying 63 = some (.slice e2) := ⟨126, by kernel_rfl⟩
theorem Qs6 : Q4x Tryz.prog 72 = some (134, 4, 40, [(.int .i64 0), (.string ⟨#[]⟩), (.bool false), (.int .i64 0)]) := by kernel_rfl
theorem u_T72 : ∃ e2, Tryz.prog.underlying 72 = some (.slice e2) := ⟨134, by kernel_rfl⟩
end Go.Proofs.YtjecflbbcnocdaaGreatDoor
namespace Go.Lir
set_option linter.unusedVariables false
mutual
/-- typeSize -/
def Ty.size : Ty → Int → Int
  | .mk _ _ l, left => Tys.size l (left - 1)
def Tys.size : List Ty → Int → Int
  | [], left => left
  | x :: l, left => if 0 ≤ left then Tys.size l (x.size left) else left
end
theorem Tys.size_neg : ∀ (l : List Ty) {left : Int}, left < 0 → Tys.size l left = left
  | [], _, _ => by simp [Tys.size]
  | x :: l, left, h => by rw [Tys.size, if_neg (by omega)]
mutual
/-- deep -/
def Ty.deepB : Ty → Int → Bool
  | .mk _ _ l, left => if left < 0 then false else Tys.deepB l (left - 1)
def Tys.deepB : List Ty → Int → Bool
  | [], _ => true
  | x :: l, left => x.deepB left && Tys.deepB l left
end
mutual
/-- DeepOf -/
def Ty.depth : Ty → Int → Int
  | .mk _ _ l, most => Tys.depth l most 0
def Tys.depth : List Ty → Int → Int → Int
  | [], _, n => n
  | x :: l, most, n => if n ≤ most then (if most = 0 then 1 else Tys.depth l most (if n < 1 + x.depth (most - 1) then 1 + x.depth (most - 1) else n)) else n
end
mutual
theorem Ty.depth_iff : ∀ (t : Ty) {most : Int}, 0 ≤ most → (t.depth most ≤ most ↔ t.deepB most = true)
  | .mk _ _ l, most, h => by
    rw [Ty.depth, Ty.deepB, if_neg (by omega), Tys.depth_iff l h]
    exact ⟨fun h => h.2, fun h2 => ⟨h, h2⟩⟩
theorem Tys.depth_iff : ∀ (l : List Ty) {most n : Int}, 0 ≤ most → (Tys.depth l most n ≤ most ↔ n ≤ most ∧ Tys.deepB l (most - 1) = true)
  | [], most, n, h => by rw [Tys.depth, Tys.deepB]; simp
  | x :: l, most, n, h => by
    rw [Tys.depth, Tys.deepB]
    by_cases hn : n ≤ most
    · rw [if_pos hn]
      by_cases h0 : most = 0
      · rw [if_pos h0]
        have : x.deepB (most - 1) = false := by obtain ⟨k, r, l2⟩ := x; rw [Ty.deepB, if_pos (by omega)]
        rw [this]; simp; omega
      · rw [if_neg h0, Tys.depth_iff l h]
        have := Ty.depth_iff x (most := most - 1) (by omega)
        rw [Bool.and_eq_true, ← this]
        constructor
        · rintro ⟨h1, h2⟩; split at h1 <;> exact ⟨by omega, by omega, h2⟩
        · rintro ⟨h1, h2, h3⟩; refine ⟨?_, h3⟩; split <;> omega
    · rw [if_neg hn]
      exact ⟨fun h => absurd h hn, fun h => h.1⟩
end
mutual
/-- Same -/
def Ty.same : Ty → Ty → Bool
  | .mk k r l, .mk k2 r2 l2 => decide (k = k2) && decide (r = r2) && Tys.same l l2
def Tys.same : List Ty → List Ty → Bool
  | [], [] => true
  | x :: l, y :: m => x.same y && Tys.same l m
  | [], _ :: _ => false
  | _ :: _, [] => false
end
mutual
theorem Ty.same_iff : ∀ (t u : Ty), t.same u = true ↔ t = u
  | .mk k r l, .mk k2 r2 l2 => by
    rw [Ty.same, Bool.and_eq_true, Bool.and_eq_true, Tys.same_iff l l2]
    simp only [decide_eq_true_eq, Ty.mk.injEq, and_assoc]
theorem Tys.same_iff : ∀ (l m : List Ty), Tys.same l m = true ↔ l = m
  | [], [] => by simp [Tys.same]
  | x :: l, y :: m => by rw [Tys.same, Bool.and_eq_true, Ty.same_iff x y, Tys.same_iff l m]; simp
  | [], _ :: _ => by simp [Tys.same]
  | _ :: _, [] => by simp [Tys.same]
end
instance : DecidableEq Ty := fun t u => decidable_of_iff _ (Ty.same_iff t u)
mutual
/-- wrong, typeFault -/
def Ty.wrong (fields : Nat) : Ty → Int → Int
  | .mk k r l, regs =>
    if k < 1 ∨ 4 < k then 3 else if k = 1 ∧ r ≠ 0 ∨ k ≠ 3 ∧ 0 < l.length then 4 else if fields < l.length then 2 else if k ≠ 1 ∧ (r < 0 ∨ regs ≤ r) then 1 else Tys.wrong fields l regs
def Tys.wrong (fields : Nat) : List Ty → Int → Int
  | [], _ => 0
  | x :: l, regs => if x.wrong fields regs ≠ 0 then x.wrong fields regs else Tys.wrong fields l regs
end
mutual
/-- Rename -/
def Ty.ren : Ty → List Int → Option Ty
  | .mk k r l, to => if k ≠ 1 ∧ (r < 0 ∨ (to.length : Int) ≤ r ∨ to.getD r.toNat 0 < 0) then none else
    match Tys.ren l to with
    | none => none
    | some m => some (.mk k (if k ≠ 1 then to.getD r.toNat 0 else r) m)
def Tys.ren : List Ty → List Int → Option (List Ty)
  | [], _ => some []
  | x :: l, to => match x.ren to with
    | none => none
    | some y => match Tys.ren l to with
      | none => none
      | some m => some (y :: m)
end
mutual
/-- Two renamings one behind the other are one. -/
theorem Ty.ren_ren {f g h : List Int} (hfg : ∀ i : Nat, i < f.length → 0 ≤ f.getD i 0 ∧ f.getD i 0 < g.length ∧ 0 ≤ g.getD (f.getD i 0).toNat 0 ∧ i < h.length ∧ h.getD i 0 = g.getD (f.getD i 0).toNat 0) :
    ∀ (t u : Ty), t.ren f = some u → ∃ v, u.ren g = some v ∧ t.ren h = some v
  | .mk k r l, u, ht => by
    rw [Ty.ren] at ht
    split at ht
    · cases ht
    · rename_i hc
      cases hl : Tys.ren l f with
      | none => rw [hl] at ht; cases ht
      | some m =>
        rw [hl] at ht
        simp only [Option.some.injEq] at ht
        obtain ⟨m2, h1, h2⟩ := Tys.ren_ren hfg l m hl
        subst ht
        by_cases hk : k = 1
        · refine ⟨.mk k r m2, ?_, ?_⟩
          · rw [Ty.ren, if_neg (by omega), h1]; simp [hk]
          · rw [Ty.ren, if_neg (by omega), h2]; simp [hk]
        · have := hfg r.toNat (by omega)
          refine ⟨.mk k (g.getD (f.getD r.toNat 0).toNat 0) m2, ?_, ?_⟩
          · rw [Ty.ren, if_pos hk, if_neg (by omega), h1]; simp [hk]
          · rw [Ty.ren, if_neg (by omega), h2]; simp only [if_pos hk, this.2.2.2.2]
theorem Tys.ren_ren {f g h : List Int} (hfg : ∀ i : Nat, i < f.length → 0 ≤ f.getD i 0 ∧ f.getD i 0 < g.length ∧ 0 ≤ g.getD (f.getD i 0).toNat 0 ∧ i < h.length ∧ h.getD i 0 = g.getD (f.getD i 0).toNat 0) :
    ∀ (t u : List Ty), Tys.ren t f = some u → ∃ v, Tys.ren u g = some v ∧ Tys.ren t h = some v
  | [], u, ht => by rw [Tys.ren] at ht; cases ht; exact ⟨[], by rw [Tys.ren], by rw [Tys.ren]⟩
  | x :: l, u, ht => by
    rw [Tys.ren] at ht
    cases hx : x.ren f with
    | none => rw [hx] at ht; cases ht
    | some y =>
      rw [hx] at ht
      cases hl : Tys.ren l f with
      | none => rw [hl] at ht; cases ht
      | some m =>
        rw [hl] at ht
        simp only [Option.some.injEq] at ht
        subst ht
        obtain ⟨y2, a1, a2⟩ := Ty.ren_ren hfg x y hx
        obtain ⟨m2, b1, b2⟩ := Tys.ren_ren hfg l m hl
        exact ⟨y2 :: m2, by rw [Tys.ren, a1, b1], by rw [Tys.ren, a2, b2]⟩
end
mutual
/-- What is renamed is as right as it was, if the renaming stays below the number of regions. -/
theorem Ty.ren_wrong {fields : Nat} {f : List Int} (hf : ∀ i : Nat, i < f.length → 0 ≤ f.getD i 0 ∧ f.getD i 0 < f.length) : ∀ (t u : Ty), t.ren f = some u → u.wrong fields f.length = t.wrong fields f.length
  | .mk k r l, u, ht => by
    rw [Ty.ren] at ht
    split at ht
    · cases ht
    · rename_i hc
      cases hl : Tys.ren l f with
      | none => rw [hl] at ht; cases ht
      | some m =>
        rw [hl] at ht
        simp only [Option.some.injEq] at ht
        subst ht
        obtain ⟨h1, h2⟩ := Tys.ren_wrong (fields := fields) hf l m hl
        by_cases hk : k = 1
        · rw [Ty.wrong, Ty.wrong, h1, h2]; simp [hk]
        · have := hf r.toNat (by omega)
          rw [Ty.wrong, Ty.wrong, h1, h2]
          simp only [if_pos hk]
          rw [if_neg (show ¬ (k ≠ 1 ∧ (f.getD r.toNat 0 < 0 ∨ (f.length : Int) ≤ f.getD r.toNat 0)) by omega), if_neg (show ¬ (k ≠ 1 ∧ (r < 0 ∨ (f.length : Int) ≤ r)) by omega)]
          simp [hk]
theorem Tys.ren_wrong {fields : Nat} {f : List Int} (hf : ∀ i : Nat, i < f.length → 0 ≤ f.getD i 0 ∧ f.getD i 0 < f.length) : ∀ (t u : List Ty), Tys.ren t f = some u → u.length = t.length ∧ Tys.wrong fields u f.length = Tys.wrong fields t f.length
  | [], u, ht => by rw [Tys.ren] at ht; cases ht; exact ⟨rfl, rfl⟩
  | x :: l, u, ht => by
    rw [Tys.ren] at ht
    cases hx : x.ren f with
    | none => rw [hx] at ht; cases ht
    | some y =>
      rw [hx] at ht
      cases hl : Tys.ren l f with
      | none => rw [hl] at ht; cases ht
      | some m =>
        rw [hl] at ht
        simp only [Option.some.injEq] at ht
        subst ht
        obtain ⟨h1, h2⟩ := Tys.ren_wrong (fields := fields) hf l m hl
        exact ⟨by simp [h1], by rw [Tys.wrong, Tys.wrong, Ty.ren_wrong hf x y hx, h2]⟩
end
mutual
/-- What cannot be renamed is wrong. -/
theorem Ty.ren_none {fields : Nat} {f : List Int} (hf : ∀ i : Nat, i < f.length → 0 ≤ f.getD i 0) : ∀ (t : Ty), t.ren f = none → t.wrong fields f.length ≠ 0
  | .mk k r l, ht => by
    rw [Ty.wrong]
    rw [Ty.ren] at ht
    split
    · decide
    · split
      · decide
      · split
        · decide
        · split
          · decide
          · rename_i h1 h2 h3 h4
            have hc : ¬ (k ≠ 1 ∧ (r < 0 ∨ (f.length : Int) ≤ r ∨ f.getD r.toNat 0 < 0)) := by
              rintro ⟨a, b⟩
              have := hf r.toNat
              omega
            rw [if_neg hc] at ht
            cases hl : Tys.ren l f with
            | none => exact Tys.ren_none hf l hl
            | some m => rw [hl] at ht; cases ht
theorem Tys.ren_none {fields : Nat} {f : List Int} (hf : ∀ i : Nat, i < f.length → 0 ≤ f.getD i 0) : ∀ (t : List Ty), Tys.ren t f = none → Tys.wrong fields t f.length ≠ 0
  | [], ht => by rw [Tys.ren] at ht; cases ht
  | x :: l, ht => by
    rw [Tys.ren] at ht
    rw [Tys.wrong]
    split
    · rename_i h; exact h
    · rename_i h
      cases hx : x.ren f with
      | none => exact absurd hx (fun hx => h (Ty.ren_none hf x hx))
      | some y =>
        rw [hx] at ht
        cases hl : Tys.ren l f with
        | none => exact Tys.ren_none hf l hl
        | some m => rw [hl] at ht; cases ht
end
mutual
theorem Ty.ren_deep {f : List Int} : ∀ (t u : Ty) (left : Int), t.ren f = some u → u.deepB left = t.deepB left
  | .mk k r l, u, left, ht => by
    rw [Ty.ren] at ht
    split at ht
    · cases ht
    · cases hl : Tys.ren l f with
      | none => rw [hl] at ht; cases ht
      | some m =>
        rw [hl] at ht
        simp only [Option.some.injEq] at ht
        subst ht
        rw [Ty.deepB, Ty.deepB, Tys.ren_deep l m (left - 1) hl]
theorem Tys.ren_deep {f : List Int} : ∀ (t u : List Ty) (left : Int), Tys.ren t f = some u → Tys.deepB u left = Tys.deepB t left
  | [], u, _, ht => by rw [Tys.ren] at ht; cases ht; rfl
  | x :: l, u, left, ht => by
    rw [Tys.ren] at ht
    cases hx : x.ren f with
    | none => rw [hx] at ht; cases ht
    | some y =>
      rw [hx] at ht
      cases hl : Tys.ren l f with
      | none => rw [hl] at ht; cases ht
      | some m =>
        rw [hl] at ht
        simp only [Option.some.injEq] at ht
        subst ht
        rw [Tys.deepB, Tys.deepB, Ty.ren_deep x y left hx, Tys.ren_deep l m left hl]
end
mutual
/-- The renaming that leaves all as it is. -/
theorem Ty.ren_id {f : List Int} (hf : ∀ i : Nat, i < f.length → f.getD i 0 = i) : ∀ (t u : Ty), t.ren f = some u → u = t
  | .mk k r l, u, ht => by
    rw [Ty.ren] at ht
    split at ht
    · cases ht
    · rename_i hc
      cases hl : Tys.ren l f with
      | none => rw [hl] at ht; cases ht
      | some m =>
        rw [hl] at ht
        simp only [Option.some.injEq] at ht
        subst ht
        rw [Tys.ren_id hf l m hl]
        by_cases hk : k = 1
        · simp [hk]
        · have := hf r.toNat (by omega)
          rw [if_pos hk, this, Int.toNat_of_nonneg (by omega)]
theorem Tys.ren_id {f : List Int} (hf : ∀ i : Nat, i < f.length → f.getD i 0 = i) : ∀ (t u : List Ty), Tys.ren t f = some u → u = t
  | [], u, ht => by rw [Tys.ren] at ht; cases ht; rfl
  | x :: l, u, ht => by
    rw [Tys.ren] at ht
    cases hx : x.ren f with
    | none => rw [hx] at ht; cases ht
    | some y =>
      rw [hx] at ht
      cases hl : Tys.ren l f with
      | none => rw [hl] at ht; cases ht
      | some m =>
        rw [hl] at ht
        simp only [Option.some.injEq] at ht
        subst ht
        rw [Ty.ren_id hf x y hx, Tys.ren_id hf l m hl]
end
/-- By the parts. -/
theorem Ty.ind {p : Ty → Prop} (h : ∀ k r l, (∀ x ∈ l, p x) → p (.mk k r l)) : ∀ t, p t
  | .mk k r l => h k r l fun x hx => Ty.ind h x
termination_by t => SizeOf.sizeOf t
decreasing_by
  have := List.sizeOf_lt_of_mem hx
  simp only [Ty.mk.sizeOf_spec]
  omega
mutual
theorem Ty.size_rng : ∀ (t : Ty) {left : Int}, 0 ≤ left → -1 ≤ t.size left ∧ t.size left < left
  | .mk _ _ l, left, h => by
    rw [Ty.size]
    have := Tys.size_rng l (left := left - 1) (by omega)
    omega
theorem Tys.size_rng : ∀ (l : List Ty) {left : Int}, -1 ≤ left → -1 ≤ Tys.size l left ∧ Tys.size l left ≤ left
  | [], left, h => by rw [Tys.size]; omega
  | x :: l, left, h => by
    rw [Tys.size]
    split
    · rename_i h0
      have h1 := Ty.size_rng x h0
      have h2 := Tys.size_rng l (left := x.size left) h1.1
      omega
    · omega
end
mutual
theorem Ty.size_mono : ∀ (t : Ty) {a b : Int}, a ≤ b → -1 ≤ a → t.size a ≤ t.size b
  | .mk _ _ l, a, b, h, ha => by
    rw [Ty.size, Ty.size]
    by_cases h0 : 0 ≤ a
    · exact Tys.size_mono l (by omega) (by omega)
    · rw [Tys.size_neg l (by omega)]
      by_cases hb : 0 ≤ b
      · have := Tys.size_rng l (left := b - 1) (by omega); omega
      · rw [Tys.size_neg l (by omega)]; omega
theorem Tys.size_mono : ∀ (l : List Ty) {a b : Int}, a ≤ b → -1 ≤ a → Tys.size l a ≤ Tys.size l b
  | [], a, b, h, _ => by rw [Tys.size, Tys.size]; exact h
  | x :: l, a, b, h, ha => by
    by_cases h0 : 0 ≤ a
    · rw [Tys.size, Tys.size, if_pos h0, if_pos (by omega)]
      exact Tys.size_mono l (Ty.size_mono x h ha) (Ty.size_rng x h0).1
    · rw [Tys.size_neg _ (by omega)]
      have := Tys.size_rng (x :: l) (left := b) (by omega); omega
end
/-- What is not too great has few parts, and none of them is too great. -/
theorem Tys.size_len : ∀ (l : List Ty) {left : Int}, 0 ≤ Tys.size l left → -1 ≤ left → (l.length : Int) ≤ left ∧ ∀ x ∈ l, 0 ≤ x.size left
  | [], left, h, _ => by rw [Tys.size] at h; simp; exact h
  | x :: l, left, h, hl => by
    rw [Tys.size] at h
    split at h
    · rename_i h0
      have h1 := Ty.size_rng x h0
      have h2 := Tys.size_len l h h1.1
      have h3 := Tys.size_rng l (left := x.size left) h1.1
      refine ⟨by simp only [List.length_cons]; omega, fun y hy => ?_⟩
      rcases List.mem_cons.1 hy with rfl | hy
      · omega
      · exact Int.le_trans (h2.2 y hy) (Ty.size_mono y (by omega) h1.1)
    · omega
/-- Check, TypeFault -/
def Ty.fault (t : Ty) (regs : Int) : Int := if t.deepB 4 = false then 19 else t.wrong 8 regs
mutual
theorem Ty.depth_rng : ∀ (t : Ty) {most : Int}, 0 ≤ most → 0 ≤ t.depth most ∧ t.depth most ≤ most + 1
  | .mk _ _ l, most, h => by
    rw [Ty.depth]
    exact Tys.depth_rng l h (by omega) (by omega)
theorem Tys.depth_rng : ∀ (l : List Ty) {most n : Int}, 0 ≤ most → 0 ≤ n → n ≤ most + 1 → 0 ≤ Tys.depth l most n ∧ Tys.depth l most n ≤ most + 1
  | [], most, n, _, h1, h2 => by rw [Tys.depth]; omega
  | x :: l, most, n, h, h1, h2 => by
    rw [Tys.depth]
    split
    · split
      · omega
      · have := Ty.depth_rng x (most := most - 1) (by omega)
        exact Tys.depth_rng l h (by split <;> omega) (by split <;> omega)
    · omega
end
/-- No list of parts is long. -/
inductive Ty.Short : Ty → Prop where
  | mk {k r : Int} {l : List Ty} : l.length ≤ 100000 → (∀ x ∈ l, x.Short) → Ty.Short (.mk k r l)
theorem Ty.Short.parts {k r : Int} {l : List Ty} (h : (Ty.mk k r l).Short) : l.length ≤ 100000 ∧ ∀ x ∈ l, x.Short := by
  cases h with | mk h1 h2 => exact ⟨h1, h2⟩
theorem Ty.short_of_size : ∀ (t : Ty) {n : Int}, n ≤ 100000 → 0 ≤ n → 0 ≤ t.size n → t.Short := by
  intro t
  induction t using Ty.ind with
  | h k r l ih =>
    intro n h1 h0 h
    rw [Ty.size] at h
    obtain ⟨h2, h3⟩ := Tys.size_len l h (by omega)
    refine .mk (by omega) fun x hx => ?_
    have hp := h3 x hx
    have hl := List.length_pos_of_mem hx
    exact ih x hx (n := n - 1) (by omega) (by omega) hp
/-- GreatType, greatTypes -/
def Ty.great (t : Ty) : Bool := decide (t.size 2000 < 0)
def Tys.great (l : List Ty) : Bool := decide (200 < l.length) || l.any Ty.great
theorem Ty.short_of_great {t : Ty} (h : t.great = false) : t.Short := Ty.short_of_size t (n := 2000) (by omega) (by omega) (by unfold Ty.great at h; simp at h; exact h)
theorem Tys.short_of_great {l : List Ty} (h : Tys.great l = false) : l.length ≤ 200 ∧ ∀ x ∈ l, x.Short := by
  unfold Tys.great at h
  rw [Bool.or_eq_false_iff] at h
  refine ⟨by have := of_decide_eq_false h.1; omega, fun x hx => Ty.short_of_great ?_⟩
  cases hg : x.great with
  | false => rfl
  | true => have := List.any_eq_true.2 ⟨x, hx, hg⟩; rw [h.2] at this; cases this
end Go.Lir
namespace Go.Lir
structure Ins where
  op : Int
  a : Int
  b : Int
  c : Int
  k : Int
  n : Int
  regs : List Int
  args : List Int
structure To where
  block : Int
  regs : List Int
  args : List Int
structure Tail where
  op : Int
  a : Int
  yes : To
  no : To
  args : List Int
structure Block where
  regs : Int
  params : List Ty
  code : List Ins
  fin : Tail
deriving instance DecidableEq for Ins
deriving instance DecidableEq for To
deriving instance DecidableEq for Tail
deriving instance DecidableEq for Block
structure Fun where
  regs : Int
  params : List Ty
  results : List Ty
  blocks : List Block
structure Module where
  funcs : List Fun
deriving instance DecidableEq for Fun
deriving instance DecidableEq for Module

theorem Fun.eq_of {x y : Fun} (h1 : x.regs = y.regs) (h2 : x.params = y.params) (h3 : x.results = y.results) (h4 : x.blocks = y.blocks) : x = y := by
  cases x; cases y; simp_all
/-! ### no list is long -/
def Ins.Short (x : Ins) : Prop := x.regs.length ≤ 100000 ∧ x.args.length ≤ 100000
def To.Short (x : To) : Prop := x.regs.length ≤ 100000 ∧ x.args.length ≤ 100000
def Tail.Short (x : Tail) : Prop := x.yes.Short ∧ x.no.Short ∧ x.args.length ≤ 100000
def Tys.Short (l : List Ty) : Prop := l.length ≤ 100000 ∧ ∀ t ∈ l, t.Short
def Block.Short (x : Block) : Prop := Tys.Short x.params ∧ x.code.length ≤ 100000 ∧ (∀ i ∈ x.code, i.Short) ∧ x.fin.Short
def Fun.Short (x : Fun) : Prop := Tys.Short x.params ∧ Tys.Short x.results ∧ x.blocks.length ≤ 100000 ∧ ∀ b ∈ x.blocks, b.Short
def Module.Short (x : Module) : Prop := x.funcs.length ≤ 100000 ∧ ∀ f ∈ x.funcs, f.Short
theorem QmO {α : Type} {l : List α} {p : α → Prop} {j : Nat} {x : α} (h : ∀ y ∈ l.take j, p y) (hx : l[j]? = some x) (hp : p x) : ∀ y ∈ l.take (j + 1), p y := by
  intro y hy
  rw [List.take_add_one, hx] at hy
  rcases List.mem_append.1 hy with hy | hy
  · exact h y hy
  · simp at hy; subst hy; exact hp
theorem all_take {α : Type} {l : List α} {p : α → Prop} {j : Nat} (h : ∀ y ∈ l.take j, p y) (hj : l.length ≤ j) : ∀ y ∈ l, p y := by
  rw [List.take_of_length_le hj] at h; exact h
def insR : Rep Ins where
  es := 8
  pos := by decide
  R := fun H K cs x => ∃ vr va, cs = [.int .i64 x.op, .int .i64 x.a, .int .i64 x.b, .int .i64 x.c, .int .i64 x.k, .int .i64 x.n, vr, va] ∧ intR.SR H K vr x.regs ∧ intR.SR H K va x.args
  len := by rintro _ _ _ _ ⟨vr, va, rfl, _⟩; rfl
  one := by
    rintro _ _ _ _ ⟨vr, va, rfl, h1, h2⟩ u hu
    simp at hu
    rcases hu with rfl | rfl | rfl | rfl | rfl | rfl | rfl | rfl <;> first | rfl | exact h1.oneC | exact h2.oneC
  turn := by rintro _ _ _ _ _ _ ⟨vr, va, rfl, h1, h2⟩ hs; exact ⟨vr, va, rfl, h1.turn hs, h2.turn hs⟩
def toR : Rep To where
  es := 3
  pos := by decide
  R := fun H K cs x => ∃ vr va, cs = [.int .i64 x.block, vr, va] ∧ intR.SR H K vr x.regs ∧ intR.SR H K va x.args
  len := by rintro _ _ _ _ ⟨vr, va, rfl, _⟩; rfl
  one := by
    rintro _ _ _ _ ⟨vr, va, rfl, h1, h2⟩ u hu
    simp at hu
    rcases hu with rfl | rfl | rfl <;> first | rfl | exact h1.oneC | exact h2.oneC
  turn := by rintro _ _ _ _ _ _ ⟨vr, va, rfl, h1, h2⟩ hs; exact ⟨vr, va, rfl, h1.turn hs, h2.turn hs⟩
def endR : Rep Tail where
  es := 9
  pos := by decide
  R := fun H K cs x => ∃ v1 v2 v3 v4 v5, cs = [.int .i64 x.op, .int .i64 x.a, .int .i64 x.yes.block, v1, v2, .int .i64 x.no.block, v3, v4, v5] ∧ intR.SR H K v1 x.yes.regs ∧ intR.SR H K v2 x.yes.args ∧ intR.SR H K v3 x.no.regs ∧ intR.SR H K v4 x.no.args ∧ intR.SR H K v5 x.args
  len := by rintro _ _ _ _ ⟨_, _, _, _, _, rfl, _⟩; rfl
  one := by
    rintro _ _ _ _ ⟨_, _, _, _, _, rfl, h1, h2, h3, h4, h5⟩ u hu
    simp at hu
    rcases hu with rfl | rfl | rfl | rfl | rfl | rfl | rfl | rfl | rfl <;> first | rfl | exact h1.oneC | exact h2.oneC | exact h3.oneC | exact h4.oneC | exact h5.oneC
  turn := by rintro _ _ _ _ _ _ ⟨_, _, _, _, _, rfl, h1, h2, h3, h4, h5⟩ hs; exact ⟨_, _, _, _, _, rfl, h1.turn hs, h2.turn hs, h3.turn hs, h4.turn hs, h5.turn hs⟩
def blockR : Rep Block where
  es := 12
  pos := by decide
  R := fun H K cs x => ∃ vp vc ce, cs = .int .i64 x.regs :: vp :: vc :: ce ∧ tyR.SR H K vp x.params ∧ insR.SR H K vc x.code ∧ endR.R H K ce x.fin
  len := by rintro _ _ _ _ ⟨_, _, ce, rfl, _, _, h⟩; have := endR.len h; simp [this, endR]
  one := by
    rintro _ _ _ _ ⟨_, _, ce, rfl, h1, h2, h3⟩ u hu
    simp at hu
    rcases hu with rfl | rfl | rfl | hu
    · rfl
    · exact h1.oneC
    · exact h2.oneC
    · exact endR.one h3 u hu
  turn := by rintro _ _ _ _ _ _ ⟨_, _, _, rfl, h1, h2, h3⟩ hs; exact ⟨_, _, _, rfl, h1.turn hs, h2.turn hs, endR.turn h3 hs⟩
def funcR : Rep Fun where
  es := 4
  pos := by decide
  R := fun H K cs x => ∃ vp vr vb, cs = [.int .i64 x.regs, vp, vr, vb] ∧ tyR.SR H K vp x.params ∧ tyR.SR H K vr x.results ∧ blockR.SR H K vb x.blocks
  len := by rintro _ _ _ _ ⟨_, _, _, rfl, _⟩; rfl
  one := by
    rintro _ _ _ _ ⟨_, _, _, rfl, h1, h2, h3⟩ u hu
    simp at hu
    rcases hu with rfl | rfl | rfl | rfl <;> first | rfl | exact h1.oneC | exact h2.oneC | exact h3.oneC
  turn := by rintro _ _ _ _ _ _ ⟨_, _, _, rfl, h1, h2, h3⟩ hs; exact ⟨_, _, _, rfl, h1.turn hs, h2.turn hs, h3.turn hs⟩
def modR : Rep Module where
  es := 1
  pos := by decide
  R := fun H K cs x => ∃ vf, cs = [vf] ∧ funcR.SR H K vf x.funcs
  len := by rintro _ _ _ _ ⟨_, rfl, _⟩; rfl
  one := by
    rintro _ _ _ _ ⟨_, rfl, h1⟩ u hu
    simp at hu; subst hu; exact h1.oneC
  turn := by rintro _ _ _ _ _ _ ⟨_, rfl, h1⟩ hs; exact ⟨_, rfl, h1.turn hs⟩

theorem Q3M {c : Cx} {cs : List Value} {x : Ins} (h : insR.at c cs x) : ∃ vr va, cs = [.int .i64 x.op, .int .i64 x.a, .int .i64 x.b, .int .i64 x.c, .int .i64 x.k, .int .i64 x.n, vr, va] ∧ intR.sl c vr x.regs ∧ intR.sl c va x.args := h
theorem Q4F {c : Cx} {cs : List Value} {x : To} (h : toR.at c cs x) : ∃ vr va, cs = [.int .i64 x.block, vr, va] ∧ intR.sl c vr x.regs ∧ intR.sl c va x.args := h
theorem Qbl {c : Cx} {cs : List Value} {x : Tail} (h : endR.at c cs x) : ∃ v1 v2 v3 v4 v5, cs = [.int .i64 x.op, .int .i64 x.a, .int .i64 x.yes.block, v1, v2, .int .i64 x.no.block, v3, v4, v5] ∧ intR.sl c v1 x.yes.regs ∧ intR.sl c v2 x.yes.args ∧ intR.sl c v3 x.no.regs ∧ intR.sl c v4 x.no.args ∧ intR.sl c v5 x.args := h
theorem Q29 {c : Cx} {cs : List Value} {x : Block} (h : blockR.at c cs x) : ∃ vp vc v1 v2 v3 v4 v5, cs = [.int .i64 x.regs, vp, vc, .int .i64 x.fin.op, .int .i64 x.fin.a, .int .i64 x.fin.yes.block, v1, v2, .int .i64 x.fin.no.block, v3, v4, v5] ∧ tyR.sl c vp x.params ∧ insR.sl c vc x.code ∧ intR.sl c v1 x.fin.yes.regs ∧ intR.sl c v2 x.fin.yes.args ∧ intR.sl c v3 x.fin.no.regs ∧ intR.sl c v4 x.fin.no.args ∧ intR.sl c v5 x.fin.args := by
  obtain ⟨vp, vc, ce, rfl, h1, h2, v1, v2, v3, v4, v5, rfl, h3⟩ := h
  exact ⟨vp, vc, v1, v2, v3, v4, v5, rfl, h1, h2, h3⟩
theorem QoI {c : Cx} {x : Block} {vp vc v1 v2 v3 v4 v5 : Value} (h1 : tyR.sl c vp x.params) (h2 : insR.sl c vc x.code) (h3 : intR.sl c v1 x.fin.yes.regs) (h4 : intR.sl c v2 x.fin.yes.args) (h5 : intR.sl c v3 x.fin.no.regs) (h6 : intR.sl c v4 x.fin.no.args) (h7 : intR.sl c v5 x.fin.args) :
    blockR.at c [.int .i64 x.regs, vp, vc, .int .i64 x.fin.op, .int .i64 x.fin.a, .int .i64 x.fin.yes.block, v1, v2, .int .i64 x.fin.no.block, v3, v4, v5] x := ⟨vp, vc, _, rfl, h1, h2, v1, v2, v3, v4, v5, rfl, h3, h4, h5, h6, h7⟩
theorem Q1L {c : Cx} {cs : List Value} {x : Fun} (h : funcR.at c cs x) : ∃ vp vr vb, cs = [.int .i64 x.regs, vp, vr, vb] ∧ tyR.sl c vp x.params ∧ tyR.sl c vr x.results ∧ blockR.sl c vb x.blocks := h
theorem Q47 {c : Cx} {cs : List Value} {x : Module} (h : modR.at c cs x) : ∃ vf, cs = [vf] ∧ funcR.sl c vf x.funcs := h

/-! ### codecs -/
section
variable {P : Program} {T : TypeId}
/-- A field as a kind of data. -/
theorem Cod.Of.part {α : Type} {r : Rep α} (c : Cod.Of P T r) {H : Heap} {cs : List Value} {x : α} (h : c.cod.rd H cs x) : r.R H (· < H.size) cs x := c.rd _ _ _ h
def Cod.Of.to {TI TL : TypeId} (ci : Cod.Of P TI intR) (cl : Cod.Of P TL intR.list) (h0 : fieldAt P T 0 = some (0, 1, TI)) (h1 : fieldAt P T 1 = some (1, 1, TL)) (h2 : fieldAt P T 2 = some (2, 1, TL)) (hT : P.cellsOf T = 3) : Cod.Of P T toR :=
  Cod.of (Fld.cod (Fld.more ci.cod h0 (Fld.more cl.cod h1 (Fld.more cl.cod h2 Fld.none))) h0 3 hT) toR rfl fun H cs x h => by
    obtain ⟨hl, g0, g1, g2, _⟩ := h
    match cs, hl with
    | [a, b, c], _ =>
      have e0 : [a] = [_] := ci.part g0
      obtain ⟨v1, e1, s1⟩ := cl.part g1
      obtain ⟨v2, e2, s2⟩ := cl.part g2
      replace e1 : [b] = [v1] := e1
      replace e2 : [c] = [v2] := e2
      simp only [List.cons.injEq, and_true] at e0 e1 e2
      subst e0 e1 e2
      exact ⟨⟨x.1, x.2.1, x.2.2.1⟩, b, c, rfl, s1, s2⟩
def Cod.Of.block {TI TL TC TE : TypeId} (ci : Cod.Of P TI intR) (cl : Cod.Of P TL tyR.list) (cc : Cod.Of P TC insR.list) (ce : Cod.Of P TE endR) (h0 : fieldAt P T 0 = some (0, 1, TI)) (h1 : fieldAt P T 1 = some (1, 1, TL)) (h2 : fieldAt P T 2 = some (2, 1, TC)) (h3 : fieldAt P T 3 = some (3, 9, TE)) (hT : P.cellsOf T = 12) : Cod.Of P T blockR :=
  Cod.of (Fld.cod (Fld.more ci.cod h0 (Fld.more cl.cod h1 (Fld.more cc.cod h2 (Fld.more ce.cod h3 Fld.none)))) h0 12 hT) blockR rfl fun H cs x h => by
    obtain ⟨hl, g0, g1, g2, g3, _⟩ := h
    match cs, hl with
    | [a0, a1, a2, a3, a4, a5, a6, a7, a8, a9, a10, a11], _ =>
      have e0 : [a0] = [_] := ci.part g0
      obtain ⟨v1, e1, s1⟩ := cl.part g1
      obtain ⟨v2, e2, s2⟩ := cc.part g2
      have s3 := ce.part g3
      replace e1 : [a1] = _ := e1
      replace e2 : [a2] = _ := e2
      replace s3 : endR.R H (· < H.size) [a3, a4, a5, a6, a7, a8, a9, a10, a11] x.2.2.2.1 := s3
      simp only [List.cons.injEq, and_true] at e0 e1 e2
      subst e0 e1 e2
      exact ⟨⟨x.1, x.2.1, x.2.2.1, x.2.2.2.1⟩, _, _, _, rfl, s1, s2, s3⟩
def Cod.Of.func {TI TL TB : TypeId} (ci : Cod.Of P TI intR) (cl : Cod.Of P TL tyR.list) (cb : Cod.Of P TB blockR.list) (h0 : fieldAt P T 0 = some (0, 1, TI)) (h1 : fieldAt P T 1 = some (1, 1, TL)) (h2 : fieldAt P T 2 = some (2, 1, TL)) (h3 : fieldAt P T 3 = some (3, 1, TB)) (hT : P.cellsOf T = 4) : Cod.Of P T funcR :=
  Cod.of (Fld.cod (Fld.more ci.cod h0 (Fld.more cl.cod h1 (Fld.more cl.cod h2 (Fld.more cb.cod h3 Fld.none)))) h0 4 hT) funcR rfl fun H cs x h => by
    obtain ⟨hl, g0, g1, g2, g3, _⟩ := h
    match cs, hl with
    | [a0, a1, a2, a3], _ =>
      have e0 : [a0] = [_] := ci.part g0
      obtain ⟨v1, e1, s1⟩ := cl.part g1
      obtain ⟨v2, e2, s2⟩ := cl.part g2
      obtain ⟨v3, e3, s3⟩ := cb.part g3
      replace e1 : [a1] = _ := e1
      replace e2 : [a2] = _ := e2
      replace e3 : [a3] = _ := e3
      simp only [List.cons.injEq, and_true] at e0 e1 e2 e3
      subst e0 e1 e2 e3
      exact ⟨⟨x.1, x.2.1, x.2.2.1, x.2.2.2.1⟩, _, _, _, rfl, s1, s2, s3⟩
end
end Go.Lir
namespace Go.Lir
set_option linter.unusedVariables false
abbrev Flt := Int × Int
/-- The first fault. -/
def orF (a b : Flt) : Flt := if a.1 = 0 ∧ b.1 ≠ 0 then b else a
def mkF (c at' : Int) : Flt := if c = 0 then (0, 0) else (c, at')
theorem Q4l (a b c : Flt) : orF (orF a b) c = orF a (orF b c) := by
  unfold orF
  by_cases h1 : a.1 = 0 <;> by_cases h2 : b.1 = 0 <;> by_cases h3 : c.1 = 0 <;> simp [h1, h2, h3]
theorem Q6K {a b : Flt} (h : a.1 ≠ 0) : orF a b = a := by unfold orF; rw [if_neg (fun h' => h h'.1)]
theorem Qsw {a b : Flt} (h : b.1 = 0) : orF a b = a := by unfold orF; rw [if_neg (fun h' => h'.2 h)]
theorem Q2o {b : Flt} (h : b.1 = 0 → b = (0, 0)) : orF (0, 0) b = b := by
  unfold orF
  by_cases hb : b.1 = 0
  · rw [h hb]; rfl
  · rw [if_pos ⟨rfl, hb⟩]
theorem Q2p (at' : Int) : mkF 0 at' = (0, 0) := rfl
theorem Qbg {c at' : Int} (h : c ≠ 0) : mkF c at' = (c, at') := if_neg h
theorem Q3X (c at' : Int) : (mkF c at').1 = c := by unfold mkF; split <;> simp_all
theorem Qoo (c at' : Int) : (mkF c at').1 = 0 → mkF c at' = (0, 0) := by rw [Q3X]; rintro rfl; rfl
theorem QpU {a b : Flt} (ha : a.1 = 0 → a = (0, 0)) (hb : b.1 = 0 → b = (0, 0)) : (orF a b).1 = 0 → orF a b = (0, 0) := by
  unfold orF
  split
  · exact hb
  · exact ha
/-- Two codes at one place: the first that is not 0. -/
def orC (a b : Int) : Int := if a ≠ 0 then a else b
theorem Q3n {g : Flt} {a b at' : Int} : orF (orF g (mkF a at')) (mkF b at') = orF g (mkF (orC a b) at') := by
  rw [Q4l]
  congr 1
  unfold orC orF
  by_cases h : a = 0
  · subst h
    by_cases hb : b = 0
    · subst hb; rfl
    · simp [mkF, hb]
  · simp [mkF, h]

/-! which fields an instruction has -/
def fA (op : Int) : Bool := decide (op = 2 ∨ op = 4 ∨ op = 5 ∨ op = 6 ∨ op = 7 ∨ op = 8 ∨ op = 9 ∨ op = 10 ∨ op = 11 ∨ op = 13)
def fB (op : Int) : Bool := decide (op = 2 ∨ op = 7 ∨ op = 8 ∨ op = 9 ∨ op = 10)
def fC (op : Int) : Bool := decide (op = 10)
def fK (op : Int) : Bool := decide (op = 2 ∨ op = 6 ∨ op = 7 ∨ op = 14)
def fN (op : Int) : Bool := decide (op = 1)
def fG (op : Int) : Bool := decide (op = 14)
def fR (op : Int) : Bool := decide (op = 5 ∨ op = 14)
/-- A field that the kind has not is not 0. -/
def Ins.odd (x : Ins) : Prop := (fA x.op = false ∧ x.a ≠ 0) ∨ (fB x.op = false ∧ x.b ≠ 0) ∨ (fC x.op = false ∧ x.c ≠ 0) ∨ (fK x.op = false ∧ x.k ≠ 0) ∨ (fN x.op = false ∧ x.n ≠ 0) ∨ (fG x.op = false ∧ 0 < x.regs.length) ∨ (fR x.op = false ∧ 0 < x.args.length)
instance (x : Ins) : Decidable x.odd := by unfold Ins.odd; infer_instance
/-- What stands behind the form, kind by kind. -/
def Q2w (n : Nat) (x : Ins) : Int :=
  if x.op = 2 then (if x.k < 1 ∨ 9 < x.k then 1 else 0)
  else if x.op = 5 then (if 8 < x.args.length then 2 else 0)
  else if x.op = 6 ∨ x.op = 7 then (if x.k < 0 ∨ 8 ≤ x.k then 1 else 0)
  else if x.op = 14 then (if x.k < 0 ∨ (n : Int) ≤ x.k then 1 else if 6 < x.regs.length ∨ 8 < x.args.length then 2 else 0)
  else 0
def Q3s (n : Nat) (x : Ins) : Int := if x.op < 1 ∨ 14 < x.op then 3 else if x.odd then 4 else Q2w n x
def Q2U (n : Nat) (t : To) (is : Bool) : Int :=
  if is = false then (if t.block ≠ 0 ∨ 0 < t.regs.length ∨ 0 < t.args.length then 4 else 0)
  else if t.block < 0 ∨ (n : Int) ≤ t.block then 1 else if 16 < t.regs.length ∨ 8 < t.args.length then 2 else 0
def Q3Y (n : Nat) (e : Tail) : Int :=
  if e.op < 1 ∨ 3 < e.op then 3
  else if e.op ≠ 2 ∧ e.a ≠ 0 ∨ e.op ≠ 3 ∧ 0 < e.args.length then 4
  else if 8 < e.args.length then 2
  else orC (Q2U n e.yes (decide (e.op ≠ 3))) (Q2U n e.no (decide (e.op = 2)))
def Q3E (regs : Int) : List Ty → Int
  | [] => 0
  | t :: l => orC (t.fault regs) (Q3E regs l)
def Qu (l : List Ty) (regs : Int) : Int := if 8 < l.length then 2 else Q3E regs l
def Q3C (f : Nat) : Int := f * 10000 + 9999
def Q3I (f b : Nat) : Int := f * 10000 + b * 100 + 90
def QjM (f b : Nat) : Int := f * 10000 + b * 100 + 91
def Qhu (f b i : Nat) : Int := f * 10000 + b * 100 + i
/-- The instructions from the i-th on. -/
def Q19 (n f b : Nat) : Nat → List Ins → Flt
  | _, [] => (0, 0)
  | i, x :: l => orF (mkF (Q3s n x) (Qhu f b i)) (Q19 n f b (i + 1) l)
def Qt (x : Fun) (b : Nat) (y : Block) : Int :=
  if y.regs < x.regs ∨ 16 < y.regs then 1
  else if Qu y.params y.regs ≠ 0 then Qu y.params y.regs
  else if b = 0 ∧ (y.regs ≠ x.regs ∨ y.params ≠ x.params) then 9
  else if 40 < y.code.length then 2 else 0
def QP (n f : Nat) (x : Fun) (b : Nat) (y : Block) : Flt := orF (mkF (Qt x b y) (Q3I f b)) (orF (Q19 n f b 0 y.code) (mkF (Q3Y x.blocks.length y.fin) (QjM f b)))
def QW (n f : Nat) (x : Fun) : Nat → List Block → Flt
  | _, [] => (0, 0)
  | b, y :: l => orF (QP n f x b y) (QW n f x (b + 1) l)
def Qy (f : Nat) (x : Fun) : Int :=
  if x.regs < 0 ∨ 6 < x.regs then 1
  else if Qu x.params x.regs ≠ 0 then Qu x.params x.regs
  else if Qu x.results x.regs ≠ 0 then Qu x.results x.regs
  else if x.blocks.length < 1 ∨ 12 < x.blocks.length then 2
  else if f = 0 ∧ (0 < x.regs ∨ 0 < x.params.length ∨ ∃ t ∈ x.results, t.kind ≠ 1) then 18 else 0
def Q2i (n f : Nat) (x : Fun) : Flt := orF (mkF (Qy f x) (Q3C f)) (QW n f x 0 x.blocks)
def Q1K (n : Nat) : Nat → List Fun → Flt
  | _, [] => (0, 0)
  | f, x :: l => orF (Q2i n f x) (Q1K n (f + 1) l)
def Module.fault (m : Module) : Flt := orF (mkF (if m.funcs.length < 1 ∨ 8 < m.funcs.length then 2 else 0) (-1)) (Q1K m.funcs.length 0 m.funcs)
theorem QaL {n f b : Nat} : ∀ {l : List Ins} {i : Nat}, (Q19 n f b i l).1 = 0 → Q19 n f b i l = (0, 0)
  | [], _ => fun _ => rfl
  | _ :: _, _ => QpU (Qoo _ _) QaL
theorem Qf3 {n f : Nat} {x : Fun} {b : Nat} {y : Block} : (QP n f x b y).1 = 0 → QP n f x b y = (0, 0) := QpU (Qoo _ _) (QpU QaL (Qoo _ _))
theorem Q3v {n f : Nat} {x : Fun} : ∀ {l : List Block} {b : Nat}, (QW n f x b l).1 = 0 → QW n f x b l = (0, 0)
  | [], _ => fun _ => rfl
  | _ :: _, _ => QpU Qf3 Q3v
theorem Qm {n : Nat} : ∀ {l : List Fun} {f : Nat}, (Q1K n f l).1 = 0 → Q1K n f l = (0, 0)
  | [], _ => fun _ => rfl
  | _ :: _, _ => QpU (QpU (Qoo _ _) Q3v) Qm
theorem Q1R {n f b : Nat} {x : Fun} {y : Block} {c : Int} (h : Qt x b y = c) (hc : c ≠ 0) : QP n f x b y = (c, Q3I f b) := by
  unfold QP; rw [h, Q6K (by rw [Q3X]; exact hc), Qbg hc]
theorem Qqc {n f b : Nat} {x : Fun} {y : Block} {F : Flt} (h : Qt x b y = 0) (hc : Q19 n f b 0 y.code = F) (hF : F.1 ≠ 0) : QP n f x b y = F := by
  unfold QP; rw [h, Q2p, hc, Q6K hF, Q2o (fun h => absurd h hF)]
theorem bf_end {n f b : Nat} {x : Fun} {y : Block} (h : Qt x b y = 0) (hc : Q19 n f b 0 y.code = (0, 0)) : QP n f x b y = mkF (Q3Y x.blocks.length y.fin) (QjM f b) := by
  unfold QP; rw [h, Q2p, hc, Q2o (Qoo _ _), Q2o (Qoo _ _)]
theorem QjK {n f b i : Nat} {x : Ins} {l : List Ins} (h : Q3s n x = 0) : Q19 n f b i (x :: l) = Q19 n f b (i + 1) l := by
  rw [Q19, h, Q2p, Q2o QaL]
theorem Q4Y {n f b i : Nat} {x : Ins} {l : List Ins} (h : Q3s n x ≠ 0) : Q19 n f b i (x :: l) = (Q3s n x, Qhu f b i) := by
  rw [Q19, Q6K (by rw [Q3X]; exact h), Qbg h]
theorem QZ {n f : Nat} {x : Fun} {c : Int} (h : Qy f x = c) (hc : c ≠ 0) : Q2i n f x = (c, Q3C f) := by
  unfold Q2i; rw [h, Q6K (by rw [Q3X]; exact hc), Qbg hc]
theorem Qhf {n f : Nat} {x : Fun} (h : Qy f x = 0) : Q2i n f x = QW n f x 0 x.blocks := by
  unfold Q2i; rw [h, Q2p, Q2o Q3v]
theorem Qfq {n f b : Nat} {x : Fun} {y : Block} {l : List Block} (h : (QP n f x b y).1 = 0) : QW n f x b (y :: l) = QW n f x (b + 1) l := by
  rw [QW, Qf3 h, Q2o Q3v]
theorem Q5V {n f b : Nat} {x : Fun} {y : Block} {l : List Block} (h : (QP n f x b y).1 ≠ 0) : QW n f x b (y :: l) = QP n f x b y := by
  rw [QW, Q6K h]
theorem QsD {n f : Nat} {x : Fun} : (Q2i n f x).1 = 0 → Q2i n f x = (0, 0) := QpU (Qoo _ _) Q3v
theorem Qjv {n f : Nat} {x : Fun} {l : List Fun} (h : (Q2i n f x).1 = 0) : Q1K n f (x :: l) = Q1K n (f + 1) l := by
  rw [Q1K, QsD h, Q2o Qm]
theorem Qi {n f : Nat} {x : Fun} {l : List Fun} (h : (Q2i n f x).1 ≠ 0) : Q1K n f (x :: l) = Q2i n f x := by
  rw [Q1K, Q6K h]

/-! has -/
def hasTab : List ByteArray := [⟨#[]⟩, ⟨#[110]⟩, ⟨#[97, 98, 107]⟩, ⟨#[]⟩, ⟨#[97]⟩, ⟨#[97, 114]⟩, ⟨#[97, 107]⟩, ⟨#[97, 98, 107]⟩, ⟨#[97, 98]⟩, ⟨#[97, 98]⟩, ⟨#[97, 98, 99]⟩, ⟨#[97]⟩, ⟨#[]⟩, ⟨#[97]⟩, ⟨#[107, 103, 114]⟩]
def hasF (op : Int) : ByteArray := if op < 1 ∨ 14 < op then ⟨#[]⟩ else hasTab.getD op.toNat ⟨#[]⟩
def Q1A (s : ByteArray) (c : Nat) : Bool := s.data.toList.any fun b => decide (b.toNat = c)
theorem op_cases {op : Int} (h1 : ¬ op < 1) (h2 : ¬ 14 < op) : op = 1 ∨ op = 2 ∨ op = 3 ∨ op = 4 ∨ op = 5 ∨ op = 6 ∨ op = 7 ∨ op = 8 ∨ op = 9 ∨ op = 10 ∨ op = 11 ∨ op = 12 ∨ op = 13 ∨ op = 14 := by omega
theorem with_all (op : Int) (h : ¬ (op < 1 ∨ 14 < op)) : Q1A (hasF op) 97 = fA op ∧ Q1A (hasF op) 98 = fB op ∧ Q1A (hasF op) 99 = fC op ∧ Q1A (hasF op) 107 = fK op ∧ Q1A (hasF op) 110 = fN op ∧ Q1A (hasF op) 103 = fG op ∧ Q1A (hasF op) 114 = fR op := by
  rcases op_cases (op := op) (by omega) (by omega) with rfl | rfl | rfl | rfl | rfl | rfl | rfl | rfl | rfl | rfl | rfl | rfl | rfl | rfl <;> decide
end Go.Lir
namespace Go.Lir
set_option linter.unusedVariables false
def Q2D (c : UInt8) : Bool := decide (97 ≤ c.toNat ∧ c.toNat ≤ 122)
def QU (c : UInt8) : Bool := decide (48 ≤ c.toNat ∧ c.toNat ≤ 57)
def Q4X (c : UInt8) : Bool := decide (c ∈ [(40 : UInt8), 41, 123, 125, 60, 62, 44, 59])
/-- A number's text, read. -/
def QcL (t : List UInt8) : Option Int := match Lib.parseIntB 64 t with
  | .ok n => if Lib.itoa n = t then some n else none
  | _ => none
abbrev TokR := Except Int (List UInt8 × Option Int)
/-- 8: a number that is none. -/
def numT (t : List UInt8) : TokR := match QcL t with
  | some n => .ok (t, some n)
  | none => .error 8
/-- The token that stands at the beginning: its text, its number; 6: none. -/
def tok1 : List UInt8 → TokR
  | [] => .error 6
  | c :: r =>
    if Q2D c = true then .ok ((c :: r).takeWhile Q2D, none)
    else if QU c = true then numT ((c :: r).takeWhile QU)
    else if c = 45 then match r with
      | [] => .error 6
      | d :: r' => if d = 62 then .ok ([45, 62], none) else if QU d = true then numT (45 :: (d :: r').takeWhile QU) else .error 6
    else if Q4X c = true then .ok ([c], none) else .error 6
theorem Q30 {c : UInt8} {r : List UInt8} (h : Q2D c = true) : tok1 (c :: r) = .ok ((c :: r).takeWhile Q2D, none) := by
  rw [tok1.eq_def]; dsimp only; rw [if_pos h]
theorem Q2z {c : UInt8} {r : List UInt8} (h0 : ¬ Q2D c = true) (h : QU c = true) : tok1 (c :: r) = numT ((c :: r).takeWhile QU) := by
  rw [tok1.eq_def]; dsimp only; rw [if_neg h0, if_pos h]
theorem Q7Z {r : List UInt8} : tok1 (45 :: 62 :: r) = .ok ([45, 62], none) := by
  rw [tok1.eq_def]; dsimp only; rw [if_neg (by decide), if_neg (by decide), if_pos rfl, if_pos rfl]
theorem Q43 {d : UInt8} {r : List UInt8} (h0 : ¬ d = 62) (h : QU d = true) : tok1 (45 :: d :: r) = numT (45 :: (d :: r).takeWhile QU) := by
  rw [tok1.eq_def]; dsimp only; rw [if_neg (by decide), if_neg (by decide), if_pos rfl, if_neg h0, if_pos h]
theorem QrC {d : UInt8} {r : List UInt8} (h0 : ¬ d = 62) (h : ¬ QU d = true) : tok1 (45 :: d :: r) = .error 6 := by
  rw [tok1.eq_def]; dsimp only; rw [if_neg (by decide), if_neg (by decide), if_pos rfl, if_neg h0, if_neg h]
theorem QrB : tok1 [45] = .error 6 := by
  rw [tok1.eq_def]; dsimp only; rw [if_neg (by decide), if_neg (by decide), if_pos rfl]
theorem Q5y {c : UInt8} {r : List UInt8} (h0 : ¬ Q2D c = true) (h1 : ¬ QU c = true) (h2 : ¬ c = 45) (h : Q4X c = true) : tok1 (c :: r) = .ok ([c], none) := by
  rw [tok1.eq_def]; dsimp only; rw [if_neg h0, if_neg h1, if_neg h2, if_pos h]
theorem QlO {c : UInt8} {r : List UInt8} (h0 : ¬ Q2D c = true) (h1 : ¬ QU c = true) (h2 : ¬ c = 45) (h : ¬ Q4X c = true) : tok1 (c :: r) = .error 6 := by
  rw [tok1.eq_def]; dsimp only; rw [if_neg h0, if_neg h1, if_neg h2, if_neg h]
/-- What stands between tokens, left away; true: within a remark. -/
def skip : Bool → List UInt8 → List UInt8
  | _, [] => []
  | true, c :: r => if c = 10 then skip false r else skip true r
  | false, c :: r => if c = 10 ∨ c = 32 ∨ c = 9 ∨ c = 13 then skip false r else if c = 35 then skip true r else c :: r
structure Tok where
  at_ : Nat
  text : List UInt8
  num : Option Int
def Q3h (n : Nat) : Nat → List UInt8 → List Tok → Except Flt (List Tok)
  | 0, _, acc => .ok acc
  | k + 1, l, acc => match l with
    | [] => .ok acc
    | c :: r => match tok1 (c :: r) with
      | .error e => .error (e, (n : Int) - (c :: r).length)
      | .ok (t, m) => Q3h n k (skip false ((c :: r).drop t.length)) (acc ++ [⟨n - (c :: r).length, t, m⟩])
/-- Scan -/
def scan (s : List UInt8) : Except Flt (List Tok) := if 40000 < s.length then .error (2, 40000) else Q3h s.length (s.length + 1) (skip false s) []
theorem Q81 : ∀ (b : Bool) (l : List UInt8), (skip b l).length ≤ l.length
  | _, [] => by cases ‹Bool› <;> simp [skip]
  | true, c :: r => by
    have h1 := Q81 true r
    have h2 := Q81 false r
    rw [skip]; split <;> simp only [List.length_cons] <;> omega
  | false, c :: r => by
    have h1 := Q81 true r
    have h2 := Q81 false r
    rw [skip]; split
    · simp only [List.length_cons]; omega
    · split <;> simp only [List.length_cons] <;> omega
theorem Qgf {l : List UInt8} {t : List UInt8} {m : Option Int} (h : tok1 l = .ok (t, m)) : 0 < t.length ∧ t.length ≤ l.length := by
  have hn : ∀ {x : List UInt8} {t : List UInt8} {m : Option Int}, numT x = .ok (t, m) → t = x := by
    intro x t m h
    unfold numT at h
    split at h
    · cases h; rfl
    · cases h
  have hw : ∀ (p : UInt8 → Bool) (x : List UInt8), (x.takeWhile p).length ≤ x.length := fun p x => (List.takeWhile_prefix p).length_le
  match l, h with
  | c :: r, h =>
    rw [tok1.eq_def] at h
    dsimp only at h
    split at h
    · rename_i hc
      cases h
      exact ⟨by rw [List.takeWhile_cons, if_pos hc]; simp, hw _ _⟩
    · split at h
      · rename_i hc
        have := hn h; subst this
        exact ⟨by rw [List.takeWhile_cons, if_pos hc]; simp, hw _ _⟩
      · split at h
        · split at h
          · cases h
          · rename_i d r'
            split at h
            · cases h; simp
            · split at h
              · have := hn h; subst this
                have := hw QU (d :: r')
                simp only [List.length_cons] at this ⊢
                omega
              · cases h
        · split at h
          · cases h; simp
          · cases h
theorem Q28 {p : UInt8 → Bool} : ∀ {l : List UInt8} {c : UInt8} {r : List UInt8}, (∀ x ∈ l, p x = true) → p c = false → (l ++ c :: r).takeWhile p = l
  | [], c, r, _, hc => by rw [List.nil_append, List.takeWhile_cons, hc]; rfl
  | x :: l, c, r, h, hc => by
    rw [List.cons_append, List.takeWhile_cons, if_pos (h x (List.mem_cons_self ..)), Q28 (fun y hy => h y (List.mem_cons_of_mem _ hy)) hc]
theorem Q48 {p : UInt8 → Bool} : ∀ {l : List UInt8}, ∀ x ∈ l.takeWhile p, p x = true
  | [], x, h => by simp at h
  | y :: l, x, h => by
    rw [List.takeWhile_cons] at h
    split at h
    · rename_i hy
      rcases List.mem_cons.1 h with rfl | h
      · exact hy
      · exact Q48 x h
    · simp at h
/-- A token's text is that token, if a blank stands behind it. -/
theorem Qsi {l : List UInt8} {t : List UInt8} {m : Option Int} (h : tok1 l = .ok (t, m)) (r2 : List UInt8) : tok1 (t ++ 32 :: r2) = .ok (t, m) := by
  have hd32 : QU 32 = false := by decide
  have hl32 : Q2D 32 = false := by decide
  have hn : ∀ {x : List UInt8} {t : List UInt8} {m : Option Int}, numT x = .ok (t, m) → t = x := by
    intro x t m h
    unfold numT at h
    split at h
    · cases h; rfl
    · cases h
  match l, h with
  | c :: r, h =>
    rw [tok1.eq_def] at h
    dsimp only at h
    split at h
    · rename_i hc
      cases h
      rw [List.takeWhile_cons, if_pos hc, List.cons_append, Q30 hc, ← List.cons_append, Q28 _ hl32]
      intro x hx
      rcases List.mem_cons.1 hx with rfl | hx
      · exact hc
      · exact Q48 x hx
    · rename_i hc0
      split at h
      · rename_i hc
        have h9 := hn h; subst h9
        have e : (c :: r).takeWhile QU = c :: r.takeWhile QU := by rw [List.takeWhile_cons, if_pos hc]
        have e2 : ((c :: r).takeWhile QU ++ 32 :: r2).takeWhile QU = (c :: r).takeWhile QU := Q28 Q48 hd32
        rw [e] at h e2 ⊢
        rw [List.cons_append] at e2 ⊢
        rw [Q2z hc0 hc, e2]
        exact h
      · rename_i hc1
        split at h
        · rename_i hc2
          subst hc2
          split at h
          · cases h
          · rename_i d r'
            split at h
            · rename_i hd
              cases h
              rfl
            · rename_i hd0
              split at h
              · rename_i hd
                have h9 := hn h; subst h9
                have e : (d :: r').takeWhile QU = d :: r'.takeWhile QU := by rw [List.takeWhile_cons, if_pos hd]
                have e2 : ((d :: r').takeWhile QU ++ 32 :: r2).takeWhile QU = (d :: r').takeWhile QU := Q28 Q48 hd32
                rw [e] at h e2 ⊢
                rw [List.cons_append] at e2
                rw [List.cons_append, List.cons_append, Q43 hd0 hd, e2]
                exact h
              · cases h
        · rename_i hc2
          split at h
          · rename_i hc3
            cases h
            rw [List.cons_append, List.nil_append, Q5y hc0 hc1 hc2 hc3]
          · cases h
/-- A token begins with no blank. -/
theorem Qtt {l : List UInt8} {t : List UInt8} {m : Option Int} (h : tok1 l = .ok (t, m)) (r2 : List UInt8) : skip false (t ++ r2) = t ++ r2 := by
  have hlen := Qgf h
  have h2 := Qsi h []
  match t, hlen, h2 with
  | c :: t', _, h2 =>
    rw [List.cons_append] at h2 ⊢
    have hc : ¬ (c = 10 ∨ c = 32 ∨ c = 9 ∨ c = 13 ∨ c = 35) := by
      have hno : ∀ c : UInt8, c = 10 ∨ c = 32 ∨ c = 9 ∨ c = 13 ∨ c = 35 → Q2D c = false ∧ QU c = false ∧ c ≠ 45 ∧ Q4X c = false := by
        rintro c (rfl | rfl | rfl | rfl | rfl) <;> decide
      intro hc
      obtain ⟨h3, h4, h5, h6⟩ := hno c hc
      rw [QlO (by rw [h3]; decide) (by rw [h4]; decide) h5 (by rw [h6]; decide)] at h2
      cases h2
    rw [skip, if_neg (fun h => hc (by rcases h with h | h | h | h <;> simp [h])), if_neg (fun h => hc (by simp [h]))]
/-- The same but for the place. -/
def Tok.like (a b : Tok) : Prop := a.text = b.text ∧ a.num = b.num
end Go.Lir
namespace Go.Lir
section
variable {c : UInt8} {r l : List UInt8} {rem : Bool} {src : List UInt8} {i at0 : Nat}
theorem QaW : skip rem [] = [] := by cases rem <;> rfl
theorem QgQ (h : c.toNat = 10) : skip rem (c :: r) = skip false r := by
  obtain rfl : c = 10 := UInt8.toNat_inj.1 h
  cases rem
  · rw [skip, if_pos (.inl rfl)]
  · rw [skip, if_pos rfl]
theorem QlP (h : c.toNat ≠ 10) : skip true (c :: r) = skip true r := by
  rw [skip, if_neg (by rintro rfl; exact h rfl)]
theorem Qpz (h : c.toNat = 32 ∨ c.toNat = 9 ∨ c.toNat = 13) : skip false (c :: r) = skip false r := by
  rw [skip, if_pos (by rcases h with h | h | h; exact .inr (.inl (UInt8.toNat_inj.1 h)); exact .inr (.inr (.inl (UInt8.toNat_inj.1 h))); exact .inr (.inr (.inr (UInt8.toNat_inj.1 h))))]
theorem QnW (h : c.toNat = 35) : skip false (c :: r) = skip true r := by
  obtain rfl : c = 35 := UInt8.toNat_inj.1 h
  rw [skip, if_neg (by decide), if_pos rfl]
theorem QgP (h0 : c.toNat ≠ 10) (h1 : c.toNat ≠ 32) (h2 : c.toNat ≠ 9) (h3 : c.toNat ≠ 13) (h4 : c.toNat ≠ 35) : skip false (c :: r) = c :: r := by
  rw [skip, if_neg, if_neg (fun h : c = 35 => h4 (by rw [h]; rfl))]
  rintro (h | h | h | h) <;> subst h
  · exact h0 rfl
  · exact h1 rfl
  · exact h2 rfl
  · exact h3 rfl
theorem QaT {p : UInt8 → Bool} : ∀ {l : List UInt8}, (∀ x ∈ l, p x = true) → l.takeWhile p = l
  | [], _ => rfl
  | x :: l, h => by rw [List.takeWhile_cons, if_pos (h x (List.mem_cons_self ..)), QaT fun y hy => h y (List.mem_cons_of_mem _ hy)]
/-- So many that pass. -/
theorem QnS {p : UInt8 → Bool} {k : Nat} (h : ∀ x ∈ (src.drop at0).take k, p x = true) (hk : at0 + k ≤ src.length) (hs : ∀ x, src[at0 + k]? = some x → p x = false) : (src.take (at0 + k)).drop at0 = (src.drop at0).takeWhile p ∧ k = ((src.drop at0).takeWhile p).length := by
  have e : (src.take (at0 + k)).drop at0 = (src.drop at0).take k := by rw [List.drop_take]; congr 1; omega
  have hlen : ((src.drop at0).take k).length = k := by rw [List.length_take, List.length_drop]; omega
  have e2 : (src.drop at0).takeWhile p = (src.drop at0).take k := by
    obtain ⟨A, hA⟩ : ∃ A, (src.drop at0).take k = A := ⟨_, rfl⟩
    have e3 : src.drop at0 = A ++ src.drop (at0 + k) := by rw [← hA, ← List.drop_drop, List.take_append_drop]
    rw [hA] at h ⊢
    rw [e3]
    rcases Nat.lt_or_ge (at0 + k) src.length with h2 | h2
    · obtain ⟨x, hx⟩ : ∃ x, src[at0 + k]? = some x := ⟨_, List.getElem?_eq_getElem h2⟩
      rw [Q4 hx, Q28 h (hs x hx)]
    · rw [List.drop_of_length_le h2, List.append_nil]
      exact QaT h
  rw [e, e2, hlen]
  exact ⟨rfl, rfl⟩
theorem QkW {p : UInt8 → Bool} {k : Nat} {x : UInt8} (h : ∀ x ∈ (src.drop at0).take k, p x = true) (hx : src[at0 + k]? = some x) (hp : p x = true) : ∀ x ∈ (src.drop at0).take (k + 1), p x = true :=
  QmO h (by rw [List.getElem?_drop]; exact hx) hp
end
end Go.Lir
namespace Go.Lir
def tokR : Rep Tok where
  es := 4
  pos := by decide
  R := fun _ _ cs t => cs = [.int .i64 t.at_, .string ⟨t.text.toArray⟩, .bool t.num.isSome, .int .i64 (t.num.getD 0)]
  len := by rintro _ _ _ _ rfl; rfl
  one := by
    rintro _ _ _ t rfl u hu
    simp at hu
    rcases hu with rfl | rfl | rfl | rfl <;> rfl
  turn := fun h _ => h
theorem QE {c : Cx} {cs : List Value} {t : Tok} (h : tokR.at c cs t) : cs = [.int .i64 t.at_, .string ⟨t.text.toArray⟩, .bool t.num.isSome, .int .i64 (t.num.getD 0)] := h
section
variable {src t : List UInt8} {m : Option Int} {e : Int} {k i n : Nat} {out : List Tok}
theorem Q3P (h : 40000 < src.length) : scan src = .error (2, 40000) := by unfold scan; rw [if_pos h]
theorem QrF (h : ¬ 40000 < src.length) (hi : src.drop i = skip false src) : scan src = Q3h src.length (src.length + 1) (src.drop i) [] := by unfold scan; rw [if_neg h, hi]
theorem scanL_ok (hi : i < src.length) (h : tok1 (src.drop i) = .ok (t, m)) : Q3h src.length (k + 1) (src.drop i) out = Q3h src.length k (skip false (src.drop (i + t.length))) (out ++ [⟨i, t, m⟩]) := by
  obtain ⟨c, hc⟩ : ∃ x, src[i]? = some x := ⟨_, List.getElem?_eq_getElem hi⟩
  have hd := Q4 hc
  rw [← List.drop_drop]
  have hl : src.length - (src.drop i).length = i := by rw [List.length_drop]; omega
  revert h hl
  rw [hd]
  intro h hl
  rw [Q3h, h]
  dsimp only
  rw [hl]
theorem Q4g (hi : i < src.length) (h : tok1 (src.drop i) = .error e) : Q3h src.length (k + 1) (src.drop i) out = .error (e, (i : Int)) := by
  obtain ⟨c, hc⟩ : ∃ x, src[i]? = some x := ⟨_, List.getElem?_eq_getElem hi⟩
  have hd := Q4 hc
  have hl : (src.length : Int) - (src.drop i).length = i := by rw [List.length_drop]; omega
  revert h hl
  rw [hd]
  intro h hl
  rw [Q3h, h]
  dsimp only
  rw [hl]
theorem QaY (hi : src.length ≤ i) : Q3h src.length k (src.drop i) out = .ok out := by
  rw [List.drop_of_length_le hi]; cases k <;> rfl
theorem QnY {i2 : Nat} (hd : scan src = Q3h src.length (k + 1) (src.drop i) out) (hi : i < src.length) (h : tok1 (src.drop i) = .ok (t, m)) (h2 : src.drop i2 = skip false (src.drop (i + t.length))) : scan src = Q3h src.length k (src.drop i2) (out ++ [⟨i, t, m⟩]) := by
  rw [hd, scanL_ok hi h, h2]
theorem QrD (hi : i < src.length) (h : tok1 (src.drop i) = .ok (t, m)) : 0 < t.length ∧ i + t.length ≤ src.length := by
  have := Qgf h
  rw [List.length_drop] at this
  omega
end
end Go.Lir
namespace Go.Lir
theorem tok1_err {l : List UInt8} {e : Int} (h : tok1 l = .error e) : e = 6 ∨ e = 8 := by
  have hn : ∀ {x : List UInt8} {e : Int}, numT x = .error e → e = 8 := by
    intro x e h
    unfold numT at h
    split at h
    · cases h
    · cases h; rfl
  match l, h with
  | [], h => rw [tok1.eq_def] at h; cases h; exact .inl rfl
  | c :: r, h =>
    rw [tok1.eq_def] at h
    dsimp only at h
    split at h
    · cases h
    · split at h
      · exact .inr (hn h)
      · split at h
        · split at h
          · cases h; exact .inl rfl
          · split at h
            · cases h
            · split at h
              · exact .inr (hn h)
              · cases h; exact .inl rfl
        · split at h
          · cases h
          · cases h; exact .inl rfl
theorem QnZ {n : Nat} : ∀ {k : Nat} {l : List UInt8} {acc : List Tok} {f : Flt}, Q3h n k l acc = .error f → f.1 ≠ 0
  | 0, l, acc, f, h => by rw [Q3h] at h; cases h
  | k + 1, [], acc, f, h => by rw [Q3h] at h; cases h
  | k + 1, c :: r, acc, f, h => by
    rw [Q3h] at h
    split at h
    · rename_i e he
      cases h
      rcases tok1_err he with rfl | rfl
      · exact (by decide : (6 : Int) ≠ 0)
      · exact (by decide : (8 : Int) ≠ 0)
    · exact QnZ h
theorem QlQ {src : List UInt8} {f : Flt} (h : scan src = .error f) : f.1 ≠ 0 := by
  unfold scan at h
  split at h
  · cases h; decide
  · exact QnZ h
end Go.Lir
namespace Go.Lir
set_option linter.unusedVariables false
abbrev PGot (α : Type) := Except Flt (α × List Tok)
def Q6 {α β : Type} (x : PGot α) (f : α → List Tok → PGot β) : PGot β := match x with
  | .ok (a, r) => f a r
  | .error e => .error e
/-- A fault where the tokens stand; e: where the text ends. -/
def Q1X (e : Nat) (c : Int) : List Tok → Flt
  | [] => (if c = 4 then 5 else c, e)
  | t :: _ => (c, t.at_)
def isT (s : List UInt8) : List Tok → Bool
  | [] => false
  | t :: _ => t.num.isNone && decide (t.text = s)
def want (e : Nat) (s : List UInt8) (l : List Tok) : PGot Unit := if isT s l = true then .ok ((), l.tail) else .error (Q1X e 4 l)
def Q38 (e : Nat) : List Tok → PGot Int
  | [] => .error (Q1X e 4 [])
  | t :: r => match t.num with
    | some n => .ok (n, r)
    | none => .error (Q1X e 4 (t :: r))
/-- A number too small or too great stands here. -/
def Qcj : List Tok → Bool
  | [] => false
  | t :: _ => match t.num with
    | some n => decide (n < 0 ∨ 1000000 < n)
    | none => false
def pNum (e : Nat) (l : List Tok) : PGot Int := if Qcj l = true then .error (Q1X e 8 l) else Q38 e l
/-- The rest of a list: so many more may come, so many were read. -/
def pMany {α : Type} (e : Nat) (cl : List UInt8) (f : List Tok → PGot α) : Nat → Nat → List Tok → PGot (List α)
  | 0, _, l => .error (Q1X e 2 l)
  | k + 1, n, l => if isT cl l = true then .ok ([], l.tail) else
    Q6 (if n = 0 then .ok ((), l) else want e [44] l) fun _ l => Q6 (f l) fun x l => Q6 (pMany e cl f k (n + 1) l) fun xs l => .ok (x :: xs, l)
def Q15 {α : Type} (e : Nat) (b cl : List UInt8) (f : List Tok → PGot α) (l : List Tok) : PGot (List α) := Q6 (want e b l) fun _ l => pMany e cl f 101 0 l
abbrev tInt : List UInt8 := [105, 110, 116]
abbrev Q1Z : List UInt8 := [104, 97, 110, 100, 108, 101]
abbrev Q3O : List UInt8 := [97, 114, 114, 97, 121]
abbrev Q2F : List UInt8 := [116, 117, 112, 108, 101]
abbrev Qf8 : List UInt8 := [106, 117, 109, 112]
abbrev tIf : List UInt8 := [105, 102]
abbrev tTo : List UInt8 := [116, 111]
abbrev Qjd : List UInt8 := [101, 108, 115, 101]
abbrev tRet : List UInt8 := [114, 101, 116]
abbrev Q2d : List UInt8 := [98, 108, 111, 99, 107]
abbrev Qpx : List UInt8 := [102, 117, 110, 99]
abbrev QaU : List UInt8 := [45, 62]
/-- A type; so deep may it still be. -/
def pTyp (e : Nat) : Nat → List Tok → PGot Ty
  | 0, l => .error (Q1X e 19 l)
  | k + 1, l =>
    if isT tInt l = true then .ok (.mk 1 0 [], l.tail)
    else if isT Q1Z l = true then Q6 (pNum e l.tail) fun n l => .ok (.mk 2 n [], l)
    else if isT Q3O l = true then Q6 (pNum e l.tail) fun n l => .ok (.mk 4 n [], l)
    else Q6 (want e Q2F l) fun _ l => Q6 (pNum e l) fun n l => Q6 (Q15 e [40] [41] (pTyp e k) l) fun ts l => .ok (.mk 3 n ts, l)
def Q2v (e : Nat) : List Tok → PGot (List Ty) := Q15 e [40] [41] (pTyp e 5)
def Qh6 (e : Nat) : List Tok → PGot (List Int) := Q15 e [60] [62] (pNum e)
def Q4T (e : Nat) : List Tok → PGot (List Int) := Q15 e [40] [41] (pNum e)
def opWords : List (List UInt8) := [[110, 117, 109], [98, 105, 110], [110, 101, 119], [102, 114, 101, 101], [116, 117, 112, 108, 101], [103, 101, 116], [115, 101, 116], [97, 114, 114, 97, 121], [108, 111, 97, 100], [115, 116, 111, 114, 101], [108, 101, 110], [105, 110], [111, 117, 116], [99, 97, 108, 108]]
def kindWords : List (List UInt8) := [[97, 100, 100], [115, 117, 98], [109, 117, 108], [100, 105, 118], [109, 111, 100], [108, 101, 115, 115], [101, 113], [97, 110, 100], [120, 111, 114]]
/-- The number of a word, from 1 on; 0: there is none. -/
def Qhd (ws : List (List UInt8)) (s : List UInt8) : Nat := if ws.idxOf s < ws.length then ws.idxOf s + 1 else 0
def wordN (ws : List (List UInt8)) (k : Int) : List UInt8 := if k < 1 then [] else ws.getD (k.toNat - 1) []
/-- The number of the word that stands here. -/
def Q3H (ws : List (List UInt8)) : List Tok → Nat
  | [] => 0
  | t :: _ => if t.num.isNone = true then Qhd ws t.text else 0
def Q7J (e : Nat) (l : List Tok) : PGot Int := if Q3H kindWords l = 0 then .error (Q1X e 4 l) else .ok ((Q3H kindWords l : Int), l.tail)
def Q2C (e : Nat) (op : Int) (l : List Tok) : PGot Ins :=
  if op = 1 then Q6 (Q38 e l) fun n l => .ok (⟨op, 0, 0, 0, 0, n, [], []⟩, l)
  else if op = 2 then Q6 (Q7J e l) fun k l => Q6 (pNum e l) fun a l => Q6 (pNum e l) fun b l => .ok (⟨op, a, b, 0, k, 0, [], []⟩, l)
  else if op = 4 ∨ op = 11 ∨ op = 13 then Q6 (pNum e l) fun a l => .ok (⟨op, a, 0, 0, 0, 0, [], []⟩, l)
  else if op = 5 then Q6 (pNum e l) fun a l => Q6 (Q4T e l) fun args l => .ok (⟨op, a, 0, 0, 0, 0, [], args⟩, l)
  else if op = 6 then Q6 (pNum e l) fun a l => Q6 (pNum e l) fun k l => .ok (⟨op, a, 0, 0, k, 0, [], []⟩, l)
  else if op = 7 then Q6 (pNum e l) fun a l => Q6 (pNum e l) fun k l => Q6 (pNum e l) fun b l => .ok (⟨op, a, b, 0, k, 0, [], []⟩, l)
  else if op = 8 ∨ op = 9 then Q6 (pNum e l) fun a l => Q6 (pNum e l) fun b l => .ok (⟨op, a, b, 0, 0, 0, [], []⟩, l)
  else if op = 10 then Q6 (pNum e l) fun a l => Q6 (pNum e l) fun b l => Q6 (pNum e l) fun c l => .ok (⟨op, a, b, c, 0, 0, [], []⟩, l)
  else if op = 14 then Q6 (pNum e l) fun k l => Q6 (Qh6 e l) fun regs l => Q6 (Q4T e l) fun args l => .ok (⟨op, 0, 0, 0, k, 0, regs, args⟩, l)
  else .ok (⟨op, 0, 0, 0, 0, 0, [], []⟩, l)
def pIns (e : Nat) (l : List Tok) : PGot (Option Ins) :=
  if Q3H opWords l = 0 then .ok (none, l) else Q6 (Q2C e (Q3H opWords l) l.tail) fun x l => Q6 (want e [59] l) fun _ l => .ok (some x, l)
def pTo (e : Nat) (l : List Tok) : PGot To := Q6 (pNum e l) fun b l => Q6 (Qh6 e l) fun regs l => Q6 (Q4T e l) fun args l => .ok (⟨b, regs, args⟩, l)
def Q3W (e : Nat) (l : List Tok) : PGot Tail :=
  if isT Qf8 l = true then Q6 (pTo e l.tail) fun y l => .ok (⟨1, 0, y, ⟨0, [], []⟩, []⟩, l)
  else if isT tIf l = true then Q6 (pNum e l.tail) fun a l => Q6 (want e tTo l) fun _ l => Q6 (pTo e l) fun y l => Q6 (want e Qjd l) fun _ l => Q6 (pTo e l) fun n l => .ok (⟨2, a, y, n, []⟩, l)
  else Q6 (want e tRet l) fun _ l => Q6 (Q4T e l) fun args l => .ok (⟨3, 0, ⟨0, [], []⟩, ⟨0, [], []⟩, args⟩, l)
def Q3R (e : Nat) (l : List Tok) : PGot Tail := Q6 (Q3W e l) fun t l => Q6 (want e [59] l) fun _ l => .ok (t, l)
/-- As long as there is one more. -/
def pOpts {α : Type} (f : List Tok → PGot (Option α)) : Nat → List Tok → PGot (List α)
  | 0, l => .ok ([], l)
  | k + 1, l => Q6 (f l) fun o l => match o with
    | none => .ok ([], l)
    | some x => Q6 (pOpts f k l) fun xs l => .ok (x :: xs, l)
def pIf {α : Type} (p : List Tok → Bool) (f : List Tok → PGot α) (l : List Tok) : PGot (Option α) := if p l = true then Q6 (f l) fun x l => .ok (some x, l) else .ok (none, l)
def pAll {α : Type} (f : List Tok → PGot (Option α)) (l : List Tok) : PGot (List α) := pOpts f (l.length + 1) l
def Q2G (e : Nat) (l : List Tok) : PGot Block :=
  Q6 (want e Q2d l) fun _ l => Q6 (pNum e l) fun regs l => Q6 (Q2v e l) fun ps l => Q6 (want e [123] l) fun _ l => Q6 (pAll (pIns e) l) fun code l => Q6 (Q3R e l) fun fin l => Q6 (want e [125] l) fun _ l => .ok (⟨regs, ps, code, fin⟩, l)
def pFun (e : Nat) (l : List Tok) : PGot Fun :=
  Q6 (want e Qpx l) fun _ l => Q6 (pNum e l) fun regs l => Q6 (Q2v e l) fun ps l => Q6 (want e QaU l) fun _ l => Q6 (Q2v e l) fun rs l => Q6 (want e [123] l) fun _ l => Q6 (pAll (pIf (isT Q2d) (Q2G e)) l) fun bl l => Q6 (want e [125] l) fun _ l => .ok (⟨regs, ps, rs, bl⟩, l)
def Qok (e : Nat) (l : List Tok) : PGot (List Fun) := pAll (pIf (fun l => !l.isEmpty) (pFun e)) l
def Q3G (s : List UInt8) : Except Flt Module := match scan s with
  | .error f => .error f
  | .ok l => match Qok s.length l with
    | .error f => .error f
    | .ok (fs, _) => if (Module.fault ⟨fs⟩).1 ≠ 0 then .error (Module.fault ⟨fs⟩) else .ok ⟨fs⟩
end Go.Lir
namespace Go.Lir
section
variable {P : Program} {l : List GO} {Q : QT} {ρ : Env} {w : World} {a : List UInt8}
theorem Qcl (a : List UInt8) : (⟨a.toArray⟩ : ByteArray).size = a.length := by rw [Lib.size_eq]
theorem tx_get (a : List UInt8) (i : Nat) : (⟨a.toArray⟩ : ByteArray)[i]? = a[i]? := by
  by_cases h : i < a.length
  · rw [List.getElem?_eq_getElem h, getElem?_pos _ _ (by rw [Qcl]; exact h)]
    rfl
  · rw [List.getElem?_eq_none (by omega), getElem?_neg _ _ (by rw [Qcl]; exact h)]
theorem Qsh (a : List UInt8) (i j : Nat) : (⟨a.toArray⟩ : ByteArray).extract i j = ⟨((a.take j).drop i).toArray⟩ := by
  apply ByteArray.ext
  apply Array.ext'
  simp [ByteArray.data_extract, List.drop_take]
theorem Q1P {d : Nat} {x : Operand} (hx : ρ.ev x = .string ⟨a.toArray⟩) (h : Q2 P l Q (upd ρ d (.int .i64 a.length)) w) : Q2 P (⟨none, .slen d x⟩ :: l) Q ρ w := s_slen hx (by rw [Qcl]; exact h)
theorem Q1H {d m : Nat} {x i : Operand} {k : IntKind} {b : UInt8} (hx : ρ.ev x = .string ⟨a.toArray⟩) (hi : ρ.ev i = .int k (m : Int)) (hb : a[m]? = some b) (h : Q2 P l Q (upd ρ d (.int .u8 b.toNat)) w) : Q2 P (⟨none, .sidx d x i⟩ :: l) Q ρ w :=
  s_sidx hx hi (by omega) (by rw [Int.toNat_natCast, tx_get]; exact hb) h
theorem Q5A {d l' h' : Nat} {x : Operand} {lo hi : Option Operand} (hx : ρ.ev x = .string ⟨a.toArray⟩) (hh : bnd ρ a.length hi h') (hl : bnd ρ 0 lo l') (h2 : h' ≤ a.length) (h3 : l' ≤ h')
    (h : Q2 P l Q (upd ρ d (.string ⟨((a.take h').drop l').toArray⟩)) w) : Q2 P (⟨none, .ssub d x lo hi⟩ :: l) Q ρ w :=
  ⟨_, l', h', hx, by rw [Qcl]; exact hh, hl, by rw [Qcl]; exact h2, h3, by rw [Qsh]; exact h⟩
theorem QtA {d T : Nat} {x y : Operand} {a b : List UInt8} (hx : ρ.ev x = .string ⟨a.toArray⟩) (hy : ρ.ev y = .string ⟨b.toArray⟩)
    (h : Q2 P l Q (upd ρ d (.bool (decide (a ≠ b)))) w) : Q2 P (⟨none, .bin d .neq T x y⟩ :: l) Q ρ w :=
  ⟨_, fun w0 => by
    rw [hx, hy]
    have e : ∀ c : List UInt8, (⟨c.toArray⟩ : ByteArray).toList = c := fun c => Lib.toList_data _
    have e2 : (a != b) = decide (a ≠ b) := by by_cases h : a = b <;> simp [h]
    have e3 : (a == b) = decide (a = b) := by by_cases h : a = b <;> simp [h]
    simp [eqGuard, binOp, Op.stringOp, e, e2, e3], h⟩
/-- A number that lies in memory: for measures. -/
def QuK (w : World) (b j : Nat) : Int := match w.cell? ⟨b, j, none⟩ with
  | some (.int _ n) => n
  | _ => 0
theorem Q89 {c : Cx} {L : List Res} {T b j i : Nat} {cs : List Value} {k : IntKind} {n : Int} (hS : St c w L) (hi : nth L i = some (blk b T cs)) (hj : cs[j]? = some (.int k n)) : QuK w b j = n := by
  unfold QuK; rw [(hS.blkAt hi).cell hj]
/-- A call of a function that was handed in. -/
theorem QtK {d : Nat} {x : Operand} {xs : List Operand} {f : FuncId} {args : List Value} {S : Value → World → Prop} (hx : ρ.ev x = .func (.func f) #[] #[]) (hf : Q3B P f = true) (hxs : xs.map ρ.ev = args) (hc : Rets P f args w S)
    (h : ∀ v w', S v w' → Q2 P l Q (upd ρ d v) w') : Q2 P (⟨none, .callv (some d) x xs⟩ :: l) Q ρ w := by
  unfold Q3B at hf
  rw [Option.any_eq_true] at hf
  obtain ⟨fn, h1, h2⟩ := hf
  rw [Bool.and_eq_true, Bool.not_eq_true'] at h2
  refine QtJ (cap := []) hx h1 h2.1 h2.2 (by rw [hxs, List.append_nil]) hc ?_
  rintro e w' ⟨v, rfl, hv⟩
  exact h v w' hv
end
end Go.Lir
namespace Go.Lir
section
variable {P : Program} {l : List GO} {Q : QT} {ρ : Env} {w : World} {c : Cx} {L : List Res} {v : Value}
theorem s_sadd {d T : Nat} {x y : Operand} {a b : List UInt8} (hx : ρ.ev x = .string ⟨a.toArray⟩) (hy : ρ.ev y = .string ⟨b.toArray⟩) (hl : a.length + b.length ≤ 9223372036854775807)
    (h : Q2 P l Q (upd ρ d (.string ⟨(a ++ b).toArray⟩)) w) : Q2 P (⟨none, .bin d .add T x y⟩ :: l) Q ρ w :=
  ⟨_, fun w0 => by
    rw [hx, hy]
    have := run_string_add_sum (P := P) w0 (⟨a.toArray⟩ : ByteArray) ⟨b.toArray⟩ (by simpa [ByteArray.size] using hl)
    rw [ByteArray.mk_append_mk] at this
    simpa [eqGuard, binOp] using this, h⟩
theorem Qo2 {d T : Nat} {x y : Operand} {a b : List UInt8} (hx : ρ.ev x = .string ⟨a.toArray⟩) (hy : ρ.ev y = .string ⟨b.toArray⟩)
    (h : Q2 P l Q (upd ρ d (.bool (decide (a = b)))) w) : Q2 P (⟨none, .bin d .eql T x y⟩ :: l) Q ρ w :=
  ⟨_, fun w0 => by
    rw [hx, hy]
    have e : ∀ c : List UInt8, (⟨c.toArray⟩ : ByteArray).toList = c := fun c => Lib.toList_data _
    have e2 : (a == b) = decide (a = b) := by by_cases h : a = b <;> simp [h]
    simp [eqGuard, binOp, Op.stringOp, e, e2], h⟩
theorem Ql0 {d T : Nat} {x y : Operand} {a b : List UInt8} (hx : ρ.ev x = .string ⟨a.toArray⟩) (hy : ρ.ev y = .string ⟨b.toArray⟩) (hab : a = b)
    (h : Q2 P l Q (upd ρ d (.bool true)) w) : Q2 P (⟨none, .bin d .eql T x y⟩ :: l) Q ρ w :=
  Qo2 hx hy (by rw [decide_eq_true hab]; exact h)
theorem Qsa {w w' : World} (h : Go.RowKit.Below w.heap.size w w') : Fr NF w w' := ⟨h.os, h.tape, h.output, h.size, fun b hb _ => h.block b hb⟩
theorem grow_fr (w : World) (k : Nat) (os : Array Obj) : Fr NF w (Go.Sort.grow (w.drewN k) os) :=
  ⟨rfl, rfl, rfl, by simp [Go.Sort.grow], fun b hb _ => by simp only [Go.Sort.grow, World.heap_drewN]; rw [Array.getElem?_append_left hb]⟩
/-- The table lies in what is only read. -/
def TabK (P : Program) (c : Cx) (name : String) (k : IntKind) (zs : List Int) : Prop := ∃ g, c.K g ∧ ∀ w : World, w.heap[g]? = c.H0[g]? → Lib.TabIs P w name k zs
theorem TabK.up {name : String} {k : IntKind} {zs : List Int} {c' : Cx} (h : TabK P c name k zs) (hle : c.Le c') : TabK P c' name k zs := by
  obtain ⟨g, h1, h2⟩ := h
  exact ⟨g, (hle.K g h1).1, fun w hw => h2 w (hw.trans (hle.K g h1).2)⟩
theorem TabK.now {name : String} {k : IntKind} {zs : List Int} (h : TabK P c name k zs) (hS : St c w L) : Lib.TabIs P w name k zs := by
  obtain ⟨g, h1, h2⟩ := h
  exact h2 w (hS.1.same g h1)
theorem TabK.top {name : String} {k : IntKind} {zs : List Int} (h : Lib.TabIs P w name k zs) : TabK P (Cx.top w) name k zs := by
  unfold Lib.TabIs World.var? at h
  cases hg : P.globalNamed name with
  | none => simp [hg] at h
  | some g =>
    simp only [hg, Option.bind_some] at h
    have hlt : g < w.heap.size := by
      rcases Nat.lt_or_ge g w.heap.size with h' | h'
      · exact h'
      · rw [Array.getElem?_eq_none h'] at h; simp at h
    refine ⟨g, hlt, fun w' hw' => ?_⟩
    have hw2 : w'.heap[g]? = w.heap[g]? := hw'
    unfold Lib.TabIs World.var?
    simp only [hg, Option.bind_some]
    rw [hw2]; exact h
/-- An own slice of strings: its cells. -/
theorem St.strs {T : TypeId} {i : Nat} {css : List (List Value)} {xs : List ByteArray} (hS : St c w L) (hi : nth L i = some (sl T 1 v css)) (hl : strR.ls c css xs) :
    ∃ a cap, v = .slice a xs.length cap ∧ xs.length ≤ cap ∧ (xs = [] ∨ ∃ b off, a = some ⟨b, off, none⟩ ∧ b < w.heap.size ∧ ∀ (j : Nat) x, xs[j]? = some x → w.cell? ⟨b, off + j, none⟩ = some (.string x)) := by
  obtain ⟨F, hA⟩ := hS.res hi
  have hA : Sl w.heap T 1 v F css := hA
  obtain ⟨h0, a, cap, hv, hlc, hc⟩ := hA.toR
  refine ⟨a, cap, by rw [hv, hl.1], by rw [← hl.1]; exact hlc, ?_⟩
  rcases hc with hc | ⟨b, off, ha, _, hb, hat⟩
  · exact .inl (List.eq_nil_of_length_eq_zero (by rw [← hl.1, hc]; rfl))
  · refine .inr ⟨b, off, ha, hb, fun j x hx => ?_⟩
    obtain ⟨d, h1, h2⟩ := hl.2 j x hx
    have h2 : d = [.string x] := h2
    have := At.cell (hat j d h1) (j := 0) (u := .string x) (by rw [h2]; rfl)
    rw [Nat.mul_one, Nat.add_zero] at this
    exact this
end
end Go.Lir
