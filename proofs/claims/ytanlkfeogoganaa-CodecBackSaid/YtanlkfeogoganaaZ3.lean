/- Lemmas of the proof, part 3: what the functions of the program do (contracts), and what follows. -/
import Derived.Test.YtanlkfeogoganaaProg
import Derived.Test.YtanlkfeogoganaaZ1
import Derived.Test.YtanlkfeogoganaaZ2
namespace Go.Proofs.Ytanlkfeogoganaa
open Go.Lir
set_option maxRecDepth 100000

/- 78 -/
def Q5c : List GO := [qk 4 vn]
def Q5b : List GO := [qm 8 0, qn 9 8, qf 10 9 1, ql 11 10, qm 5 11]
def Q5a : List GO := [qm 12 0, ⟨none, .call (some 13) 108 [(.tmp 12)]⟩, qm 6 13]
def Q59 : List GO := [qm 14 6, qj 15 .lss 2 14 0, qm 16 15, qg 16 false (qm 17 6), qg 16 false (qm 18 0), qg 16 false (qn 19 18), qg 16 false (qf 20 19 0), qg 16 false (ql 21 20), qg 16 false (qL 22 21), qg 16 false (qm 23 0), qg 16 false (qn 24 23), qg 16 false (qf 25 24 1), qg 16 false (ql 26 25), qg 16 false (qt 27 .sub 3 22 26), qg 16 false (qt 28 .gtr 2 17 27), ⟨none, .pick 29 (.tmp 16) (.const (.bool true)) (.tmp 28)⟩]
def Q5e : List (List Nat) := [[],[0],[1],[2],[2],[4,2],[5,2],[6,2],[7,2],[2],[9,2],[10,2],[11,2],[8,12,2],[3,13,2],[2,14]]
def Q58 : List GO := [qm 30 5, ⟨none, .build 31 [(vi 0), (vi 0)] [(0, (1, (.const (vi 2)))), (1, (1, (.tmp 30)))]⟩, ⟨none, .mki 32 116 (.tmp 31)⟩, ⟨none, .raw ⟨none, (.panic (.tmp 32)), 0, "", #[], none⟩⟩]
def Q57 : List GO := [qk 7 vn]
def Q56 : List GO := [qm 33 6, qk 34 (vi 0)]
def Q55 : List GO := [qt 35 .lss 2 34 33]
def Q54 : List GO := [qm 36 7, qm 37 1, ⟨none, .callv (some 38) (.tmp 37) []⟩, ⟨none, .buildS 39 31 1 [(vi 0), vn, vn, vn] [(0, (4, (.tmp 38)))]⟩, ⟨none, .raw ⟨(some 40), (.call ⟨(.builtin .append), #[(.tmp 36), (.tmp 39)], #[22, 22]⟩), 22, "", #[], none⟩⟩, qm 7 40]
def Q53 : List GO := [qj 41 .add 2 34 1, qm 34 41]
def Q2n : LC := (.seq (.ops Q55) (.seq (.cond (.tmp 35) .skip (.exit 0)) (.seq (.block 1 (.ops Q54)) (.ops Q53))))
def Q4s : List GO := [qm 42 7, qm 4 42]
def codec_list_api_Func_lc : LC := (.seq (.ops Q5c) (.seq (.ops Q5b) (.seq (.ops Q5a) (.seq (.seq (.draw Q59 Q5e) (.cond (.tmp 29) (.ops Q58) .skip)) (.seq (.ops Q57) (.seq (.seq (.ops Q56) (.block 0 (.loop Q2n))) (.seq (.ops Q4s) .ret)))))))
@[reducible] def Q1v : FuncId := 78
theorem Q4t : lowF Try.prog Try.f78 = some codec_list_api_Func_lc := by kernel_rfl
theorem Q5d {a0 a1 : Value} {w : World} {R : Ending → World → Prop} (h : codec_list_api_Func_lc.wp Try.prog (retQ Try.prog [.tmp 4] R) (Qc [a0, a1]) w) : Calls Try.prog Q1v ⟨[a0, a1]⟩ w R :=
  Q4 Try.func78 Q4t (by kernel_rfl) (by kernel_rfl) h

/- 79 -/
def Q3Z : List GO := [⟨none, .alloc 2 31 [(vi 0), vn, vn, vn]⟩]
def Q3Y : List GO := [qm 4 0, ⟨none, .call (some 5) 109 [(.tmp 4)]⟩, ⟨none, .build 6 [(vi 0), vn, vn, vn] [(0, (1, (.tmp 5)))]⟩, ⟨none, .alloc 3 31 [(vi 0), vn, vn, vn]⟩, qw 4 3 6]
def Q3X : List GO := [qm 7 0, ⟨none, .call (some 8) 110 [(.tmp 7), (.const (vi 0))]⟩, qf 9 3 1, qs 9 8]
def Q3W : List GO := [qm 10 0, ⟨none, .call (some 11) 110 [(.tmp 10), (.const (vi 0))]⟩, qf 12 3 2, qs 12 11]
def Q3V : List GO := [qm 13 0, qm 14 0, ⟨none, .raw ⟨(some 15), (.makeFunc (.func 112) #[(.tmp 14)] #[]), 144, "", #[], none⟩⟩, ⟨none, .call (some 16) 111 [(.tmp 13), (.tmp 15)]⟩, qf 17 3 3, qs 17 16]
def Q3U : List GO := [qV 18 4 3, qw 4 2 18]
def codec_reader_function_lc : LC := (.seq (.ops Q3Z) (.seq (.ops Q3Y) (.seq (.ops Q3X) (.seq (.ops Q3W) (.seq (.ops Q3V) (.seq (.ops Q3U) .ret))))))
@[reducible] def Q1I : FuncId := 79
theorem Q3L : lowF Try.prog Try.f79 = some codec_reader_function_lc := by kernel_rfl
theorem Q40 {a0 : Value} {w : World} {R : Ending → World → Prop} (h : codec_reader_function_lc.wp Try.prog (retQ Try.prog [.cell 2 31] R) (Qc [a0]) w) : Calls Try.prog Q1I ⟨[a0]⟩ w R :=
  Q4 Try.func79 Q3L (by kernel_rfl) (by kernel_rfl) h

/- 108 -/
def Q72 : List GO := [qk 2 (vi 0)]
def Q71 : List GO := [qk 3 (.int .u64 0)]
def Q70 : List GO := [qk 6 (vi 0)]
def Q6Z : List GO := [qj 7 .lss 3 6 10]
def Q6Y : List GO := [qm 8 6, qm 4 8]
def Q6X : List GO := [qm 9 0, qn 10 9, qf 11 10 1, ql 12 11, qm 13 0, qn 14 13, qf 15 14 0, ql 16 15, qL 17 16, qt 18 .geq 3 12 17]
def Q75 : List (List Nat) := [[],[0],[1],[2],[],[4],[5],[6],[7],[3,8]]
def Q6W : List GO := [qm 19 0, qn 20 19, qf 21 20 0, ql 22 21, qL 23 22, ⟨none, .build 24 [(vi 0), (vi 0)] [(0, (1, (.const (vi 5)))), (1, (1, (.tmp 23)))]⟩, ⟨none, .mki 25 116 (.tmp 24)⟩, ⟨none, .raw ⟨none, (.panic (.tmp 25)), 0, "", #[], none⟩⟩]
def Q6V : List GO := [qm 26 0, qn 27 26, qf 28 27 0, ql 29 28, qm 30 0, qn 31 30, qf 32 31 1, ql 33 32, qi 34 1 29 33, ql 35 34, qm 5 35]
def Q74 : List (List Nat) := [[],[0],[1],[2],[],[4],[5],[6],[3,7],[8],[9,0,1,2,3,4,5,6,7,8,9]]
def Q6U : List GO := [qm 36 4, qj 37 .eql 3 36 9, qm 38 37, qg 38 true (qm 39 5), ⟨some (38, true), .bin 40 .gtr 5 (.tmp 39) (.const (.int .u8 1))⟩, ⟨none, .pick 41 (.tmp 38) (.tmp 40) (.const (.bool false))⟩, qm 42 41, qg 42 false (qm 43 4), qg 42 false (qj 44 .gtr 3 43 0), qg 42 false (qm 45 44), qg 45 true (qm 46 5), ⟨some (45, true), .bin 47 .eql 5 (.tmp 46) (.const (.int .u8 0))⟩, ⟨some (42, false), .pick 48 (.tmp 45) (.tmp 47) (.const (.bool false))⟩, ⟨none, .pick 49 (.tmp 42) (.const (.bool true)) (.tmp 48)⟩]
def Q6T : List GO := [qm 50 0, qn 51 50, qf 52 51 1, ql 53 52, ⟨none, .build 54 [(vi 0), (vi 0)] [(0, (1, (.const (vi 1)))), (1, (1, (.tmp 53)))]⟩, ⟨none, .mki 55 116 (.tmp 54)⟩, ⟨none, .raw ⟨none, (.panic (.tmp 55)), 0, "", #[], none⟩⟩]
def Q5W : List GO := [qm 56 0, qn 57 56, qf 58 57 1, ql 59 58, qj 60 .add 3 59 1, qn 61 56, qf 62 61 1, qs 62 60]
def Q5V : List GO := [qm 63 3, qm 64 5, ⟨none, .bin 65 .and 5 (.tmp 64) (.const (.int .u8 127))⟩, ⟨none, .conv 66 .u64 (.tmp 65)⟩, qm 67 4, ⟨none, .bin 68 .mul 3 (.const (vi 7)) (.tmp 67)⟩, qt 69 .shl 155 66 68, qt 70 .or 155 63 69, qm 3 70]
def Q5U : List GO := [qm 71 5, ⟨none, .bin 72 .lss 5 (.tmp 71) (.const (.int .u8 128))⟩]
def Q5T : List GO := [qj 73 .add 3 6 1, qm 6 73]
def Q2Q : LC := (.seq (.ops Q6Z) (.seq (.cond (.tmp 7) .skip (.exit 0)) (.seq (.block 1 (.seq (.ops Q6Y) (.seq (.seq (.draw Q6X Q75) (.cond (.tmp 18) (.ops Q6W) .skip)) (.seq (.draw Q6V Q74) (.seq (.seq (.ops Q6U) (.cond (.tmp 49) (.ops Q6T) .skip)) (.seq (.ops Q5W) (.seq (.ops Q5V) (.seq (.ops Q5U) (.cond (.tmp 72) (.exit 0) .skip))))))))) (.ops Q5T))))
def Q5S : List GO := [qm 74 3, ⟨none, .bin 75 .shr 155 (.tmp 74) (.const (.int .u64 1))⟩, ⟨none, .conv 76 .i64 (.tmp 75)⟩, qm 77 3, ⟨none, .bin 78 .and 155 (.tmp 77) (.const (.int .u64 1))⟩, ⟨none, .conv 79 .i64 (.tmp 78)⟩, ⟨none, .un 80 .neg (.tmp 79)⟩, qt 81 .xor 2 76 80, qm 2 81]
def codec_reader_long_lc : LC := (.seq (.ops Q72) (.seq (.ops Q71) (.seq (.seq (.ops Q70) (.block 0 (.loop Q2Q))) (.seq (.ops Q5S) .ret))))
@[reducible] def QL : FuncId := 108
theorem Q5X : lowF Try.prog Try.f108 = some codec_reader_long_lc := by kernel_rfl
theorem Q73 {a0 : Value} {w : World} {R : Ending → World → Prop} (h : codec_reader_long_lc.wp Try.prog (retQ Try.prog [.tmp 2] R) (Qc [a0]) w) : Calls Try.prog QL ⟨[a0]⟩ w R :=
  Q4 Try.func108 Q5X (by kernel_rfl) (by kernel_rfl) h

/- 109 -/
def Q8a : List GO := [qk 2 (vi 0)]
def Q89 : List GO := [qm 3 0, ⟨none, .call (some 4) 108 [(.tmp 3)]⟩, qm 2 4]
def codec_reader_int_lc : LC := (.seq (.ops Q8a) (.seq (.ops Q89) .ret))
@[reducible] def Q2M : FuncId := 109
theorem Q79 : lowF Try.prog Try.f109 = some codec_reader_int_lc := by kernel_rfl
theorem Q8b {a0 : Value} {w : World} {R : Ending → World → Prop} (h : codec_reader_int_lc.wp Try.prog (retQ Try.prog [.tmp 2] R) (Qc [a0]) w) : Calls Try.prog Q2M ⟨[a0]⟩ w R :=
  Q4 Try.func109 Q79 (by kernel_rfl) (by kernel_rfl) h

/- 110 -/
def Q5Q : List GO := [qb 2 118 0, qb 3 3 1, qk 4 vn]
def Q5P : List GO := [ql 5 3, qj 6 .gtr 3 5 5]
def Q5O : List GO := [ql 7 2, qn 8 7, qf 9 8 1, ql 10 9, ⟨none, .build 11 [(vi 0), (vi 0)] [(0, (1, (.const (vi 19)))), (1, (1, (.tmp 10)))]⟩, ⟨none, .mki 12 116 (.tmp 11)⟩, ⟨none, .raw ⟨none, (.panic (.tmp 12)), 0, "", #[], none⟩⟩]
def Q5N : List GO := [ql 13 2, ⟨none, .mkfn 14 133 [(.tmp 2), (.tmp 3)]⟩, ⟨none, .call (some 15) 132 [(.tmp 13), (.tmp 14)]⟩, qm 4 15]
def codec_reader_types_lc : LC := (.seq (.ops Q5Q) (.seq (.seq (.ops Q5P) (.cond (.tmp 6) (.ops Q5O) .skip)) (.seq (.ops Q5N) .ret)))
@[reducible] def Q1r : FuncId := 110
theorem Q4N : lowF Try.prog Try.f110 = some codec_reader_types_lc := by kernel_rfl
theorem Q2D {a0 a1 : Value} {w : World} {R : Ending → World → Prop} (h : codec_reader_types_lc.wp Try.prog (retQ Try.prog [.tmp 4] R) (Qc [a0, a1]) w) : Calls Try.prog Q1r ⟨[a0, a1]⟩ w R :=
  Q4 Try.func110 Q4N (by kernel_rfl) (by kernel_rfl) h

/- 111 -/
def Q4D : List GO := [qk 4 vn]
def Q4C : List GO := [qm 8 0, qn 9 8, qf 10 9 1, ql 11 10, qm 5 11]
def Q4B : List GO := [qm 12 0, ⟨none, .call (some 13) 108 [(.tmp 12)]⟩, qm 6 13]
def Q4A : List GO := [qm 14 6, qj 15 .lss 2 14 0, qm 16 15, qg 16 false (qm 17 6), qg 16 false (qm 18 0), qg 16 false (qn 19 18), qg 16 false (qf 20 19 0), qg 16 false (ql 21 20), qg 16 false (qL 22 21), qg 16 false (qm 23 0), qg 16 false (qn 24 23), qg 16 false (qf 25 24 1), qg 16 false (ql 26 25), qg 16 false (qt 27 .sub 3 22 26), qg 16 false (qt 28 .gtr 2 17 27), ⟨none, .pick 29 (.tmp 16) (.const (.bool true)) (.tmp 28)⟩]
def Q4F : List (List Nat) := [[],[0],[1],[2],[2],[4,2],[5,2],[6,2],[7,2],[2],[9,2],[10,2],[11,2],[8,12,2],[3,13,2],[2,14]]
def Q4z : List GO := [qm 30 5, ⟨none, .build 31 [(vi 0), (vi 0)] [(0, (1, (.const (vi 2)))), (1, (1, (.tmp 30)))]⟩, ⟨none, .mki 32 116 (.tmp 31)⟩, ⟨none, .raw ⟨none, (.panic (.tmp 32)), 0, "", #[], none⟩⟩]
def Q4y : List GO := [qk 7 vn]
def Q4x : List GO := [qm 33 6, qk 34 (vi 0)]
def Q4w : List GO := [qt 35 .lss 2 34 33]
def Q4v : List GO := [qm 36 7, qm 37 1, ⟨none, .callv (some 38) (.tmp 37) []⟩, ⟨none, .buildS 39 77 1 [(vi 0), vn, vn, (vi 0), (vi 0), (vi 0), vn, vn, (vi 0), vn, vn, vn] [(0, (12, (.tmp 38)))]⟩, ⟨none, .raw ⟨(some 40), (.call ⟨(.builtin .append), #[(.tmp 36), (.tmp 39)], #[29, 29]⟩), 29, "", #[], none⟩⟩, qm 7 40]
def Q4u : List GO := [qj 41 .add 2 34 1, qm 34 41]
def Q2i : LC := (.seq (.ops Q4w) (.seq (.cond (.tmp 35) .skip (.exit 0)) (.seq (.block 1 (.ops Q4v)) (.ops Q4u))))
def Q42 : List GO := [qm 42 7, qm 4 42]
def codec_list_api_Block_lc : LC := (.seq (.ops Q4D) (.seq (.ops Q4C) (.seq (.ops Q4B) (.seq (.seq (.draw Q4A Q4F) (.cond (.tmp 29) (.ops Q4z) .skip)) (.seq (.ops Q4y) (.seq (.seq (.ops Q4x) (.block 0 (.loop Q2i))) (.seq (.ops Q42) .ret)))))))
@[reducible] def Q1s : FuncId := 111
theorem Q43 : lowF Try.prog Try.f111 = some codec_list_api_Block_lc := by kernel_rfl
theorem Q4E {a0 a1 : Value} {w : World} {R : Ending → World → Prop} (h : codec_list_api_Block_lc.wp Try.prog (retQ Try.prog [.tmp 4] R) (Qc [a0, a1]) w) : Calls Try.prog Q1s ⟨[a0, a1]⟩ w R :=
  Q4 Try.func111 Q43 (by kernel_rfl) (by kernel_rfl) h

/- 112 -/
def Q64 : List GO := [⟨none, .alloc 2 77 [(vi 0), vn, vn, (vi 0), (vi 0), (vi 0), vn, vn, (vi 0), vn, vn, vn]⟩]
def Q63 : List GO := [qm 4 0, ⟨none, .call (some 5) 109 [(.tmp 4)]⟩, ⟨none, .build 6 [(vi 0), vn, vn, (vi 0), (vi 0), (vi 0), vn, vn, (vi 0), vn, vn, vn] [(0, (1, (.tmp 5)))]⟩, ⟨none, .alloc 3 77 [(vi 0), vn, vn, (vi 0), (vi 0), (vi 0), vn, vn, (vi 0), vn, vn, vn]⟩, qw 12 3 6]
def Q62 : List GO := [qm 7 0, ⟨none, .call (some 8) 110 [(.tmp 7), (.const (vi 0))]⟩, qf 9 3 1, qs 9 8]
def Q61 : List GO := [qm 10 0, qm 11 0, ⟨none, .raw ⟨(some 12), (.makeFunc (.func 135) #[(.tmp 11)] #[]), 160, "", #[], none⟩⟩, ⟨none, .call (some 13) 134 [(.tmp 10), (.tmp 12)]⟩, qf 14 3 2, qs 14 13]
def Q60 : List GO := [qm 15 0, ⟨none, .call (some 16) 136 [(.tmp 15)]⟩, qf 17 3 3, qw 9 17 16]
def Q5Z : List GO := [qV 18 12 3, qw 12 2 18]
def codec_reader_block_lc : LC := (.seq (.ops Q64) (.seq (.ops Q63) (.seq (.ops Q62) (.seq (.ops Q61) (.seq (.ops Q60) (.seq (.ops Q5Z) .ret))))))
@[reducible] def Q2h : FuncId := 112
theorem Q4O : lowF Try.prog Try.f112 = some codec_reader_block_lc := by kernel_rfl
theorem Q65 {a0 : Value} {w : World} {R : Ending → World → Prop} (h : codec_reader_block_lc.wp Try.prog (retQ Try.prog [.cell 2 77] R) (Qc [a0]) w) : Calls Try.prog Q2h ⟨[a0]⟩ w R :=
  Q4 Try.func112 Q4O (by kernel_rfl) (by kernel_rfl) h

/- 132 -/
def Q4Y : List GO := [qk 4 vn]
def Q4X : List GO := [qm 8 0, qn 9 8, qf 10 9 1, ql 11 10, qm 5 11]
def Q4W : List GO := [qm 12 0, ⟨none, .call (some 13) 108 [(.tmp 12)]⟩, qm 6 13]
def Q4V : List GO := [qm 14 6, qj 15 .lss 2 14 0, qm 16 15, qg 16 false (qm 17 6), qg 16 false (qm 18 0), qg 16 false (qn 19 18), qg 16 false (qf 20 19 0), qg 16 false (ql 21 20), qg 16 false (qL 22 21), qg 16 false (qm 23 0), qg 16 false (qn 24 23), qg 16 false (qf 25 24 1), qg 16 false (ql 26 25), qg 16 false (qt 27 .sub 3 22 26), qg 16 false (qt 28 .gtr 2 17 27), ⟨none, .pick 29 (.tmp 16) (.const (.bool true)) (.tmp 28)⟩]
def Q50 : List (List Nat) := [[],[0],[1],[2],[2],[4,2],[5,2],[6,2],[7,2],[2],[9,2],[10,2],[11,2],[8,12,2],[3,13,2],[2,14]]
def Q4U : List GO := [qm 30 5, ⟨none, .build 31 [(vi 0), (vi 0)] [(0, (1, (.const (vi 2)))), (1, (1, (.tmp 30)))]⟩, ⟨none, .mki 32 116 (.tmp 31)⟩, ⟨none, .raw ⟨none, (.panic (.tmp 32)), 0, "", #[], none⟩⟩]
def Q4T : List GO := [qk 7 vn]
def Q4S : List GO := [qm 33 6, qk 34 (vi 0)]
def Q4R : List GO := [qt 35 .lss 2 34 33]
def Q4Q : List GO := [qm 36 7, qm 37 1, ⟨none, .callv (some 38) (.tmp 37) []⟩, ⟨none, .buildS 39 65 1 [(vi 0), (vi 0), vn] [(0, (3, (.tmp 38)))]⟩, ⟨none, .raw ⟨(some 40), (.call ⟨(.builtin .append), #[(.tmp 36), (.tmp 39)], #[28, 28]⟩), 28, "", #[], none⟩⟩, qm 7 40]
def Q4P : List GO := [qj 41 .add 2 34 1, qm 34 41]
def Q2m : LC := (.seq (.ops Q4R) (.seq (.cond (.tmp 35) .skip (.exit 0)) (.seq (.block 1 (.ops Q4Q)) (.ops Q4P))))
def Q4q : List GO := [qm 42 7, qm 4 42]
def codec_list_api_Type_lc : LC := (.seq (.ops Q4Y) (.seq (.ops Q4X) (.seq (.ops Q4W) (.seq (.seq (.draw Q4V Q50) (.cond (.tmp 29) (.ops Q4U) .skip)) (.seq (.ops Q4T) (.seq (.seq (.ops Q4S) (.block 0 (.loop Q2m))) (.seq (.ops Q4q) .ret)))))))
@[reducible] def Q1n : FuncId := 132
theorem Q4r : lowF Try.prog Try.f132 = some codec_list_api_Type_lc := by kernel_rfl
theorem Q4Z {a0 a1 : Value} {w : World} {R : Ending → World → Prop} (h : codec_list_api_Type_lc.wp Try.prog (retQ Try.prog [.tmp 4] R) (Qc [a0, a1]) w) : Calls Try.prog Q1n ⟨[a0, a1]⟩ w R :=
  Q4 Try.func132 Q4r (by kernel_rfl) (by kernel_rfl) h

/- 133 -/
def Q4o : List GO := [⟨none, .alloc 2 65 [(vi 0), (vi 0), vn]⟩]
def Q4n : List GO := [ql 4 0, ⟨none, .call (some 5) 109 [(.tmp 4)]⟩, ⟨none, .build 6 [(vi 0), (vi 0), vn] [(0, (1, (.tmp 5)))]⟩, ⟨none, .alloc 3 65 [(vi 0), (vi 0), vn]⟩, qw 3 3 6]
def Q4m : List GO := [qf 7 3 0, ql 8 7, qj 9 .neq 3 8 1]
def Q4l : List GO := [ql 10 0, ⟨none, .call (some 11) 109 [(.tmp 10)]⟩, qf 12 3 1, qs 12 11]
def Q4k : List GO := [qf 13 3 0, ql 14 13, qj 15 .eql 3 14 3]
def Q4j : List GO := [ql 16 0, ql 17 1, qj 18 .add 3 17 1, ⟨none, .call (some 19) 110 [(.tmp 16), (.tmp 18)]⟩, qf 20 3 2, qs 20 19]
def Q4i : List GO := [qV 21 3 3, qw 3 2 21]
def codec_reader_types_1_lc : LC := (.seq (.ops Q4o) (.seq (.ops Q4n) (.seq (.seq (.ops Q4m) (.cond (.tmp 9) (.ops Q4l) .skip)) (.seq (.seq (.ops Q4k) (.cond (.tmp 15) (.ops Q4j) .skip)) (.seq (.ops Q4i) .ret)))))
@[reducible] def QD : FuncId := 133
theorem Q3S : lowF Try.prog Try.f133 = some codec_reader_types_1_lc := by kernel_rfl
theorem Q4p {a0 a1 : Value} {w : World} {R : Ending → World → Prop} (h : codec_reader_types_1_lc.wp Try.prog (retQ Try.prog [.cell 2 65] R) (Qc [a0, a1]) w) : Calls Try.prog QD ⟨[a0, a1]⟩ w R :=
  Q4 Try.func133 Q3S (by kernel_rfl) (by kernel_rfl) h

/- 134 -/
def Q6f : List GO := [qk 4 vn]
def Q6e : List GO := [qm 8 0, qn 9 8, qf 10 9 1, ql 11 10, qm 5 11]
def Q6d : List GO := [qm 12 0, ⟨none, .call (some 13) 108 [(.tmp 12)]⟩, qm 6 13]
def Q6c : List GO := [qm 14 6, qj 15 .lss 2 14 0, qm 16 15, qg 16 false (qm 17 6), qg 16 false (qm 18 0), qg 16 false (qn 19 18), qg 16 false (qf 20 19 0), qg 16 false (ql 21 20), qg 16 false (qL 22 21), qg 16 false (qm 23 0), qg 16 false (qn 24 23), qg 16 false (qf 25 24 1), qg 16 false (ql 26 25), qg 16 false (qt 27 .sub 3 22 26), qg 16 false (qt 28 .gtr 2 17 27), ⟨none, .pick 29 (.tmp 16) (.const (.bool true)) (.tmp 28)⟩]
def Q6h : List (List Nat) := [[],[0],[1],[2],[2],[4,2],[5,2],[6,2],[7,2],[2],[9,2],[10,2],[11,2],[8,12,2],[3,13,2],[2,14]]
def Q6b : List GO := [qm 30 5, ⟨none, .build 31 [(vi 0), (vi 0)] [(0, (1, (.const (vi 2)))), (1, (1, (.tmp 30)))]⟩, ⟨none, .mki 32 116 (.tmp 31)⟩, ⟨none, .raw ⟨none, (.panic (.tmp 32)), 0, "", #[], none⟩⟩]
def Q6a : List GO := [qk 7 vn]
def Q69 : List GO := [qm 33 6, qk 34 (vi 0)]
def Q68 : List GO := [qt 35 .lss 2 34 33]
def Q67 : List GO := [qm 36 7, qm 37 1, ⟨none, .callv (some 38) (.tmp 37) []⟩, ⟨none, .buildS 39 27 1 [(vi 0), (vi 0), (vi 0), (vi 0), (vi 0), (vi 0), vn, vn] [(0, (8, (.tmp 38)))]⟩, ⟨none, .raw ⟨(some 40), (.call ⟨(.builtin .append), #[(.tmp 36), (.tmp 39)], #[58, 58]⟩), 58, "", #[], none⟩⟩, qm 7 40]
def Q66 : List GO := [qj 41 .add 2 34 1, qm 34 41]
def Q2E : LC := (.seq (.ops Q68) (.seq (.cond (.tmp 35) .skip (.exit 0)) (.seq (.block 1 (.ops Q67)) (.ops Q66))))
def Q51 : List GO := [qm 42 7, qm 4 42]
def codec_list_api_Ins_lc : LC := (.seq (.ops Q6f) (.seq (.ops Q6e) (.seq (.ops Q6d) (.seq (.seq (.draw Q6c Q6h) (.cond (.tmp 29) (.ops Q6b) .skip)) (.seq (.ops Q6a) (.seq (.seq (.ops Q69) (.block 0 (.loop Q2E))) (.seq (.ops Q51) .ret)))))))
@[reducible] def Q1B : FuncId := 134
theorem Q52 : lowF Try.prog Try.f134 = some codec_list_api_Ins_lc := by kernel_rfl
theorem Q6g {a0 a1 : Value} {w : World} {R : Ending → World → Prop} (h : codec_list_api_Ins_lc.wp Try.prog (retQ Try.prog [.tmp 4] R) (Qc [a0, a1]) w) : Calls Try.prog Q1B ⟨[a0, a1]⟩ w R :=
  Q4 Try.func134 Q52 (by kernel_rfl) (by kernel_rfl) h

/- 135 -/
def Q8l : List GO := [⟨none, .alloc 2 27 [(vi 0), (vi 0), (vi 0), (vi 0), (vi 0), (vi 0), vn, vn]⟩]
def Q8k : List GO := [qm 7 0, ⟨none, .call (some 8) 109 [(.tmp 7)]⟩, ⟨none, .build 9 [(vi 0), (vi 0), (vi 0), (vi 0), (vi 0), (vi 0), vn, vn] [(0, (1, (.tmp 8)))]⟩, ⟨none, .alloc 3 27 [(vi 0), (vi 0), (vi 0), (vi 0), (vi 0), (vi 0), vn, vn]⟩, qw 8 3 9]
def Q8j : List GO := [qf 10 3 0, ql 11 10, ⟨none, .call (some 12) 105 [(.tmp 11)]⟩, qm 4 12]
def Q8i : List GO := [qf 13 3 1, qf 14 3 2, qf 15 3 3, qf 16 3 4, ⟨none, .buildS 17 167 4 [(.pointer none), (.pointer none), (.pointer none), (.pointer none)] [(0, (1, (.tmp 13))), (1, (1, (.tmp 14))), (2, (1, (.tmp 15))), (3, (1, (.tmp 16)))]⟩, qL 18 17, qk 19 (vi 0)]
def Q8h : List GO := [qt 20 .lss 3 19 18]
def Q8g : List GO := [qm 21 19, qi 22 1 17 19, ql 23 22, qm 5 21, qm 6 23]
def Q8f : List GO := [qm 24 4, qm 25 5, qt 26 .shr 3 24 25, qj 27 .and 3 26 1, qj 28 .eql 3 27 1]
def Q8e : List GO := [qm 29 6, qm 30 0, ⟨none, .call (some 31) 109 [(.tmp 30)]⟩, qn 32 29, qs 32 31]
def Q8d : List GO := [qj 33 .add 3 19 1, qm 19 33]
def Q3c : LC := (.seq (.ops Q8h) (.seq (.cond (.tmp 20) .skip (.exit 0)) (.seq (.block 1 (.seq (.ops Q8g) (.seq (.ops Q8f) (.cond (.tmp 28) (.ops Q8e) .skip)))) (.ops Q8d))))
def Q8c : List GO := [qm 34 4, qj 35 .and 3 34 64, qj 36 .neq 3 35 0]
def Q7f : List GO := [qm 37 0, ⟨none, .call (some 38) 108 [(.tmp 37)]⟩, qf 39 3 5, qs 39 38]
def Q7e : List GO := [qm 40 4, qj 41 .and 3 40 16, qj 42 .neq 3 41 0]
def Q7d : List GO := [qm 43 0, ⟨none, .call (some 44) 142 [(.tmp 43)]⟩, qf 45 3 6, qs 45 44]
def Q7c : List GO := [qm 46 4, qj 47 .and 3 46 32, qj 48 .neq 3 47 0]
def Q7b : List GO := [qm 49 0, ⟨none, .call (some 50) 142 [(.tmp 49)]⟩, qf 51 3 7, qs 51 50]
def Q7a : List GO := [qV 52 8 3, qw 8 2 52]
def codec_reader_ins_lc : LC := (.seq (.ops Q8l) (.seq (.ops Q8k) (.seq (.ops Q8j) (.seq (.seq (.ops Q8i) (.block 0 (.loop Q3c))) (.seq (.seq (.ops Q8c) (.cond (.tmp 36) (.ops Q7f) .skip)) (.seq (.seq (.ops Q7e) (.cond (.tmp 42) (.ops Q7d) .skip)) (.seq (.seq (.ops Q7c) (.cond (.tmp 48) (.ops Q7b) .skip)) (.seq (.ops Q7a) .ret))))))))
@[reducible] def Qr : FuncId := 135
theorem Q7g : lowF Try.prog Try.f135 = some codec_reader_ins_lc := by kernel_rfl
theorem Q8m {a0 : Value} {w : World} {R : Ending → World → Prop} (h : codec_reader_ins_lc.wp Try.prog (retQ Try.prog [.cell 2 27] R) (Qc [a0]) w) : Calls Try.prog Qr ⟨[a0]⟩ w R :=
  Q4 Try.func135 Q7g (by kernel_rfl) (by kernel_rfl) h

/- 136 -/
def Q8w : List GO := [⟨none, .alloc 2 35 [(vi 0), (vi 0), (vi 0), vn, vn, (vi 0), vn, vn, vn]⟩]
def Q8v : List GO := [qm 4 0, ⟨none, .call (some 5) 109 [(.tmp 4)]⟩, ⟨none, .build 6 [(vi 0), (vi 0), (vi 0), vn, vn, (vi 0), vn, vn, vn] [(0, (1, (.tmp 5)))]⟩, ⟨none, .alloc 3 35 [(vi 0), (vi 0), (vi 0), vn, vn, (vi 0), vn, vn, vn]⟩, qw 9 3 6]
def Q8u : List GO := [qf 7 3 0, ql 8 7]
def Q8t : List GO := [qj 10 .eql 3 8 1, qm 9 10]
def Q8s : List GO := [qm 11 0, ⟨none, .call (some 12) 143 [(.tmp 11)]⟩, qf 13 3 2, qw 3 13 12]
def Q8r : List GO := [qj 15 .eql 3 8 2, qm 14 15]
def Q8q : List GO := [qm 16 0, ⟨none, .call (some 17) 109 [(.tmp 16)]⟩, qf 18 3 1, qs 18 17]
def Q8p : List GO := [qm 19 0, ⟨none, .call (some 20) 143 [(.tmp 19)]⟩, qf 21 3 2, qw 3 21 20]
def Q8o : List GO := [qm 22 0, ⟨none, .call (some 23) 143 [(.tmp 22)]⟩, qf 24 3 5, qw 3 24 23]
def Q8n : List GO := [qj 26 .eql 3 8 3, qm 25 26]
def Q7i : List GO := [qm 27 0, ⟨none, .call (some 28) 142 [(.tmp 27)]⟩, qf 29 3 8, qs 29 28]
def Q7h : List GO := [qV 30 9 3, qw 9 2 30]
def codec_reader_end_lc : LC := (.seq (.ops Q8w) (.seq (.ops Q8v) (.seq (.seq (.ops Q8u) (.block 0 (.seq (.ops Q8t) (.cond (.tmp 9) (.ops Q8s) (.seq (.ops Q8r) (.cond (.tmp 14) (.seq (.ops Q8q) (.seq (.ops Q8p) (.ops Q8o))) (.seq (.ops Q8n) (.cond (.tmp 25) (.ops Q7i) .skip)))))))) (.seq (.ops Q7h) .ret))))
@[reducible] def QQ : FuncId := 136
theorem Q7j : lowF Try.prog Try.f136 = some codec_reader_end_lc := by kernel_rfl
theorem Q8x {a0 : Value} {w : World} {R : Ending → World → Prop} (h : codec_reader_end_lc.wp Try.prog (retQ Try.prog [.cell 2 35] R) (Qc [a0]) w) : Calls Try.prog QQ ⟨[a0]⟩ w R :=
  Q4 Try.func136 Q7j (by kernel_rfl) (by kernel_rfl) h

/- 142 -/
def Q77 : List GO := [qk 2 vn]
def Q76 : List GO := [qm 3 0, qm 4 0, ⟨none, .raw ⟨(some 5), (.makeFunc (.func 109) #[(.tmp 4)] #[]), 72, "", #[], none⟩⟩, ⟨none, .call (some 6) 146 [(.tmp 3), (.tmp 5)]⟩, qm 2 6]
def codec_reader_ints_lc : LC := (.seq (.ops Q77) (.seq (.ops Q76) .ret))
@[reducible] def Q3T : FuncId := 142
theorem Q5Y : lowF Try.prog Try.f142 = some codec_reader_ints_lc := by kernel_rfl
theorem Q78 {a0 : Value} {w : World} {R : Ending → World → Prop} (h : codec_reader_ints_lc.wp Try.prog (retQ Try.prog [.tmp 2] R) (Qc [a0]) w) : Calls Try.prog Q3T ⟨[a0]⟩ w R :=
  Q4 Try.func142 Q5Y (by kernel_rfl) (by kernel_rfl) h

/- 143 -/
def Q9e : List GO := [⟨none, .alloc 2 33 [(vi 0), vn, vn]⟩]
def Q9d : List GO := [qm 4 0, ⟨none, .call (some 5) 109 [(.tmp 4)]⟩, ⟨none, .build 6 [(vi 0), vn, vn] [(0, (1, (.tmp 5)))]⟩, ⟨none, .alloc 3 33 [(vi 0), vn, vn]⟩, qw 3 3 6]
def Q9c : List GO := [qm 7 0, ⟨none, .call (some 8) 142 [(.tmp 7)]⟩, qf 9 3 1, qs 9 8]
def Q9b : List GO := [qm 10 0, ⟨none, .call (some 11) 142 [(.tmp 10)]⟩, qf 12 3 2, qs 12 11]
def Q9a : List GO := [qV 13 3 3, qw 3 2 13]
def codec_reader_to_lc : LC := (.seq (.ops Q9e) (.seq (.ops Q9d) (.seq (.ops Q9c) (.seq (.ops Q9b) (.seq (.ops Q9a) .ret)))))
@[reducible] def Q5R : FuncId := 143
theorem Q88 : lowF Try.prog Try.f143 = some codec_reader_to_lc := by kernel_rfl
theorem Q9f {a0 : Value} {w : World} {R : Ending → World → Prop} (h : codec_reader_to_lc.wp Try.prog (retQ Try.prog [.cell 2 33] R) (Qc [a0]) w) : Calls Try.prog Q5R ⟨[a0]⟩ w R :=
  Q4 Try.func143 Q88 (by kernel_rfl) (by kernel_rfl) h

/- 146 -/
def Qa4 : List GO := [qk 4 vn]
def Qa3 : List GO := [qm 8 0, qn 9 8, qf 10 9 1, ql 11 10, qm 5 11]
def Qa2 : List GO := [qm 12 0, ⟨none, .call (some 13) 108 [(.tmp 12)]⟩, qm 6 13]
def Qa1 : List GO := [qm 14 6, qj 15 .lss 2 14 0, qm 16 15, qg 16 false (qm 17 6), qg 16 false (qm 18 0), qg 16 false (qn 19 18), qg 16 false (qf 20 19 0), qg 16 false (ql 21 20), qg 16 false (qL 22 21), qg 16 false (qm 23 0), qg 16 false (qn 24 23), qg 16 false (qf 25 24 1), qg 16 false (ql 26 25), qg 16 false (qt 27 .sub 3 22 26), qg 16 false (qt 28 .gtr 2 17 27), ⟨none, .pick 29 (.tmp 16) (.const (.bool true)) (.tmp 28)⟩]
def Qa6 : List (List Nat) := [[],[0],[1],[2],[2],[4,2],[5,2],[6,2],[7,2],[2],[9,2],[10,2],[11,2],[8,12,2],[3,13,2],[2,14]]
def Qa0 : List GO := [qm 30 5, ⟨none, .build 31 [(vi 0), (vi 0)] [(0, (1, (.const (vi 2)))), (1, (1, (.tmp 30)))]⟩, ⟨none, .mki 32 116 (.tmp 31)⟩, ⟨none, .raw ⟨none, (.panic (.tmp 32)), 0, "", #[], none⟩⟩]
def Q9Z : List GO := [qk 7 vn]
def Q9Y : List GO := [qm 33 6, qk 34 (vi 0)]
def Q9X : List GO := [qt 35 .lss 2 34 33]
def Q9W : List GO := [qm 36 7, qm 37 1, ⟨none, .callv (some 38) (.tmp 37) []⟩, ⟨none, .buildS 39 3 1 [(vi 0)] [(0, (1, (.tmp 38)))]⟩, ⟨none, .raw ⟨(some 40), (.call ⟨(.builtin .append), #[(.tmp 36), (.tmp 39)], #[25, 25]⟩), 25, "", #[], none⟩⟩, qm 7 40]
def Q9V : List GO := [qj 41 .add 2 34 1, qm 34 41]
def Q41 : LC := (.seq (.ops Q9X) (.seq (.cond (.tmp 35) .skip (.exit 0)) (.seq (.block 1 (.ops Q9W)) (.ops Q9V))))
def Q9g : List GO := [qm 42 7, qm 4 42]
def codec_list_int_lc : LC := (.seq (.ops Qa4) (.seq (.ops Qa3) (.seq (.ops Qa2) (.seq (.seq (.draw Qa1 Qa6) (.cond (.tmp 29) (.ops Qa0) .skip)) (.seq (.ops Q9Z) (.seq (.seq (.ops Q9Y) (.block 0 (.loop Q41))) (.seq (.ops Q9g) .ret)))))))
@[reducible] def Q2v : FuncId := 146
theorem Q9h : lowF Try.prog Try.f146 = some codec_list_int_lc := by kernel_rfl
theorem Qa5 {a0 a1 : Value} {w : World} {R : Ending → World → Prop} (h : codec_list_int_lc.wp Try.prog (retQ Try.prog [.tmp 4] R) (Qc [a0, a1]) w) : Calls Try.prog Q2v ⟨[a0, a1]⟩ w R :=
  Q4 Try.func146 Q9h (by kernel_rfl) (by kernel_rfl) h

end Go.Proofs.Ytanlkfeogoganaa
namespace Go.Proofs.Ytanlkfeogoganaa
open Go.Lir
set_option maxRecDepth 100000
theorem el_T22 : Q3q Try.prog 22 = some (31, 4, 80, [(.int .i64 0), (.slice none 0 0), (.slice none 0 0), (.slice none 0 0)]) := by kernel_rfl
theorem u_T22 : ∃ e2, Try.prog.underlying 22 = some (.slice e2) := ⟨31, by kernel_rfl⟩
theorem el_T25 : Q3q Try.prog 25 = some (3, 1, 8, [(.int .i64 0)]) := by kernel_rfl
theorem u_T25 : ∃ e2, Try.prog.underlying 25 = some (.slice e2) := ⟨3, by kernel_rfl⟩
theorem el_T28 : Q3q Try.prog 28 = some (65, 3, 40, [(.int .i64 0), (.int .i64 0), (.slice none 0 0)]) := by kernel_rfl
theorem u_T28 : ∃ e2, Try.prog.underlying 28 = some (.slice e2) := ⟨65, by kernel_rfl⟩
theorem el_T29 : Q3q Try.prog 29 = some (77, 12, 208, [(.int .i64 0), (.slice none 0 0), (.slice none 0 0), (.int .i64 0), (.int .i64 0), (.int .i64 0), (.slice none 0 0), (.slice none 0 0), (.int .i64 0), (.slice none 0 0), (.slice none 0 0), (.slice none 0 0)]) := by kernel_rfl
theorem u_T29 : ∃ e2, Try.prog.underlying 29 = some (.slice e2) := ⟨77, by kernel_rfl⟩
theorem QkZ : Q3q Try.prog 50 = some (5, 1, 1, [(.int .u8 0)]) := by kernel_rfl
theorem u_T50 : ∃ e2, Try.prog.underlying 50 = some (.slice e2) := ⟨5, by kernel_rfl⟩
theorem el_T58 : Q3q Try.prog 58 = some (27, 8, 96, [(.int .i64 0), (.int .i64 0), (.int .i64 0), (.int .i64 0), (.int .i64 0), (.int .i64 0), (.slice none 0 0), (.slice none 0 0)]) := by kernel_rfl
theorem u_T58 : ∃ e2, Try.prog.underlying 58 = some (.slice e2) := ⟨27, by kernel_rfl⟩
end Go.Proofs.Ytanlkfeogoganaa
namespace Go.Proofs.Ytanlkfeogoganaa
open Go.Lir
set_option maxHeartbeats 1000000
attribute [local irreducible] LC.wp Q3 Qz QM retQ Q1x LO.wp Qf Calls
set_option linter.unusedSimpArgs false
set_option linter.unusedVariables false
attribute [local irreducible] bitI IntKind.wrap Q3g rdU rmap
variable {cx : Cx} {w : World} {L : List Res}
@[reducible] def Ql5 (e : Flt) : Value := .iface 116 (.agg ⟨[.int .i64 e.1, .int .i64 e.2]⟩)
theorem Q4c {bs : List UInt8} {rb at0 : Nat} {v : Value} (hv : u8R.sl cx v bs) (ha : at0 ≤ bs.length) (hS : St cx w (blk rb 120 [v, .int .i64 at0] :: L)) :
    Fins Try.prog QL [.pointer (some ⟨rb, 0, none⟩)] w
      (fun u w' => ∃ n at', rdLong bs.length (bs.drop at0) = .ok (n, bs.drop at') ∧ at0 ≤ at' ∧ at' ≤ bs.length ∧ u = .int .i64 n ∧ St cx w' (blk rb 120 [v, .int .i64 at'] :: L))
      (fun u w' => ∃ e at', rdLong bs.length (bs.drop at0) = .error e ∧ u = Ql5 e ∧ St cx w' (blk rb 120 [v, .int .i64 at'] :: L)) := by
  have hbl := hv.len
  obtain ⟨va, vn, rfl⟩ := Rep.SR.shape hv
  unfold Fins
  all_goals refine Q73 ?_
  all_goals (unfold codec_reader_long_lc; refine Q0 ?_; refine Q1 ?_; refine zm ?_; refine zn ?_; refine Q0 ?_; refine Q1 ?_; refine zm ?_; refine zn ?_; refine Q0 ?_; refine Q0 ?_; refine Q1 ?_; refine zm ?_; refine zn ?_; refine Qa ?_)
  refine zo [0] (fun A ρ' w' => ∃ (i u : Nat), Has ρ' A ∧ Has ρ' [(6, .int .i64 i), (3, .int .u64 (u : Int))] ∧ (i ≤ 9) ∧ (u < 128 ^ i) ∧ (at0 + i ≤ bs.length) ∧ (rdU bs.length 10 (bs.drop at0) = rmap u (128 ^ i) (rdU bs.length (10 - i) (bs.drop (at0 + i)))) ∧ St cx w' (blk rb 120 [.slice va bs.length vn, .int .i64 (at0 + i : Nat)] :: L)) (fun ρ' _ => (10 - iv (ρ' 6)).toNat) ?_ ?_
  · exact ⟨0, 0, zh, zh, by omega, by simp, by omega, by rw [Nat.pow_zero, rmap_0]; rfl, hS.sp⟩
  rintro ρ w1 ⟨i, u, hA, hρ, hi, hu, hat, hd, hS⟩; obtain ⟨ρ, rfl⟩ := env2 hA hρ
  unfold Q2Q
  all_goals (refine Q0 ?_; refine Q1 ?_; refine Qu rfl rfl ?_; refine zn ?_; refine Q0 ?_)
  refine Ql rfl (fun hc => ?_) (fun hc => ?_)
  · skip
    all_goals (refine zsk ?_; refine Q0 ?_; refine Qa ?_; refine Q0 ?_; refine Q1 ?_; refine zm ?_; refine zm ?_; refine zn ?_; refine Q0 ?_; refine Q0 ?_; refine zD [(0, none), (1, none), (2, none), (3, none), (4, none), (5, none), (6, none), (7, none), (8, none), (9, some none)] ?_; have hS := hS.drew; refine zm ?_; refine Qq rfl ?_; refine Q2 rfl ?_; refine zl hS ?_; refine zm ?_; refine Qq rfl ?_; refine Q2 rfl ?_; refine zl hS ?_; refine zL ?_)
    all_goals (first | (refine Qhe ?_) | (refine Qhf ?_) | (refine Q5k rfl rfl (fun hc => ?_) (fun hc => ?_)))
    all_goals (refine zn ?_)
    all_goals
      first
      | (refine Q5 rfl ?_ -- QL c1
         all_goals (refine Q1 ?_; refine zm ?_; refine Qq rfl ?_; refine Q2 rfl ?_; refine zl hS ?_; refine zL ?_; refine zb2 [_, _] ?_; refine zki ?_)
         all_goals (refine Q4a rfl ?_; (repeat (first | refine Qv ?_ | refine Qw ?_ | refine fun _ => ?_)); refine Q1l ?_; exact .inr ⟨_, rfl, (5, bs.length), _, Qg9 (Qkr hd hi (by omega)), rfl, hS.sp⟩))
      | (refine Q6 rfl ?_ -- QL c1
         all_goals refine zsk ?_)
    all_goals (refine Q0 ?_; refine zD [(0, none), (1, none), (2, none), (3, none), (4, none), (5, none), (6, none), (7, none), (8, none), (9, none), (10, some none)] ?_; have hS := hS.drew; refine zm ?_; refine Qq rfl ?_; refine Q2 rfl ?_; refine zl hS ?_; refine zm ?_; refine Qq rfl ?_; refine Q2 rfl ?_; refine zl hS ?_; refine zi ?_; intro b1 o1 cs1 x1 hat1 hx1 he1; (first | (obtain rfl := Q1M he1) | (obtain rfl := Q5f he1)); (first | (refine zl hS ?_) | (refine zlk hS ?_)); refine zm ?_; refine zn ?_)
    refine zML hS [0, 3, 4, 5, 6] (fun A LL ρ' w' => Has ρ' A ∧ Has ρ' [] ∧ (¬ ((i = 9 ∧ 1 < x1.toNat) ∨ (0 < i ∧ x1.toNat = 0))) ∧ St cx w' (LL)) ?_ ?_
    · skip
      all_goals (refine Q0 ?_; have hxl := x1.toNat_lt; refine Q1 ?_; refine zm ?_)
      all_goals (first | (refine Q10 ?_) | (refine Q1p ?_) | (refine Qk rfl rfl (fun hc => ?_) (fun hc => ?_)))
      all_goals (refine zm ?_; (first | refine s_gn rfl rfl ?_ | (refine s_gy rfl ?_; refine zm ?_)))
      all_goals (first | refine s_gn rfl rfl ?_ | (refine s_gy rfl ?_; (first | (refine QZ ?_) | (refine Q1g ?_) | (refine Qg rfl rfl (fun hc => ?_) (fun hc => ?_)))))
      all_goals ((first | (refine zpt ?_) | (refine zpf ?_)); refine zm ?_; (first | refine s_gn rfl rfl ?_ | (refine s_gy rfl ?_; refine zm ?_)))
      all_goals (first | refine s_gn rfl rfl ?_ | (refine s_gy rfl ?_; (first | (refine QZ ?_) | (refine Q1g ?_) | (refine Qg rfl rfl (fun hc => ?_) (fun hc => ?_)))))
      all_goals ((first | refine s_gn rfl rfl ?_ | (refine s_gy rfl ?_; refine zm ?_)); (first | refine s_gn rfl rfl ?_ | (refine s_gy rfl ?_; refine zm ?_)))
      all_goals (first | refine s_gn rfl rfl ?_ | (refine s_gy rfl ?_; (first | (refine Q10 ?_) | (refine Q1p ?_) | (refine Qk rfl rfl (fun hc => ?_) (fun hc => ?_)))))
      all_goals ((first | refine s_gn rfl rfl ?_ | (refine s_gy rfl ?_; (first | (refine zpt ?_) | (refine zpf ?_)))); (first | (refine zpt ?_) | (refine zpf ?_)); refine zn ?_)
      all_goals
        first
        | (refine Q5 rfl ?_ -- QL c2
           all_goals (refine Q1 ?_; refine zm ?_; refine Qq rfl ?_; refine Q2 rfl ?_; refine zl hS ?_; refine zb2 [_, _] ?_; refine zki ?_)
           all_goals (first | (refine Q4a rfl ?_; (repeat (first | refine Qv ?_ | refine Qw ?_ | refine fun _ => ?_)); refine Q1l ?_; exact .inr ⟨_, rfl, (5, bs.length), _, Qg9 (Qkr hd hi (by omega)), rfl, hS.sp⟩) | (refine Q4a rfl ?_; (repeat (first | refine Qv ?_ | refine Qw ?_ | refine fun _ => ?_)); refine Q1l ?_; exact .inr ⟨_, rfl, (1, (at0 + i : Nat)), _, Qg9 (rdU_bad hd hi hx1 (by omega)), rfl, hS.sp⟩)))
        | (refine Q6 rfl ?_ -- QL c2
           all_goals refine zsk ?_)
      all_goals (exact ⟨zh, zh, by omega, hS.sp⟩)
    rintro ρ w1 ⟨hA, hρ, hok, hS⟩; obtain ⟨ρ, rfl⟩ := env2 hA hρ
    all_goals (refine Q0 ?_; refine Q1 ?_; refine zm ?_; refine Qq rfl ?_; refine Q2 rfl ?_; refine zl hS ?_; refine zad ?_; refine Qq rfl ?_; refine Q2 rfl ?_; refine zst hS ?_; intro w1 hS; have hS := hS.ns; refine zn ?_; refine Q0 ?_; refine Q1 ?_; refine zm ?_; refine zm ?_; refine Q9K rfl rfl ?_; rw [and127]; refine Q3l rfl ?_; rw [Qcl (by omega)]; refine zm ?_; refine zmu ?_; refine Qk9 rfl rfl (by omega) ?_; rw [show (7 : Int) * (i : Int) = ((7 * i : Nat) : Int) by omega]; refine s_or rfl rfl ?_; rw [or_shl hu hi (by omega) (by omega)]; refine zm ?_; refine zn ?_; refine Q0 ?_; have hlt2 := acc_lt2 hu hi (y := x1.toNat % 128) (by omega) (by omega); refine Q1 ?_; refine zm ?_)
    all_goals (first | (refine Q2G ?_) | (refine Q2H ?_) | (refine Q1h rfl rfl (fun hc => ?_) (fun hc => ?_)))
    all_goals (refine zn ?_)
    all_goals
      first
      | (refine Q5 rfl ?_ -- QL c3
         all_goals (refine zex ?_)
         all_goals (first | (exfalso; omega) | (rcases (⟨_, rfl⟩ : ∃ U, u + x1.toNat % 128 * 128 ^ i = U) with ⟨U, hU⟩; have hl := rdU_last hd hi hx1 hok (by omega); rw [hU] at hl hlt2; rw [hU]))
         all_goals (refine Q0 ?_; refine Q1 ?_; refine zm ?_; refine QeI rfl rfl (by decide) ?_; rw [shr_1]; refine Qcm rfl (by omega) (by omega) ?_; refine zm ?_; refine Q9K rfl rfl ?_; rw [and_1 hlt2.1]; refine Qcm rfl (by omega) (by omega) ?_; refine s_neg rfl ?_; refine Qk6 rfl rfl ?_; rw [Qhg hlt2.1]; refine zm ?_; refine zn ?_; refine zr ?_; refine zf ?_)
         all_goals (exact .inl ⟨_, rfl, _, at0 + i + 1, Qja hl, by omega, by omega, rfl, hS.sp⟩))
      | (refine Q6 rfl ?_ -- QL c3
         all_goals (refine zsk ?_; refine Q1 ?_; refine zad ?_; refine zm ?_; refine zn ?_)
         all_goals (exact ⟨⟨i + 1, u + x1.toNat % 128 * 128 ^ i, zh, zh, by omega, hlt2.2, by omega, rdU_more hd hi hx1 hok (by omega), hS.sp⟩, Qh (by omega)⟩))
  · skip
    all_goals (refine zex ?_)
    all_goals ((exfalso; omega))
    all_goals (refine Q0 ?_; refine Q1 ?_; refine zm ?_; refine QeI rfl rfl (by decide) ?_; rw [shr_1]; refine Qcm rfl (by omega) (by omega) ?_; refine zm ?_; refine Q9K rfl rfl ?_; rw [and_1 hlt2.1]; refine Qcm rfl (by omega) (by omega) ?_; refine s_neg rfl ?_; refine Qk6 rfl rfl ?_; rw [Qhg hlt2.1]; refine zm ?_; refine zn ?_; refine zr ?_; refine zf ?_; exact .inl ⟨_, rfl, _, at0 + i + 1, Qja hl, by omega, by omega, rfl, hS.sp⟩)
theorem Q3F {bs : List UInt8} {rb at0 : Nat} {v : Value} (hv : u8R.sl cx v bs) (ha : at0 ≤ bs.length) (hS : St cx w (blk rb 120 [v, .int .i64 at0] :: L)) :
    Fins Try.prog Q2M [.pointer (some ⟨rb, 0, none⟩)] w
      (fun u w' => ∃ n at', rdLong bs.length (bs.drop at0) = .ok (n, bs.drop at') ∧ at0 ≤ at' ∧ at' ≤ bs.length ∧ u = .int .i64 n ∧ St cx w' (blk rb 120 [v, .int .i64 at'] :: L))
      (fun u w' => ∃ e at', rdLong bs.length (bs.drop at0) = .error e ∧ u = Ql5 e ∧ St cx w' (blk rb 120 [v, .int .i64 at'] :: L)) := by
  unfold Fins
  all_goals refine Q8b ?_
  all_goals (unfold codec_reader_int_lc; refine Q0 ?_; refine Q1 ?_; refine zm ?_; refine zn ?_; refine Q0 ?_; refine Q1 ?_; refine zm ?_; refine zE1 (c := Q4c hv ha hS) (p := by rintro v9 w9 ⟨e, at1, h1, rfl, hS⟩; (repeat (first | refine Qv ?_ | refine Qw ?_ | refine fun _ => ?_)); refine Q1l ?_; refine .inr ⟨_, rfl, ?_⟩; exact ⟨e, at1, h1, rfl, hS⟩) (h := ?_); rintro v1 w1 ⟨n, at1, h1, h2, h3, rfl, hS⟩; refine zm ?_; refine zn ?_; refine zr ?_; refine zf ?_; exact .inl ⟨_, rfl, _, at1, h1, h2, h3, rfl, hS.sp⟩)
end Go.Proofs.Ytanlkfeogoganaa
namespace Go.Proofs.Ytanlkfeogoganaa
open Go.Lir
set_option maxHeartbeats 1000000
attribute [local irreducible] LC.wp Q3 Qz QM retQ Q1x LO.wp Qf Calls
set_option linter.unusedSimpArgs false
set_option linter.unusedVariables false
attribute [local irreducible] bitI IntKind.wrap Q3g rdLong rdMany QA mmap
variable {cx : Cx} {w : World} {L : List Res}
/-- What a reader answers: a thing that its cells say, a list, or that it gives up. -/
def OkA {α : Type} (r : Rep α) (tv : List Value → Value) (X : Got α) (bs : List UInt8) (rb : Nat) (v : Value) (at0 : Nat) (cx : Cx) (L : List Res) (u : Value) (w' : World) : Prop :=
  ∃ a at' c' ds, X = .ok (a, bs.drop at') ∧ at0 ≤ at' ∧ at' ≤ bs.length ∧ cx.Le c' ∧ r.at c' ds a ∧ u = tv ds ∧ St c' w' (blk rb 120 [v, .int .i64 at'] :: L)
def OkS {α : Type} (r : Rep α) (X : Got (List α)) (bs : List UInt8) (rb : Nat) (v : Value) (at0 : Nat) (cx : Cx) (L : List Res) (u : Value) (w' : World) : Prop :=
  ∃ l at' c', X = .ok (l, bs.drop at') ∧ at0 ≤ at' ∧ at' ≤ bs.length ∧ cx.Le c' ∧ r.sl c' u l ∧ St c' w' (blk rb 120 [v, .int .i64 at'] :: L)
def Bad {α : Type} (X : Got α) (rb : Nat) (v : Value) (cx : Cx) (L : List Res) (u : Value) (w' : World) : Prop :=
  ∃ e, ∃ at' : Int, X = .error e ∧ u = Ql5 e ∧ St cx w' (blk rb 120 [v, .int .i64 at'] :: L)
/-- A reader of one thing, whatever else lies about. -/
def RdC {α : Type} (r : Rep α) (tv : List Value → Value) (P : Program) (g : FuncId) (cap : List Value) (f : List UInt8 → Got α) (bs : List UInt8) (rb : Nat) (v : Value) (cx : Cx) (L : List Res) : Prop :=
  ∀ (at1 : Nat) (c1 : Cx) (w1 : World) (r0 : Res), cx.Le c1 → at1 ≤ bs.length → St c1 w1 (blk rb 120 [v, .int .i64 at1] :: r0 :: L) → Fins P g cap w1 (OkA r tv (f (bs.drop at1)) bs rb v at1 c1 (r0 :: L)) (Bad (f (bs.drop at1)) rb v c1 (r0 :: L))
def int1 (ds : List Value) : Value := ds.getD 0 undef
def aggV (ds : List Value) : Value := .agg ⟨ds⟩
theorem Qhs {f : List UInt8 → Got _} {bs : List UInt8} {rb at0 : Nat} {v fv : Value} {g : FuncId} {cap : List Value} (hfv : FnV fv g cap) (hg : Q2A Try.prog g = true) (hb : bs.length ≤ 1000000) (hone : RdC intR int1 Try.prog g cap f bs rb v cx L) (hv : u8R.sl cx v bs) (ha : at0 ≤ bs.length) (hS : St cx w (blk rb 120 [v, .int .i64 at0] :: L)) :
    Fins Try.prog Q2v [.pointer (some ⟨rb, 0, none⟩), fv] w (OkS intR (QA bs.length f (bs.drop at0)) bs rb v at0 cx L) (Bad (QA bs.length f (bs.drop at0)) rb v cx L) := by
  unfold RdC at hone
  obtain ⟨va, vn, rfl⟩ := Rep.SR.shape hv
  have hle := St.refl hS
  unfold Fins
  all_goals refine Qa5 ?_
  all_goals (unfold codec_list_int_lc; refine Q0 ?_; refine Q1 ?_; refine zm ?_; refine zn ?_; refine Q0 ?_; refine Q1 ?_; refine zm ?_; refine Qq rfl ?_; refine Q2 rfl ?_; refine zl hS ?_; refine zm ?_; refine zn ?_; refine Q0 ?_; refine Q1 ?_; refine zm ?_; refine zE1 (c := Q4c hv ha hS) (p := by rintro v9 w9 ⟨e, at1, h1, rfl, hS⟩; (repeat (first | refine Qv ?_ | refine Qw ?_ | refine fun _ => ?_)); refine Q1l ?_; refine .inr ⟨_, rfl, ?_⟩; exact ⟨e, at1, Q8W h1, rfl, hS⟩) (h := ?_); rintro v1 w1 ⟨n, at1, h1, h2, h3, rfl, hS⟩; refine zm ?_; refine zn ?_)
  refine zML hS [1, 6] (fun A LL ρ' w' => Has ρ' A ∧ Has ρ' [] ∧ (0 ≤ n ∧ n ≤ (bs.length : Int) - at1) ∧ St cx w' (LL)) ?_ ?_
  · skip
    all_goals (refine Q0 ?_; refine zD [(0, none), (1, none), (2, none), (3, none), (4, none), (5, none), (6, none), (7, none), (8, none), (9, none), (10, none), (11, none), (12, none), (13, none), (14, none), (15, some none)] ?_; have hS := hS.drew; refine zm ?_)
    all_goals (first | (refine Q2G ?_) | (refine Q2H ?_) | (refine Q1h rfl rfl (fun hc => ?_) (fun hc => ?_)))
    all_goals (refine zm ?_; (first | refine s_gn rfl rfl ?_ | (refine s_gy rfl ?_; refine zm ?_)); (first | refine s_gn rfl rfl ?_ | (refine s_gy rfl ?_; refine zm ?_)); (first | refine s_gn rfl rfl ?_ | (refine s_gy rfl ?_; refine Qq rfl ?_)); (first | refine s_gn rfl rfl ?_ | (refine s_gy rfl ?_; refine Q2 rfl ?_)); (first | refine s_gn rfl rfl ?_ | (refine s_gy rfl ?_; refine zl hS ?_)); (first | refine s_gn rfl rfl ?_ | (refine s_gy rfl ?_; refine zL ?_)); (first | refine s_gn rfl rfl ?_ | (refine s_gy rfl ?_; refine zm ?_)); (first | refine s_gn rfl rfl ?_ | (refine s_gy rfl ?_; refine Qq rfl ?_)); (first | refine s_gn rfl rfl ?_ | (refine s_gy rfl ?_; refine Q2 rfl ?_)); (first | refine s_gn rfl rfl ?_ | (refine s_gy rfl ?_; refine zl hS ?_)); (first | refine s_gn rfl rfl ?_ | (refine s_gy rfl ?_; refine zsu ?_)))
    all_goals (first | refine s_gn rfl rfl ?_ | (refine s_gy rfl ?_; (first | (refine QZ ?_) | (refine Q1g ?_) | (refine Qg rfl rfl (fun hc => ?_) (fun hc => ?_)))))
    all_goals ((first | (refine zpt ?_) | (refine zpf ?_)); refine zn ?_)
    all_goals
      first
      | (refine Q5 rfl ?_ -- Q2v c0
         all_goals (refine Q1 ?_; refine zm ?_; refine zb2 [_, _] ?_; refine zki ?_)
         all_goals (refine Q4a rfl ?_; (repeat (first | refine Qv ?_ | refine Qw ?_ | refine fun _ => ?_)); refine Q1l ?_; exact .inr ⟨_, rfl, (2, at0), _, Q5m ha h3 h1 (by omega), rfl, hS.sp⟩))
      | (refine Q6 rfl ?_ -- Q2v c0
         all_goals refine zsk ?_)
    all_goals (exact ⟨zh, zh, by omega, hS.sp⟩)
  rintro ρ w1 ⟨hA, hρ, hn, hS⟩; obtain ⟨ρ, rfl⟩ := env2 hA hρ
  all_goals (refine Q0 ?_; refine Q1 ?_; refine zm ?_; refine zn ?_; refine Q0 ?_; refine Q0 ?_; refine Q1 ?_; refine zm ?_; refine zm ?_; refine zn ?_; refine Qa ?_; have hS := St.nil (T := 3) (es := 1) hS; have hgo := Q5n (f := f) h3 h1 hn)
  refine zo [1, 33] (fun A ρ' w' => ∃ (k0 : Cx) (k at2 : Nat) (vl : Value) (co : List (List Value)) (xs : List _), Has ρ' A ∧ Has ρ' [(34, .int .i64 k), (7, vl)] ∧ (cx.Le k0) ∧ (k ≤ n.toNat) ∧ (at1 ≤ at2 ∧ at2 ≤ bs.length) ∧ (Rep.ls intR k0 co xs) ∧ (xs.length = k) ∧ (oneC vl = true) ∧ (rdMany f n.toNat (bs.drop at1) = mmap xs (rdMany f (n.toNat - k) (bs.drop at2))) ∧ St k0 w' (sl 3 1 vl co :: blk rb 120 [.slice va bs.length vn, .int .i64 at2] :: L)) (fun ρ' _ => (n.toNat - iv (ρ' 34)).toNat) ?_ ?_
  · exact ⟨cx, 0, at1, _, _, [], zh, zh, St.refl hS, (by omega), by omega, Rep.LR.nil _ _ _, rfl, rfl, by rw [QhC]; rfl, hS.sp⟩
  rintro ρ w1 ⟨k0, k, at2, vl, co, xs, hA, hρ, hle2, hk, hat2, hlo, hxl, hvl, hd, hS⟩; obtain ⟨ρ, rfl⟩ := env2 hA hρ; have hL0 := hle2; (try have hle := hle.trans hle2); (try have hv := hv.up hle2)
  unfold Q41
  all_goals (refine Q0 ?_; refine Q1 ?_; refine Qu rfl rfl ?_; refine zn ?_; refine Q0 ?_)
  refine Ql rfl (fun hc => ?_) (fun hc => ?_)
  · skip
    all_goals (refine zsk ?_; refine Q0 ?_; refine Qa ?_; refine Q1 ?_; refine zm ?_; refine zm ?_)
    all_goals (refine QcY rfl hfv hg (hone at2 k0 _ _ hL0 hat2.2 (St.mv1 hS)) (by rintro v9 w9 ⟨e, at3, he1, rfl, hS⟩; (repeat (first | refine Qv ?_ | refine Qw ?_ | refine fun _ => ?_)); refine Q1l ?_; refine .inr ⟨_, rfl, ?_⟩; exact ⟨e, at3, hgo.trans (Q8V hd (by omega) he1), rfl, St.weak hS.sp hL0⟩) ?_; rintro v1 w1 ⟨a, at3, c3, ds, he1, h4, h5, hle2, hd1, rfl, hS⟩; (try have hle := hle.trans hle2); (try have hL0 := hL0.trans hle2); (try have hv := hv.up hle2); (try have hlo := hlo.up hle2); have hd1' := hd1; unfold int1; obtain rfl := Q1M hd1)
    all_goals (refine zB1 hS [_] ?_; intro b1 w1 hS; refine za el_T25 u_T25 hS ?_; intro vp1 w1 css1 hls1 hv1 hS; have hS := hS.ns; refine zm ?_; refine zn ?_; refine Q1 ?_; refine zad ?_; refine zm ?_; refine zn ?_; exact ⟨⟨_, k + 1, at3, _, _, xs ++ [a], zh, zh, hL0, (by omega), by omega, hls1, by simp [hxl], by assumption, Q8U hd (by omega) he1, hS.sp⟩, Qh (by omega)⟩)
  · skip
    all_goals (refine zex ?_; refine Q0 ?_; refine Q1 ?_; refine zm ?_; refine zm ?_; refine zn ?_; refine zr ?_; refine zf ?_; obtain ⟨c4, hle4, hS, hk4⟩ := St.freezeL (r := intR) hS hlo rfl (by omega); exact .inl ⟨_, rfl, xs, at2, c4, hgo.trans (Q8T hd (by omega)), by omega, hat2.2, hL0.trans hle4, hk4, hS.sp⟩)
theorem Qit {f : List UInt8 → Got _} {bs : List UInt8} {rb at0 : Nat} {v fv : Value} {g : FuncId} {cap : List Value} (hfv : FnV fv g cap) (hg : Q2A Try.prog g = true) (hb : bs.length ≤ 1000000) (hone : RdC tyR aggV Try.prog g cap f bs rb v cx L) (hv : u8R.sl cx v bs) (ha : at0 ≤ bs.length) (hS : St cx w (blk rb 120 [v, .int .i64 at0] :: L)) :
    Fins Try.prog Q1n [.pointer (some ⟨rb, 0, none⟩), fv] w (OkS tyR (QA bs.length f (bs.drop at0)) bs rb v at0 cx L) (Bad (QA bs.length f (bs.drop at0)) rb v cx L) := by
  unfold RdC at hone
  obtain ⟨va, vn, rfl⟩ := Rep.SR.shape hv
  have hle := St.refl hS
  unfold Fins
  all_goals refine Q4Z ?_
  all_goals (unfold codec_list_api_Type_lc; refine Q0 ?_; refine Q1 ?_; refine zm ?_; refine zn ?_; refine Q0 ?_; refine Q1 ?_; refine zm ?_; refine Qq rfl ?_; refine Q2 rfl ?_; refine zl hS ?_; refine zm ?_; refine zn ?_; refine Q0 ?_; refine Q1 ?_; refine zm ?_; refine zE1 (c := Q4c hv ha hS) (p := by rintro v9 w9 ⟨e, at1, h1, rfl, hS⟩; (repeat (first | refine Qv ?_ | refine Qw ?_ | refine fun _ => ?_)); refine Q1l ?_; refine .inr ⟨_, rfl, ?_⟩; exact ⟨e, at1, Q8W h1, rfl, hS⟩) (h := ?_); rintro v1 w1 ⟨n, at1, h1, h2, h3, rfl, hS⟩; refine zm ?_; refine zn ?_)
  refine zML hS [1, 6] (fun A LL ρ' w' => Has ρ' A ∧ Has ρ' [] ∧ (0 ≤ n ∧ n ≤ (bs.length : Int) - at1) ∧ St cx w' (LL)) ?_ ?_
  · skip
    all_goals (refine Q0 ?_; refine zD [(0, none), (1, none), (2, none), (3, none), (4, none), (5, none), (6, none), (7, none), (8, none), (9, none), (10, none), (11, none), (12, none), (13, none), (14, none), (15, some none)] ?_; have hS := hS.drew; refine zm ?_)
    all_goals (first | (refine Q2G ?_) | (refine Q2H ?_) | (refine Q1h rfl rfl (fun hc => ?_) (fun hc => ?_)))
    all_goals (refine zm ?_; (first | refine s_gn rfl rfl ?_ | (refine s_gy rfl ?_; refine zm ?_)); (first | refine s_gn rfl rfl ?_ | (refine s_gy rfl ?_; refine zm ?_)); (first | refine s_gn rfl rfl ?_ | (refine s_gy rfl ?_; refine Qq rfl ?_)); (first | refine s_gn rfl rfl ?_ | (refine s_gy rfl ?_; refine Q2 rfl ?_)); (first | refine s_gn rfl rfl ?_ | (refine s_gy rfl ?_; refine zl hS ?_)); (first | refine s_gn rfl rfl ?_ | (refine s_gy rfl ?_; refine zL ?_)); (first | refine s_gn rfl rfl ?_ | (refine s_gy rfl ?_; refine zm ?_)); (first | refine s_gn rfl rfl ?_ | (refine s_gy rfl ?_; refine Qq rfl ?_)); (first | refine s_gn rfl rfl ?_ | (refine s_gy rfl ?_; refine Q2 rfl ?_)); (first | refine s_gn rfl rfl ?_ | (refine s_gy rfl ?_; refine zl hS ?_)); (first | refine s_gn rfl rfl ?_ | (refine s_gy rfl ?_; refine zsu ?_)))
    all_goals (first | refine s_gn rfl rfl ?_ | (refine s_gy rfl ?_; (first | (refine QZ ?_) | (refine Q1g ?_) | (refine Qg rfl rfl (fun hc => ?_) (fun hc => ?_)))))
    all_goals ((first | (refine zpt ?_) | (refine zpf ?_)); refine zn ?_)
    all_goals
      first
      | (refine Q5 rfl ?_ -- Q1n c0
         all_goals (refine Q1 ?_; refine zm ?_; refine zb2 [_, _] ?_; refine zki ?_)
         all_goals (refine Q4a rfl ?_; (repeat (first | refine Qv ?_ | refine Qw ?_ | refine fun _ => ?_)); refine Q1l ?_; exact .inr ⟨_, rfl, (2, at0), _, Q5m ha h3 h1 (by omega), rfl, hS.sp⟩))
      | (refine Q6 rfl ?_ -- Q1n c0
         all_goals refine zsk ?_)
    all_goals (exact ⟨zh, zh, by omega, hS.sp⟩)
  rintro ρ w1 ⟨hA, hρ, hn, hS⟩; obtain ⟨ρ, rfl⟩ := env2 hA hρ
  all_goals (refine Q0 ?_; refine Q1 ?_; refine zm ?_; refine zn ?_; refine Q0 ?_; refine Q0 ?_; refine Q1 ?_; refine zm ?_; refine zm ?_; refine zn ?_; refine Qa ?_; have hS := St.nil (T := 65) (es := 3) hS; have hgo := Q5n (f := f) h3 h1 hn)
  refine zo [1, 33] (fun A ρ' w' => ∃ (k0 : Cx) (k at2 : Nat) (vl : Value) (co : List (List Value)) (xs : List _), Has ρ' A ∧ Has ρ' [(34, .int .i64 k), (7, vl)] ∧ (cx.Le k0) ∧ (k ≤ n.toNat) ∧ (at1 ≤ at2 ∧ at2 ≤ bs.length) ∧ (Rep.ls tyR k0 co xs) ∧ (xs.length = k) ∧ (oneC vl = true) ∧ (rdMany f n.toNat (bs.drop at1) = mmap xs (rdMany f (n.toNat - k) (bs.drop at2))) ∧ St k0 w' (sl 65 3 vl co :: blk rb 120 [.slice va bs.length vn, .int .i64 at2] :: L)) (fun ρ' _ => (n.toNat - iv (ρ' 34)).toNat) ?_ ?_
  · exact ⟨cx, 0, at1, _, _, [], zh, zh, St.refl hS, (by omega), by omega, Rep.LR.nil _ _ _, rfl, rfl, by rw [QhC]; rfl, hS.sp⟩
  rintro ρ w1 ⟨k0, k, at2, vl, co, xs, hA, hρ, hle2, hk, hat2, hlo, hxl, hvl, hd, hS⟩; obtain ⟨ρ, rfl⟩ := env2 hA hρ; have hL0 := hle2; (try have hle := hle.trans hle2); (try have hv := hv.up hle2)
  unfold Q2m
  all_goals (refine Q0 ?_; refine Q1 ?_; refine Qu rfl rfl ?_; refine zn ?_; refine Q0 ?_)
  refine Ql rfl (fun hc => ?_) (fun hc => ?_)
  · skip
    all_goals (refine zsk ?_; refine Q0 ?_; refine Qa ?_; refine Q1 ?_; refine zm ?_; refine zm ?_)
    all_goals (refine QcY rfl hfv hg (hone at2 k0 _ _ hL0 hat2.2 (St.mv1 hS)) (by rintro v9 w9 ⟨e, at3, he1, rfl, hS⟩; (repeat (first | refine Qv ?_ | refine Qw ?_ | refine fun _ => ?_)); refine Q1l ?_; refine .inr ⟨_, rfl, ?_⟩; exact ⟨e, at3, hgo.trans (Q8V hd (by omega) he1), rfl, St.weak hS.sp hL0⟩) ?_; rintro v1 w1 ⟨a, at3, c3, ds, he1, h4, h5, hle2, hd1, rfl, hS⟩; (try have hle := hle.trans hle2); (try have hL0 := hL0.trans hle2); (try have hv := hv.up hle2); (try have hlo := hlo.up hle2); have hd1' := hd1; unfold aggV; obtain ⟨vo, rfl, ho⟩ := Q1q hd1)
    all_goals (refine zB1 hS [_, _, _] ?_; intro b1 w1 hS; refine za el_T28 u_T28 hS ?_; intro vp1 w1 css1 hls1 hv1 hS; have hS := hS.ns; refine zm ?_; refine zn ?_; refine Q1 ?_; refine zad ?_; refine zm ?_; refine zn ?_; exact ⟨⟨_, k + 1, at3, _, _, xs ++ [a], zh, zh, hL0, (by omega), by omega, hls1, by simp [hxl], by assumption, Q8U hd (by omega) he1, hS.sp⟩, Qh (by omega)⟩)
  · skip
    all_goals (refine zex ?_; refine Q0 ?_; refine Q1 ?_; refine zm ?_; refine zm ?_; refine zn ?_; refine zr ?_; refine zf ?_; obtain ⟨c4, hle4, hS, hk4⟩ := St.freezeL (r := tyR) hS hlo rfl (by omega); exact .inl ⟨_, rfl, xs, at2, c4, hgo.trans (Q8T hd (by omega)), by omega, hat2.2, hL0.trans hle4, hk4, hS.sp⟩)
theorem Qht {f : List UInt8 → Got _} {bs : List UInt8} {rb at0 : Nat} {v fv : Value} {g : FuncId} {cap : List Value} (hfv : FnV fv g cap) (hg : Q2A Try.prog g = true) (hb : bs.length ≤ 1000000) (hone : RdC insR aggV Try.prog g cap f bs rb v cx L) (hv : u8R.sl cx v bs) (ha : at0 ≤ bs.length) (hS : St cx w (blk rb 120 [v, .int .i64 at0] :: L)) :
    Fins Try.prog Q1B [.pointer (some ⟨rb, 0, none⟩), fv] w (OkS insR (QA bs.length f (bs.drop at0)) bs rb v at0 cx L) (Bad (QA bs.length f (bs.drop at0)) rb v cx L) := by
  unfold RdC at hone
  obtain ⟨va, vn, rfl⟩ := Rep.SR.shape hv
  have hle := St.refl hS
  unfold Fins
  all_goals refine Q6g ?_
  all_goals (unfold codec_list_api_Ins_lc; refine Q0 ?_; refine Q1 ?_; refine zm ?_; refine zn ?_; refine Q0 ?_; refine Q1 ?_; refine zm ?_; refine Qq rfl ?_; refine Q2 rfl ?_; refine zl hS ?_; refine zm ?_; refine zn ?_; refine Q0 ?_; refine Q1 ?_; refine zm ?_; refine zE1 (c := Q4c hv ha hS) (p := by rintro v9 w9 ⟨e, at1, h1, rfl, hS⟩; (repeat (first | refine Qv ?_ | refine Qw ?_ | refine fun _ => ?_)); refine Q1l ?_; refine .inr ⟨_, rfl, ?_⟩; exact ⟨e, at1, Q8W h1, rfl, hS⟩) (h := ?_); rintro v1 w1 ⟨n, at1, h1, h2, h3, rfl, hS⟩; refine zm ?_; refine zn ?_)
  refine zML hS [1, 6] (fun A LL ρ' w' => Has ρ' A ∧ Has ρ' [] ∧ (0 ≤ n ∧ n ≤ (bs.length : Int) - at1) ∧ St cx w' (LL)) ?_ ?_
  · skip
    all_goals (refine Q0 ?_; refine zD [(0, none), (1, none), (2, none), (3, none), (4, none), (5, none), (6, none), (7, none), (8, none), (9, none), (10, none), (11, none), (12, none), (13, none), (14, none), (15, some none)] ?_; have hS := hS.drew; refine zm ?_)
    all_goals (first | (refine Q2G ?_) | (refine Q2H ?_) | (refine Q1h rfl rfl (fun hc => ?_) (fun hc => ?_)))
    all_goals (refine zm ?_; (first | refine s_gn rfl rfl ?_ | (refine s_gy rfl ?_; refine zm ?_)); (first | refine s_gn rfl rfl ?_ | (refine s_gy rfl ?_; refine zm ?_)); (first | refine s_gn rfl rfl ?_ | (refine s_gy rfl ?_; refine Qq rfl ?_)); (first | refine s_gn rfl rfl ?_ | (refine s_gy rfl ?_; refine Q2 rfl ?_)); (first | refine s_gn rfl rfl ?_ | (refine s_gy rfl ?_; refine zl hS ?_)); (first | refine s_gn rfl rfl ?_ | (refine s_gy rfl ?_; refine zL ?_)); (first | refine s_gn rfl rfl ?_ | (refine s_gy rfl ?_; refine zm ?_)); (first | refine s_gn rfl rfl ?_ | (refine s_gy rfl ?_; refine Qq rfl ?_)); (first | refine s_gn rfl rfl ?_ | (refine s_gy rfl ?_; refine Q2 rfl ?_)); (first | refine s_gn rfl rfl ?_ | (refine s_gy rfl ?_; refine zl hS ?_)); (first | refine s_gn rfl rfl ?_ | (refine s_gy rfl ?_; refine zsu ?_)))
    all_goals (first | refine s_gn rfl rfl ?_ | (refine s_gy rfl ?_; (first | (refine QZ ?_) | (refine Q1g ?_) | (refine Qg rfl rfl (fun hc => ?_) (fun hc => ?_)))))
    all_goals ((first | (refine zpt ?_) | (refine zpf ?_)); refine zn ?_)
    all_goals
      first
      | (refine Q5 rfl ?_ -- Q1B c0
         all_goals (refine Q1 ?_; refine zm ?_; refine zb2 [_, _] ?_; refine zki ?_)
         all_goals (refine Q4a rfl ?_; (repeat (first | refine Qv ?_ | refine Qw ?_ | refine fun _ => ?_)); refine Q1l ?_; exact .inr ⟨_, rfl, (2, at0), _, Q5m ha h3 h1 (by omega), rfl, hS.sp⟩))
      | (refine Q6 rfl ?_ -- Q1B c0
         all_goals refine zsk ?_)
    all_goals (exact ⟨zh, zh, by omega, hS.sp⟩)
  rintro ρ w1 ⟨hA, hρ, hn, hS⟩; obtain ⟨ρ, rfl⟩ := env2 hA hρ
  all_goals (refine Q0 ?_; refine Q1 ?_; refine zm ?_; refine zn ?_; refine Q0 ?_; refine Q0 ?_; refine Q1 ?_; refine zm ?_; refine zm ?_; refine zn ?_; refine Qa ?_; have hS := St.nil (T := 27) (es := 8) hS; have hgo := Q5n (f := f) h3 h1 hn)
  refine zo [1, 33] (fun A ρ' w' => ∃ (k0 : Cx) (k at2 : Nat) (vl : Value) (co : List (List Value)) (xs : List _), Has ρ' A ∧ Has ρ' [(34, .int .i64 k), (7, vl)] ∧ (cx.Le k0) ∧ (k ≤ n.toNat) ∧ (at1 ≤ at2 ∧ at2 ≤ bs.length) ∧ (Rep.ls insR k0 co xs) ∧ (xs.length = k) ∧ (oneC vl = true) ∧ (rdMany f n.toNat (bs.drop at1) = mmap xs (rdMany f (n.toNat - k) (bs.drop at2))) ∧ St k0 w' (sl 27 8 vl co :: blk rb 120 [.slice va bs.length vn, .int .i64 at2] :: L)) (fun ρ' _ => (n.toNat - iv (ρ' 34)).toNat) ?_ ?_
  · exact ⟨cx, 0, at1, _, _, [], zh, zh, St.refl hS, (by omega), by omega, Rep.LR.nil _ _ _, rfl, rfl, by rw [QhC]; rfl, hS.sp⟩
  rintro ρ w1 ⟨k0, k, at2, vl, co, xs, hA, hρ, hle2, hk, hat2, hlo, hxl, hvl, hd, hS⟩; obtain ⟨ρ, rfl⟩ := env2 hA hρ; have hL0 := hle2; (try have hle := hle.trans hle2); (try have hv := hv.up hle2)
  unfold Q2E
  all_goals (refine Q0 ?_; refine Q1 ?_; refine Qu rfl rfl ?_; refine zn ?_; refine Q0 ?_)
  refine Ql rfl (fun hc => ?_) (fun hc => ?_)
  · skip
    all_goals (refine zsk ?_; refine Q0 ?_; refine Qa ?_; refine Q1 ?_; refine zm ?_; refine zm ?_)
    all_goals (refine QcY rfl hfv hg (hone at2 k0 _ _ hL0 hat2.2 (St.mv1 hS)) (by rintro v9 w9 ⟨e, at3, he1, rfl, hS⟩; (repeat (first | refine Qv ?_ | refine Qw ?_ | refine fun _ => ?_)); refine Q1l ?_; refine .inr ⟨_, rfl, ?_⟩; exact ⟨e, at3, hgo.trans (Q8V hd (by omega) he1), rfl, St.weak hS.sp hL0⟩) ?_; rintro v1 w1 ⟨a, at3, c3, ds, he1, h4, h5, hle2, hd1, rfl, hS⟩; (try have hle := hle.trans hle2); (try have hL0 := hL0.trans hle2); (try have hv := hv.up hle2); (try have hlo := hlo.up hle2); have hd1' := hd1; unfold aggV; obtain ⟨vo1, vo2, rfl, ho1, ho2⟩ := Q2f hd1)
    all_goals (refine zB1 hS [_, _, _, _, _, _, _, _] ?_; intro b1 w1 hS; refine za el_T58 u_T58 hS ?_; intro vp1 w1 css1 hls1 hv1 hS; have hS := hS.ns; refine zm ?_; refine zn ?_; refine Q1 ?_; refine zad ?_; refine zm ?_; refine zn ?_; exact ⟨⟨_, k + 1, at3, _, _, xs ++ [a], zh, zh, hL0, (by omega), by omega, hls1, by simp [hxl], by assumption, Q8U hd (by omega) he1, hS.sp⟩, Qh (by omega)⟩)
  · skip
    all_goals (refine zex ?_; refine Q0 ?_; refine Q1 ?_; refine zm ?_; refine zm ?_; refine zn ?_; refine zr ?_; refine zf ?_; obtain ⟨c4, hle4, hS, hk4⟩ := St.freezeL (r := insR) hS hlo rfl (by omega); exact .inl ⟨_, rfl, xs, at2, c4, hgo.trans (Q8T hd (by omega)), by omega, hat2.2, hL0.trans hle4, hk4, hS.sp⟩)
theorem Qhv {f : List UInt8 → Got _} {bs : List UInt8} {rb at0 : Nat} {v fv : Value} {g : FuncId} {cap : List Value} (hfv : FnV fv g cap) (hg : Q2A Try.prog g = true) (hb : bs.length ≤ 1000000) (hone : RdC blockR aggV Try.prog g cap f bs rb v cx L) (hv : u8R.sl cx v bs) (ha : at0 ≤ bs.length) (hS : St cx w (blk rb 120 [v, .int .i64 at0] :: L)) :
    Fins Try.prog Q1s [.pointer (some ⟨rb, 0, none⟩), fv] w (OkS blockR (QA bs.length f (bs.drop at0)) bs rb v at0 cx L) (Bad (QA bs.length f (bs.drop at0)) rb v cx L) := by
  unfold RdC at hone
  obtain ⟨va, vn, rfl⟩ := Rep.SR.shape hv
  have hle := St.refl hS
  unfold Fins
  all_goals refine Q4E ?_
  all_goals (unfold codec_list_api_Block_lc; refine Q0 ?_; refine Q1 ?_; refine zm ?_; refine zn ?_; refine Q0 ?_; refine Q1 ?_; refine zm ?_; refine Qq rfl ?_; refine Q2 rfl ?_; refine zl hS ?_; refine zm ?_; refine zn ?_; refine Q0 ?_; refine Q1 ?_; refine zm ?_; refine zE1 (c := Q4c hv ha hS) (p := by rintro v9 w9 ⟨e, at1, h1, rfl, hS⟩; (repeat (first | refine Qv ?_ | refine Qw ?_ | refine fun _ => ?_)); refine Q1l ?_; refine .inr ⟨_, rfl, ?_⟩; exact ⟨e, at1, Q8W h1, rfl, hS⟩) (h := ?_); rintro v1 w1 ⟨n, at1, h1, h2, h3, rfl, hS⟩; refine zm ?_; refine zn ?_)
  refine zML hS [1, 6] (fun A LL ρ' w' => Has ρ' A ∧ Has ρ' [] ∧ (0 ≤ n ∧ n ≤ (bs.length : Int) - at1) ∧ St cx w' (LL)) ?_ ?_
  · skip
    all_goals (refine Q0 ?_; refine zD [(0, none), (1, none), (2, none), (3, none), (4, none), (5, none), (6, none), (7, none), (8, none), (9, none), (10, none), (11, none), (12, none), (13, none), (14, none), (15, some none)] ?_; have hS := hS.drew; refine zm ?_)
    all_goals (first | (refine Q2G ?_) | (refine Q2H ?_) | (refine Q1h rfl rfl (fun hc => ?_) (fun hc => ?_)))
    all_goals (refine zm ?_; (first | refine s_gn rfl rfl ?_ | (refine s_gy rfl ?_; refine zm ?_)); (first | refine s_gn rfl rfl ?_ | (refine s_gy rfl ?_; refine zm ?_)); (first | refine s_gn rfl rfl ?_ | (refine s_gy rfl ?_; refine Qq rfl ?_)); (first | refine s_gn rfl rfl ?_ | (refine s_gy rfl ?_; refine Q2 rfl ?_)); (first | refine s_gn rfl rfl ?_ | (refine s_gy rfl ?_; refine zl hS ?_)); (first | refine s_gn rfl rfl ?_ | (refine s_gy rfl ?_; refine zL ?_)); (first | refine s_gn rfl rfl ?_ | (refine s_gy rfl ?_; refine zm ?_)); (first | refine s_gn rfl rfl ?_ | (refine s_gy rfl ?_; refine Qq rfl ?_)); (first | refine s_gn rfl rfl ?_ | (refine s_gy rfl ?_; refine Q2 rfl ?_)); (first | refine s_gn rfl rfl ?_ | (refine s_gy rfl ?_; refine zl hS ?_)); (first | refine s_gn rfl rfl ?_ | (refine s_gy rfl ?_; refine zsu ?_)))
    all_goals (first | refine s_gn rfl rfl ?_ | (refine s_gy rfl ?_; (first | (refine QZ ?_) | (refine Q1g ?_) | (refine Qg rfl rfl (fun hc => ?_) (fun hc => ?_)))))
    all_goals ((first | (refine zpt ?_) | (refine zpf ?_)); refine zn ?_)
    all_goals
      first
      | (refine Q5 rfl ?_ -- Q1s c0
         all_goals (refine Q1 ?_; refine zm ?_; refine zb2 [_, _] ?_; refine zki ?_)
         all_goals (refine Q4a rfl ?_; (repeat (first | refine Qv ?_ | refine Qw ?_ | refine fun _ => ?_)); refine Q1l ?_; exact .inr ⟨_, rfl, (2, at0), _, Q5m ha h3 h1 (by omega), rfl, hS.sp⟩))
      | (refine Q6 rfl ?_ -- Q1s c0
         all_goals refine zsk ?_)
    all_goals (exact ⟨zh, zh, by omega, hS.sp⟩)
  rintro ρ w1 ⟨hA, hρ, hn, hS⟩; obtain ⟨ρ, rfl⟩ := env2 hA hρ
  all_goals (refine Q0 ?_; refine Q1 ?_; refine zm ?_; refine zn ?_; refine Q0 ?_; refine Q0 ?_; refine Q1 ?_; refine zm ?_; refine zm ?_; refine zn ?_; refine Qa ?_; have hS := St.nil (T := 77) (es := 12) hS; have hgo := Q5n (f := f) h3 h1 hn)
  refine zo [1, 33] (fun A ρ' w' => ∃ (k0 : Cx) (k at2 : Nat) (vl : Value) (co : List (List Value)) (xs : List _), Has ρ' A ∧ Has ρ' [(34, .int .i64 k), (7, vl)] ∧ (cx.Le k0) ∧ (k ≤ n.toNat) ∧ (at1 ≤ at2 ∧ at2 ≤ bs.length) ∧ (Rep.ls blockR k0 co xs) ∧ (xs.length = k) ∧ (oneC vl = true) ∧ (rdMany f n.toNat (bs.drop at1) = mmap xs (rdMany f (n.toNat - k) (bs.drop at2))) ∧ St k0 w' (sl 77 12 vl co :: blk rb 120 [.slice va bs.length vn, .int .i64 at2] :: L)) (fun ρ' _ => (n.toNat - iv (ρ' 34)).toNat) ?_ ?_
  · exact ⟨cx, 0, at1, _, _, [], zh, zh, St.refl hS, (by omega), by omega, Rep.LR.nil _ _ _, rfl, rfl, by rw [QhC]; rfl, hS.sp⟩
  rintro ρ w1 ⟨k0, k, at2, vl, co, xs, hA, hρ, hle2, hk, hat2, hlo, hxl, hvl, hd, hS⟩; obtain ⟨ρ, rfl⟩ := env2 hA hρ; have hL0 := hle2; (try have hle := hle.trans hle2); (try have hv := hv.up hle2)
  unfold Q2i
  all_goals (refine Q0 ?_; refine Q1 ?_; refine Qu rfl rfl ?_; refine zn ?_; refine Q0 ?_)
  refine Ql rfl (fun hc => ?_) (fun hc => ?_)
  · skip
    all_goals (refine zsk ?_; refine Q0 ?_; refine Qa ?_; refine Q1 ?_; refine zm ?_; refine zm ?_)
    all_goals (refine QcY rfl hfv hg (hone at2 k0 _ _ hL0 hat2.2 (St.mv1 hS)) (by rintro v9 w9 ⟨e, at3, he1, rfl, hS⟩; (repeat (first | refine Qv ?_ | refine Qw ?_ | refine fun _ => ?_)); refine Q1l ?_; refine .inr ⟨_, rfl, ?_⟩; exact ⟨e, at3, hgo.trans (Q8V hd (by omega) he1), rfl, St.weak hS.sp hL0⟩) ?_; rintro v1 w1 ⟨a, at3, c3, ds, he1, h4, h5, hle2, hd1, rfl, hS⟩; (try have hle := hle.trans hle2); (try have hL0 := hL0.trans hle2); (try have hv := hv.up hle2); (try have hlo := hlo.up hle2); have hd1' := hd1; unfold aggV; obtain ⟨o1, o2, o3, o4, o5, o6, o7, rfl, q1, q2, q3, q4, q5, q6, q7⟩ := Q1y hd1)
    all_goals (refine zB1 hS [_, _, _, _, _, _, _, _, _, _, _, _] ?_; intro b1 w1 hS; refine za el_T29 u_T29 hS ?_; intro vp1 w1 css1 hls1 hv1 hS; have hS := hS.ns; refine zm ?_; refine zn ?_; refine Q1 ?_; refine zad ?_; refine zm ?_; refine zn ?_; exact ⟨⟨_, k + 1, at3, _, _, xs ++ [a], zh, zh, hL0, (by omega), by omega, hls1, by simp [hxl], by assumption, Q8U hd (by omega) he1, hS.sp⟩, Qh (by omega)⟩)
  · skip
    all_goals (refine zex ?_; refine Q0 ?_; refine Q1 ?_; refine zm ?_; refine zm ?_; refine zn ?_; refine zr ?_; refine zf ?_; obtain ⟨c4, hle4, hS, hk4⟩ := St.freezeL (r := blockR) hS hlo rfl (by omega); exact .inl ⟨_, rfl, xs, at2, c4, hgo.trans (Q8T hd (by omega)), by omega, hat2.2, hL0.trans hle4, hk4, hS.sp⟩)
theorem Qhu {f : List UInt8 → Got _} {bs : List UInt8} {rb at0 : Nat} {v fv : Value} {g : FuncId} {cap : List Value} (hfv : FnV fv g cap) (hg : Q2A Try.prog g = true) (hb : bs.length ≤ 1000000) (hone : RdC funcR aggV Try.prog g cap f bs rb v cx L) (hv : u8R.sl cx v bs) (ha : at0 ≤ bs.length) (hS : St cx w (blk rb 120 [v, .int .i64 at0] :: L)) :
    Fins Try.prog Q1v [.pointer (some ⟨rb, 0, none⟩), fv] w (OkS funcR (QA bs.length f (bs.drop at0)) bs rb v at0 cx L) (Bad (QA bs.length f (bs.drop at0)) rb v cx L) := by
  unfold RdC at hone
  obtain ⟨va, vn, rfl⟩ := Rep.SR.shape hv
  have hle := St.refl hS
  unfold Fins
  all_goals refine Q5d ?_
  all_goals (unfold codec_list_api_Func_lc; refine Q0 ?_; refine Q1 ?_; refine zm ?_; refine zn ?_; refine Q0 ?_; refine Q1 ?_; refine zm ?_; refine Qq rfl ?_; refine Q2 rfl ?_; refine zl hS ?_; refine zm ?_; refine zn ?_; refine Q0 ?_; refine Q1 ?_; refine zm ?_; refine zE1 (c := Q4c hv ha hS) (p := by rintro v9 w9 ⟨e, at1, h1, rfl, hS⟩; (repeat (first | refine Qv ?_ | refine Qw ?_ | refine fun _ => ?_)); refine Q1l ?_; refine .inr ⟨_, rfl, ?_⟩; exact ⟨e, at1, Q8W h1, rfl, hS⟩) (h := ?_); rintro v1 w1 ⟨n, at1, h1, h2, h3, rfl, hS⟩; refine zm ?_; refine zn ?_)
  refine zML hS [1, 6] (fun A LL ρ' w' => Has ρ' A ∧ Has ρ' [] ∧ (0 ≤ n ∧ n ≤ (bs.length : Int) - at1) ∧ St cx w' (LL)) ?_ ?_
  · skip
    all_goals (refine Q0 ?_; refine zD [(0, none), (1, none), (2, none), (3, none), (4, none), (5, none), (6, none), (7, none), (8, none), (9, none), (10, none), (11, none), (12, none), (13, none), (14, none), (15, some none)] ?_; have hS := hS.drew; refine zm ?_)
    all_goals (first | (refine Q2G ?_) | (refine Q2H ?_) | (refine Q1h rfl rfl (fun hc => ?_) (fun hc => ?_)))
    all_goals (refine zm ?_; (first | refine s_gn rfl rfl ?_ | (refine s_gy rfl ?_; refine zm ?_)); (first | refine s_gn rfl rfl ?_ | (refine s_gy rfl ?_; refine zm ?_)); (first | refine s_gn rfl rfl ?_ | (refine s_gy rfl ?_; refine Qq rfl ?_)); (first | refine s_gn rfl rfl ?_ | (refine s_gy rfl ?_; refine Q2 rfl ?_)); (first | refine s_gn rfl rfl ?_ | (refine s_gy rfl ?_; refine zl hS ?_)); (first | refine s_gn rfl rfl ?_ | (refine s_gy rfl ?_; refine zL ?_)); (first | refine s_gn rfl rfl ?_ | (refine s_gy rfl ?_; refine zm ?_)); (first | refine s_gn rfl rfl ?_ | (refine s_gy rfl ?_; refine Qq rfl ?_)); (first | refine s_gn rfl rfl ?_ | (refine s_gy rfl ?_; refine Q2 rfl ?_)); (first | refine s_gn rfl rfl ?_ | (refine s_gy rfl ?_; refine zl hS ?_)); (first | refine s_gn rfl rfl ?_ | (refine s_gy rfl ?_; refine zsu ?_)))
    all_goals (first | refine s_gn rfl rfl ?_ | (refine s_gy rfl ?_; (first | (refine QZ ?_) | (refine Q1g ?_) | (refine Qg rfl rfl (fun hc => ?_) (fun hc => ?_)))))
    all_goals ((first | (refine zpt ?_) | (refine zpf ?_)); refine zn ?_)
    all_goals
      first
      | (refine Q5 rfl ?_ -- Q1v c0
         all_goals (refine Q1 ?_; refine zm ?_; refine zb2 [_, _] ?_; refine zki ?_)
         all_goals (refine Q4a rfl ?_; (repeat (first | refine Qv ?_ | refine Qw ?_ | refine fun _ => ?_)); refine Q1l ?_; exact .inr ⟨_, rfl, (2, at0), _, Q5m ha h3 h1 (by omega), rfl, hS.sp⟩))
      | (refine Q6 rfl ?_ -- Q1v c0
         all_goals refine zsk ?_)
    all_goals (exact ⟨zh, zh, by omega, hS.sp⟩)
  rintro ρ w1 ⟨hA, hρ, hn, hS⟩; obtain ⟨ρ, rfl⟩ := env2 hA hρ
  all_goals (refine Q0 ?_; refine Q1 ?_; refine zm ?_; refine zn ?_; refine Q0 ?_; refine Q0 ?_; refine Q1 ?_; refine zm ?_; refine zm ?_; refine zn ?_; refine Qa ?_; have hS := St.nil (T := 31) (es := 4) hS; have hgo := Q5n (f := f) h3 h1 hn)
  refine zo [1, 33] (fun A ρ' w' => ∃ (k0 : Cx) (k at2 : Nat) (vl : Value) (co : List (List Value)) (xs : List _), Has ρ' A ∧ Has ρ' [(34, .int .i64 k), (7, vl)] ∧ (cx.Le k0) ∧ (k ≤ n.toNat) ∧ (at1 ≤ at2 ∧ at2 ≤ bs.length) ∧ (Rep.ls funcR k0 co xs) ∧ (xs.length = k) ∧ (oneC vl = true) ∧ (rdMany f n.toNat (bs.drop at1) = mmap xs (rdMany f (n.toNat - k) (bs.drop at2))) ∧ St k0 w' (sl 31 4 vl co :: blk rb 120 [.slice va bs.length vn, .int .i64 at2] :: L)) (fun ρ' _ => (n.toNat - iv (ρ' 34)).toNat) ?_ ?_
  · exact ⟨cx, 0, at1, _, _, [], zh, zh, St.refl hS, (by omega), by omega, Rep.LR.nil _ _ _, rfl, rfl, by rw [QhC]; rfl, hS.sp⟩
  rintro ρ w1 ⟨k0, k, at2, vl, co, xs, hA, hρ, hle2, hk, hat2, hlo, hxl, hvl, hd, hS⟩; obtain ⟨ρ, rfl⟩ := env2 hA hρ; have hL0 := hle2; (try have hle := hle.trans hle2); (try have hv := hv.up hle2)
  unfold Q2n
  all_goals (refine Q0 ?_; refine Q1 ?_; refine Qu rfl rfl ?_; refine zn ?_; refine Q0 ?_)
  refine Ql rfl (fun hc => ?_) (fun hc => ?_)
  · skip
    all_goals (refine zsk ?_; refine Q0 ?_; refine Qa ?_; refine Q1 ?_; refine zm ?_; refine zm ?_)
    all_goals (refine QcY rfl hfv hg (hone at2 k0 _ _ hL0 hat2.2 (St.mv1 hS)) (by rintro v9 w9 ⟨e, at3, he1, rfl, hS⟩; (repeat (first | refine Qv ?_ | refine Qw ?_ | refine fun _ => ?_)); refine Q1l ?_; refine .inr ⟨_, rfl, ?_⟩; exact ⟨e, at3, hgo.trans (Q8V hd (by omega) he1), rfl, St.weak hS.sp hL0⟩) ?_; rintro v1 w1 ⟨a, at3, c3, ds, he1, h4, h5, hle2, hd1, rfl, hS⟩; (try have hle := hle.trans hle2); (try have hL0 := hL0.trans hle2); (try have hv := hv.up hle2); (try have hlo := hlo.up hle2); have hd1' := hd1; unfold aggV; obtain ⟨o1, o2, o3, rfl, q1, q2, q3⟩ := Q1H hd1)
    all_goals (refine zB1 hS [_, _, _, _] ?_; intro b1 w1 hS; refine za el_T22 u_T22 hS ?_; intro vp1 w1 css1 hls1 hv1 hS; have hS := hS.ns; refine zm ?_; refine zn ?_; refine Q1 ?_; refine zad ?_; refine zm ?_; refine zn ?_; exact ⟨⟨_, k + 1, at3, _, _, xs ++ [a], zh, zh, hL0, (by omega), by omega, hls1, by simp [hxl], by assumption, Q8U hd (by omega) he1, hS.sp⟩, Qh (by omega)⟩)
  · skip
    all_goals (refine zex ?_; refine Q0 ?_; refine Q1 ?_; refine zm ?_; refine zm ?_; refine zn ?_; refine zr ?_; refine zf ?_; obtain ⟨c4, hle4, hS, hk4⟩ := St.freezeL (r := funcR) hS hlo rfl (by omega); exact .inl ⟨_, rfl, xs, at2, c4, hgo.trans (Q8T hd (by omega)), by omega, hat2.2, hL0.trans hle4, hk4, hS.sp⟩)
end Go.Proofs.Ytanlkfeogoganaa
namespace Go.Proofs.Ytanlkfeogoganaa
open Go.Lir
set_option maxHeartbeats 1000000
attribute [local irreducible] LC.wp Q3 Qz QM retQ Q1x LO.wp Qf Calls
set_option linter.unusedSimpArgs false
set_option linter.unusedVariables false
attribute [local irreducible] bitI IntKind.wrap Q3g rdLong rdMany QA mmap
variable {cx : Cx} {w : World} {L : List Res}
theorem Qkm {bs : List UInt8} {rb : Nat} {v : Value} (hv : u8R.sl cx v bs) : RdC intR int1 Try.prog Q2M [.pointer (some ⟨rb, 0, none⟩)] (rdLong bs.length) bs rb v cx L := by
  intro at1 c1 w1 r0 hle hat hS
  refine Fins.mono (Q3F (Rep.SR.up hv hle) hat hS) ?_ ?_
  · rintro u w' ⟨n, at', h1, h2, h3, rfl, hS⟩; exact ⟨n, at', c1, [.int .i64 n], h1, h2, h3, St.refl hS, rfl, rfl, hS⟩
  · rintro u w' ⟨e, at', h1, rfl, hS⟩; exact ⟨e, at', h1, rfl, hS⟩
theorem Q8S {bs : List UInt8} {rb at0 : Nat} {v : Value} (hb : bs.length ≤ 1000000) (hv : u8R.sl cx v bs) (ha : at0 ≤ bs.length) (hS : St cx w (blk rb 120 [v, .int .i64 at0] :: L)) :
    Fins Try.prog Q3T [.pointer (some ⟨rb, 0, none⟩)] w (OkS intR (Q27 bs.length (bs.drop at0)) bs rb v at0 cx L) (Bad (Q27 bs.length (bs.drop at0)) rb v cx L) := by
  unfold Fins
  all_goals refine Q78 ?_
  all_goals (unfold codec_reader_ints_lc; refine Q0 ?_; refine Q1 ?_; refine zm ?_; refine zn ?_; refine Q0 ?_; refine Q1 ?_; refine zm ?_; refine zm ?_; refine s_mkb (u := [.pointer (some ⟨rb, 0, none⟩)]) rfl ?_; refine zE2 (c := Qhs (cx := cx) ⟨[_], [], rfl, rfl⟩ (by kernel_rfl) hb (Qkm hv) hv ha hS) (p := by rintro v9 w9 hX; (repeat (first | refine Qv ?_ | refine Qw ?_ | refine fun _ => ?_)); refine Q1l ?_; refine .inr ⟨_, rfl, ?_⟩; exact hX) (h := ?_); rintro v1 w1 hX; refine zm ?_; refine zn ?_; refine zr ?_; refine zf ?_; exact .inl ⟨_, rfl, hX⟩)
theorem Qkl {bs : List UInt8} {rb at0 : Nat} {v : Value} (hb : bs.length ≤ 1000000) (hv : u8R.sl cx v bs) (ha : at0 ≤ bs.length) (hS : St cx w (blk rb 120 [v, .int .i64 at0] :: L)) :
    Fins Try.prog Q5R [.pointer (some ⟨rb, 0, none⟩)] w (OkA toR aggV (rdTo bs.length (bs.drop at0)) bs rb v at0 cx L) (Bad (rdTo bs.length (bs.drop at0)) rb v cx L) := by
  have hle := St.refl hS
  unfold Fins
  all_goals refine Q9f ?_
  all_goals (unfold codec_reader_to_lc; refine Q0 ?_; refine Q1 ?_; refine Qb hS ?_; intro p2 w1 hS; refine zn ?_; refine Q0 ?_; refine Q1 ?_; refine zm ?_; refine zE1 (c := Q3F hv ha hS.sp) (p := by rintro v9 w9 ⟨e, at1, h1, rfl, hS⟩; (repeat (first | refine Qv ?_ | refine Qw ?_ | refine fun _ => ?_)); refine Q1l ?_; refine .inr ⟨_, rfl, ?_⟩; exact ⟨e, at1, by simp only [rdTo, Qj, h1], rfl, hS.sp⟩) (h := ?_); rintro v1 w1 ⟨n, at1, h1, h2, h3, rfl, hS⟩; refine zb1 [_, _, _] ?_; refine Qb hS ?_; intro p3 w1 hS; refine zsn hS ?_; intro w1 hS; have hS := hS.ns; refine zn ?_; refine Q0 ?_; refine Q1 ?_; refine zm ?_; refine Q1A rfl (Q8S hb hv h3 (St.mv1 hS)) (by rintro v9 w9 ⟨e, at2, e2, rfl, hS⟩; (repeat (first | refine Qv ?_ | refine Qw ?_ | refine fun _ => ?_)); refine Q1l ?_; refine .inr ⟨_, rfl, ?_⟩; exact ⟨e, at2, by simp only [rdTo, Qj, h1, e2], rfl, hS.sp⟩) ?_; rintro v2 w2 ⟨l1, at2, c2, e2, h4, h5, hle2, hl1, hS⟩; have hv2 := Rep.SR.up hv hle2; have ho2 := Rep.SR.oneC hl1; refine Q2 rfl ?_; refine zst hS ?_; intro w1 hS; have hS := hS.ns; refine zn ?_; refine Q0 ?_; refine Q1 ?_; refine zm ?_; refine Q1A rfl (Q8S hb hv2 h5 hS) (by rintro v9 w9 ⟨e, at3, e3, rfl, hS⟩; (repeat (first | refine Qv ?_ | refine Qw ?_ | refine fun _ => ?_)); refine Q1l ?_; refine .inr ⟨_, rfl, ?_⟩; exact ⟨e, at3, by simp only [rdTo, Qj, h1, e2, e3], rfl, St.weak hS.sp hle2⟩) ?_; rintro v3 w3 ⟨l2, at3, c3, e3, h6, h7, hle3, hl2, hS⟩; have ho3 := Rep.SR.oneC hl2)
  all_goals (refine Q2 rfl ?_; refine zst hS ?_; intro w1 hS; have hS := hS.ns; refine zn ?_; refine Q0 ?_; refine Q1 ?_; refine zv hS ?_; refine zsn hS ?_; intro w1 hS; have hS := hS.ns; refine zn ?_; refine zr ?_; refine Qb2 vw (Qn (n := 3) (by kernel_rfl) (by kernel_rfl) (hS.blkAt fd) (by rfl) (by rfl)) ?_; exact .inl ⟨_, rfl, ⟨n, l1, l2⟩, at3, c3, _, by simp only [rdTo, Qj, h1, e2, e3], by omega, by omega, hle2.trans hle3, ⟨_, _, rfl, Rep.SR.up hl1 hle3, hl2⟩, rfl, hS.sp⟩)
end Go.Proofs.Ytanlkfeogoganaa
namespace Go.Proofs.Ytanlkfeogoganaa
open Go.Lir
set_option maxHeartbeats 1000000
attribute [local irreducible] LC.wp Q3 Qz QM retQ Q1x LO.wp Qf Calls
set_option linter.unusedSimpArgs false
set_option linter.unusedVariables false
attribute [local irreducible] bitI IntKind.wrap Q3g rdLong rdMany QA mmap Q27 rdTo
variable {cx : Cx} {w : World} {L : List Res}
theorem rdend_c {bs : List UInt8} {rb at0 : Nat} {v : Value} (hb : bs.length ≤ 1000000) (hv : u8R.sl cx v bs) (ha : at0 ≤ bs.length) (hS : St cx w (blk rb 120 [v, .int .i64 at0] :: L)) :
    Fins Try.prog QQ [.pointer (some ⟨rb, 0, none⟩)] w (OkA endR aggV (Q20 bs.length (bs.drop at0)) bs rb v at0 cx L) (Bad (Q20 bs.length (bs.drop at0)) rb v cx L) := by
  have hle := St.refl hS
  have hnil : intR.sl cx vn [] := Rep.SR.nil _ _ _
  unfold Fins
  all_goals refine Q8x ?_
  all_goals (unfold codec_reader_end_lc; refine Q0 ?_; refine Q1 ?_; refine Qb hS ?_; intro p2 w1 hS; refine zn ?_; refine Q0 ?_; refine Q1 ?_; refine zm ?_; refine zE1 (c := Q3F hv ha hS.sp) (p := by rintro v9 w9 ⟨e, at1, h1, rfl, hS⟩; (repeat (first | refine Qv ?_ | refine Qw ?_ | refine fun _ => ?_)); refine Q1l ?_; refine .inr ⟨_, rfl, ?_⟩; exact ⟨e, at1, rdEnd_e h1, rfl, hS.sp⟩) (h := ?_); rintro v1 w1 ⟨n, at1, h1, h2, h3, rfl, hS⟩; refine zb1 [_, _, _, _, _, _, _, _, _] ?_; refine Qb hS ?_; intro p3 w1 hS; refine zsn hS ?_; intro w1 hS; have hS := hS.ns; refine zn ?_; refine Q0 ?_; refine Q0 ?_; refine Q1 ?_; refine Q2 rfl ?_; refine zl hS ?_; refine zn ?_; refine Qa ?_; refine Q0 ?_; refine Q1 ?_)
  all_goals (first | (refine Q10 ?_) | (refine Q1p ?_) | (refine Qk rfl rfl (fun hc => ?_) (fun hc => ?_)))
  all_goals (refine zm ?_; refine zn ?_)
  all_goals
    first
    | (refine Q5 rfl ?_ -- QQ c0
       all_goals (refine Q1 ?_; refine zm ?_; refine Q1A rfl (Qkl hb hv h3 (St.mv1 hS)) (by rintro v9 w9 ⟨e, at2, e2, rfl, hS⟩; (repeat (first | refine Qv ?_ | refine Qw ?_ | refine fun _ => ?_)); refine Q1l ?_; refine .inr ⟨_, rfl, ?_⟩; exact ⟨e, at2, rdEnd_1e h1 (by omega) e2, rfl, hS.sp⟩) ?_; rintro v2 w2 ⟨a1, at2, c2, ds, e2, h4, h5, hle2, hd1, rfl, hS⟩; obtain ⟨u1, u2, rfl, q1, q2⟩ := Q7y hd1; have o1 := Rep.SR.oneC q1; have o2 := Rep.SR.oneC q2; unfold aggV; refine Q2 rfl ?_; (first | (refine zsn hS ?_; intro w1 hS; have hS := hS.ns) | (refine zsm hS ?_; intro w1 hS; have hS := hS.ns)))
       all_goals refine zn ?_)
    | (refine Q6 rfl ?_ -- QQ c0
       all_goals (refine Q0 ?_; refine Q1 ?_)
       all_goals (first | (refine Q10 ?_) | (refine Q1p ?_) | (refine Qk rfl rfl (fun hc => ?_) (fun hc => ?_)))
       all_goals (refine zm ?_; refine zn ?_)
       all_goals
         first
         | (refine Q5 rfl ?_ -- QQ c1
            all_goals (refine Q0 ?_; refine Q1 ?_; refine zm ?_; refine Q1A rfl (Q3F hv h3 (St.mv1 hS)) (by rintro v9 w9 ⟨e, at2, e2, rfl, hS⟩; (repeat (first | refine Qv ?_ | refine Qw ?_ | refine fun _ => ?_)); refine Q1l ?_; refine .inr ⟨_, rfl, ?_⟩; exact ⟨e, at2, rdEnd_2a h1 (by omega) e2, rfl, hS.sp⟩) ?_; rintro v2 w2 ⟨m, at2, e2, h4, h5, rfl, hS⟩; refine Q2 rfl ?_; refine zst hS ?_; intro w1 hS; have hS := hS.ns; refine zn ?_; refine Q0 ?_; refine Q1 ?_; refine zm ?_; refine Q1A rfl (Qkl hb hv h5 hS) (by rintro v9 w9 ⟨e, at3, e3, rfl, hS⟩; (repeat (first | refine Qv ?_ | refine Qw ?_ | refine fun _ => ?_)); refine Q1l ?_; refine .inr ⟨_, rfl, ?_⟩; exact ⟨e, at3, rdEnd_2b h1 (by omega) e2 e3, rfl, hS.sp⟩) ?_; rintro v3 w3 ⟨a2, at3, c3, ds, e3, h6, h7, hle3, hd1, rfl, hS⟩; obtain ⟨u1, u2, rfl, q1, q2⟩ := Q7y hd1; have o1 := Rep.SR.oneC q1; have o2 := Rep.SR.oneC q2; unfold aggV; refine Q2 rfl ?_; (first | (refine zsn hS ?_; intro w1 hS; have hS := hS.ns) | (refine zsm hS ?_; intro w1 hS; have hS := hS.ns)); refine zn ?_; refine Q1 ?_; refine zm ?_; refine Q1A rfl (Qkl hb (Rep.SR.up hv hle3) h7 hS) (by rintro v9 w9 ⟨e, at4, e4, rfl, hS⟩; (repeat (first | refine Qv ?_ | refine Qw ?_ | refine fun _ => ?_)); refine Q1l ?_; refine .inr ⟨_, rfl, ?_⟩; exact ⟨e, at4, rdEnd_2c h1 (by omega) e2 e3 e4, rfl, St.weak hS.sp hle3⟩) ?_; rintro v4 w4 ⟨a3, at4, c4, ds, e4, h8, h9, hle4, hd2, rfl, hS⟩; obtain ⟨u3, u4, rfl, q3, q4⟩ := Q7y hd2; have o3 := Rep.SR.oneC q3; have o4 := Rep.SR.oneC q4; unfold aggV)
            all_goals (refine Q2 rfl ?_; (first | (refine zsn hS ?_; intro w1 hS; have hS := hS.ns) | (refine zsm hS ?_; intro w1 hS; have hS := hS.ns)))
            all_goals refine zn ?_)
         | (refine Q6 rfl ?_ -- QQ c1
            all_goals (refine Q0 ?_; refine Q1 ?_)
            all_goals (first | (refine Q10 ?_) | (refine Q1p ?_) | (refine Qk rfl rfl (fun hc => ?_) (fun hc => ?_)))
            all_goals (refine zm ?_; refine zn ?_)
            all_goals
              first
              | (refine Q5 rfl ?_ -- QQ c2
                 all_goals (refine Q1 ?_; refine zm ?_; refine Q1A rfl (Q8S hb hv h3 (St.mv1 hS)) (by rintro v9 w9 ⟨e, at2, e2, rfl, hS⟩; (repeat (first | refine Qv ?_ | refine Qw ?_ | refine fun _ => ?_)); refine Q1l ?_; refine .inr ⟨_, rfl, ?_⟩; exact ⟨e, at2, rdEnd_3e h1 (by omega) e2, rfl, hS.sp⟩) ?_; rintro v2 w2 ⟨l1, at2, c2, e2, h4, h5, hle2, hl1, hS⟩; have o1 := Rep.SR.oneC hl1; refine Q2 rfl ?_; refine zst hS ?_; intro w1 hS; have hS := hS.ns)
                 all_goals refine zn ?_)
              | (refine Q6 rfl ?_ -- QQ c2
                 all_goals refine zsk ?_)))
  all_goals (refine Q0 ?_; (first | (have hd9 : endR.at c2 [.int .i64 n, vi 0, .int .i64 a1.block, u1, u2, vi 0, vn, vn, vn] ⟨n, 0, a1, ⟨0, [], []⟩, []⟩ := ⟨_, _, _, _, _, rfl, q1, q2, Rep.SR.up hnil hle2, Rep.SR.up hnil hle2, Rep.SR.up hnil hle2⟩; have he9 := Qkv h1 (by omega) e2; have hle9 := hle2) | (have hd9 : endR.at c4 [.int .i64 n, .int .i64 m, .int .i64 a2.block, u1, u2, .int .i64 a3.block, u3, u4, vn] ⟨n, m, a2, a3, []⟩ := ⟨_, _, _, _, _, rfl, Rep.SR.up q1 hle4, Rep.SR.up q2 hle4, q3, q4, Rep.SR.up hnil (hle3.trans hle4)⟩; have he9 := Qku h1 (by omega) e2 e3 e4; have hle9 := hle3.trans hle4) | (have hd9 : endR.at c2 [.int .i64 n, vi 0, vi 0, vn, vn, vi 0, vn, vn, v2] ⟨n, 0, ⟨0, [], []⟩, ⟨0, [], []⟩, l1⟩ := ⟨_, _, _, _, _, rfl, Rep.SR.up hnil hle2, Rep.SR.up hnil hle2, Rep.SR.up hnil hle2, Rep.SR.up hnil hle2, hl1⟩; have he9 := Qkt h1 (by omega) e2; have hle9 := hle2) | (have hd9 : endR.at cx [.int .i64 n, vi 0, vi 0, vn, vn, vi 0, vn, vn, vn] ⟨n, 0, ⟨0, [], []⟩, ⟨0, [], []⟩, []⟩ := ⟨_, _, _, _, _, rfl, hnil, hnil, hnil, hnil, hnil⟩; have he9 := Qkw h1 (by omega) (by omega) (by omega); have hle9 := hle)); refine Q1 ?_; refine zv hS ?_; refine zsn hS ?_; intro w1 hS; have hS := hS.ns; refine zn ?_; refine zr ?_; refine Qb2 vw (Qn (n := 9) (by kernel_rfl) (by kernel_rfl) (hS.blkAt fd) (by rfl) (by rfl)) ?_)
  all_goals ((first | exact .inl ⟨_, rfl, _, at2, c2, _, he9, by omega, by omega, hle9, hd9, rfl, hS.sp⟩ | exact .inl ⟨_, rfl, _, at4, c4, _, he9, by omega, by omega, hle9, hd9, rfl, hS.sp⟩ | exact .inl ⟨_, rfl, _, at2, c2, _, he9, by omega, by omega, hle9, hd9, rfl, hS.sp⟩ | exact .inl ⟨_, rfl, _, at1, cx, _, he9, by omega, by omega, hle9, hd9, rfl, hS.sp⟩))
end Go.Proofs.Ytanlkfeogoganaa
namespace Go.Proofs.Ytanlkfeogoganaa
open Go.Lir
set_option maxHeartbeats 1000000
attribute [local irreducible] LC.wp Q3 Qz QM retQ Q1x LO.wp Qf Calls
set_option linter.unusedSimpArgs false
set_option linter.unusedVariables false
attribute [local irreducible] bitI IntKind.wrap Q3g rdLong rdMany QA mmap Q27 QG
variable {cx : Cx} {w : World} {L : List Res}
/-- What the reader of types does where so many levels are left. -/
def TysC (bs : List UInt8) (rb : Nat) (v : Value) (k : Nat) : Prop :=
  ∀ (cx : Cx) (w : World) (L : List Res) (d : Int) (at0 : Nat), 0 ≤ d → d + k = 6 → u8R.sl cx v bs → at0 ≤ bs.length → St cx w (blk rb 120 [v, .int .i64 at0] :: L) →
    Fins Try.prog Q1r [.pointer (some ⟨rb, 0, none⟩), .int .i64 d] w (OkS tyR (QG bs.length k (bs.drop at0)) bs rb v at0 cx L) (Bad (QG bs.length k (bs.drop at0)) rb v cx L)
theorem Q7r {α : Type} {p : Prop} [Decidable p] {z : α} {f : List UInt8 → Got α} {r : List UInt8} (h : p) : rdIf p z f r = f r := if_pos h
theorem Qhy {α : Type} {p : Prop} [Decidable p] {z : α} {f : List UInt8 → Got α} {r : List UInt8} (h : ¬ p) : rdIf p z f r = .ok (z, r) := if_neg h
theorem rdty_c {bs : List UInt8} {rb p q at0 k : Nat} {d : Int} {v : Value} (hrec : TysC bs rb v k) (h0 : 0 ≤ d) (hd : d + k = 5) (hv : u8R.sl cx v bs) (ha : at0 ≤ bs.length) (hS : St cx w (blk rb 120 [v, .int .i64 at0] :: blk p 118 [.pointer (some ⟨rb, 0, none⟩)] :: blk q 3 [.int .i64 d] :: L)) :
    Fins Try.prog QD [.pointer (some ⟨p, 0, none⟩), .pointer (some ⟨q, 0, none⟩)] w (OkA tyR aggV (rdTy bs.length k (bs.drop at0)) bs rb v at0 cx (blk p 118 [.pointer (some ⟨rb, 0, none⟩)] :: blk q 3 [.int .i64 d] :: L)) (Bad (rdTy bs.length k (bs.drop at0)) rb v cx (blk p 118 [.pointer (some ⟨rb, 0, none⟩)] :: blk q 3 [.int .i64 d] :: L)) := by
  have hle := St.refl hS
  have hnil : tyR.sl cx vn [] := Rep.SR.nil _ _ _
  unfold Fins
  all_goals refine Q4p ?_
  all_goals (unfold codec_reader_types_1_lc; refine Q0 ?_; refine Q1 ?_; refine Qb hS ?_; intro p2 w1 hS; refine zn ?_; refine Q0 ?_; refine Q1 ?_; refine zl hS ?_; refine Q1A rfl (Q3F hv ha hS.sp) (by rintro v9 w9 ⟨e, at2, e2, rfl, hS⟩; (repeat (first | refine Qv ?_ | refine Qw ?_ | refine fun _ => ?_)); refine Q1l ?_; refine .inr ⟨_, rfl, ?_⟩; exact ⟨e, at2, by simp only [rdTy, Qj, e2], rfl, hS.sp⟩) ?_; rintro v1 w1 ⟨n, at1, h1, h2, h3, rfl, hS⟩; refine zb1 [_, _, _] ?_; refine Qb hS ?_; intro p3 w1 hS; refine zsn hS ?_; intro w1 hS; have hS := hS.ns; refine zn ?_)
  refine zM [0, 1, 2, 3] (fun A ρ' w' => ∃ (g : Int) (at2 : Nat), Has ρ' A ∧ Has ρ' [] ∧ (rdIf (n ≠ 1) 0 (rdLong bs.length) (bs.drop at1) = .ok (g, bs.drop at2)) ∧ (at1 ≤ at2) ∧ (at2 ≤ bs.length) ∧ St cx w' (blk rb 120 [v, .int .i64 at2] :: blk p3 65 [.int .i64 n, .int .i64 g, vn] :: blk p2 65 [vi 0, vi 0, vn] :: blk p 118 [.pointer (some ⟨rb, 0, none⟩)] :: blk q 3 [.int .i64 d] :: L)) ?_ ?_
  · skip
    all_goals (refine Q0 ?_; refine Q1 ?_; refine Q2 rfl ?_; refine zl hS ?_)
    all_goals (first | (refine Q1F ?_) | (refine Q1G ?_) | (refine QC rfl rfl (fun hc => ?_) (fun hc => ?_)))
    all_goals (refine zn ?_)
    all_goals
      first
      | (refine Q5 rfl ?_ -- QD c0
         all_goals (refine Q1 ?_; refine zl hS ?_; refine Q1A rfl (Q3F hv h3 hS.sp) (by rintro v9 w9 ⟨e, at2, e2, rfl, hS⟩; (repeat (first | refine Qv ?_ | refine Qw ?_ | refine fun _ => ?_)); refine Q1l ?_; refine .inr ⟨_, rfl, ?_⟩; exact ⟨e, at2, by simp only [rdTy, Qj, h1, Q7r (show n ≠ 1 by omega), e2], rfl, hS.sp⟩) ?_; rintro v2 w2 ⟨g, at2, e2, h4, h5, rfl, hS⟩; refine Q2 rfl ?_; refine zst hS ?_; intro w1 hS; have hS := hS.ns)
         all_goals refine zn ?_)
      | (refine Q6 rfl ?_ -- QD c0
         all_goals refine zsk ?_)
    all_goals ((first | (exact ⟨g, at2, zh, zh, by rw [Q7r (show n ≠ 1 by omega)]; exact e2, by omega, by omega, hS.sp⟩) | (exact ⟨0, at1, zh, zh, by rw [Qhy (show ¬ n ≠ 1 by omega)], by omega, by omega, hS.sp⟩)))
  rintro ρ w1 ⟨g, at2, hA, hρ, hg, h4, h5, hS⟩; obtain ⟨ρ, rfl⟩ := env2 hA hρ
  all_goals (refine Q0 ?_; refine Q0 ?_; refine Q1 ?_; refine Q2 rfl ?_; refine zl hS ?_)
  all_goals (first | (refine Q10 ?_) | (refine Q1p ?_) | (refine Qk rfl rfl (fun hc => ?_) (fun hc => ?_)))
  all_goals (refine zn ?_)
  all_goals
    first
    | (refine Q6 rfl ?_ -- QD c1
       all_goals refine zsk ?_)
    | (refine Q5 rfl ?_ -- QD c1
       all_goals (refine Q1 ?_; refine zl hS ?_; refine zl hS ?_; refine zad ?_; refine Q1A rfl (hrec cx _ _ (d + 1) at2 (by omega) (by omega) hv h5 hS.sp) (by rintro v9 w9 ⟨e, at3, e3, rfl, hS⟩; (repeat (first | refine Qv ?_ | refine Qw ?_ | refine fun _ => ?_)); refine Q1l ?_; refine .inr ⟨_, rfl, ?_⟩; exact ⟨e, at3, by simp only [rdTy, Qj, h1, hg, Q7r (show n = 3 by omega), e3], rfl, hS.sp⟩) ?_; rintro v2 w2 ⟨l, at3, c3, e3, h6, h7, hle3, hl, hS⟩; have ho := Rep.SR.oneC hl; refine Q2 rfl ?_; refine zst hS ?_; intro w1 hS; have hS := hS.ns)
       all_goals refine zn ?_)
  all_goals (refine Q0 ?_; refine Q1 ?_; refine zv hS ?_; refine zsn hS ?_; intro w1 hS; have hS := hS.ns; refine zn ?_; refine zr ?_; refine Qb2 vw (Qn (n := 3) (by kernel_rfl) (by kernel_rfl) (hS.blkAt fd) (by rfl) (by rfl)) ?_; (first | exact .inl ⟨_, rfl, .mk n g l, at3, c3, _, by simp only [rdTy, Qj, h1, hg, Q7r (show n = 3 by omega), e3], by omega, by omega, hle3, tyR_mk hl, rfl, hS.sp⟩ | exact .inl ⟨_, rfl, .mk n g [], at2, cx, _, by simp only [rdTy, Qj, h1, hg, Qhy (show ¬ n = 3 by omega)], by omega, by omega, hle, tyR_mk hnil, rfl, hS.sp⟩))
theorem Qkj {bs : List UInt8} {rb : Nat} {v : Value} : TysC bs rb v 0 := by
  intro cx w L d at0 h0 hd hv ha hS
  have e0 : QG bs.length 0 (bs.drop at0) = .error (19, (at0 : Int)) := by rw [QG, Qgp ha]
  unfold Fins
  all_goals refine Q2D ?_
  all_goals (unfold codec_reader_types_lc; refine Q0 ?_; refine Q1 ?_; refine zb hS ?_; intro p2 w1 hS; refine zb hS ?_; intro p3 w1 hS; refine zm ?_; refine zn ?_; refine Q0 ?_; refine Q0 ?_; refine Q1 ?_; refine zl hS ?_)
  all_goals (refine QZ ?_)
  all_goals (refine zn ?_)
  all_goals
    first
    | (refine Q5 rfl ?_ -- Q1r c0
       all_goals (refine Q1 ?_; refine zl hS ?_; refine Qq rfl ?_; refine Q2 rfl ?_; refine zl hS ?_; refine zb2 [_, _] ?_; refine zki ?_)
       all_goals (refine Q4a rfl ?_; (repeat (first | refine Qv ?_ | refine Qw ?_ | refine fun _ => ?_)); refine Q1l ?_; exact .inr ⟨_, rfl, (19, at0), _, e0, rfl, hS.sp⟩))
  all_goals (refine Q0 ?_; refine Q1 ?_; refine zl hS ?_; refine Qkb ?_; fail "no contract of Q1n"; refine zm ?_; refine zn ?_; refine zr ?_; refine zf ?_; (exfalso; omega))
theorem rdone_ty {bs : List UInt8} {rb p q k : Nat} {d : Int} {v : Value} (hrec : TysC bs rb v k) (h0 : 0 ≤ d) (hd : d + k = 5) (hv : u8R.sl cx v bs) : RdC tyR aggV Try.prog QD [.pointer (some ⟨p, 0, none⟩), .pointer (some ⟨q, 0, none⟩)] (rdTy bs.length k) bs rb v cx (blk p 118 [.pointer (some ⟨rb, 0, none⟩)] :: blk q 3 [.int .i64 d] :: L) := by
  intro at1 c1 w1 r0 hle hat hS
  refine Fins.mono (rdty_c (L := r0 :: L) hrec h0 hd (Rep.SR.up hv hle) hat hS.sp) ?_ ?_
  · rintro u w' ⟨a, at', c', ds, h1, h2, h3, h4, h5, rfl, hS⟩; exact ⟨a, at', c', ds, h1, h2, h3, h4, h5, rfl, hS.sp⟩
  · rintro u w' ⟨e, at', h1, rfl, hS⟩; exact ⟨e, at', h1, rfl, hS.sp⟩
theorem Qkk {bs : List UInt8} {rb k : Nat} {v : Value} (hb : bs.length ≤ 1000000) (hrec : TysC bs rb v k) : TysC bs rb v (k + 1) := by
  intro cx w L d at0 h0 hd hv ha hS
  have e0 := Q2w bs.length k (bs.drop at0)
  unfold Fins
  all_goals refine Q2D ?_
  all_goals (unfold codec_reader_types_lc; refine Q0 ?_; refine Q1 ?_; refine zb hS ?_; intro p2 w1 hS; refine zb hS ?_; intro p3 w1 hS; refine zm ?_; refine zn ?_; refine Q0 ?_; refine Q0 ?_; refine Q1 ?_; refine zl hS ?_)
  all_goals (first | (refine QZ ?_) | (refine Q1g ?_))
  all_goals (refine zn ?_)
  all_goals
    first
    | (refine Q5 rfl ?_ -- Q1r c0
       all_goals (refine Q1 ?_; refine zl hS ?_; refine Qq rfl ?_; refine Q2 rfl ?_; refine zl hS ?_; refine zb2 [_, _] ?_; refine zki ?_)
       all_goals fail "no law for panic")
    | (refine Q6 rfl ?_ -- Q1r c0
       all_goals refine zsk ?_)
  all_goals (refine Q0 ?_; refine Q1 ?_; refine zl hS ?_; refine Qkb ?_; refine Q1A rfl (Qit (cx := cx) ⟨[], [_, _], rfl, rfl⟩ (by kernel_rfl) hb (rdone_ty hrec h0 (by omega) hv) hv ha hS.sp) (by rintro v9 w9 ⟨e, at3, e3, rfl, hS⟩; (repeat (first | refine Qv ?_ | refine Qw ?_ | refine fun _ => ?_)); refine Q1l ?_; refine .inr ⟨_, rfl, ?_⟩; exact ⟨e, at3, e0.trans e3, rfl, hS.sp⟩) ?_; rintro v2 w2 ⟨l, at3, c3, e3, h6, h7, hle3, hl, hS⟩; refine zm ?_; refine zn ?_; refine zr ?_; refine zf ?_; exact .inl ⟨_, rfl, l, at3, c3, e0.trans e3, by omega, by omega, hle3, hl, hS.sp⟩)
theorem Q8R {bs : List UInt8} {rb : Nat} {v : Value} (hb : bs.length ≤ 1000000) : ∀ k, TysC bs rb v k
  | 0 => Qkj
  | k + 1 => Qkk hb (Q8R hb k)
end Go.Proofs.Ytanlkfeogoganaa
namespace Go.Lir
section
variable {P : Program} {l : List GO} {Q : QT} {ρ : Env} {w : World}
end
end Go.Lir
namespace Go.Lir
section
variable {P : Program} {l : List GO} {Q : QT} {ρ : Env} {w : World}
/-- A block is from here on only read, as a list of one. -/
theorem St.freeze1 {α : Type} {r : Rep α} {c : Cx} {L : List Res} {T b : Nat} {cs : List Value} {x : α} (h : St c w (blk b T cs :: L)) (hr : r.at c cs x) : ∃ c', c.Le c' ∧ St c' w L ∧ r.sl c' (.slice (some ⟨b, 0, none⟩) 1 1) [x] := by
  have h1 : St c w (sl T r.es (.slice (some ⟨b, 0, none⟩) 1 1) [cs] :: L) := h.slOf (css := [cs]) (by simp) (by intro q hq; simp at hq; subst hq; exact r.len hr) rfl
  exact h1.freezeL (r := r) ((Rep.LR.nil r _ _).push hr) rfl (by simp)
end
end Go.Lir
namespace Go.Proofs.Ytanlkfeogoganaa
open Go.Lir
set_option maxHeartbeats 1000000
attribute [local irreducible] LC.wp Q3 Qz QM retQ Q1x LO.wp Qf Calls
set_option linter.unusedSimpArgs false
set_option linter.unusedVariables false
attribute [local irreducible] bitI IntKind.wrap zig leb
variable {cx : Cx} {w : World} {L : List Res}
theorem long_c {l : List Int} {wb : Nat} {v v2 : Value} {css : List (List Value)} {bs : List UInt8} (hls : u8R.ls cx css bs) (hv : oneC v = true) (hl : intR.sl cx v2 l) (hb : bs.length + (Q1i l).length ≤ 60000000000000)
    (hS : St cx w (blk wb 112 [v] :: sl 5 1 v css :: L)) :
    Rets Try.prog Q2s [.pointer (some ⟨wb, 0, none⟩), v2] w fun u w' => ∃ v' css', u = .tuple #[] ∧ oneC v' = true ∧ u8R.ls cx css' (bs ++ Q1i l) ∧ St cx w' (blk wb 112 [v'] :: sl 5 1 v' css' :: L) := by
  have hlen := hl.len
  all_goals refine Q6G ?_
  all_goals (unfold codec_writer_long_lc; refine Q0 ?_; refine Q1 ?_; refine zm ?_; refine zL ?_; refine zm ?_; refine zn ?_; refine Qa ?_)
  refine zo [0, 7, 8] (fun A ρ' w' => ∃ (j : Nat) (va : Value) (ca : List (List Value)), Has ρ' A ∧ Has ρ' [(9, .int .i64 j)] ∧ (j ≤ l.length) ∧ (u8R.ls cx ca (bs ++ Q1i (l.take j))) ∧ (oneC va = true) ∧ St cx w' (blk wb 112 [va] :: sl 5 1 va ca :: L)) (fun ρ' _ => (l.length - iv (ρ' 9)).toNat) ?_ ?_
  · exact ⟨0, v, css, zh, zh, (by omega), by simpa [Q1i] using hls, by assumption, hS.sp⟩
  rintro ρ w1 ⟨j, va, ca, hA, hρ, hj, hla, hva, hS⟩; obtain ⟨ρ, rfl⟩ := env2 hA hρ
  unfold Q2P
  all_goals (refine Q0 ?_; refine Q1 ?_; refine Qu rfl rfl ?_; refine zn ?_; refine Q0 ?_)
  refine Ql rfl (fun hc => ?_) (fun hc => ?_)
  · skip
    all_goals (refine zsk ?_; refine Q0 ?_; refine Qa ?_; refine Q0 ?_; refine Q1 ?_; refine zi ?_; intro b1 o1 cs1 x1 hat1 hx1 he1; obtain rfl := Q1M he1; (first | (refine zl hS ?_) | (refine zlk hS ?_)); refine zm ?_; refine zn ?_; refine Q0 ?_; refine Q1 ?_; refine zm ?_; refine Q3l rfl ?_; refine Qk9 rfl rfl (by omega) ?_; refine zm ?_; refine QeI rfl rfl (by omega) ?_; refine Q3l rfl ?_; refine Qk6 rfl rfl ?_; rw [show bitI .xor .u64 _ _ = zigI x1 from rfl, zig_val]; refine zm ?_; refine zn ?_; refine Q0 ?_; refine Qa ?_)
    refine zo [0, 7, 8, 9] (fun A ρ' w' => ∃ (u k : Nat) (vb : Value) (cb : List (List Value)) (acc : List UInt8), Has ρ' A ∧ Has ρ' [(6, .int .u64 (u : Int))] ∧ (u < 128 ^ (k + 1)) ∧ (k ≤ 9) ∧ (acc ++ leb (k + 1) u = bs ++ Q1i (l.take j) ++ QN x1) ∧ (u8R.ls cx cb acc) ∧ (oneC vb = true) ∧ St cx w' (blk wb 112 [vb] :: sl 5 1 vb cb :: L)) (fun ρ' _ => (iv (ρ' 6)).toNat) ?_ ?_
    · exact ⟨zig x1, 9, va, ca, _, zh, zh, by have := zig_lt x1; omega, (by omega), rfl, by assumption, by assumption, hS.sp⟩
    rintro ρ w1 ⟨u, k, vb, cb, acc, hA, hρ, hk, hk9, hd, hlb, hvb, hS⟩; obtain ⟨ρ, rfl⟩ := env2 hA hρ; have hal := acc_len hd hx1 hb
    unfold Q2O
    all_goals (refine Q0 ?_; refine Q0 ?_; refine Q1 ?_; refine zm ?_; refine Qg6 rfl rfl ?_; refine zn ?_)
    refine Ql rfl (fun hc => ?_) (fun hc => ?_)
    · skip
      all_goals (refine zsk ?_; refine Q0 ?_; refine Qa ?_; refine Q1 ?_; refine zm ?_; refine zm ?_; refine Qq rfl ?_; refine Q2 rfl ?_; refine zl hS ?_; refine zm ?_; refine Q3l rfl ?_; refine s_or rfl rfl ?_; rw [or_byte]; refine zB1 hS [_] ?_; intro b1 w1 hS; refine za QkZ u_T50 hS ?_; intro vp1 w1 css1 hls1 hv1 hS; have hS := hS.ns; refine Qq rfl ?_; refine Q2 rfl ?_; refine zst hS ?_; intro w1 hS; have hS := hS.ns; refine zn ?_; refine Q1 ?_; refine zm ?_; refine QeI rfl rfl (by decide) ?_; rw [shr_nat]; refine zm ?_; refine zn ?_; exact ⟨⟨u / 128, k - 1, _, _, _, zh, zh, leb_lt hk (by omega), (by omega), leb_step hd hk (by omega), by assumption, by assumption, hS.sp⟩, leb_meas (by omega)⟩)
    · skip
      all_goals (refine zex ?_; refine Q1 ?_; refine zm ?_; refine zm ?_; refine Qq rfl ?_; refine Q2 rfl ?_; refine zl hS ?_; refine zm ?_; refine Q3l rfl ?_; rw [low_byte (by omega)]; refine zB1 hS [_] ?_; intro b1 w1 hS; refine za QkZ u_T50 hS ?_; intro vp2 w2 css2 hls2 hv2 hS; have hS := hS.ns; refine Qq rfl ?_; refine Q2 rfl ?_; refine zst hS ?_; intro w1 hS; have hS := hS.ns; refine zn ?_; refine Q1 ?_; refine zad ?_; refine zm ?_; refine zn ?_; exact ⟨⟨j + 1, _, _, zh, zh, (by omega), by rw [Q4f hx1, ← List.append_assoc, ← hd, leb_last (by omega)]; assumption, by assumption, hS.sp⟩, Qh (by omega)⟩)
  · skip
    all_goals (refine zex ?_; refine Q2x ?_; exact ⟨_, rfl, va, ca, rfl, hva, by rw [List.take_of_length_le (by omega)] at hla; exact hla, hS.sp⟩)
theorem QjS {l : List Int} {wb : Nat} {v v2 : Value} {bs : List UInt8} (hv : oneC v = true) (hl : intR.sl cx v2 l) (hb : bs.length + (Q1i l).length ≤ 60000000000000)
    (hS : St cx w (blk wb 112 [v] :: sl 5 1 v (bs.map QF) :: L)) :
    Rets Try.prog Q2s [.pointer (some ⟨wb, 0, none⟩), v2] w fun u w' => ∃ v', u = .tuple #[] ∧ oneC v' = true ∧ St cx w' (blk wb 112 [v'] :: sl 5 1 v' ((bs ++ Q1i l).map QF) :: L) :=
  (long_c (Q8N bs) hv hl hb hS).mono fun u w' ⟨v', css', h1, h2, h3, h4⟩ => ⟨v', h1, h2, by rw [Rep.LR.u8 rfl h3] at h4; exact h4⟩
theorem wint_c {l : List Int} {wb : Nat} {v v2 : Value} {bs : List UInt8} (hv : oneC v = true) (hl : intR.sl cx v2 l) (hb : bs.length + (Q1i l).length ≤ 60000000000000)
    (hS : St cx w (blk wb 112 [v] :: sl 5 1 v (bs.map QF) :: L)) :
    Rets Try.prog Q2L [.pointer (some ⟨wb, 0, none⟩), v2] w fun u w' => ∃ v', u = .tuple #[] ∧ oneC v' = true ∧ St cx w' (blk wb 112 [v'] :: sl 5 1 v' ((bs ++ Q1i l).map QF) :: L) := by
  have hlen := hl.len
  all_goals refine Q7L ?_
  all_goals (unfold codec_writer_int_lc; refine Q0 ?_; refine Q1 ?_; refine zm ?_; refine zL ?_; refine zm ?_; refine zn ?_; refine Qa ?_)
  refine zo [0, 6, 7] (fun A ρ' w' => ∃ (j : Nat) (va : Value), Has ρ' A ∧ Has ρ' [(8, .int .i64 j)] ∧ (j ≤ l.length) ∧ (oneC va = true) ∧ St cx w' (blk wb 112 [va] :: sl 5 1 va ((bs ++ Q1i (l.take j)).map QF) :: L)) (fun ρ' _ => (l.length - iv (ρ' 8)).toNat) ?_ ?_
  · exact ⟨0, v, zh, zh, (by omega), by assumption, by rw [List.take_zero, show Q1i [] = [] from rfl, List.append_nil]; exact hS.sp⟩
  rintro ρ w1 ⟨j, va, hA, hρ, hj, hva, hS⟩; obtain ⟨ρ, rfl⟩ := env2 hA hρ
  unfold Q3a
  all_goals (refine Q0 ?_; refine Q1 ?_; refine Qu rfl rfl ?_; refine zn ?_; refine Q0 ?_)
  refine Ql rfl (fun hc => ?_) (fun hc => ?_)
  · skip
    all_goals (refine zsk ?_; refine Q0 ?_; refine Qa ?_; refine Q0 ?_; refine Q1 ?_; refine zi ?_; intro b1 o1 cs1 x1 hat1 hx1 he1; obtain rfl := Q1M he1; (first | (refine zl hS ?_) | (refine zlk hS ?_)); refine zm ?_; refine zn ?_; refine Q1 ?_; refine zm ?_; refine zm ?_; refine zB1 hS [_] ?_; intro b1 w1 hS; obtain ⟨c1, hle1, hS, hf9⟩ := St.freeze1 (r := intR) (x := x1) hS rfl; refine zR2 (c := QjS (l := [x1]) hva hf9 (room_one hx1 hb) hS) (h := ?_); rintro v1 w1 ⟨vb, rfl, hvb, hS⟩; have hS := St.weak hS hle1; refine zn ?_; refine Q1 ?_; refine zad ?_; refine zm ?_; refine zn ?_; exact ⟨⟨j + 1, vb, zh, zh, (by omega), by assumption, by rw [QjI hx1]; exact hS.sp⟩, Qh (by omega)⟩)
  · skip
    all_goals (refine zex ?_; refine Q2x ?_; refine ⟨_, rfl, va, rfl, hva, ?_⟩; rw [List.take_of_length_le (by omega)] at hS; exact hS)
/-- One number. -/
theorem Q3j {n : Int} {q wb : Nat} {T : TypeId} {v : Value} {bs : List UInt8} (hv : oneC v = true) (hb : bs.length + (QN n).length ≤ 60000000000000)
    (hS : St cx w (blk q T [.int .i64 n] :: blk wb 112 [v] :: sl 5 1 v (bs.map QF) :: L)) :
    Rets Try.prog Q2L [.pointer (some ⟨wb, 0, none⟩), .slice (some ⟨q, 0, none⟩) 1 1] w fun u w' => ∃ v', u = .tuple #[] ∧ oneC v' = true ∧ St cx w' (blk wb 112 [v'] :: sl 5 1 v' ((bs ++ QN n).map QF) :: L) := by
  obtain ⟨c1, hle1, hS, hf9⟩ := St.freeze1 (r := intR) (x := n) hS rfl
  refine (wint_c (l := [n]) hv hf9 (by rw [Q2X]; exact hb) hS).mono ?_
  rintro u w' ⟨v', h1, h2, h3⟩
  rw [Q2X] at h3
  exact ⟨v', h1, h2, St.weak h3 hle1⟩
theorem QcB {l : List Int} {wb : Nat} {v v2 : Value} {bs : List UInt8} (hv : oneC v = true) (hl : intR.sl cx v2 l) (hb : bs.length + (Q7D l).length ≤ 60000000000000)
    (hS : St cx w (blk wb 112 [v] :: sl 5 1 v (bs.map QF) :: L)) :
    Rets Try.prog Q3R [.pointer (some ⟨wb, 0, none⟩), v2] w fun u w' => ∃ v', u = .tuple #[] ∧ oneC v' = true ∧ St cx w' (blk wb 112 [v'] :: sl 5 1 v' ((bs ++ Q7D l).map QF) :: L) := by
  unfold Q7D at hb ⊢
  rw [List.length_append] at hb
  rw [← List.append_assoc]
  all_goals refine Q6J ?_
  all_goals (unfold codec_writer_ints_lc; refine Q0 ?_; refine Q1 ?_; refine zm ?_; refine zm ?_; refine zL ?_; refine zB1 hS [_] ?_; intro b1 w1 hS; refine zR2 (c := Q3j (n := l.length) hv (by omega) hS) (h := ?_); rintro v1 w1 ⟨va, rfl, hva, hS⟩; refine zn ?_; refine Q1 ?_; refine zm ?_; refine zm ?_; refine zR2 (c := wint_c hva hl (by rw [List.length_append]; omega) hS) (h := ?_); rintro v1 w1 ⟨vb, rfl, hvb, hS⟩; refine zn ?_; refine Q2x ?_; exact ⟨_, rfl, vb, rfl, hvb, hS⟩)
theorem wto_c {x : To} {wb : Nat} {v : Value} {cs : List Value} {bs : List UInt8} (hv : oneC v = true) (hx : toR.at cx cs x) (hb : bs.length + x.bts.length ≤ 60000000000000)
    (hS : St cx w (blk wb 112 [v] :: sl 5 1 v (bs.map QF) :: L)) :
    Rets Try.prog Q5K [.pointer (some ⟨wb, 0, none⟩), .agg ⟨cs⟩] w fun u w' => ∃ v', u = .tuple #[] ∧ oneC v' = true ∧ St cx w' (blk wb 112 [v'] :: sl 5 1 v' ((bs ++ x.bts).map QF) :: L) := by
  obtain ⟨vr, va, rfl, hr, ha⟩ := Q7y hx
  obtain ⟨ar, lr, rfl⟩ := Rep.SR.shape hr
  obtain ⟨aa, la, rfl⟩ := Rep.SR.shape ha
  unfold To.bts at hb ⊢
  rw [List.length_append, List.length_append] at hb
  rw [← List.append_assoc, ← List.append_assoc]
  all_goals refine Q99 ?_
  all_goals (unfold codec_writer_to_lc; refine Q0 ?_; refine Q1 ?_; refine zb hS ?_; intro p3 w1 hS; refine zn ?_; refine Q0 ?_; refine Q1 ?_; refine zm ?_; refine Q2 rfl ?_; refine zl hS ?_; refine zB1 hS [_] ?_; intro b1 w1 hS; have hS : St cx _ (blk _ 3 [.int .i64 x.block] :: blk wb 112 [v] :: sl 5 1 v (bs.map QF) :: blk p3 33 _ :: L) := hS.sp; refine zR2 (c := Q3j (n := x.block) hv (by omega) hS) (h := ?_); rintro v1 w1 ⟨v3, rfl, hv3, hS⟩; refine zn ?_; refine Q0 ?_; refine Q1 ?_; refine zm ?_; refine Q2 rfl ?_; refine zl hS ?_; refine zR2 (c := QcB hv3 hr (by rw [List.length_append]; omega) hS) (h := ?_); rintro v1 w1 ⟨v4, rfl, hv4, hS⟩; refine zn ?_; refine Q1 ?_; refine zm ?_; refine Q2 rfl ?_; refine zl hS ?_; refine zR2 (c := QcB hv4 ha (by rw [List.length_append, List.length_append]; omega) hS) (h := ?_); rintro v1 w1 ⟨v5, rfl, hv5, hS⟩; refine zn ?_; refine Q2x ?_; exact ⟨_, rfl, v5, rfl, hv5, hS.sp⟩)
theorem Qhh {l : List Ty} (ih : ∀ x ∈ l, ∀ {cx : Cx} {w : World} {L : List Res} {wb : Nat} {v v2 : Value} {bs : List UInt8}, oneC v = true → tyR.sl cx v2 x.l → bs.length + (tysB x.l).length ≤ 60000000000000 → St cx w (blk wb 112 [v] :: sl 5 1 v (bs.map QF) :: L) →
      Rets Try.prog Qt [.pointer (some ⟨wb, 0, none⟩), v2] w fun u w' => ∃ v', u = .tuple #[] ∧ oneC v' = true ∧ St cx w' (blk wb 112 [v'] :: sl 5 1 v' ((bs ++ tysB x.l).map QF) :: L))
    {wb : Nat} {v v2 : Value} {bs : List UInt8} (hv : oneC v = true) (hl : tyR.sl cx v2 l) (hb : bs.length + (tysB l).length ≤ 60000000000000) (hS : St cx w (blk wb 112 [v] :: sl 5 1 v (bs.map QF) :: L)) :
    Rets Try.prog Qt [.pointer (some ⟨wb, 0, none⟩), v2] w fun u w' => ∃ v', u = .tuple #[] ∧ oneC v' = true ∧ St cx w' (blk wb 112 [v'] :: sl 5 1 v' ((bs ++ tysB l).map QF) :: L) := by
  have hlen := hl.len
  unfold tysB at hb ⊢
  rw [List.length_append] at hb
  rw [← List.append_assoc]
  all_goals refine Q5J ?_
  all_goals (unfold codec_writer_types_lc; refine Q0 ?_; refine Q1 ?_; refine zm ?_; refine zm ?_; refine zL ?_; refine zB1 hS [_] ?_; intro b1 w1 hS; refine zR2 (c := Q3j (n := l.length) hv (by omega) hS) (h := ?_); rintro v1 w1 ⟨v3, rfl, hv3, hS⟩; refine zn ?_; refine Q0 ?_; refine Q1 ?_; refine zm ?_; refine zL ?_; refine zm ?_; refine zn ?_; refine Qa ?_)
  refine zo [0, 11, 12] (fun A ρ' w' => ∃ (j : Nat) (va : Value), Has ρ' A ∧ Has ρ' [(13, .int .i64 j)] ∧ (j ≤ l.length) ∧ (oneC va = true) ∧ St cx w' (blk wb 112 [va] :: sl 5 1 va ((bs ++ QN l.length ++ Tys.bts (l.take j)).map QF) :: L)) (fun ρ' _ => (l.length - iv (ρ' 13)).toNat) ?_ ?_
  · exact ⟨0, v3, zh, zh, (by omega), by assumption, by rw [List.take_zero, show Tys.bts [] = [] from by rw [Tys.bts], List.append_nil]; exact hS.sp⟩
  rintro ρ w1 ⟨j, va, hA, hρ, hj, hva, hS⟩; obtain ⟨ρ, rfl⟩ := env2 hA hρ
  unfold Q2C
  all_goals (refine Q0 ?_; refine Q1 ?_; refine Qu rfl rfl ?_; refine zn ?_; refine Q0 ?_)
  refine Ql rfl (fun hc => ?_) (fun hc => ?_)
  · skip
    all_goals (refine zsk ?_; refine Q0 ?_; refine Qa ?_; refine Q0 ?_; refine Q1 ?_; refine zi ?_; intro b1 o1 cs1 x1 hat1 hx1 he1; obtain ⟨vl1, rfl, hl1⟩ := Q1q he1; (first | (refine zv hS ?_) | (refine zvk hS ?_)); refine Qb hS ?_; intro p5 w1 hS; refine zsn hS ?_; intro w1 hS; have hS := hS.ns; refine zn ?_; have hroom := Tys.bts_room hx1; have hbm := congrArg List.length (Ty.bts_mk x1); obtain ⟨acc, hacc⟩ : ∃ acc, bs ++ QN l.length ++ Tys.bts (l.take j) = acc := ⟨_, rfl⟩; have hal := congrArg List.length hacc; rw [hacc] at hS; simp only [List.length_append] at hal hbm; obtain ⟨ax, nx, rfl⟩ := Rep.SR.shape hl1; refine Q0 ?_; refine Q1 ?_; refine zm ?_; refine Q2 rfl ?_; refine zl hS ?_; refine zB1 hS [_] ?_; intro b1 w1 hS; have hS : St cx _ (blk _ 3 [.int .i64 x1.kind] :: blk wb 112 [va] :: sl 5 1 va (acc.map QF) :: blk p5 65 [.int .i64 x1.kind, .int .i64 x1.r, .slice ax x1.l.length nx] :: L) := hS.sp; refine zR2 (c := Q3j (n := x1.kind) hva (by omega) hS) (h := ?_); rintro v1 w1 ⟨v4, rfl, hv4, hS⟩; refine zn ?_)
    refine zM [0, 5, 11, 12, 13] (fun A ρ' w' => ∃ (vc : Value), Has ρ' A ∧ Has ρ' [] ∧ (oneC vc = true) ∧ St cx w' (blk wb 112 [vc] :: sl 5 1 vc ((acc ++ QN x1.kind ++ (if x1.kind ≠ 1 then QN x1.r else [])).map QF) :: blk p5 65 [.int .i64 x1.kind, .int .i64 x1.r, .slice ax x1.l.length nx] :: L)) ?_ ?_
    · skip
      all_goals (refine Q0 ?_; refine Q1 ?_; refine Q2 rfl ?_; refine zl hS ?_)
      all_goals (first | (refine Q1F ?_) | (refine Q1G ?_) | (refine QC rfl rfl (fun hc => ?_) (fun hc => ?_)))
      all_goals (refine zn ?_)
      all_goals
        first
        | (refine Q5 rfl ?_ -- Qt c1
           all_goals (refine Q1 ?_; refine zm ?_; refine Q2 rfl ?_; refine zl hS ?_; refine zB1 hS [_] ?_; intro b1 w1 hS; rw [if_pos (by omega)] at hbm; have hS : St cx _ (blk _ 3 [.int .i64 x1.r] :: blk wb 112 [v4] :: sl 5 1 v4 ((acc ++ QN x1.kind).map QF) :: blk p5 65 [.int .i64 x1.kind, .int .i64 x1.r, .slice ax x1.l.length nx] :: L) := hS.sp; refine zR2 (c := Q3j (n := x1.r) hv4 (by rw [List.length_append]; omega) hS) (h := ?_); rintro v1 w1 ⟨v5, rfl, hv5, hS⟩)
           all_goals refine zn ?_)
        | (refine Q6 rfl ?_ -- Qt c1
           all_goals refine zsk ?_)
      all_goals ((first | (exact ⟨_, zh, zh, by assumption, by rw [if_pos (by omega)]; exact hS.sp⟩) | (exact ⟨_, zh, zh, by assumption, by rw [if_neg (by omega), List.append_nil]; exact hS.sp⟩)))
    rintro ρ w1 ⟨vc, hA, hρ, hvc, hS⟩; obtain ⟨ρ, rfl⟩ := env2 hA hρ
    all_goals (refine Q0 ?_; refine Q1 ?_; refine Q2 rfl ?_; refine zl hS ?_)
    all_goals (first | (refine Q10 ?_) | (refine Q1p ?_) | (refine Qk rfl rfl (fun hc => ?_) (fun hc => ?_)))
    all_goals (refine zn ?_)
    all_goals
      first
      | (refine Q5 rfl ?_ -- Qt c2
         all_goals (refine Q1 ?_; refine zm ?_; refine Q2 rfl ?_; refine zl hS ?_; rw [if_pos (show x1.kind = 3 by omega)] at hbm; refine zR2 (c := ih x1 (List.mem_of_getElem? hx1) hvc hl1 (by simp only [List.length_append]; omega) hS) (h := ?_); rintro v1 w1 ⟨v6, rfl, hv6, hS⟩)
         all_goals refine zn ?_)
      | (refine Q6 rfl ?_ -- Qt c2
         all_goals refine zsk ?_)
    all_goals (refine Q1 ?_; refine zad ?_; refine zm ?_; refine zn ?_; (first | (exact ⟨⟨j + 1, _, zh, zh, (by omega), by assumption, by rw [Tys.bts_snoc hx1, ← List.append_assoc, hacc, Ty.bts_mk, if_pos (show x1.kind = 3 by omega), ← List.append_assoc, ← List.append_assoc]; exact hS.sp⟩, Qh (by omega)⟩) | (exact ⟨⟨j + 1, _, zh, zh, (by omega), by assumption, by rw [Tys.bts_snoc hx1, ← List.append_assoc, hacc, Ty.bts_mk, if_neg (show ¬ x1.kind = 3 by omega), List.append_nil, ← List.append_assoc]; exact hS.sp⟩, Qh (by omega)⟩)))
  · skip
    all_goals (refine zex ?_; refine Q2x ?_; refine ⟨_, rfl, va, rfl, hva, ?_⟩; rw [List.take_of_length_le (by omega)] at hS; exact hS)
theorem wtys_c : ∀ (t : Ty) {cx : Cx} {w : World} {L : List Res} {wb : Nat} {v v2 : Value} {bs : List UInt8}, oneC v = true → tyR.sl cx v2 t.l → bs.length + (tysB t.l).length ≤ 60000000000000 → St cx w (blk wb 112 [v] :: sl 5 1 v (bs.map QF) :: L) →
      Rets Try.prog Qt [.pointer (some ⟨wb, 0, none⟩), v2] w fun u w' => ∃ v', u = .tuple #[] ∧ oneC v' = true ∧ St cx w' (blk wb 112 [v'] :: sl 5 1 v' ((bs ++ tysB t.l).map QF) :: L) := by
  intro t
  induction t using Ty.ind with
  | h k r l ih => intro cx w L wb v v2 bs hv hl hb hS; exact Qhh (fun x hx => ih x hx) hv hl hb hS
theorem QfL {l : List Ty} {wb : Nat} {v v2 : Value} {bs : List UInt8} (hv : oneC v = true) (hl : tyR.sl cx v2 l) (hb : bs.length + (tysB l).length ≤ 60000000000000) (hS : St cx w (blk wb 112 [v] :: sl 5 1 v (bs.map QF) :: L)) :
    Rets Try.prog Qt [.pointer (some ⟨wb, 0, none⟩), v2] w fun u w' => ∃ v', u = .tuple #[] ∧ oneC v' = true ∧ St cx w' (blk wb 112 [v'] :: sl 5 1 v' ((bs ++ tysB l).map QF) :: L) := Qhh (fun x _ => wtys_c x) hv hl hb hS
theorem Qhi {op : Int} (hS : St cx w L) : Rets Try.prog Q3r [.int .i64 op] w fun u w' => u = .int .i64 (Qe op : Int) ∧ St cx w' L := by
  all_goals refine Qdo ?_
  all_goals (unfold codec_fields_lc; refine Q0 ?_; refine Q1 ?_; refine zm ?_; refine zn ?_; refine Q0 ?_; refine Q0 ?_; refine Q1 ?_; refine zm ?_)
  all_goals (first | (refine Q2G ?_) | (refine Q2H ?_) | (refine Q1h rfl rfl (fun hc => ?_) (fun hc => ?_)))
  all_goals (refine zm ?_; (first | refine s_gn rfl rfl ?_ | (refine s_gy rfl ?_; refine zm ?_)))
  all_goals (first | refine s_gn rfl rfl ?_ | (refine s_gy rfl ?_; (first | (refine QZ ?_) | (refine Q1g ?_) | (refine Qg rfl rfl (fun hc => ?_) (fun hc => ?_)))))
  all_goals ((first | (refine zpt ?_) | (refine zpf ?_)); refine zn ?_)
  all_goals
    first
    | (refine Q5 rfl ?_ -- Q3r c0
       all_goals (refine Q0 ?_; refine Q1 ?_; refine zm ?_; refine zn ?_; refine zr ?_; refine zf ?_)
       all_goals (refine ⟨_, rfl, ?_, hS.sp⟩; unfold Qe; rw [if_pos (by omega)]; rfl; done))
    | (refine Q6 rfl ?_ -- Q3r c0
       all_goals refine zsk ?_)
  all_goals (refine Q0 ?_; refine Q1 ?_; refine Qhp (cs := [_, _, _, _, _, _, _, _, _, _, _, _, _, _, _]) vw vw vw vw vw vw vw vw vw vw vw vw vw vw vw (by rfl) ?_; refine zm ?_; refine s_idxv (n := 15) (e := 3) (by kernel_rfl) (by kernel_rfl) (by kernel_rfl) rfl rfl (by omega) (by omega) (QiI (by omega) (by omega)) ?_; refine zm ?_; refine zn ?_; refine zr ?_; refine zf ?_; (first | (refine ⟨_, rfl, ?_, hS.sp⟩; unfold Qe; rw [if_pos (by omega)]; rfl; done) | (refine ⟨_, rfl, ?_, hS.sp⟩; (rfl); done)))
end Go.Proofs.Ytanlkfeogoganaa
namespace Go.Proofs.Ytanlkfeogoganaa
open Go.Lir
set_option maxHeartbeats 1000000
attribute [local irreducible] LC.wp Q3 Qz QM retQ Q1x LO.wp Qf Calls
set_option linter.unusedSimpArgs false
set_option linter.unusedVariables false
attribute [local irreducible] bitI IntKind.wrap Q3g rdLong rdMany QA mmap Q27 Qe Q3G
variable {cx : Cx} {w : World} {L : List Res}
theorem rdins_c {bs : List UInt8} {rb at0 : Nat} {v : Value} (hb : bs.length ≤ 1000000) (hv : u8R.sl cx v bs) (ha : at0 ≤ bs.length) (hS : St cx w (blk rb 120 [v, .int .i64 at0] :: L)) :
    Fins Try.prog Qr [.pointer (some ⟨rb, 0, none⟩)] w (OkA insR aggV (Q3G bs.length (bs.drop at0)) bs rb v at0 cx L) (Bad (Q3G bs.length (bs.drop at0)) rb v cx L) := by
  have hle := St.refl hS
  have hnil : intR.sl cx vn [] := Rep.SR.nil _ _ _
  unfold Fins
  all_goals refine Q8m ?_
  all_goals (unfold codec_reader_ins_lc; refine Q0 ?_; refine Q1 ?_; refine Qb hS ?_; intro p2 w1 hS; refine zn ?_; refine Q0 ?_; refine Q1 ?_; refine zm ?_; refine zE1 (c := Q3F hv ha hS.sp) (p := by rintro v9 w9 ⟨e, at1, h1, rfl, hS⟩; (repeat (first | refine Qv ?_ | refine Qw ?_ | refine fun _ => ?_)); refine Q1l ?_; refine .inr ⟨_, rfl, ?_⟩; exact ⟨e, at1, rdIns_e h1, rfl, hS.sp⟩) (h := ?_); rintro v1 w1 ⟨n, at1, h1, h2, h3, rfl, hS⟩; refine zb1 [_, _, _, _, _, _, _, _] ?_; refine Qb hS ?_; intro p3 w1 hS; refine zsn hS ?_; intro w1 hS; have hS := hS.ns; refine zn ?_; refine Q0 ?_; refine Q1 ?_; refine Q2 rfl ?_; refine zl hS ?_; obtain ⟨h, hh⟩ : ∃ h, Qe n = h := ⟨_, rfl⟩; have hlt := QfE n; rw [hh] at hlt; refine zR1 (c := Qhi hS) (h := ?_); rintro v1 w1 ⟨rfl, hS⟩; rw [hh]; refine zm ?_; refine zn ?_; refine Q0 ?_; refine Q0 ?_; refine Q1 ?_; refine Q2 rfl ?_; refine Q2 rfl ?_; refine Q2 rfl ?_; refine Q2 rfl ?_; refine zB4 hS [_, _, _, _] ?_; intro b1 w1 hS; (first | (refine zL ?_) | (refine zLe hS ?_) | (refine zLk ?_) | (refine s_len rfl ?_)); refine zm ?_; refine zn ?_; refine Qa ?_)
  refine zo [0, 2, 3, 4, 17, 18] (fun A ρ' w' => ∃ (j : Nat) (a b c k : Int) (at2 : Nat), Has ρ' A ∧ Has ρ' [(19, .int .i64 j)] ∧ (j ≤ 4) ∧ (at1 ≤ at2) ∧ (at2 ≤ bs.length) ∧ (Q26 bs.length h 4 0 (0, 0, 0, 0) (bs.drop at1) = Q26 bs.length h (4 - j) j (a, b, c, k) (bs.drop at2)) ∧ St cx w' (blk rb 120 [v, .int .i64 at2] :: blk b1 167 [.pointer (some ⟨p3, 1, none⟩), .pointer (some ⟨p3, 2, none⟩), .pointer (some ⟨p3, 3, none⟩), .pointer (some ⟨p3, 4, none⟩)] :: blk p3 27 [.int .i64 n, .int .i64 a, .int .i64 b, .int .i64 c, .int .i64 k, vi 0, vn, vn] :: blk p2 27 [vi 0, vi 0, vi 0, vi 0, vi 0, vi 0, vn, vn] :: L)) (fun ρ' _ => (4 - iv (ρ' 19)).toNat) ?_ ?_
  · exact ⟨0, 0, 0, 0, 0, at1, zh, zh, by omega, by omega, by omega, rfl, hS.sp⟩
  rintro ρ w1 ⟨j, a, b, c, k, at2, hA, hρ, hj, h4, h5, hd, hS⟩; obtain ⟨ρ, rfl⟩ := env2 hA hρ
  unfold Q3c
  all_goals (refine Q0 ?_; refine Q1 ?_; refine Qu rfl rfl ?_; refine zn ?_; refine Q0 ?_)
  refine Ql rfl (fun hc => ?_) (fun hc => ?_)
  · skip
    all_goals (refine zsk ?_; refine Q0 ?_; refine Qa ?_; refine Q0 ?_)
    all_goals (rcases (show j = 0 ∨ j = 1 ∨ j = 2 ∨ j = 3 by omega) with rfl | rfl | rfl | rfl)
    all_goals (refine Q1 ?_; refine zm ?_; refine s_idx rfl rfl (by omega) (by omega) ?_; refine zl hS ?_; refine zm ?_; refine zm ?_; refine zn ?_; refine Q0 ?_; refine Q1 ?_; refine zm ?_; refine zm ?_; refine QeI rfl rfl (by omega) ?_; refine Q9K rfl rfl ?_; rw [bit_at hlt (by omega)])
    all_goals (first | (refine Q10 ?_) | (refine Q1p ?_) | (refine Qk rfl rfl (fun hc => ?_) (fun hc => ?_)))
    all_goals (refine zn ?_)
    all_goals
      first
      | (refine Q5 rfl ?_ -- Qr c1
         all_goals (refine Q1 ?_; refine zm ?_; refine zm ?_; refine Q1A rfl (Q3F hv h5 hS.sp) (by rintro v9 w9 ⟨e, at3, e3, rfl, hS⟩; (repeat (first | refine Qv ?_ | refine Qw ?_ | refine fun _ => ?_)); refine Q1l ?_; refine .inr ⟨_, rfl, ?_⟩; exact ⟨e, at3, rdIns_re h1 hh (rdRegs_e hd (by omega) (by omega) e3), rfl, hS.sp⟩) ?_; rintro v2 w2 ⟨y, at3, e3, h6, h7, rfl, hS⟩; refine Qq rfl ?_; refine zst hS ?_; intro w1 hS; have hS := hS.ns)
         all_goals refine zn ?_)
      | (refine Q6 rfl ?_ -- Qr c1
         all_goals refine zsk ?_)
    all_goals (refine Q1 ?_; refine zad ?_; refine zm ?_; refine zn ?_; (first | (exact ⟨⟨1, y, b, c, k, at3, zh, zh, by omega, by omega, by omega, Qcp hd (by omega) (by omega) e3, hS.sp⟩, Qh (by omega)⟩) | (exact ⟨⟨2, a, y, c, k, at3, zh, zh, by omega, by omega, by omega, Qcp hd (by omega) (by omega) e3, hS.sp⟩, Qh (by omega)⟩) | (exact ⟨⟨3, a, b, y, k, at3, zh, zh, by omega, by omega, by omega, Qcp hd (by omega) (by omega) e3, hS.sp⟩, Qh (by omega)⟩) | (exact ⟨⟨4, a, b, c, y, at3, zh, zh, by omega, by omega, by omega, Qcp hd (by omega) (by omega) e3, hS.sp⟩, Qh (by omega)⟩) | (exact ⟨⟨1, a, b, c, k, at2, zh, zh, by omega, by omega, by omega, Qcq (j := 0) hd (by omega) (by omega), hS.sp⟩, Qh (by omega)⟩) | (exact ⟨⟨2, a, b, c, k, at2, zh, zh, by omega, by omega, by omega, Qcq (j := 1) hd (by omega) (by omega), hS.sp⟩, Qh (by omega)⟩) | (exact ⟨⟨3, a, b, c, k, at2, zh, zh, by omega, by omega, by omega, Qcq (j := 2) hd (by omega) (by omega), hS.sp⟩, Qh (by omega)⟩) | (exact ⟨⟨4, a, b, c, k, at2, zh, zh, by omega, by omega, by omega, Qcq (j := 3) hd (by omega) (by omega), hS.sp⟩, Qh (by omega)⟩)))
  · skip
    all_goals (refine zex ?_; have hI := rdIns_t h1 hh hd (by omega))
    refine zM [0, 2, 3, 4] (fun A ρ' w' => ∃ (m : Int) (at3 : Nat), Has ρ' A ∧ Has ρ' [] ∧ (rdIf (h / 64 % 2 = 1) 0 (rdLong bs.length) (bs.drop at2) = .ok (m, bs.drop at3)) ∧ (at2 ≤ at3) ∧ (at3 ≤ bs.length) ∧ St cx w' (blk rb 120 [v, .int .i64 at3] :: blk p3 27 [.int .i64 n, .int .i64 a, .int .i64 b, .int .i64 c, .int .i64 k, .int .i64 m, vn, vn] :: blk p2 27 [vi 0, vi 0, vi 0, vi 0, vi 0, vi 0, vn, vn] :: L)) ?_ ?_
    · skip
      all_goals (refine Q0 ?_; refine Q1 ?_; refine zm ?_; refine Q9K rfl rfl ?_; rw [and64 hlt])
      all_goals (first | (refine Q1F ?_) | (refine Q1G ?_) | (refine QC rfl rfl (fun hc => ?_) (fun hc => ?_)))
      all_goals (refine zn ?_)
      all_goals
        first
        | (refine Q5 rfl ?_ -- Qr c2
           all_goals (refine Q1 ?_; refine zm ?_; refine Q1A rfl (Q4c hv h5 hS.sp) (by rintro v9 w9 ⟨e, at3, e3, rfl, hS⟩; (repeat (first | refine Qv ?_ | refine Qw ?_ | refine fun _ => ?_)); refine Q1l ?_; refine .inr ⟨_, rfl, ?_⟩; exact ⟨e, at3, hI.trans (by simp only [Q5v, Qj, Q7r (show h / 64 % 2 = 1 by omega), e3]), rfl, hS.sp⟩) ?_; rintro v2 w2 ⟨m, at3, e3, h6, h7, rfl, hS⟩; refine Q2 rfl ?_; refine zst hS ?_; intro w1 hS; have hS := hS.ns)
           all_goals refine zn ?_)
        | (refine Q6 rfl ?_ -- Qr c2
           all_goals refine zsk ?_)
      all_goals ((first | (exact ⟨m, at3, zh, zh, by rw [Q7r (show h / 64 % 2 = 1 by omega)]; exact e3, by omega, by omega, hS.sp⟩) | (exact ⟨0, at2, zh, zh, by rw [Qhy (show ¬ h / 64 % 2 = 1 by omega)], by omega, by omega, hS.sp⟩)))
    rintro ρ w1 ⟨m, at3, hA, hρ, hm, h6, h7, hS⟩; obtain ⟨ρ, rfl⟩ := env2 hA hρ
    refine zM [0, 2, 3, 4] (fun A ρ' w' => ∃ (vr : Value) (l1 : List Int) (at4 : Nat) (c4 : Cx), Has ρ' A ∧ Has ρ' [] ∧ (rdIf (h / 16 % 2 = 1) [] (Q27 bs.length) (bs.drop at3) = .ok (l1, bs.drop at4)) ∧ (at3 ≤ at4) ∧ (at4 ≤ bs.length) ∧ (cx.Le c4) ∧ (intR.sl c4 vr l1) ∧ (oneC vr = true) ∧ St c4 w' (blk rb 120 [v, .int .i64 at4] :: blk p3 27 [.int .i64 n, .int .i64 a, .int .i64 b, .int .i64 c, .int .i64 k, .int .i64 m, vr, vn] :: blk p2 27 [vi 0, vi 0, vi 0, vi 0, vi 0, vi 0, vn, vn] :: L)) ?_ ?_
    · skip
      all_goals (refine Q0 ?_; refine Q1 ?_; refine zm ?_; refine Q9K rfl rfl ?_; rw [and16 hlt])
      all_goals (first | (refine Q1F ?_) | (refine Q1G ?_) | (refine QC rfl rfl (fun hc => ?_) (fun hc => ?_)))
      all_goals (refine zn ?_)
      all_goals
        first
        | (refine Q5 rfl ?_ -- Qr c3
           all_goals (refine Q1 ?_; refine zm ?_; refine Q1A rfl (Q8S hb hv h7 hS.sp) (by rintro v9 w9 ⟨e, at4, e4, rfl, hS⟩; (repeat (first | refine Qv ?_ | refine Qw ?_ | refine fun _ => ?_)); refine Q1l ?_; refine .inr ⟨_, rfl, ?_⟩; exact ⟨e, at4, hI.trans (by simp only [Q5v, Qj, hm, Q7r (show h / 16 % 2 = 1 by omega), e4]), rfl, hS.sp⟩) ?_; rintro vr w2 ⟨l1, at4, c4, e4, h8, h9, hle4, hl1, hS⟩; have ho1 := Rep.SR.oneC hl1; refine Q2 rfl ?_; refine zst hS ?_; intro w1 hS; have hS := hS.ns)
           all_goals refine zn ?_)
        | (refine Q6 rfl ?_ -- Qr c3
           all_goals refine zsk ?_)
      all_goals ((first | (exact ⟨vr, l1, at4, c4, zh, zh, by rw [Q7r (show h / 16 % 2 = 1 by omega)]; exact e4, by omega, by omega, hle4, hl1, ho1, hS.sp⟩) | (exact ⟨vn, [], at3, cx, zh, zh, by rw [Qhy (show ¬ h / 16 % 2 = 1 by omega)], by omega, by omega, hle, hnil, rfl, hS.sp⟩)))
    rintro ρ w1 ⟨vr, l1, at4, c4, hA, hρ, hr, h8, h9, hle4, hl1, ho1, hS⟩; obtain ⟨ρ, rfl⟩ := env2 hA hρ
    all_goals (refine Q0 ?_; refine Q0 ?_; refine Q1 ?_; refine zm ?_; refine Q9K rfl rfl ?_; rw [and32 hlt])
    all_goals (first | (refine Q1F ?_) | (refine Q1G ?_) | (refine QC rfl rfl (fun hc => ?_) (fun hc => ?_)))
    all_goals (refine zn ?_)
    all_goals
      first
      | (refine Q5 rfl ?_ -- Qr c4
         all_goals (refine Q1 ?_; refine zm ?_; refine Q1A rfl (Q8S hb (Rep.SR.up hv hle4) h9 hS.sp) (by rintro v9 w9 ⟨e, at5, e5, rfl, hS⟩; (repeat (first | refine Qv ?_ | refine Qw ?_ | refine fun _ => ?_)); refine Q1l ?_; refine .inr ⟨_, rfl, ?_⟩; exact ⟨e, at5, hI.trans (by simp only [Q5v, Qj, hm, hr, Q7r (show h / 32 % 2 = 1 by omega), e5]), rfl, St.weak hS.sp hle4⟩) ?_; rintro va w2 ⟨l2, at5, c5, e5, h10, h11, hle5, hl2, hS⟩; have ho2 := Rep.SR.oneC hl2; refine Q2 rfl ?_; refine zst hS ?_; intro w1 hS; have hS := hS.ns)
         all_goals refine zn ?_)
      | (refine Q6 rfl ?_ -- Qr c4
         all_goals refine zsk ?_)
    all_goals (refine Q0 ?_; (first | (have hd9 : insR.at c5 [.int .i64 n, .int .i64 a, .int .i64 b, .int .i64 c, .int .i64 k, .int .i64 m, vr, va] ⟨n, a, b, c, k, m, l1, l2⟩ := ⟨_, _, rfl, Rep.SR.up hl1 hle5, hl2⟩; have he9 := hI.trans (by simp only [Q5v, Qj, hm, hr, Q7r (show h / 32 % 2 = 1 by omega), e5] : _ = Except.ok (⟨n, a, b, c, k, m, l1, l2⟩, bs.drop at5)); have hle9 := hle4.trans hle5) | (have hd9 : insR.at c4 [.int .i64 n, .int .i64 a, .int .i64 b, .int .i64 c, .int .i64 k, .int .i64 m, vr, vn] ⟨n, a, b, c, k, m, l1, []⟩ := ⟨_, _, rfl, hl1, Rep.SR.up hnil hle4⟩; have he9 := hI.trans (by simp only [Q5v, Qj, hm, hr, Qhy (show ¬ h / 32 % 2 = 1 by omega)] : _ = Except.ok (⟨n, a, b, c, k, m, l1, []⟩, bs.drop at4)); have hle9 := hle4)); refine Q1 ?_; refine zv hS ?_; refine zsn hS ?_; intro w1 hS; have hS := hS.ns; refine zn ?_; refine zr ?_; refine Qb2 vw (Qn (n := 8) (by kernel_rfl) (by kernel_rfl) (hS.blkAt fd) (by rfl) (by rfl)) ?_; (first | exact .inl ⟨_, rfl, _, at5, c5, _, he9, by omega, by omega, hle9, hd9, rfl, hS.sp⟩ | exact .inl ⟨_, rfl, _, at4, c4, _, he9, by omega, by omega, hle9, hd9, rfl, hS.sp⟩))
end Go.Proofs.Ytanlkfeogoganaa
namespace Go.Proofs.Ytanlkfeogoganaa
open Go.Lir
set_option maxHeartbeats 1000000
attribute [local irreducible] LC.wp Q3 Qz QM retQ Q1x LO.wp Qf Calls
set_option linter.unusedSimpArgs false
set_option linter.unusedVariables false
attribute [local irreducible] bitI IntKind.wrap Q3g rdLong rdMany QA mmap Q27 Qe Q3G Q20 QG Q1c Q2q
variable {cx : Cx} {w : World} {L : List Res}
section
attribute [local semireducible] Q1c Q2q
theorem Qky {N : Nat} {r : List UInt8} {e : Flt} (h : rdLong N r = .error e) : Q1c N r = .error e := by simp only [Q1c, Qj, h]
theorem QkB {N : Nat} {r r1 : List UInt8} {n : Int} {e : Flt} (h : rdLong N r = .ok (n, r1)) (h1 : QG N 6 r1 = .error e) : Q1c N r = .error e := by simp only [Q1c, Qj, h, h1]
theorem QkA {N : Nat} {r r1 r2 : List UInt8} {n : Int} {ps : List Ty} {e : Flt} (h : rdLong N r = .ok (n, r1)) (h1 : QG N 6 r1 = .ok (ps, r2)) (h2 : QA N (Q3G N) r2 = .error e) : Q1c N r = .error e := by simp only [Q1c, Qj, h, h1, h2]
theorem Qkz {N : Nat} {r r1 r2 r3 : List UInt8} {n : Int} {ps : List Ty} {c : List Ins} {e : Flt} (h : rdLong N r = .ok (n, r1)) (h1 : QG N 6 r1 = .ok (ps, r2)) (h2 : QA N (Q3G N) r2 = .ok (c, r3)) (h3 : Q20 N r3 = .error e) : Q1c N r = .error e := by simp only [Q1c, Qj, h, h1, h2, h3]
theorem Qkx {N : Nat} {r r1 r2 r3 r4 : List UInt8} {n : Int} {ps : List Ty} {c : List Ins} {t : Tail} (h : rdLong N r = .ok (n, r1)) (h1 : QG N 6 r1 = .ok (ps, r2)) (h2 : QA N (Q3G N) r2 = .ok (c, r3)) (h3 : Q20 N r3 = .ok (t, r4)) : Q1c N r = .ok (⟨n, ps, c, t⟩, r4) := by simp only [Q1c, Qj, h, h1, h2, h3]
theorem rdFun_e {N : Nat} {r : List UInt8} {e : Flt} (h : rdLong N r = .error e) : Q2q N r = .error e := by simp only [Q2q, Qj, h]
theorem rdFun_1 {N : Nat} {r r1 : List UInt8} {n : Int} {e : Flt} (h : rdLong N r = .ok (n, r1)) (h1 : QG N 6 r1 = .error e) : Q2q N r = .error e := by simp only [Q2q, Qj, h, h1]
theorem rdFun_2 {N : Nat} {r r1 r2 : List UInt8} {n : Int} {ps : List Ty} {e : Flt} (h : rdLong N r = .ok (n, r1)) (h1 : QG N 6 r1 = .ok (ps, r2)) (h2 : QG N 6 r2 = .error e) : Q2q N r = .error e := by simp only [Q2q, Qj, h, h1, h2]
theorem rdFun_3 {N : Nat} {r r1 r2 r3 : List UInt8} {n : Int} {ps rs : List Ty} {e : Flt} (h : rdLong N r = .ok (n, r1)) (h1 : QG N 6 r1 = .ok (ps, r2)) (h2 : QG N 6 r2 = .ok (rs, r3)) (h3 : QA N (Q1c N) r3 = .error e) : Q2q N r = .error e := by simp only [Q2q, Qj, h, h1, h2, h3]
theorem rdFun_o {N : Nat} {r r1 r2 r3 r4 : List UInt8} {n : Int} {ps rs : List Ty} {bl : List Block} (h : rdLong N r = .ok (n, r1)) (h1 : QG N 6 r1 = .ok (ps, r2)) (h2 : QG N 6 r2 = .ok (rs, r3)) (h3 : QA N (Q1c N) r3 = .ok (bl, r4)) : Q2q N r = .ok (⟨n, ps, rs, bl⟩, r4) := by simp only [Q2q, Qj, h, h1, h2, h3]
end
theorem Qkn {bs : List UInt8} {rb : Nat} {v : Value} (hb : bs.length ≤ 1000000) (hv : u8R.sl cx v bs) : RdC insR aggV Try.prog Qr [.pointer (some ⟨rb, 0, none⟩)] (Q3G bs.length) bs rb v cx L := by
  intro at1 c1 w1 r0 hle hat hS
  exact rdins_c hb (Rep.SR.up hv hle) hat hS
theorem Qkq {bs : List UInt8} {rb at0 : Nat} {v : Value} (hb : bs.length ≤ 1000000) (hv : u8R.sl cx v bs) (ha : at0 ≤ bs.length) (hS : St cx w (blk rb 120 [v, .int .i64 at0] :: L)) :
    Fins Try.prog Q2h [.pointer (some ⟨rb, 0, none⟩)] w (OkA blockR aggV (Q1c bs.length (bs.drop at0)) bs rb v at0 cx L) (Bad (Q1c bs.length (bs.drop at0)) rb v cx L) := by
  unfold Fins
  all_goals refine Q65 ?_
  all_goals (unfold codec_reader_block_lc; refine Q0 ?_; refine Q1 ?_; refine Qb hS ?_; intro p2 w1 hS; refine zn ?_; refine Q0 ?_; refine Q1 ?_; refine zm ?_; refine zE1 (c := Q3F hv ha hS.sp) (p := by rintro v9 w9 ⟨e, at1, h1, rfl, hS⟩; (repeat (first | refine Qv ?_ | refine Qw ?_ | refine fun _ => ?_)); refine Q1l ?_; refine .inr ⟨_, rfl, ?_⟩; exact ⟨e, at1, Qky h1, rfl, hS.sp⟩) (h := ?_); rintro v1 w1 ⟨n, at1, h1, h2, h3, rfl, hS⟩; refine zb1 [_, _, _, _, _, _, _, _, _, _, _, _] ?_; refine Qb hS ?_; intro p3 w1 hS; refine zsn hS ?_; intro w1 hS; have hS := hS.ns; refine zn ?_; refine Q0 ?_; refine Q1 ?_; refine zm ?_; refine Q1A rfl (Q8R hb 6 cx _ _ 0 at1 (by omega) (by omega) hv h3 (St.mv1 hS)) (by rintro v9 w9 ⟨e, at2, e2, rfl, hS⟩; (repeat (first | refine Qv ?_ | refine Qw ?_ | refine fun _ => ?_)); refine Q1l ?_; refine .inr ⟨_, rfl, ?_⟩; exact ⟨e, at2, QkB h1 e2, rfl, hS.sp⟩) ?_; rintro v2 w2 ⟨l1, at2, c2, e2, h4, h5, hle2, hl1, hS⟩; have hv2 := Rep.SR.up hv hle2; have ho1 := Rep.SR.oneC hl1; refine Q2 rfl ?_; refine zst hS ?_; intro w1 hS; have hS := hS.ns; refine zn ?_; refine Q0 ?_; refine Q1 ?_; refine zm ?_; refine zm ?_; refine s_mkb (u := [.pointer (some ⟨rb, 0, none⟩)]) rfl ?_; refine Q1A rfl (Qht (cx := c2) ⟨[_], [], rfl, rfl⟩ (by kernel_rfl) hb (Qkn hb hv2) hv2 h5 hS) (by rintro v9 w9 ⟨e, at3, e3, rfl, hS⟩; (repeat (first | refine Qv ?_ | refine Qw ?_ | refine fun _ => ?_)); refine Q1l ?_; refine .inr ⟨_, rfl, ?_⟩; exact ⟨e, at3, QkA h1 e2 e3, rfl, St.weak hS.sp hle2⟩) ?_; rintro v3 w3 ⟨l2, at3, c3, e3, h6, h7, hle3, hl2, hS⟩; have hv3 := Rep.SR.up hv2 hle3; have ho2 := Rep.SR.oneC hl2)
  all_goals (refine Q2 rfl ?_; refine zst hS ?_; intro w1 hS; have hS := hS.ns; refine zn ?_; refine Q0 ?_; refine Q1 ?_; refine zm ?_; refine Q1A rfl (rdend_c hb hv3 h7 hS) (by rintro v9 w9 ⟨e, at4, e4, rfl, hS⟩; (repeat (first | refine Qv ?_ | refine Qw ?_ | refine fun _ => ?_)); refine Q1l ?_; refine .inr ⟨_, rfl, ?_⟩; exact ⟨e, at4, Qkz h1 e2 e3 e4, rfl, St.weak hS.sp (hle2.trans hle3)⟩) ?_; rintro v4 w4 ⟨t, at4, c4, ds, e4, h8, h9, hle4, hd, rfl, hS⟩; obtain ⟨u1, u2, u3, u4, u5, rfl, q1, q2, q3, q4, q5⟩ := Qgk hd; have hone := endR.one hd; unfold aggV; refine Q2 rfl ?_; (first | (refine zsn hS ?_; intro w1 hS; have hS := hS.ns) | (refine zsm hS ?_; intro w1 hS; have hS := hS.ns)); refine zn ?_; refine Q0 ?_; have hd9 : blockR.at c4 [.int .i64 n, v2, v3, .int .i64 t.op, .int .i64 t.a, .int .i64 t.yes.block, u1, u2, .int .i64 t.no.block, u3, u4, u5] ⟨n, l1, l2, t⟩ := ⟨_, _, _, rfl, Rep.SR.up hl1 (hle3.trans hle4), Rep.SR.up hl2 hle4, hd⟩; refine Q1 ?_; refine zv hS ?_; refine zsn hS ?_; intro w1 hS; have hS := hS.ns; refine zn ?_; refine zr ?_; refine Qb2 vw (Qn (n := 12) (by kernel_rfl) (by kernel_rfl) (hS.blkAt fd) (by rfl) (by rfl)) ?_; exact .inl ⟨_, rfl, _, at4, c4, _, Qkx h1 e2 e3 e4, by omega, by omega, (hle2.trans hle3).trans hle4, hd9, rfl, hS.sp⟩)
theorem Qkp {bs : List UInt8} {rb : Nat} {v : Value} (hb : bs.length ≤ 1000000) (hv : u8R.sl cx v bs) : RdC blockR aggV Try.prog Q2h [.pointer (some ⟨rb, 0, none⟩)] (Q1c bs.length) bs rb v cx L := by
  intro at1 c1 w1 r0 hle hat hS
  exact Qkq hb (Rep.SR.up hv hle) hat hS
theorem rdfun_c {bs : List UInt8} {rb at0 : Nat} {v : Value} (hb : bs.length ≤ 1000000) (hv : u8R.sl cx v bs) (ha : at0 ≤ bs.length) (hS : St cx w (blk rb 120 [v, .int .i64 at0] :: L)) :
    Fins Try.prog Q1I [.pointer (some ⟨rb, 0, none⟩)] w (OkA funcR aggV (Q2q bs.length (bs.drop at0)) bs rb v at0 cx L) (Bad (Q2q bs.length (bs.drop at0)) rb v cx L) := by
  unfold Fins
  all_goals refine Q40 ?_
  all_goals (unfold codec_reader_function_lc; refine Q0 ?_; refine Q1 ?_; refine Qb hS ?_; intro p2 w1 hS; refine zn ?_; refine Q0 ?_; refine Q1 ?_; refine zm ?_; refine zE1 (c := Q3F hv ha hS.sp) (p := by rintro v9 w9 ⟨e, at1, h1, rfl, hS⟩; (repeat (first | refine Qv ?_ | refine Qw ?_ | refine fun _ => ?_)); refine Q1l ?_; refine .inr ⟨_, rfl, ?_⟩; exact ⟨e, at1, rdFun_e h1, rfl, hS.sp⟩) (h := ?_); rintro v1 w1 ⟨n, at1, h1, h2, h3, rfl, hS⟩; refine zb1 [_, _, _, _] ?_; refine Qb hS ?_; intro p3 w1 hS; refine zsn hS ?_; intro w1 hS; have hS := hS.ns; refine zn ?_; refine Q0 ?_; refine Q1 ?_; refine zm ?_; refine Q1A rfl (Q8R hb 6 cx _ _ 0 at1 (by omega) (by omega) hv h3 (St.mv1 hS)) (by rintro v9 w9 ⟨e, at2, e2, rfl, hS⟩; (repeat (first | refine Qv ?_ | refine Qw ?_ | refine fun _ => ?_)); refine Q1l ?_; refine .inr ⟨_, rfl, ?_⟩; exact ⟨e, at2, rdFun_1 h1 e2, rfl, hS.sp⟩) ?_; rintro v2 w2 ⟨l1, at2, c2, e2, h4, h5, hle2, hl1, hS⟩; have hv2 := Rep.SR.up hv hle2; have ho1 := Rep.SR.oneC hl1; refine Q2 rfl ?_; refine zst hS ?_; intro w1 hS; have hS := hS.ns; refine zn ?_; refine Q0 ?_; refine Q1 ?_; refine zm ?_; refine Q1A rfl (Q8R hb 6 c2 _ _ 0 at2 (by omega) (by omega) hv2 h5 hS) (by rintro v9 w9 ⟨e, at3, e3, rfl, hS⟩; (repeat (first | refine Qv ?_ | refine Qw ?_ | refine fun _ => ?_)); refine Q1l ?_; refine .inr ⟨_, rfl, ?_⟩; exact ⟨e, at3, rdFun_2 h1 e2 e3, rfl, St.weak hS.sp hle2⟩) ?_; rintro v3 w3 ⟨l2, at3, c3, e3, h6, h7, hle3, hl2, hS⟩; have hv3 := Rep.SR.up hv2 hle3; have ho2 := Rep.SR.oneC hl2)
  all_goals (refine Q2 rfl ?_; refine zst hS ?_; intro w1 hS; have hS := hS.ns; refine zn ?_; refine Q0 ?_; refine Q1 ?_; refine zm ?_; refine zm ?_; refine s_mkb (u := [.pointer (some ⟨rb, 0, none⟩)]) rfl ?_; refine Q1A rfl (Qhv (cx := c3) ⟨[_], [], rfl, rfl⟩ (by kernel_rfl) hb (Qkp hb hv3) hv3 h7 hS) (by rintro v9 w9 ⟨e, at4, e4, rfl, hS⟩; (repeat (first | refine Qv ?_ | refine Qw ?_ | refine fun _ => ?_)); refine Q1l ?_; refine .inr ⟨_, rfl, ?_⟩; exact ⟨e, at4, rdFun_3 h1 e2 e3 e4, rfl, St.weak hS.sp (hle2.trans hle3)⟩) ?_; rintro v4 w4 ⟨l3, at4, c4, e4, h8, h9, hle4, hl3, hS⟩; have ho3 := Rep.SR.oneC hl3; refine Q2 rfl ?_; refine zst hS ?_; intro w1 hS; have hS := hS.ns; refine zn ?_; refine Q0 ?_; have hd9 : funcR.at c4 [.int .i64 n, v2, v3, v4] ⟨n, l1, l2, l3⟩ := ⟨_, _, _, rfl, Rep.SR.up hl1 (hle3.trans hle4), Rep.SR.up hl2 hle4, hl3⟩; refine Q1 ?_; refine zv hS ?_; refine zsn hS ?_; intro w1 hS; have hS := hS.ns; refine zn ?_; refine zr ?_; refine Qb2 vw (Qn (n := 4) (by kernel_rfl) (by kernel_rfl) (hS.blkAt fd) (by rfl) (by rfl)) ?_; exact .inl ⟨_, rfl, _, at4, c4, _, rdFun_o h1 e2 e3 e4, by omega, by omega, (hle2.trans hle3).trans hle4, hd9, rfl, hS.sp⟩)
theorem Qko {bs : List UInt8} {rb : Nat} {v : Value} (hb : bs.length ≤ 1000000) (hv : u8R.sl cx v bs) : RdC funcR aggV Try.prog Q1I [.pointer (some ⟨rb, 0, none⟩)] (Q2q bs.length) bs rb v cx L := by
  intro at1 c1 w1 r0 hle hat hS
  exact rdfun_c hb (Rep.SR.up hv hle) hat hS
end Go.Proofs.Ytanlkfeogoganaa
namespace Go.Proofs.Ytanlkfeogoganaa
open Go.Lir
set_option maxHeartbeats 1000000
attribute [local irreducible] LC.wp Q3 Qz QM retQ Q1x LO.wp Qf Calls
set_option linter.unusedSimpArgs false
set_option linter.unusedVariables false
variable {cx : Cx} {w : World} {L : List Res}
theorem QjW {P : Program} {T : TypeId} (h : aggT P T = true) : ∃ D, P.underlying T = some D ∧ ∀ m, D ≠ .interface m := by
  unfold aggT at h
  split at h
  · exact ⟨_, by assumption, by intro m h; cases h⟩
  · exact ⟨_, by assumption, by intro m h; cases h⟩
  · cases h
theorem Q39 {p q : Nat} {cs ds : List Value} (hS : St cx w (blk p 24 cs :: blk q 47 ds :: L)) : Defs Try.prog Q3M [.pointer (some ⟨p, 0, none⟩), .pointer (some ⟨q, 0, none⟩)] .returning w fun u' w' => u' = .returning ∧ St cx w' (blk p 24 cs :: blk q 47 ds :: L) := by
  unfold Defs
  all_goals refine Q3s ?_
  all_goals (unfold codec_Decode_1_ld; refine r_seq ?_; refine r_sp ?_; refine zn ?_; refine zm ?_; refine zn ?_; refine r_pl ?_; refine Q0 ?_; refine Q1 ?_; refine zm ?_; refine s_inil_f (ms := #[]) (by kernel_rfl) rfl ?_; refine zn ?_)
  all_goals refine Q6 rfl ?_
  all_goals (refine zsk ?_; refine q_endR ?_; refine Q2x ?_; exact ⟨⟨_, rfl⟩, rfl, hS.sp⟩)
theorem Ql2 {p q : Nat} {v0 a0 b0 : Value} {e : Flt} (hS : St cx w (blk p 24 [v0] :: blk q 47 [a0, b0] :: L)) : Defs Try.prog Q3M [.pointer (some ⟨p, 0, none⟩), .pointer (some ⟨q, 0, none⟩)] (.panicking [{ v := Ql5 e, recovered := false }]) w fun u' w' => u' = .panicking [{ v := Ql5 e, recovered := true }] ∧ St cx w' (blk p 24 [vn] :: blk q 47 [.int .i64 e.1, .int .i64 e.2] :: L) := by
  obtain ⟨D, hD, hi⟩ := QjW (P := Try.prog) (T := 116) (by kernel_rfl)
  unfold Defs
  all_goals refine Q3s ?_
  all_goals (unfold codec_Decode_1_ld; refine r_seq ?_; refine r_sp ?_; refine zn ?_; refine zm ?_; refine zn ?_; refine r_pl ?_; refine Q0 ?_; refine Q1 ?_; refine zm ?_; refine s_inil_t (ms := #[]) (by kernel_rfl) rfl ?_; refine zn ?_)
  all_goals refine Q5 rfl ?_
  all_goals (refine Q0 ?_; refine Q1 ?_; refine zm ?_; refine s_assert hD hi rfl ?_; refine zm ?_; refine Q8P rfl rfl ?_; refine Q8P rfl rfl ?_; refine Qb hS ?_; intro p3 w1 hS; refine zsn hS ?_; intro w1 hS; have hS := hS.ns; refine zm ?_; refine zn ?_; refine Q0 ?_; refine Q0 ?_; refine Q1 ?_; refine zm ?_; refine Q2J rfl ?_; refine zn ?_)
  all_goals refine Q6 rfl ?_
  all_goals (refine zsk ?_; refine zC [(0, none), (1, none), (2, some (some [1])), (3, some none)] ?_; have hS := hS.drew; refine s_cq ?_; refine zb0 [_] ?_; refine zt ?_; refine s_cq ?_; refine zv hS ?_; refine zt ?_; refine Qho ?_; refine zsn hS ?_; intro w1 hS; have hS := hS.ns; refine zt ?_; refine zy ?_; refine s_cf ?_; refine zsn hS ?_; intro w1 hS; have hS := hS.ns; refine zt ?_; refine zcn ?_; refine q_endR ?_; refine Q2x ?_; exact ⟨⟨_, rfl⟩, rfl, hS.sp⟩)
end Go.Proofs.Ytanlkfeogoganaa
namespace Go.Proofs.Ytanlkfeogoganaa
open Go.Lir
set_option maxHeartbeats 1000000
attribute [local irreducible] LC.wp Q3 Qz QM retQ Q1x LO.wp Qf Calls
set_option linter.unusedSimpArgs false
set_option linter.unusedVariables false
attribute [local irreducible] bitI IntKind.wrap
variable {cx : Cx} {w : World} {L : List Res}
theorem sum_c {bs : List UInt8} {v : Value} (hl : u8R.sl cx v bs) (hS : St cx w L) : Rets Try.prog Qi1 [v] w fun u w' => u = .int .u32 ((Q2g bs).toNat : Int) ∧ St cx w' L := by
  have hlen := hl.len
  all_goals refine Qi0 ?_
  all_goals (unfold codec_Sum_lc; refine Q0 ?_; refine Q1 ?_; refine zm ?_; refine zn ?_; refine Q0 ?_; refine Q1 ?_; refine zm ?_; refine zn ?_; refine Q0 ?_; refine Q0 ?_; refine Q1 ?_; refine zm ?_; refine zL ?_; refine zm ?_; refine zn ?_; refine Qa ?_)
  refine zoL hS [6, 7] (fun A LL ρ' w' => ∃ (j : Nat) (c : BitVec 32), Has ρ' A ∧ Has ρ' [(3, .int .u32 (c.toNat : Int)), (8, .int .i64 j)] ∧ (j ≤ bs.length) ∧ (bs.foldl Qgs 4294967295#32 = (bs.drop j).foldl Qgs c) ∧ St cx w' (LL)) (fun ρ' _ => (bs.length - iv (ρ' 8)).toNat) ?_ ?_
  · exact ⟨0, 4294967295#32, zh, zh, (by omega), by rw [List.drop_zero], hS.sp⟩
  rintro ρ w1 ⟨j, c, hA, hρ, hj, hd, hS⟩; obtain ⟨ρ, rfl⟩ := env2 hA hρ
  unfold Qb6
  all_goals (refine Q0 ?_; refine Q1 ?_; refine Qu rfl rfl ?_; refine zn ?_; refine Q0 ?_)
  refine Ql rfl (fun hc => ?_) (fun hc => ?_)
  · skip
    all_goals (refine zsk ?_; refine Q0 ?_; refine Qa ?_; refine Q0 ?_; refine Q1 ?_; refine zi ?_; intro b1 o1 cs1 x1 hat1 hx1 he1; (first | (obtain rfl := Q1M he1) | (obtain rfl := Q5f he1)); (first | (refine zl hS ?_) | (refine zlk hS ?_)); refine zm ?_; refine zn ?_; refine Q0 ?_; refine Q1 ?_; refine zm ?_; refine zm ?_; refine Q3l rfl ?_; rw [bv_byte]; refine Qk6 rfl rfl ?_; rw [Ql8]; refine zm ?_; refine zn ?_; refine Q0 ?_; refine Q1 ?_; refine zm ?_; refine zn ?_; refine Qa ?_)
    refine zoL hS [6, 7, 8] (fun A LL ρ' w' => ∃ (k : Nat) (c1 : BitVec 32), Has ρ' A ∧ Has ρ' [(3, .int .u32 (c1.toNat : Int)), (16, .int .i64 k)] ∧ (k ≤ 8) ∧ (Qgs c x1 = crcN (8 - k) c1) ∧ St cx w' (LL)) (fun ρ' _ => (8 - iv (ρ' 16)).toNat) ?_ ?_
    · exact ⟨0, _, zh, zh, (by omega), by rfl, hS.sp⟩
    rintro ρ w1 ⟨k, c1, hA, hρ, hk, hd1, hS⟩; obtain ⟨ρ, rfl⟩ := env2 hA hρ
    unfold Qb5
    all_goals (refine Q0 ?_; refine Q1 ?_; refine Qu rfl rfl ?_; refine zn ?_; refine Q0 ?_)
    refine Ql rfl (fun hc => ?_) (fun hc => ?_)
    · skip
      all_goals (refine zsk ?_; refine Q0 ?_; refine Qa ?_; refine Q1 ?_; refine zm ?_; refine QeI rfl rfl (by decide) ?_; rw [bv_shr]; refine zm ?_; refine Q9K rfl rfl ?_; rw [show (1 : Int) = ((1#32).toNat : Int) from rfl, bv_and]; refine s_neg rfl ?_; rw [bv_neg]; refine Q9K rfl rfl ?_; rw [show (3988292384 : Int) = ((3988292384#32).toNat : Int) from rfl, bv_and]; refine Qk6 rfl rfl ?_; rw [Ql8]; refine zm ?_; refine zn ?_; refine Q1 ?_; refine zad ?_; refine zm ?_; refine zn ?_; exact ⟨⟨k + 1, Ql3 c1, zh, zh, (by omega), by rw [hd1, show 8 - k = (8 - (k + 1)) + 1 by omega]; rfl, hS.sp⟩, Qh (by omega)⟩)
    · skip
      all_goals (refine zex ?_; refine Q1 ?_; refine zad ?_; refine zm ?_; refine zn ?_; exact ⟨⟨j + 1, c1, zh, zh, (by omega), by rw [hd, Q7 hx1, List.foldl_cons, hd1, show 8 - k = 0 by omega]; rfl, hS.sp⟩, Qh (by omega)⟩)
  · skip
    all_goals (refine zex ?_; refine Q0 ?_; refine Q1 ?_; refine zm ?_; refine s_compl rfl ?_; refine zm ?_; refine zn ?_; refine zr ?_; refine zf ?_; refine ⟨_, rfl, ?_, hS.sp⟩; unfold Q2g; rw [hd, List.drop_of_length_le (by omega)]; rfl; done)
end Go.Proofs.Ytanlkfeogoganaa
namespace Go.Proofs.Ytanlkfeogoganaa
open Go.Lir
set_option maxRecDepth 100000

/- 3 -/
/- 4 -/
/- 10 -/
/- 11 -/
def Qc8 : List GO := [qb 1 24 0, qk 2 (.bool false)]
def Qc7 : List GO := [qf 8 1 0, ql 9 8, qL 10 9, qj 11 .gtr 3 10 20]
def Qc6 : List GO := [qk 2 (.bool true)]
def Qc5 : List GO := [qk 3 (vi 0)]
def Qc4 : List GO := [qm 12 3, qf 13 1 0, ql 14 13, qL 15 14, qt 16 .lss 3 12 15]
def Qc3 : List GO := [qf 19 1 0, ql 20 19, qm 21 3, qi 22 4 20 21, qV 23 4 22, ⟨none, .alloc 4 31 [(vi 0), vn, vn, vn]⟩, qw 4 4 23]
def Qc2 : List GO := [qf 24 4 3, ql 25 24, qL 26 25, qj 27 .gtr 3 26 30, qm 28 27, qg 28 false (qf 29 4 1), qg 28 false (ql 30 29), ⟨some (28, false), .call (some 31) 46 [(.tmp 30)]⟩, ⟨none, .pick 32 (.tmp 28) (.const (.bool true)) (.tmp 31)⟩, qm 33 32, qg 33 false (qf 34 4 2), qg 33 false (ql 35 34), ⟨some (33, false), .call (some 36) 46 [(.tmp 35)]⟩, ⟨none, .pick 37 (.tmp 33) (.const (.bool true)) (.tmp 36)⟩]
def Qc1 : List GO := [qk 2 (.bool true)]
def Qc0 : List GO := [qk 5 (vi 0)]
def QbZ : List GO := [qm 38 5, qf 39 4 3, ql 40 39, qL 41 40, qt 42 .lss 3 38 41]
def QaL : List GO := [qf 45 4 3, ql 46 45, qm 47 5, qi 48 12 46 47, qV 49 12 48, ⟨none, .alloc 6 77 [(vi 0), vn, vn, (vi 0), (vi 0), (vi 0), vn, vn, (vi 0), vn, vn, vn]⟩, qw 12 6 49]
def QaK : List GO := [qf 50 6 2, ql 51 50, qL 52 51, qj 53 .gtr 3 52 200, qm 54 53, qg 54 false (qf 55 6 1), qg 54 false (ql 56 55), ⟨some (54, false), .call (some 57) 46 [(.tmp 56)]⟩, ⟨none, .pick 58 (.tmp 54) (.const (.bool true)) (.tmp 57)⟩, qm 59 58, qg 59 false (qf 60 6 3), qg 59 false (qf 61 60 8), qg 59 false (ql 62 61), qg 59 false (qL 63 62), qg 59 false (qj 64 .gtr 3 63 300), ⟨none, .pick 65 (.tmp 59) (.const (.bool true)) (.tmp 64)⟩, qm 66 65, qg 66 false (qf 67 6 3), qg 66 false (qf 68 67 2), qg 66 false (qf 69 68 1), qg 66 false (ql 70 69), qg 66 false (qL 71 70), qg 66 false (qj 72 .gtr 3 71 300), ⟨none, .pick 73 (.tmp 66) (.const (.bool true)) (.tmp 72)⟩, qm 74 73, qg 74 false (qf 75 6 3), qg 74 false (qf 76 75 2), qg 74 false (qf 77 76 2), qg 74 false (ql 78 77), qg 74 false (qL 79 78), qg 74 false (qj 80 .gtr 3 79 300), ⟨none, .pick 81 (.tmp 74) (.const (.bool true)) (.tmp 80)⟩, qm 82 81, qg 82 false (qf 83 6 3), qg 82 false (qf 84 83 5), qg 82 false (qf 85 84 1), qg 82 false (ql 86 85), qg 82 false (qL 87 86), qg 82 false (qj 88 .gtr 3 87 300), ⟨none, .pick 89 (.tmp 82) (.const (.bool true)) (.tmp 88)⟩, qm 90 89, qg 90 false (qf 91 6 3), qg 90 false (qf 92 91 5), qg 90 false (qf 93 92 2), qg 90 false (ql 94 93), qg 90 false (qL 95 94), qg 90 false (qj 96 .gtr 3 95 300), ⟨none, .pick 97 (.tmp 90) (.const (.bool true)) (.tmp 96)⟩]
def QaJ : List GO := [qk 2 (.bool true)]
def QaI : List GO := [qk 7 (vi 0)]
def QaH : List GO := [qm 98 7, qf 99 6 2, ql 100 99, qL 101 100, qt 102 .lss 3 98 101]
def QaG : List GO := [qf 105 6 2, ql 106 105, qm 107 7, qi 108 8 106 107, qf 109 108 6, ql 110 109, qL 111 110, qj 112 .gtr 3 111 300, qm 113 112, qg 113 false (qf 114 6 2), qg 113 false (ql 115 114), qg 113 false (qm 116 7), qg 113 false (qi 117 8 115 116), qg 113 false (qf 118 117 7), qg 113 false (ql 119 118), qg 113 false (qL 120 119), qg 113 false (qj 121 .gtr 3 120 300), ⟨none, .pick 122 (.tmp 113) (.const (.bool true)) (.tmp 121)⟩]
def QaF : List GO := [qk 2 (.bool true)]
def QaE : List GO := [qm 103 7, qj 104 .add 3 103 1, qm 7 104]
def Q46 : LC := (.seq (.seq (.ops QaH) (.cond (.tmp 102) .skip (.exit 4))) (.seq (.block 5 (.seq (.ops QaG) (.cond (.tmp 122) (.seq (.ops QaF) .ret) .skip))) (.ops QaE)))
def QaD : List GO := [qm 43 5, qj 44 .add 3 43 1, qm 5 44]
def Q4J : LC := (.seq (.seq (.ops QbZ) (.cond (.tmp 42) .skip (.exit 2))) (.seq (.block 3 (.seq (.ops QaL) (.seq (.seq (.ops QaK) (.cond (.tmp 97) (.seq (.ops QaJ) .ret) .skip)) (.seq (.ops QaI) (.block 4 (.loop Q46)))))) (.ops QaD)))
def QaC : List GO := [qm 17 3, qj 18 .add 3 17 1, qm 3 18]
def Q4K : LC := (.seq (.seq (.ops Qc4) (.cond (.tmp 16) .skip (.exit 0))) (.seq (.block 1 (.seq (.ops Qc3) (.seq (.seq (.ops Qc2) (.cond (.tmp 37) (.seq (.ops Qc1) .ret) .skip)) (.seq (.ops Qc0) (.block 2 (.loop Q4J)))))) (.ops QaC)))
def QaB : List GO := [qk 2 (.bool false)]
def R_GreatModule_lc : LC := (.seq (.ops Qc8) (.seq (.seq (.ops Qc7) (.cond (.tmp 11) (.seq (.ops Qc6) .ret) .skip)) (.seq (.seq (.ops Qc5) (.block 0 (.loop Q4K))) (.seq (.ops QaB) .ret))))
@[reducible] def QW : FuncId := 11
theorem QaM : lowF Try.prog Try.f11 = some R_GreatModule_lc := by kernel_rfl
theorem Qc9 {a0 : Value} {w : World} {R : Ending → World → Prop} (h : R_GreatModule_lc.wp Try.prog (retQ Try.prog [.tmp 2] R) (Qc [a0]) w) : Calls Try.prog QW ⟨[a0]⟩ w R :=
  Q4 Try.func11 QaM (by kernel_rfl) (by kernel_rfl) h

/- 12 -/
/- 13 -/
/- 14 -/
/- 15 -/
/- 16 -/
def QeM : List GO := [qk 2 (vi 0)]
def QeL : List GO := [qm 3 0, qj 4 .mul 3 3 10000, qj 5 .add 3 4 9999, qm 2 5]
def code_FuncAt_lc : LC := (.seq (.ops QeM) (.seq (.ops QeL) .ret))
@[reducible] def QdO : FuncId := 16
theorem QdN : lowF Try.prog Try.f16 = some code_FuncAt_lc := by kernel_rfl
theorem QeN {a0 : Value} {w : World} {R : Ending → World → Prop} (h : code_FuncAt_lc.wp Try.prog (retQ Try.prog [.tmp 2] R) (Qc [a0]) w) : Calls Try.prog QdO ⟨[a0]⟩ w R :=
  Q4 Try.func16 QdN (by kernel_rfl) (by kernel_rfl) h

/- 17 -/
/- 18 -/
def QdT : List GO := [qk 4 (vi 0)]
def QdS : List GO := [qm 5 0, qj 6 .mul 3 5 10000, qm 7 1, qj 8 .mul 3 7 100, qt 9 .add 3 6 8, qj 10 .add 3 9 90, qm 4 10]
def code_BlockAt_lc : LC := (.seq (.ops QdT) (.seq (.ops QdS) .ret))
@[reducible] def Qb7 : FuncId := 18
theorem QbQ : lowF Try.prog Try.f18 = some code_BlockAt_lc := by kernel_rfl
theorem QdU {a0 a1 : Value} {w : World} {R : Ending → World → Prop} (h : code_BlockAt_lc.wp Try.prog (retQ Try.prog [.tmp 4] R) (Qc [a0, a1]) w) : Calls Try.prog Qb7 ⟨[a0, a1]⟩ w R :=
  Q4 Try.func18 QbQ (by kernel_rfl) (by kernel_rfl) h

/- 19 -/
/- 20 -/
def QgB : List GO := [qk 4 (vi 0)]
def QgA : List GO := [qm 5 0, qj 6 .mul 3 5 10000, qm 7 1, qj 8 .mul 3 7 100, qt 9 .add 3 6 8, qj 10 .add 3 9 91, qm 4 10]
def code_EndAt_lc : LC := (.seq (.ops QgB) (.seq (.ops QgA) .ret))
@[reducible] def QfI : FuncId := 20
theorem QeO : lowF Try.prog Try.f20 = some code_EndAt_lc := by kernel_rfl
theorem QgC {a0 a1 : Value} {w : World} {R : Ending → World → Prop} (h : code_EndAt_lc.wp Try.prog (retQ Try.prog [.tmp 4] R) (Qc [a0, a1]) w) : Calls Try.prog QfI ⟨[a0, a1]⟩ w R :=
  Q4 Try.func20 QeO (by kernel_rfl) (by kernel_rfl) h

/- 21 -/
/- 22 -/
def Qgy : List GO := [qk 6 (vi 0)]
def Qgx : List GO := [qm 7 0, qj 8 .mul 3 7 10000, qm 9 1, qj 10 .mul 3 9 100, qt 11 .add 3 8 10, qm 12 2, qt 13 .add 3 11 12, qm 6 13]
def code_InsAt_lc : LC := (.seq (.ops Qgy) (.seq (.ops Qgx) .ret))
@[reducible] def QfH : FuncId := 22
theorem QeK : lowF Try.prog Try.f22 = some code_InsAt_lc := by kernel_rfl
theorem Qgz {a0 a1 a2 : Value} {w : World} {R : Ending → World → Prop} (h : code_InsAt_lc.wp Try.prog (retQ Try.prog [.tmp 6] R) (Qc [a0, a1, a2]) w) : Calls Try.prog QfH ⟨[a0, a1, a2]⟩ w R :=
  Q4 Try.func22 QeK (by kernel_rfl) (by kernel_rfl) h

/- 23 -/
/- 24 -/
/- 25 -/
def QgM : List GO := [qb 1 24 0, ⟨none, .alloc 2 47 [(vi 0), (vi 0)]⟩]
def QgL : List GO := [qV 7 1 1, ⟨none, .build 8 [vn, (vi 0), (vi 0), (vi 0)] [(0, (1, (.tmp 7))), (3, (1, (.const (vi (-1)))))]⟩, qb 9 83 8, qm 3 9]
def QgK : List GO := [qm 10 3, qf 11 1 0, ql 12 11, qL 13 12, qj 14 .eql 3 13 0, qm 15 14, qg 15 false (qf 16 1 0), qg 15 false (ql 17 16), qg 15 false (qL 18 17), qg 15 false (qj 19 .gtr 3 18 8), ⟨none, .pick 20 (.tmp 15) (.const (.bool true)) (.tmp 19)⟩, ⟨none, .call (some 21) 54 [(.tmp 10), (.tmp 20), (.const (vi 2))]⟩]
def QgJ : List GO := [qk 4 (vi 0)]
def QgI : List GO := [qm 22 4, qf 23 1 0, ql 24 23, qL 25 24, qt 26 .lss 3 22 25, qm 27 26, qg 27 true (qm 28 3), qg 27 true (qn 29 28), qg 27 true (qf 30 29 1), qg 27 true (qf 31 30 0), qg 27 true (ql 32 31), qg 27 true (qj 33 .eql 3 32 0), ⟨none, .pick 34 (.tmp 27) (.tmp 33) (.const (.bool false))⟩]
def QgH : List GO := [qf 37 1 0, ql 38 37, qm 39 4, qi 40 4 38 39, qV 41 4 40, ⟨none, .alloc 5 31 [(vi 0), vn, vn, vn]⟩, qw 4 5 41]
def QgG : List GO := [qm 42 3, qm 43 4, ⟨none, .call (some 44) 16 [(.tmp 43)]⟩, qn 45 42, qf 46 45 3, qs 46 44]
def QgF : List GO := [qm 47 3, qf 48 5 0, ql 49 48, qj 50 .lss 3 49 0, qm 51 50, qg 51 false (qf 52 5 0), qg 51 false (ql 53 52), qg 51 false (qj 54 .gtr 3 53 6), ⟨none, .pick 55 (.tmp 51) (.const (.bool true)) (.tmp 54)⟩, ⟨none, .call (some 56) 54 [(.tmp 47), (.tmp 55), (.const (vi 1))]⟩]
def QgE : List GO := [qm 57 3, qf 58 5 1, ql 59 58, qf 60 5 0, ql 61 60, ⟨none, .call (some 62) 55 [(.tmp 57), (.tmp 59), (.tmp 61)]⟩]
def QgD : List GO := [qm 63 3, qf 64 5 2, ql 65 64, qf 66 5 0, ql 67 66, ⟨none, .call (some 68) 55 [(.tmp 63), (.tmp 65), (.tmp 67)]⟩]
def QeW : List GO := [qm 69 3, qf 70 5 3, ql 71 70, qL 72 71, qj 73 .eql 3 72 0, qm 74 73, qg 74 false (qf 75 5 3), qg 74 false (ql 76 75), qg 74 false (qL 77 76), qg 74 false (qj 78 .gtr 3 77 12), ⟨none, .pick 79 (.tmp 74) (.const (.bool true)) (.tmp 78)⟩, ⟨none, .call (some 80) 54 [(.tmp 69), (.tmp 79), (.const (vi 2))]⟩]
def QeV : List GO := [qm 81 3, qm 82 4, qj 83 .eql 3 82 0, qm 84 83, qg 84 true (qf 85 5 0), qg 84 true (ql 86 85), qg 84 true (qj 87 .gtr 3 86 0), qg 84 true (qm 88 87), qg 88 false (qf 89 5 1), qg 88 false (ql 90 89), qg 88 false (qL 91 90), qg 88 false (qj 92 .gtr 3 91 0), ⟨some (84, true), .pick 93 (.tmp 88) (.const (.bool true)) (.tmp 92)⟩, qg 84 true (qm 94 93), qg 94 false (qf 95 5 2), qg 94 false (ql 96 95), ⟨some (94, false), .call (some 97) 56 [(.tmp 96), (.func 57)]⟩, ⟨some (84, true), .pick 98 (.tmp 94) (.const (.bool true)) (.tmp 97)⟩, ⟨none, .pick 99 (.tmp 84) (.tmp 98) (.const (.bool false))⟩, ⟨none, .call (some 100) 54 [(.tmp 81), (.tmp 99), (.const (vi 18))]⟩]
def QeU : List GO := [qk 6 (vi 0)]
def QeT : List GO := [qm 101 6, qf 102 5 3, ql 103 102, qL 104 103, qt 105 .lss 3 101 104, qm 106 105, qg 106 true (qm 107 3), qg 106 true (qn 108 107), qg 106 true (qf 109 108 1), qg 106 true (qf 110 109 0), qg 106 true (ql 111 110), qg 106 true (qj 112 .eql 3 111 0), ⟨none, .pick 113 (.tmp 106) (.tmp 112) (.const (.bool false))⟩]
def QeS : List GO := [qm 116 3, qm 117 4, qm 118 6, ⟨none, .call (some 119) 58 [(.tmp 116), (.tmp 117), (.tmp 118)]⟩]
def QeR : List GO := [qm 114 6, qj 115 .add 3 114 1, qm 6 115]
def Q7u : LC := (.seq (.seq (.ops QeT) (.cond (.tmp 113) .skip (.exit 2))) (.seq (.block 3 (.ops QeS)) (.ops QeR)))
def QeQ : List GO := [qm 35 4, qj 36 .add 3 35 1, qm 4 36]
def Q9C : LC := (.seq (.seq (.ops QgI) (.cond (.tmp 34) .skip (.exit 0))) (.seq (.block 1 (.seq (.ops QgH) (.seq (.ops QgG) (.seq (.ops QgF) (.seq (.ops QgE) (.seq (.ops QgD) (.seq (.ops QeW) (.seq (.ops QeV) (.seq (.ops QeU) (.block 2 (.loop Q7u))))))))))) (.ops QeQ)))
def QeP : List GO := [qm 120 3, qn 121 120, qf 122 121 1, qV 123 2 122, qw 2 2 123]
def code_Check_lc : LC := (.seq (.ops QgM) (.seq (.ops QgL) (.seq (.ops QgK) (.seq (.seq (.ops QgJ) (.block 0 (.loop Q9C))) (.seq (.ops QeP) .ret)))))
@[reducible] def Q2Y : FuncId := 25
theorem QeX : lowF Try.prog Try.f25 = some code_Check_lc := by kernel_rfl
theorem QgN {a0 : Value} {w : World} {R : Ending → World → Prop} (h : code_Check_lc.wp Try.prog (retQ Try.prog [.cell 2 47] R) (Qc [a0]) w) : Calls Try.prog Q2Y ⟨[a0]⟩ w R :=
  Q4 Try.func25 QeX (by kernel_rfl) (by kernel_rfl) h

/- 26 -/
/- 27 -/
def Qeh : List GO := [qb 2 24 0, qb 3 24 1, qk 4 (.bool false)]
def Qeg : List GO := [qf 9 2 0, ql 10 9, qL 11 10, qf 12 3 0, ql 13 12, qL 14 13, qt 15 .neq 3 11 14]
def Qef : List GO := [qk 4 (.bool false)]
def Qee : List GO := [qk 5 (vi 0)]
def Qed : List GO := [qm 16 5, qf 17 2 0, ql 18 17, qL 19 18, qt 20 .lss 3 16 19]
def Qec : List GO := [qf 23 2 0, ql 24 23, qm 25 5, qi 26 4 24 25, qV 27 4 26, qf 28 3 0, ql 29 28, qm 30 5, qi 31 4 29 30, qV 32 4 31, ⟨none, .alloc 6 31 [(vi 0), vn, vn, vn]⟩, ⟨none, .alloc 7 31 [(vi 0), vn, vn, vn]⟩, qw 4 6 27, qw 4 7 32]
def Qej : List (List Nat) := [[],[0],[],[1,2],[3],[],[5],[],[6,7],[8],[],[],[10,4,0,1,2,3,4,10,11],[11,9,12,0,1,2,3,4,5,6,7,8,9,10,11,12]]
def Qeb : List GO := [qf 33 6 0, ql 34 33, qf 35 7 0, ql 36 35, qt 37 .neq 3 34 36, qm 38 37, qg 38 false (qf 39 6 1), qg 38 false (ql 40 39), qg 38 false (qf 41 7 1), qg 38 false (ql 42 41), ⟨some (38, false), .call (some 43) 41 [(.tmp 40), (.tmp 42)]⟩, ⟨some (38, false), .un 44 .not (.tmp 43)⟩, ⟨none, .pick 45 (.tmp 38) (.const (.bool true)) (.tmp 44)⟩, qm 46 45, qg 46 false (qf 47 6 2), qg 46 false (ql 48 47), qg 46 false (qf 49 7 2), qg 46 false (ql 50 49), ⟨some (46, false), .call (some 51) 41 [(.tmp 48), (.tmp 50)]⟩, ⟨some (46, false), .un 52 .not (.tmp 51)⟩, ⟨none, .pick 53 (.tmp 46) (.const (.bool true)) (.tmp 52)⟩, qm 54 53, qg 54 false (qf 55 6 3), qg 54 false (ql 56 55), qg 54 false (qL 57 56), qg 54 false (qf 58 7 3), qg 54 false (ql 59 58), qg 54 false (qL 60 59), qg 54 false (qt 61 .neq 3 57 60), ⟨none, .pick 62 (.tmp 54) (.const (.bool true)) (.tmp 61)⟩]
def Qea : List GO := [qk 4 (.bool false)]
def Qe9 : List GO := [qk 8 (vi 0)]
def Qe8 : List GO := [qm 63 8, qf 64 6 3, ql 65 64, qL 66 65, qt 67 .lss 3 63 66]
def QbW : List GO := [qf 70 6 3, ql 71 70, qm 72 8, qi 73 12 71 72, qV 74 12 73, qf 75 7 3, ql 76 75, qm 77 8, qi 78 12 76 77, qV 79 12 78, ⟨none, .call (some 80) 62 [(.tmp 74), (.tmp 79)]⟩, ⟨none, .un 81 .not (.tmp 80)⟩]
def QbY : List (List Nat) := [[],[0],[],[1,2],[3],[],[5],[],[6,7],[8],[4,9],[10]]
def QbV : List GO := [qk 4 (.bool false)]
def QbU : List GO := [qm 68 8, qj 69 .add 3 68 1, qm 8 69]
def Q3f : LC := (.seq (.seq (.ops Qe8) (.cond (.tmp 67) .skip (.exit 2))) (.seq (.block 3 (.seq (.draw QbW QbY) (.cond (.tmp 81) (.seq (.ops QbV) .ret) .skip))) (.ops QbU)))
def QbT : List GO := [qm 21 5, qj 22 .add 3 21 1, qm 5 22]
def Q6o : LC := (.seq (.seq (.ops Qed) (.cond (.tmp 20) .skip (.exit 0))) (.seq (.block 1 (.seq (.draw Qec Qej) (.seq (.seq (.ops Qeb) (.cond (.tmp 62) (.seq (.ops Qea) .ret) .skip)) (.seq (.ops Qe9) (.block 2 (.loop Q3f)))))) (.ops QbT)))
def QbS : List GO := [qk 4 (.bool true)]
def R_SameModule_lc : LC := (.seq (.ops Qeh) (.seq (.seq (.ops Qeg) (.cond (.tmp 15) (.seq (.ops Qef) .ret) .skip)) (.seq (.seq (.ops Qee) (.block 0 (.loop Q6o))) (.seq (.ops QbS) .ret))))
@[reducible] def QR : FuncId := 27
theorem QbX : lowF Try.prog Try.f27 = some R_SameModule_lc := by kernel_rfl
theorem Qei {a0 a1 : Value} {w : World} {R : Ending → World → Prop} (h : R_SameModule_lc.wp Try.prog (retQ Try.prog [.tmp 4] R) (Qc [a0, a1]) w) : Calls Try.prog QR ⟨[a0, a1]⟩ w R :=
  Q4 Try.func27 QbX (by kernel_rfl) (by kernel_rfl) h

/- 28 -/
/- 29 -/
/- 41 -/
def Qfj : List GO := [qk 4 (.bool false)]
def Qfi : List GO := [qm 6 0, qL 7 6, qm 8 1, qL 9 8, qt 10 .neq 3 7 9]
def Qfh : List GO := [qk 4 (.bool false)]
def Qfg : List GO := [qk 5 (vi 0)]
def Qff : List GO := [qm 11 5, qm 12 0, qL 13 12, qt 14 .lss 3 11 13]
def Qfe : List GO := [qm 17 0, qm 18 5, qi 19 3 17 18, qV 20 3 19, qm 21 1, qm 22 5, qi 23 3 21 22, qV 24 3 23, ⟨none, .call (some 25) 87 [(.tmp 20), (.tmp 24)]⟩, ⟨none, .un 26 .not (.tmp 25)⟩]
def Qfl : List (List Nat) := [[],[],[0,1],[2],[],[],[4,5],[6],[3,7],[8]]
def Qfd : List GO := [qk 4 (.bool false)]
def Qfc : List GO := [qm 15 5, qj 16 .add 3 15 1, qm 5 16]
def Q7w : LC := (.seq (.seq (.ops Qff) (.cond (.tmp 14) .skip (.exit 0))) (.seq (.block 1 (.seq (.draw Qfe Qfl) (.cond (.tmp 26) (.seq (.ops Qfd) .ret) .skip))) (.ops Qfc)))
def Qfb : List GO := [qk 4 (.bool true)]
def R_SameTypes_lc : LC := (.seq (.ops Qfj) (.seq (.seq (.ops Qfi) (.cond (.tmp 10) (.seq (.ops Qfh) .ret) .skip)) (.seq (.seq (.ops Qfg) (.block 0 (.loop Q7w))) (.seq (.ops Qfb) .ret))))
@[reducible] def Q25 : FuncId := 41
theorem Qe7 : lowF Try.prog Try.f41 = some R_SameTypes_lc := by kernel_rfl
theorem Qfk {a0 a1 : Value} {w : World} {R : Ending → World → Prop} (h : R_SameTypes_lc.wp Try.prog (retQ Try.prog [.tmp 4] R) (Qc [a0, a1]) w) : Calls Try.prog Q25 ⟨[a0, a1]⟩ w R :=
  Q4 Try.func41 Qe7 (by kernel_rfl) (by kernel_rfl) h

/- 42 -/
def Qha : List GO := [qk 4 (.bool false)]
def Qh9 : List GO := [qm 6 0, qL 7 6, qm 8 1, qL 9 8, qt 10 .neq 3 7 9]
def Qh8 : List GO := [qk 4 (.bool false)]
def Qh7 : List GO := [qk 5 (vi 0)]
def Qh6 : List GO := [qm 11 5, qm 12 0, qL 13 12, qt 14 .lss 3 11 13]
def Qh5 : List GO := [qm 17 0, qm 18 5, qi 19 1 17 18, ql 20 19, qm 21 1, qm 22 5, qi 23 1 21 22, ql 24 23, qt 25 .neq 3 20 24]
def Qhc : List (List Nat) := [[],[],[0,1],[2],[],[],[4,5],[6],[3,7]]
def Qh4 : List GO := [qk 4 (.bool false)]
def Qh3 : List GO := [qm 15 5, qj 16 .add 3 15 1, qm 5 16]
def Q9H : LC := (.seq (.seq (.ops Qh6) (.cond (.tmp 14) .skip (.exit 0))) (.seq (.block 1 (.seq (.draw Qh5 Qhc) (.cond (.tmp 25) (.seq (.ops Qh4) .ret) .skip))) (.ops Qh3)))
def Qh2 : List GO := [qk 4 (.bool true)]
def R_SameInts_lc : LC := (.seq (.ops Qha) (.seq (.seq (.ops Qh9) (.cond (.tmp 10) (.seq (.ops Qh8) .ret) .skip)) (.seq (.seq (.ops Qh7) (.block 0 (.loop Q9H))) (.seq (.ops Qh2) .ret))))
@[reducible] def Q2Z : FuncId := 42
theorem Qfn : lowF Try.prog Try.f42 = some R_SameInts_lc := by kernel_rfl
theorem Qhb {a0 a1 : Value} {w : World} {R : Ending → World → Prop} (h : R_SameInts_lc.wp Try.prog (retQ Try.prog [.tmp 4] R) (Qc [a0, a1]) w) : Calls Try.prog Q2Z ⟨[a0, a1]⟩ w R :=
  Q4 Try.func42 Qfn (by kernel_rfl) (by kernel_rfl) h

/- 45 -/
def Qih : List GO := [⟨none, .alloc 0 24 [vn]⟩]
def Qig : List GO := [⟨none, .build 1 [(vi 0), (vi 0), (vi 0), vn, vn, (vi 0), vn, vn, vn] [(0, (1, (.const (vi 3))))]⟩, ⟨none, .build 2 [(vi 0), vn, vn, (vi 0), (vi 0), (vi 0), vn, vn, (vi 0), vn, vn, vn] [(3, (9, (.tmp 1)))]⟩, ⟨none, .buildS 3 77 1 [(vi 0), vn, vn, (vi 0), (vi 0), (vi 0), vn, vn, (vi 0), vn, vn, vn] [(0, (12, (.tmp 2)))]⟩, ⟨none, .build 4 [(vi 0), vn, vn, vn] [(3, (1, (.tmp 3)))]⟩, ⟨none, .buildS 5 31 1 [(vi 0), vn, vn, vn] [(0, (4, (.tmp 4)))]⟩, ⟨none, .build 6 [vn] [(0, (1, (.tmp 5)))]⟩, qw 1 0 6]
def Law_least_lc : LC := (.seq (.ops Qih) (.seq (.ops Qig) .ret))
@[reducible] def Qij : FuncId := 45
theorem Qhd : lowF Try.prog Try.f45 = some Law_least_lc := by kernel_rfl
theorem Qii {w : World} {R : Ending → World → Prop} (h : Law_least_lc.wp Try.prog (retQ Try.prog [.cell 0 24] R) (Qc []) w) : Calls Try.prog Qij ⟨[]⟩ w R :=
  Q4 Try.func45 Qhd (by kernel_rfl) (by kernel_rfl) h

/- 46 -/
def Qe5 : List GO := [qk 2 (.bool false)]
def Qe4 : List GO := [qm 4 0, qL 5 4, qj 6 .gtr 3 5 200]
def Qe3 : List GO := [qk 2 (.bool true)]
def Qe2 : List GO := [qk 3 (vi 0)]
def Qe1 : List GO := [qm 7 3, qm 8 0, qL 9 8, qt 10 .lss 3 7 9]
def Qe0 : List GO := [qm 13 0, qm 14 3, qi 15 3 13 14, qV 16 3 15, ⟨none, .call (some 17) 89 [(.tmp 16)]⟩]
def QdZ : List GO := [qk 2 (.bool true)]
def QdY : List GO := [qm 11 3, qj 12 .add 3 11 1, qm 3 12]
def Q6n : LC := (.seq (.seq (.ops Qe1) (.cond (.tmp 10) .skip (.exit 0))) (.seq (.block 1 (.seq (.ops Qe0) (.cond (.tmp 17) (.seq (.ops QdZ) .ret) .skip))) (.ops QdY)))
def QdX : List GO := [qk 2 (.bool false)]
def R_greatTypes_lc : LC := (.seq (.ops Qe5) (.seq (.seq (.ops Qe4) (.cond (.tmp 6) (.seq (.ops Qe3) .ret) .skip)) (.seq (.seq (.ops Qe2) (.block 0 (.loop Q6n))) (.seq (.ops QdX) .ret))))
@[reducible] def Q29 : FuncId := 46
theorem QbR : lowF Try.prog Try.f46 = some R_greatTypes_lc := by kernel_rfl
theorem Qe6 {a0 : Value} {w : World} {R : Ending → World → Prop} (h : R_greatTypes_lc.wp Try.prog (retQ Try.prog [.tmp 2] R) (Qc [a0]) w) : Calls Try.prog Q29 ⟨[a0]⟩ w R :=
  Q4 Try.func46 QbR (by kernel_rfl) (by kernel_rfl) h

/- 47 -/
def Qap : List GO := [qb 3 27 1]
def Qao : List GO := [qm 5 0, qf 6 3 0, ql 7 6, qj 8 .lss 3 7 1, qm 9 8, qg 9 false (qf 10 3 0), qg 9 false (ql 11 10), qg 9 false (qj 12 .gtr 3 11 14), ⟨none, .pick 13 (.tmp 9) (.const (.bool true)) (.tmp 12)⟩, ⟨none, .call (some 14) 54 [(.tmp 5), (.tmp 13), (.const (vi 3))]⟩]
def Qan : List GO := [qf 15 3 0, ql 16 15, ⟨none, .call (some 17) 90 [(.tmp 16)]⟩, qm 4 17]
def Qam : List GO := [qm 18 0, qm 19 4, ⟨none, .call (some 20) 91 [(.tmp 19), (.const (.int .u8 97))]⟩, ⟨none, .un 21 .not (.tmp 20)⟩, qm 22 21, qg 22 true (qf 23 3 1), qg 22 true (ql 24 23), qg 22 true (qj 25 .neq 3 24 0), ⟨none, .pick 26 (.tmp 22) (.tmp 25) (.const (.bool false))⟩, qm 27 26, qg 27 false (qm 28 4), ⟨some (27, false), .call (some 29) 91 [(.tmp 28), (.const (.int .u8 98))]⟩, ⟨some (27, false), .un 30 .not (.tmp 29)⟩, qg 27 false (qm 31 30), qg 31 true (qf 32 3 2), qg 31 true (ql 33 32), qg 31 true (qj 34 .neq 3 33 0), ⟨some (27, false), .pick 35 (.tmp 31) (.tmp 34) (.const (.bool false))⟩, ⟨none, .pick 36 (.tmp 27) (.const (.bool true)) (.tmp 35)⟩, qm 37 36, qg 37 false (qm 38 4), ⟨some (37, false), .call (some 39) 91 [(.tmp 38), (.const (.int .u8 99))]⟩, ⟨some (37, false), .un 40 .not (.tmp 39)⟩, qg 37 false (qm 41 40), qg 41 true (qf 42 3 3), qg 41 true (ql 43 42), qg 41 true (qj 44 .neq 3 43 0), ⟨some (37, false), .pick 45 (.tmp 41) (.tmp 44) (.const (.bool false))⟩, ⟨none, .pick 46 (.tmp 37) (.const (.bool true)) (.tmp 45)⟩, qm 47 46, qg 47 false (qm 48 4), ⟨some (47, false), .call (some 49) 91 [(.tmp 48), (.const (.int .u8 107))]⟩, ⟨some (47, false), .un 50 .not (.tmp 49)⟩, qg 47 false (qm 51 50), qg 51 true (qf 52 3 4), qg 51 true (ql 53 52), qg 51 true (qj 54 .neq 3 53 0), ⟨some (47, false), .pick 55 (.tmp 51) (.tmp 54) (.const (.bool false))⟩, ⟨none, .pick 56 (.tmp 47) (.const (.bool true)) (.tmp 55)⟩, qm 57 56, qg 57 false (qm 58 4), ⟨some (57, false), .call (some 59) 91 [(.tmp 58), (.const (.int .u8 110))]⟩, ⟨some (57, false), .un 60 .not (.tmp 59)⟩, qg 57 false (qm 61 60), qg 61 true (qf 62 3 5), qg 61 true (ql 63 62), qg 61 true (qj 64 .neq 2 63 0), ⟨some (57, false), .pick 65 (.tmp 61) (.tmp 64) (.const (.bool false))⟩, ⟨none, .pick 66 (.tmp 57) (.const (.bool true)) (.tmp 65)⟩, qm 67 66, qg 67 false (qm 68 4), ⟨some (67, false), .call (some 69) 91 [(.tmp 68), (.const (.int .u8 103))]⟩, ⟨some (67, false), .un 70 .not (.tmp 69)⟩, qg 67 false (qm 71 70), qg 71 true (qf 72 3 6), qg 71 true (ql 73 72), qg 71 true (qL 74 73), qg 71 true (qj 75 .gtr 3 74 0), ⟨some (67, false), .pick 76 (.tmp 71) (.tmp 75) (.const (.bool false))⟩, ⟨none, .pick 77 (.tmp 67) (.const (.bool true)) (.tmp 76)⟩, qm 78 77, qg 78 false (qm 79 4), ⟨some (78, false), .call (some 80) 91 [(.tmp 79), (.const (.int .u8 114))]⟩, ⟨some (78, false), .un 81 .not (.tmp 80)⟩, qg 78 false (qm 82 81), qg 82 true (qf 83 3 7), qg 82 true (ql 84 83), qg 82 true (qL 85 84), qg 82 true (qj 86 .gtr 3 85 0), ⟨some (78, false), .pick 87 (.tmp 82) (.tmp 86) (.const (.bool false))⟩, ⟨none, .pick 88 (.tmp 78) (.const (.bool true)) (.tmp 87)⟩, ⟨none, .call (some 89) 54 [(.tmp 18), (.tmp 88), (.const (vi 4))]⟩]
def Qal : List GO := [qf 90 3 0, ql 91 90]
def Qak : List GO := [qj 93 .eql 3 91 2, qm 92 93]
def Qaj : List GO := [qm 94 0, qf 95 3 4, ql 96 95, qj 97 .lss 3 96 1, qm 98 97, qg 98 false (qf 99 3 4), qg 98 false (ql 100 99), qg 98 false (qj 101 .gtr 3 100 9), ⟨none, .pick 102 (.tmp 98) (.const (.bool true)) (.tmp 101)⟩, ⟨none, .call (some 103) 54 [(.tmp 94), (.tmp 102), (.const (vi 1))]⟩]
def Qai : List GO := [qj 105 .eql 3 91 5, qm 104 105]
def Qah : List GO := [qm 106 0, qf 107 3 7, ql 108 107, qL 109 108, qj 110 .gtr 3 109 8, ⟨none, .call (some 111) 54 [(.tmp 106), (.tmp 110), (.const (vi 2))]⟩]
def Qag : List GO := [qj 113 .eql 3 91 6, qm 112 113]
def Q9w : List GO := [qj 114 .eql 3 91 7, qm 112 114]
def Q9v : List GO := [qm 115 0, qf 116 3 4, ql 117 116, qj 118 .lss 3 117 0, qm 119 118, qg 119 false (qf 120 3 4), qg 119 false (ql 121 120), qg 119 false (qj 122 .geq 3 121 8), ⟨none, .pick 123 (.tmp 119) (.const (.bool true)) (.tmp 122)⟩, ⟨none, .call (some 124) 54 [(.tmp 115), (.tmp 123), (.const (vi 1))]⟩]
def Q9u : List GO := [qj 126 .eql 3 91 14, qm 125 126]
def Q9t : List GO := [qm 127 0, qf 128 3 4, ql 129 128, qj 130 .lss 3 129 0, qm 131 130, qg 131 false (qf 132 3 4), qg 131 false (ql 133 132), qg 131 false (qm 134 0), qg 131 false (qn 135 134), qg 131 false (qf 136 135 0), qg 131 false (qf 137 136 0), qg 131 false (ql 138 137), qg 131 false (qL 139 138), qg 131 false (qt 140 .geq 3 133 139), ⟨none, .pick 141 (.tmp 131) (.const (.bool true)) (.tmp 140)⟩, ⟨none, .call (some 142) 54 [(.tmp 127), (.tmp 141), (.const (vi 1))]⟩]
def Q9y : List (List Nat) := [[],[],[1],[2],[3],[4],[5,4],[4],[7,4],[8,4],[9,4],[10,4],[11,4],[6,12,4],[4,13],[0,14,4]]
def Q9s : List GO := [qm 143 0, qf 144 3 6, ql 145 144, qL 146 145, qj 147 .gtr 3 146 6, qm 148 147, qg 148 false (qf 149 3 7), qg 148 false (ql 150 149), qg 148 false (qL 151 150), qg 148 false (qj 152 .gtr 3 151 8), ⟨none, .pick 153 (.tmp 148) (.const (.bool true)) (.tmp 152)⟩, ⟨none, .call (some 154) 54 [(.tmp 143), (.tmp 153), (.const (vi 2))]⟩]
def code_judge_ins_lc : LC := (.seq (.ops Qap) (.seq (.ops Qao) (.seq (.ops Qan) (.seq (.ops Qam) (.seq (.ops Qal) (.block 0 (.seq (.ops Qak) (.cond (.tmp 92) (.ops Qaj) (.seq (.ops Qai) (.cond (.tmp 104) (.ops Qah) (.seq (.seq (.ops Qag) (.cond (.tmp 112) .skip (.ops Q9w))) (.cond (.tmp 112) (.ops Q9v) (.seq (.ops Q9u) (.cond (.tmp 125) (.seq (.draw Q9t Q9y) (.ops Q9s)) .skip))))))))))))))
@[reducible] def Qy : FuncId := 47
theorem Q9x : lowF Try.prog Try.f47 = some code_judge_ins_lc := by kernel_rfl
theorem Qaq {a0 a1 : Value} {w : World} {R : Ending → World → Prop} (h : code_judge_ins_lc.wp Try.prog (retQ Try.prog [] R) (Qc [a0, a1]) w) : Calls Try.prog Qy ⟨[a0, a1]⟩ w R :=
  Q4 Try.func47 Q9x (by kernel_rfl) (by kernel_rfl) h

/- 48 -/
/- 49 -/
def Qaw : List GO := [qb 4 31 1, qb 5 35 2]
def Qav : List GO := [qm 6 0, qf 7 5 0, ql 8 7, qj 9 .lss 3 8 1, qm 10 9, qg 10 false (qf 11 5 0), qg 10 false (ql 12 11), qg 10 false (qj 13 .gtr 3 12 3), ⟨none, .pick 14 (.tmp 10) (.const (.bool true)) (.tmp 13)⟩, ⟨none, .call (some 15) 54 [(.tmp 6), (.tmp 14), (.const (vi 3))]⟩]
def Qau : List GO := [qm 16 0, qf 17 5 0, ql 18 17, qj 19 .neq 3 18 2, qm 20 19, qg 20 true (qf 21 5 1), qg 20 true (ql 22 21), qg 20 true (qj 23 .neq 3 22 0), ⟨none, .pick 24 (.tmp 20) (.tmp 23) (.const (.bool false))⟩, qm 25 24, qg 25 false (qf 26 5 0), qg 25 false (ql 27 26), qg 25 false (qj 28 .neq 3 27 3), qg 25 false (qm 29 28), qg 29 true (qf 30 5 8), qg 29 true (ql 31 30), qg 29 true (qL 32 31), qg 29 true (qj 33 .gtr 3 32 0), ⟨some (25, false), .pick 34 (.tmp 29) (.tmp 33) (.const (.bool false))⟩, ⟨none, .pick 35 (.tmp 25) (.const (.bool true)) (.tmp 34)⟩, ⟨none, .call (some 36) 54 [(.tmp 16), (.tmp 35), (.const (vi 4))]⟩]
def Qat : List GO := [qm 37 0, qf 38 5 8, ql 39 38, qL 40 39, qj 41 .gtr 3 40 8, ⟨none, .call (some 42) 54 [(.tmp 37), (.tmp 41), (.const (vi 2))]⟩]
def Qas : List GO := [qm 43 0, qV 44 4 4, qf 45 5 2, qV 46 3 45, qf 47 5 0, ql 48 47, qj 49 .neq 3 48 3, ⟨none, .call (some 50) 92 [(.tmp 43), (.tmp 44), (.tmp 46), (.tmp 49)]⟩]
def Qar : List GO := [qm 51 0, qV 52 4 4, qf 53 5 5, qV 54 3 53, qf 55 5 0, ql 56 55, qj 57 .eql 3 56 2, ⟨none, .call (some 58) 92 [(.tmp 51), (.tmp 52), (.tmp 54), (.tmp 57)]⟩]
def code_judge_end_lc : LC := (.seq (.ops Qaw) (.seq (.ops Qav) (.seq (.ops Qau) (.seq (.ops Qat) (.seq (.ops Qas) (.ops Qar))))))
@[reducible] def Q7t : FuncId := 49
theorem Q9B : lowF Try.prog Try.f49 = some code_judge_end_lc := by kernel_rfl
theorem Qax {a0 a1 a2 : Value} {w : World} {R : Ending → World → Prop} (h : code_judge_end_lc.wp Try.prog (retQ Try.prog [] R) (Qc [a0, a1, a2]) w) : Calls Try.prog Q7t ⟨[a0, a1, a2]⟩ w R :=
  Q4 Try.func49 Q9B (by kernel_rfl) (by kernel_rfl) h

/- 50 -/
/- 51 -/
/- 52 -/
/- 53 -/
/- 54 -/
def Q9A : List GO := [qm 6 1, qm 7 6, qg 7 true (qm 8 0), qg 7 true (qn 9 8), qg 7 true (qf 10 9 1), qg 7 true (qf 11 10 0), qg 7 true (ql 12 11), qg 7 true (qj 13 .eql 3 12 0), ⟨none, .pick 14 (.tmp 7) (.tmp 13) (.const (.bool false))⟩]
def Q9z : List GO := [qm 15 0, qm 16 2, qm 17 0, qn 18 17, qf 19 18 3, ql 20 19, ⟨none, .build 21 [(vi 0), (vi 0)] [(0, (1, (.tmp 16))), (1, (1, (.tmp 20)))]⟩, qn 22 15, qf 23 22 1, qw 2 23 21]
def code_judge_fail_lc : LC := (.seq (.ops Q9A) (.cond (.tmp 14) (.ops Q9z) .skip))
@[reducible] def Q2k : FuncId := 54
theorem Q8z : lowF Try.prog Try.f54 = some code_judge_fail_lc := by kernel_rfl
theorem Q2j {a0 a1 a2 : Value} {w : World} {R : Ending → World → Prop} (h : code_judge_fail_lc.wp Try.prog (retQ Try.prog [] R) (Qc [a0, a1, a2]) w) : Calls Try.prog Q2k ⟨[a0, a1, a2]⟩ w R :=
  Q4 Try.func54 Q8z (by kernel_rfl) (by kernel_rfl) h

/- 55 -/
def Q9q : List GO := [qm 9 0, qm 10 1, qL 11 10, qj 12 .gtr 3 11 8, ⟨none, .call (some 13) 54 [(.tmp 9), (.tmp 12), (.const (vi 2))]⟩]
def Q9p : List GO := [qm 14 1, qL 15 14, qk 16 (vi 0)]
def Q9o : List GO := [qt 17 .lss 3 16 15]
def Q9n : List GO := [qi 18 3 14 16, qV 19 3 18, ⟨none, .alloc 7 65 [(vi 0), (vi 0), vn]⟩, qw 3 7 19]
def Q9m : List GO := [qV 20 3 7, qm 21 2, ⟨none, .call (some 22) 94 [(.tmp 20), (.tmp 21)]⟩, qm 8 22]
def Q9l : List GO := [qm 23 0, qm 24 8, qj 25 .neq 3 24 0, qm 26 8, ⟨none, .call (some 27) 54 [(.tmp 23), (.tmp 25), (.tmp 26)]⟩]
def Q9k : List GO := [qj 28 .add 3 16 1, qm 16 28]
def Q3t : LC := (.seq (.ops Q9o) (.seq (.cond (.tmp 17) .skip (.exit 0)) (.seq (.block 1 (.seq (.ops Q9n) (.seq (.ops Q9m) (.ops Q9l)))) (.ops Q9k))))
def code_judge_list_lc : LC := (.seq (.ops Q9q) (.seq (.ops Q9p) (.block 0 (.loop Q3t))))
@[reducible] def Q6j : FuncId := 55
theorem Q8y : lowF Try.prog Try.f55 = some code_judge_list_lc := by kernel_rfl
theorem Q9r {a0 a1 a2 : Value} {w : World} {R : Ending → World → Prop} (h : code_judge_list_lc.wp Try.prog (retQ Try.prog [] R) (Qc [a0, a1, a2]) w) : Calls Try.prog Q6j ⟨[a0, a1, a2]⟩ w R :=
  Q4 Try.func55 Q8y (by kernel_rfl) (by kernel_rfl) h

/- 56 -/
def Q1D : List GO := [qk 4 (.bool false)]
def Q1C : List GO := [qm 5 0, qm 6 1, ⟨none, .call (some 7) 95 [(.tmp 5), (.tmp 6)]⟩, qj 8 .geq 3 7 0, qm 4 8]
def slices_ContainsFunc_api_Type_api_Type_lc : LC := (.seq (.ops Q1D) (.seq (.ops Q1C) .ret))
@[reducible] def Q1f : FuncId := 56
theorem Q1z : lowF Try.prog Try.f56 = some slices_ContainsFunc_api_Type_api_Type_lc := by kernel_rfl
theorem Q1E {a0 a1 : Value} {w : World} {R : Ending → World → Prop} (h : slices_ContainsFunc_api_Type_api_Type_lc.wp Try.prog (retQ Try.prog [.tmp 4] R) (Qc [a0, a1]) w) : Calls Try.prog Q1f ⟨[a0, a1]⟩ w R :=
  Q4 Try.func56 Q1z (by kernel_rfl) (by kernel_rfl) h

/- 57 -/
def QdQ : List GO := [qb 1 65 0, qk 2 (.bool false)]
def QdP : List GO := [qf 3 1 0, ql 4 3, qj 5 .neq 3 4 1, qm 2 5]
def code_Check_1_lc : LC := (.seq (.ops QdQ) (.seq (.ops QdP) .ret))
@[reducible] def Q3u : FuncId := 57
theorem QbP : lowF Try.prog Try.f57 = some code_Check_1_lc := by kernel_rfl
theorem QdR {a0 : Value} {w : World} {R : Ending → World → Prop} (h : code_Check_1_lc.wp Try.prog (retQ Try.prog [.tmp 2] R) (Qc [a0]) w) : Calls Try.prog Q3u ⟨[a0]⟩ w R :=
  Q4 Try.func57 QbP (by kernel_rfl) (by kernel_rfl) h

/- 58 -/
def Q8J : List GO := [qm 9 0, qn 10 9, qf 11 10 0, qf 12 11 0, ql 13 12, qm 14 1, qi 15 4 13 14, qV 16 4 15, ⟨none, .alloc 6 31 [(vi 0), vn, vn, vn]⟩, qw 4 6 16]
def Q8I : List GO := [qf 17 6 3, ql 18 17, qm 19 2, qi 20 12 18 19, qV 21 12 20, ⟨none, .alloc 7 77 [(vi 0), vn, vn, (vi 0), (vi 0), (vi 0), vn, vn, (vi 0), vn, vn, vn]⟩, qw 12 7 21]
def Q8H : List GO := [qm 22 0, qm 23 1, qm 24 2, ⟨none, .call (some 25) 18 [(.tmp 23), (.tmp 24)]⟩, qn 26 22, qf 27 26 3, qs 27 25]
def Q8G : List GO := [qm 28 0, qf 29 7 0, ql 30 29, qf 31 6 0, ql 32 31, qt 33 .lss 3 30 32, qm 34 33, qg 34 false (qf 35 7 0), qg 34 false (ql 36 35), qg 34 false (qj 37 .gtr 3 36 16), ⟨none, .pick 38 (.tmp 34) (.const (.bool true)) (.tmp 37)⟩, ⟨none, .call (some 39) 54 [(.tmp 28), (.tmp 38), (.const (vi 1))]⟩]
def Q8F : List GO := [qm 40 0, qf 41 7 1, ql 42 41, qf 43 7 0, ql 44 43, ⟨none, .call (some 45) 55 [(.tmp 40), (.tmp 42), (.tmp 44)]⟩]
def Q8E : List GO := [qm 46 0, qm 47 2, qj 48 .eql 3 47 0, qm 49 48, qg 49 true (qf 50 7 0), qg 49 true (ql 51 50), qg 49 true (qf 52 6 0), qg 49 true (ql 53 52), qg 49 true (qt 54 .neq 3 51 53), qg 49 true (qm 55 54), qg 55 false (qf 56 7 1), qg 55 false (ql 57 56), qg 55 false (qf 58 6 1), qg 55 false (ql 59 58), ⟨some (55, false), .call (some 60) 68 [(.tmp 57), (.tmp 59), (.func 69)]⟩, ⟨some (55, false), .un 61 .not (.tmp 60)⟩, ⟨some (49, true), .pick 62 (.tmp 55) (.const (.bool true)) (.tmp 61)⟩, ⟨none, .pick 63 (.tmp 49) (.tmp 62) (.const (.bool false))⟩, ⟨none, .call (some 64) 54 [(.tmp 46), (.tmp 63), (.const (vi 9))]⟩]
def Q8D : List GO := [qm 65 0, qf 66 7 2, ql 67 66, qL 68 67, qj 69 .gtr 3 68 40, ⟨none, .call (some 70) 54 [(.tmp 65), (.tmp 69), (.const (vi 2))]⟩]
def Q8C : List GO := [qk 8 (vi 0)]
def Q8B : List GO := [qm 71 8, qf 72 7 2, ql 73 72, qL 74 73, qt 75 .lss 3 71 74, qm 76 75, qg 76 true (qm 77 0), qg 76 true (qn 78 77), qg 76 true (qf 79 78 1), qg 76 true (qf 80 79 0), qg 76 true (ql 81 80), qg 76 true (qj 82 .eql 3 81 0), ⟨none, .pick 83 (.tmp 76) (.tmp 82) (.const (.bool false))⟩]
def Q8A : List GO := [qm 86 0, qm 87 1, qm 88 2, qm 89 8, ⟨none, .call (some 90) 22 [(.tmp 87), (.tmp 88), (.tmp 89)]⟩, qn 91 86, qf 92 91 3, qs 92 90]
def Q7n : List GO := [qm 93 0, qf 94 7 2, ql 95 94, qm 96 8, qi 97 8 95 96, qV 98 8 97, ⟨none, .call (some 99) 47 [(.tmp 93), (.tmp 98)]⟩]
def Q7m : List GO := [qm 84 8, qj 85 .add 3 84 1, qm 8 85]
def Q3d : LC := (.seq (.seq (.ops Q8B) (.cond (.tmp 83) .skip (.exit 0))) (.seq (.block 1 (.seq (.ops Q8A) (.ops Q7n))) (.ops Q7m)))
def Q7l : List GO := [qm 100 0, qm 101 1, qm 102 2, ⟨none, .call (some 103) 20 [(.tmp 101), (.tmp 102)]⟩, qn 104 100, qf 105 104 3, qs 105 103]
def Q7k : List GO := [qm 106 0, qV 107 4 6, qf 108 7 3, qV 109 9 108, ⟨none, .call (some 110) 49 [(.tmp 106), (.tmp 107), (.tmp 109)]⟩]
def code_judge_block_lc : LC := (.seq (.ops Q8J) (.seq (.ops Q8I) (.seq (.ops Q8H) (.seq (.ops Q8G) (.seq (.ops Q8F) (.seq (.ops Q8E) (.seq (.ops Q8D) (.seq (.seq (.ops Q8C) (.block 0 (.loop Q3d))) (.seq (.ops Q7l) (.ops Q7k))))))))))
@[reducible] def Q21 : FuncId := 58
theorem Q7o : lowF Try.prog Try.f58 = some code_judge_block_lc := by kernel_rfl
theorem Q8K {a0 a1 a2 : Value} {w : World} {R : Ending → World → Prop} (h : code_judge_block_lc.wp Try.prog (retQ Try.prog [] R) (Qc [a0, a1, a2]) w) : Calls Try.prog Q21 ⟨[a0, a1, a2]⟩ w R :=
  Q4 Try.func58 Q7o (by kernel_rfl) (by kernel_rfl) h

/- 59 -/
/- 60 -/
/- 61 -/
/- 62 -/
def Qf8 : List GO := [qb 2 77 0, qb 3 77 1, qk 4 (.bool false)]
def Qf7 : List GO := [qf 6 2 0, ql 7 6, qf 8 3 0, ql 9 8, qt 10 .neq 3 7 9, qm 11 10, qg 11 false (qf 12 2 1), qg 11 false (ql 13 12), qg 11 false (qf 14 3 1), qg 11 false (ql 15 14), ⟨some (11, false), .call (some 16) 41 [(.tmp 13), (.tmp 15)]⟩, ⟨some (11, false), .un 17 .not (.tmp 16)⟩, ⟨none, .pick 18 (.tmp 11) (.const (.bool true)) (.tmp 17)⟩, qm 19 18, qg 19 false (qf 20 2 2), qg 19 false (ql 21 20), qg 19 false (qL 22 21), qg 19 false (qf 23 3 2), qg 19 false (ql 24 23), qg 19 false (qL 25 24), qg 19 false (qt 26 .neq 3 22 25), ⟨none, .pick 27 (.tmp 19) (.const (.bool true)) (.tmp 26)⟩]
def Qf6 : List GO := [qk 4 (.bool false)]
def Qf5 : List GO := [qk 5 (vi 0)]
def Qf4 : List GO := [qm 28 5, qf 29 2 2, ql 30 29, qL 31 30, qt 32 .lss 3 28 31]
def Qf3 : List GO := [qf 35 2 2, ql 36 35, qm 37 5, qi 38 8 36 37, qV 39 8 38, qf 40 3 2, ql 41 40, qm 42 5, qi 43 8 41 42, qV 44 8 43, ⟨none, .call (some 45) 97 [(.tmp 39), (.tmp 44)]⟩, ⟨none, .un 46 .not (.tmp 45)⟩]
def Qfa : List (List Nat) := [[],[0],[],[1,2],[3],[],[5],[],[6,7],[8],[4,9],[10]]
def Qf2 : List GO := [qk 4 (.bool false)]
def Qf1 : List GO := [qm 33 5, qj 34 .add 3 33 1, qm 5 34]
def Q7v : LC := (.seq (.seq (.ops Qf4) (.cond (.tmp 32) .skip (.exit 0))) (.seq (.block 1 (.seq (.draw Qf3 Qfa) (.cond (.tmp 46) (.seq (.ops Qf2) .ret) .skip))) (.ops Qf1)))
def Qf0 : List GO := [qf 47 2 3, qf 48 47 0, ql 49 48, qf 50 3 3, qf 51 50 0, ql 52 51, qt 53 .eql 3 49 52, qm 54 53, qg 54 true (qf 55 2 3), qg 54 true (qf 56 55 1), qg 54 true (ql 57 56), qg 54 true (qf 58 3 3), qg 54 true (qf 59 58 1), qg 54 true (ql 60 59), qg 54 true (qt 61 .eql 3 57 60), ⟨none, .pick 62 (.tmp 54) (.tmp 61) (.const (.bool false))⟩, qm 63 62, qg 63 true (qf 64 2 3), qg 63 true (qf 65 64 2), qg 63 true (qV 66 3 65), qg 63 true (qf 67 3 3), qg 63 true (qf 68 67 2), qg 63 true (qV 69 3 68), ⟨some (63, true), .call (some 70) 98 [(.tmp 66), (.tmp 69)]⟩, ⟨none, .pick 71 (.tmp 63) (.tmp 70) (.const (.bool false))⟩, qm 72 71, qg 72 true (qf 73 2 3), qg 72 true (qf 74 73 5), qg 72 true (qV 75 3 74), qg 72 true (qf 76 3 3), qg 72 true (qf 77 76 5), qg 72 true (qV 78 3 77), ⟨some (72, true), .call (some 79) 98 [(.tmp 75), (.tmp 78)]⟩, ⟨none, .pick 80 (.tmp 72) (.tmp 79) (.const (.bool false))⟩, qm 81 80, qg 81 true (qf 82 2 3), qg 81 true (qf 83 82 8), qg 81 true (ql 84 83), qg 81 true (qf 85 3 3), qg 81 true (qf 86 85 8), qg 81 true (ql 87 86), ⟨some (81, true), .call (some 88) 42 [(.tmp 84), (.tmp 87)]⟩, ⟨none, .pick 89 (.tmp 81) (.tmp 88) (.const (.bool false))⟩, qm 4 89]
def R_sameBlock_lc : LC := (.seq (.ops Qf8) (.seq (.seq (.ops Qf7) (.cond (.tmp 27) (.seq (.ops Qf6) .ret) .skip)) (.seq (.seq (.ops Qf5) (.block 0 (.loop Q7v))) (.seq (.ops Qf0) .ret))))
@[reducible] def Q2t : FuncId := 62
theorem QdW : lowF Try.prog Try.f62 = some R_sameBlock_lc := by kernel_rfl
theorem Qf9 {a0 a1 : Value} {w : World} {R : Ending → World → Prop} (h : R_sameBlock_lc.wp Try.prog (retQ Try.prog [.tmp 4] R) (Qc [a0, a1]) w) : Calls Try.prog Q2t ⟨[a0, a1]⟩ w R :=
  Q4 Try.func62 QdW (by kernel_rfl) (by kernel_rfl) h

/- 63 -/
/- 64 -/
/- 65 -/
/- 66 -/
/- 67 -/
/- 68 -/
def Q1a : List GO := [qk 6 (.bool false)]
def Q19 : List GO := [qm 10 0, qL 11 10, qm 12 1, qL 13 12, qt 14 .neq 3 11 13]
def Q18 : List GO := [qk 6 (.bool false)]
def Q17 : List GO := [qm 15 0, qL 16 15, qk 17 (vi 0)]
def Q16 : List GO := [qt 18 .lss 3 17 16]
def Q15 : List GO := [qm 19 17, qi 20 3 15 17, qV 21 3 20, ⟨none, .alloc 8 65 [(vi 0), (vi 0), vn]⟩, qm 7 19, qw 3 8 21]
def Q14 : List GO := [qm 22 1, qm 23 7, qi 24 3 22 23, qV 25 3 24, ⟨none, .alloc 9 65 [(vi 0), (vi 0), vn]⟩, qw 3 9 25]
def Q13 : List GO := [qm 26 2, qV 27 3 8, qV 28 3 9, ⟨none, .callv (some 29) (.tmp 26) [(.tmp 27), (.tmp 28)]⟩, ⟨none, .un 30 .not (.tmp 29)⟩]
def Q12 : List GO := [qk 6 (.bool false)]
def Q11 : List GO := [qj 31 .add 3 17 1, qm 17 31]
def Qp : LC := (.seq (.ops Q16) (.seq (.cond (.tmp 18) .skip (.exit 0)) (.seq (.block 1 (.seq (.ops Q15) (.seq (.ops Q14) (.seq (.ops Q13) (.cond (.tmp 30) (.seq (.ops Q12) .ret) .skip))))) (.ops Q11))))
def QX : List GO := [qk 6 (.bool true)]
def slices_EqualFunc_api_Type_api_Type_api_Type_api_Type_lc : LC := (.seq (.ops Q1a) (.seq (.seq (.ops Q19) (.cond (.tmp 14) (.seq (.ops Q18) .ret) .skip)) (.seq (.seq (.ops Q17) (.block 0 (.loop Qp))) (.seq (.ops QX) .ret))))
@[reducible] def Q9 : FuncId := 68
theorem QY : lowF Try.prog Try.f68 = some slices_EqualFunc_api_Type_api_Type_api_Type_api_Type_lc := by kernel_rfl
theorem Q1b {a0 a1 a2 : Value} {w : World} {R : Ending → World → Prop} (h : slices_EqualFunc_api_Type_api_Type_api_Type_api_Type_lc.wp Try.prog (retQ Try.prog [.tmp 6] R) (Qc [a0, a1, a2]) w) : Calls Try.prog Q9 ⟨[a0, a1, a2]⟩ w R :=
  Q4 Try.func68 QY (by kernel_rfl) (by kernel_rfl) h

/- 69 -/
def Qg2 : List GO := [qb 2 65 0, qb 3 65 1, qk 4 (.bool false)]
def Qg1 : List GO := [qf 5 2 0, ql 6 5, qf 7 3 0, ql 8 7, qt 9 .eql 3 6 8, qm 10 9, qg 10 true (qf 11 2 1), qg 10 true (ql 12 11), qg 10 true (qf 13 3 1), qg 10 true (ql 14 13), qg 10 true (qt 15 .eql 3 12 14), ⟨none, .pick 16 (.tmp 10) (.tmp 15) (.const (.bool false))⟩, qm 17 16, qg 17 true (qf 18 2 2), qg 17 true (ql 19 18), qg 17 true (qf 20 3 2), qg 17 true (ql 21 20), ⟨some (17, true), .call (some 22) 68 [(.tmp 19), (.tmp 21), (.func 69)]⟩, ⟨none, .pick 23 (.tmp 17) (.tmp 22) (.const (.bool false))⟩, qm 4 23]
def types_Same_lc : LC := (.seq (.ops Qg2) (.seq (.ops Qg1) .ret))
@[reducible] def Qfv : FuncId := 69
theorem QeB : lowF Try.prog Try.f69 = some types_Same_lc := by kernel_rfl
theorem Qg3 {a0 a1 : Value} {w : World} {R : Ending → World → Prop} (h : types_Same_lc.wp Try.prog (retQ Try.prog [.tmp 4] R) (Qc [a0, a1]) w) : Calls Try.prog Qfv ⟨[a0, a1]⟩ w R :=
  Q4 Try.func69 QeB (by kernel_rfl) (by kernel_rfl) h

/- 70 -/
/- 71 -/
/- 87 -/
def Qh0 : List GO := [qb 2 65 0, qb 3 65 1, qk 4 (.bool false)]
def QgZ : List GO := [qf 5 2 0, ql 6 5, qf 7 3 0, ql 8 7, qt 9 .eql 3 6 8, qm 10 9, qg 10 true (qf 11 2 1), qg 10 true (ql 12 11), qg 10 true (qf 13 3 1), qg 10 true (ql 14 13), qg 10 true (qt 15 .eql 3 12 14), ⟨none, .pick 16 (.tmp 10) (.tmp 15) (.const (.bool false))⟩, qm 17 16, qg 17 true (qf 18 2 2), qg 17 true (ql 19 18), qg 17 true (qf 20 3 2), qg 17 true (ql 21 20), ⟨some (17, true), .call (some 22) 41 [(.tmp 19), (.tmp 21)]⟩, ⟨none, .pick 23 (.tmp 17) (.tmp 22) (.const (.bool false))⟩, qm 4 23]
def R_SameType_lc : LC := (.seq (.ops Qh0) (.seq (.ops QgZ) .ret))
@[reducible] def QaA : FuncId := 87
theorem Qfm : lowF Try.prog Try.f87 = some R_SameType_lc := by kernel_rfl
theorem Qh1 {a0 a1 : Value} {w : World} {R : Ending → World → Prop} (h : R_SameType_lc.wp Try.prog (retQ Try.prog [.tmp 4] R) (Qc [a0, a1]) w) : Calls Try.prog QaA ⟨[a0, a1]⟩ w R :=
  Q4 Try.func87 Qfm (by kernel_rfl) (by kernel_rfl) h

/- 89 -/
def Qfs : List GO := [qb 1 65 0, qk 2 (.bool false)]
def Qfr : List GO := [qV 3 3 1, ⟨none, .call (some 4) 126 [(.tmp 3), (.const (vi 2000))]⟩, qj 5 .lss 3 4 0, qm 2 5]
def R_GreatType_lc : LC := (.seq (.ops Qfs) (.seq (.ops Qfr) .ret))
@[reducible] def Qen : FuncId := 89
theorem Qem : lowF Try.prog Try.f89 = some R_GreatType_lc := by kernel_rfl
theorem Qft {a0 : Value} {w : World} {R : Ending → World → Prop} (h : R_GreatType_lc.wp Try.prog (retQ Try.prog [.tmp 2] R) (Qc [a0]) w) : Calls Try.prog Qen ⟨[a0]⟩ w R :=
  Q4 Try.func89 Qem (by kernel_rfl) (by kernel_rfl) h

/- 90 -/
def QiR : List GO := [qk 2 (.string ⟨#[]⟩)]
def QiQ : List GO := [qm 3 0, qj 4 .lss 3 3 1, qm 5 4, qg 5 false (qm 6 0), qg 5 false (qj 7 .gtr 3 6 14), ⟨none, .pick 8 (.tmp 5) (.const (.bool true)) (.tmp 7)⟩]
def QiP : List GO := [qk 2 (.string ⟨#[]⟩)]
def QiO : List GO := [⟨none, .build 9 [(.string ⟨#[]⟩), (.string ⟨#[]⟩), (.string ⟨#[]⟩), (.string ⟨#[]⟩), (.string ⟨#[]⟩), (.string ⟨#[]⟩), (.string ⟨#[]⟩), (.string ⟨#[]⟩), (.string ⟨#[]⟩), (.string ⟨#[]⟩), (.string ⟨#[]⟩), (.string ⟨#[]⟩), (.string ⟨#[]⟩), (.string ⟨#[]⟩), (.string ⟨#[]⟩)] [(0, (1, (.const (.string ⟨#[]⟩)))), (1, (1, (.const (.string ⟨#[110]⟩)))), (2, (1, (.const (.string ⟨#[97, 98, 107]⟩)))), (3, (1, (.const (.string ⟨#[]⟩)))), (4, (1, (.const (.string ⟨#[97]⟩)))), (5, (1, (.const (.string ⟨#[97, 114]⟩)))), (6, (1, (.const (.string ⟨#[97, 107]⟩)))), (7, (1, (.const (.string ⟨#[97, 98, 107]⟩)))), (8, (1, (.const (.string ⟨#[97, 98]⟩)))), (9, (1, (.const (.string ⟨#[97, 98]⟩)))), (10, (1, (.const (.string ⟨#[97, 98, 99]⟩)))), (11, (1, (.const (.string ⟨#[97]⟩)))), (12, (1, (.const (.string ⟨#[]⟩)))), (13, (1, (.const (.string ⟨#[97]⟩)))), (14, (1, (.const (.string ⟨#[107, 103, 114]⟩))))]⟩, qm 10 0, ⟨none, .raw ⟨(some 11), (.index 151 (.tmp 9) (.tmp 10)), 9, "", #[], none⟩⟩, qm 2 11]
def code_has_lc : LC := (.seq (.ops QiR) (.seq (.seq (.ops QiQ) (.cond (.tmp 8) (.seq (.ops QiP) .ret) .skip)) (.seq (.ops QiO) .ret)))
@[reducible] def Qjl : FuncId := 90
theorem Qi7 : lowF Try.prog Try.f90 = some code_has_lc := by kernel_rfl
theorem QdM {a0 : Value} {w : World} {R : Ending → World → Prop} (h : code_has_lc.wp Try.prog (retQ Try.prog [.tmp 2] R) (Qc [a0]) w) : Calls Try.prog Qjl ⟨[a0]⟩ w R :=
  Q4 Try.func90 Qi7 (by kernel_rfl) (by kernel_rfl) h

/- 91 -/
def Qi4 : List GO := [qk 4 (.bool false)]
def Qi3 : List GO := [qm 5 0, ⟨none, .raw ⟨(some 6), (.convert 9 50 (.tmp 5)), 50, "", #[], none⟩⟩, qm 7 1, ⟨none, .call (some 8) 127 [(.tmp 6), (.tmp 7)]⟩, qm 4 8]
def code_with_lc : LC := (.seq (.ops Qi4) (.seq (.ops Qi3) .ret))
@[reducible] def Qi6 : FuncId := 91
theorem Qgw : lowF Try.prog Try.f91 = some code_with_lc := by kernel_rfl
theorem Qi5 {a0 a1 : Value} {w : World} {R : Ending → World → Prop} (h : code_with_lc.wp Try.prog (retQ Try.prog [.tmp 4] R) (Qc [a0, a1]) w) : Calls Try.prog Qi6 ⟨[a0, a1]⟩ w R :=
  Q4 Try.func91 Qgw (by kernel_rfl) (by kernel_rfl) h

/- 92 -/
def QbO : List GO := [qb 5 31 1, qb 6 33 2]
def QbN : List GO := [qm 8 3, ⟨none, .un 9 .not (.tmp 8)⟩]
def QbM : List GO := [qm 10 0, qf 11 6 0, ql 12 11, qj 13 .neq 3 12 0, qm 14 13, qg 14 false (qf 15 6 1), qg 14 false (ql 16 15), qg 14 false (qL 17 16), qg 14 false (qj 18 .gtr 3 17 0), ⟨none, .pick 19 (.tmp 14) (.const (.bool true)) (.tmp 18)⟩, qm 20 19, qg 20 false (qf 21 6 2), qg 20 false (ql 22 21), qg 20 false (qL 23 22), qg 20 false (qj 24 .gtr 3 23 0), ⟨none, .pick 25 (.tmp 20) (.const (.bool true)) (.tmp 24)⟩, ⟨none, .call (some 26) 54 [(.tmp 10), (.tmp 25), (.const (vi 4))]⟩]
def QbL : List GO := [qm 27 0, qf 28 6 0, ql 29 28, qj 30 .lss 3 29 0, qm 31 30, qg 31 false (qf 32 6 0), qg 31 false (ql 33 32), qg 31 false (qf 34 5 3), qg 31 false (ql 35 34), qg 31 false (qL 36 35), qg 31 false (qt 37 .geq 3 33 36), ⟨none, .pick 38 (.tmp 31) (.const (.bool true)) (.tmp 37)⟩, ⟨none, .call (some 39) 54 [(.tmp 27), (.tmp 38), (.const (vi 1))]⟩]
def QbK : List GO := [qm 40 0, qf 41 6 1, ql 42 41, qL 43 42, qj 44 .gtr 3 43 16, qm 45 44, qg 45 false (qf 46 6 2), qg 45 false (ql 47 46), qg 45 false (qL 48 47), qg 45 false (qj 49 .gtr 3 48 8), ⟨none, .pick 50 (.tmp 45) (.const (.bool true)) (.tmp 49)⟩, ⟨none, .call (some 51) 54 [(.tmp 40), (.tmp 50), (.const (vi 2))]⟩]
def code_judge_to_lc : LC := (.seq (.ops QbO) (.seq (.seq (.ops QbN) (.cond (.tmp 9) (.seq (.ops QbM) .ret) .skip)) (.seq (.ops QbL) (.ops QbK))))
@[reducible] def Q9j : FuncId := 92
theorem Qaf : lowF Try.prog Try.f92 = some code_judge_to_lc := by kernel_rfl
theorem Q4I {a0 a1 a2 a3 : Value} {w : World} {R : Ending → World → Prop} (h : code_judge_to_lc.wp Try.prog (retQ Try.prog [] R) (Qc [a0, a1, a2, a3]) w) : Calls Try.prog Q9j ⟨[a0, a1, a2, a3]⟩ w R :=
  Q4 Try.func92 Qaf (by kernel_rfl) (by kernel_rfl) h

/- 93 -/
/- 94 -/
def QeF : List GO := [qb 2 65 0, qk 4 (vi 0)]
def QeE : List GO := [qV 5 3 2, ⟨none, .call (some 6) 128 [(.tmp 5), (.const (vi 4))]⟩, ⟨none, .un 7 .not (.tmp 6)⟩]
def QeD : List GO := [qk 4 (vi 19)]
def QeC : List GO := [qV 8 3 2, qm 9 1, ⟨none, .call (some 10) 129 [(.tmp 8), (.tmp 9)]⟩, qm 4 10]
def types_Check_lc : LC := (.seq (.ops QeF) (.seq (.seq (.ops QeE) (.cond (.tmp 7) (.seq (.ops QeD) .ret) .skip)) (.seq (.ops QeC) .ret)))
@[reducible] def Q48 : FuncId := 94
theorem QcT : lowF Try.prog Try.f94 = some types_Check_lc := by kernel_rfl
theorem QeG {a0 a1 : Value} {w : World} {R : Ending → World → Prop} (h : types_Check_lc.wp Try.prog (retQ Try.prog [.tmp 4] R) (Qc [a0, a1]) w) : Calls Try.prog Q48 ⟨[a0, a1]⟩ w R :=
  Q4 Try.func94 QcT (by kernel_rfl) (by kernel_rfl) h

/- 95 -/
def Q1V : List GO := [qk 4 (vi 0)]
def Q1U : List GO := [qm 6 0, qL 7 6, qk 8 (vi 0)]
def Q1T : List GO := [qt 9 .lss 3 8 7]
def Q1S : List GO := [qm 10 8, qm 5 10]
def Q1R : List GO := [qm 11 1, qm 12 0, qm 13 5, qi 14 3 12 13, qV 15 3 14, ⟨none, .callv (some 16) (.tmp 11) [(.tmp 15)]⟩]
def Q1Q : List GO := [qm 17 5, qm 4 17]
def Q1P : List GO := [qj 18 .add 3 8 1, qm 8 18]
def Q1e : LC := (.seq (.ops Q1T) (.seq (.cond (.tmp 9) .skip (.exit 0)) (.seq (.block 1 (.seq (.ops Q1S) (.seq (.ops Q1R) (.cond (.tmp 16) (.seq (.ops Q1Q) .ret) .skip)))) (.ops Q1P))))
def Q1O : List GO := [qk 4 (vi (-1))]
def slices_IndexFunc_api_Type_api_Type_lc : LC := (.seq (.ops Q1V) (.seq (.seq (.ops Q1U) (.block 0 (.loop Q1e))) (.seq (.ops Q1O) .ret)))
@[reducible] def Qs : FuncId := 95
theorem Q1L : lowF Try.prog Try.f95 = some slices_IndexFunc_api_Type_api_Type_lc := by kernel_rfl
theorem Q1W {a0 a1 : Value} {w : World} {R : Ending → World → Prop} (h : slices_IndexFunc_api_Type_api_Type_lc.wp Try.prog (retQ Try.prog [.tmp 4] R) (Qc [a0, a1]) w) : Calls Try.prog Qs ⟨[a0, a1]⟩ w R :=
  Q4 Try.func95 Q1L (by kernel_rfl) (by kernel_rfl) h

/- 96 -/
/- 97 -/
def Qid : List GO := [qb 2 27 0, qb 3 27 1, qk 4 (.bool false)]
def Qic : List GO := [qf 5 2 0, ql 6 5, qf 7 3 0, ql 8 7, qt 9 .eql 3 6 8, qm 10 9, qg 10 true (qf 11 2 1), qg 10 true (ql 12 11), qg 10 true (qf 13 3 1), qg 10 true (ql 14 13), qg 10 true (qt 15 .eql 3 12 14), ⟨none, .pick 16 (.tmp 10) (.tmp 15) (.const (.bool false))⟩, qm 17 16, qg 17 true (qf 18 2 2), qg 17 true (ql 19 18), qg 17 true (qf 20 3 2), qg 17 true (ql 21 20), qg 17 true (qt 22 .eql 3 19 21), ⟨none, .pick 23 (.tmp 17) (.tmp 22) (.const (.bool false))⟩, qm 24 23, qg 24 true (qf 25 2 3), qg 24 true (ql 26 25), qg 24 true (qf 27 3 3), qg 24 true (ql 28 27), qg 24 true (qt 29 .eql 3 26 28), ⟨none, .pick 30 (.tmp 24) (.tmp 29) (.const (.bool false))⟩, qm 31 30, qg 31 true (qf 32 2 4), qg 31 true (ql 33 32), qg 31 true (qf 34 3 4), qg 31 true (ql 35 34), qg 31 true (qt 36 .eql 3 33 35), ⟨none, .pick 37 (.tmp 31) (.tmp 36) (.const (.bool false))⟩, qm 38 37, qg 38 true (qf 39 2 5), qg 38 true (ql 40 39), qg 38 true (qf 41 3 5), qg 38 true (ql 42 41), qg 38 true (qt 43 .eql 2 40 42), ⟨none, .pick 44 (.tmp 38) (.tmp 43) (.const (.bool false))⟩, qm 45 44, qg 45 true (qf 46 2 6), qg 45 true (ql 47 46), qg 45 true (qf 48 3 6), qg 45 true (ql 49 48), ⟨some (45, true), .call (some 50) 42 [(.tmp 47), (.tmp 49)]⟩, ⟨none, .pick 51 (.tmp 45) (.tmp 50) (.const (.bool false))⟩, qm 52 51, qg 52 true (qf 53 2 7), qg 52 true (ql 54 53), qg 52 true (qf 55 3 7), qg 52 true (ql 56 55), ⟨some (52, true), .call (some 57) 42 [(.tmp 54), (.tmp 56)]⟩, ⟨none, .pick 58 (.tmp 52) (.tmp 57) (.const (.bool false))⟩, qm 4 58]
def R_sameIns_lc : LC := (.seq (.ops Qid) (.seq (.ops Qic) .ret))
@[reducible] def Qif : FuncId := 97
theorem QgY : lowF Try.prog Try.f97 = some R_sameIns_lc := by kernel_rfl
theorem Qie {a0 a1 : Value} {w : World} {R : Ending → World → Prop} (h : R_sameIns_lc.wp Try.prog (retQ Try.prog [.tmp 4] R) (Qc [a0, a1]) w) : Calls Try.prog Qif ⟨[a0, a1]⟩ w R :=
  Q4 Try.func97 QgY (by kernel_rfl) (by kernel_rfl) h

/- 98 -/
def QiY : List GO := [qb 2 33 0, qb 3 33 1, qk 4 (.bool false)]
def QiX : List GO := [qf 5 2 0, ql 6 5, qf 7 3 0, ql 8 7, qt 9 .eql 3 6 8, qm 10 9, qg 10 true (qf 11 2 1), qg 10 true (ql 12 11), qg 10 true (qf 13 3 1), qg 10 true (ql 14 13), ⟨some (10, true), .call (some 15) 42 [(.tmp 12), (.tmp 14)]⟩, ⟨none, .pick 16 (.tmp 10) (.tmp 15) (.const (.bool false))⟩, qm 17 16, qg 17 true (qf 18 2 2), qg 17 true (ql 19 18), qg 17 true (qf 20 3 2), qg 17 true (ql 21 20), ⟨some (17, true), .call (some 22) 42 [(.tmp 19), (.tmp 21)]⟩, ⟨none, .pick 23 (.tmp 17) (.tmp 22) (.const (.bool false))⟩, qm 4 23]
def R_sameTo_lc : LC := (.seq (.ops QiY) (.seq (.ops QiX) .ret))
@[reducible] def Qjo : FuncId := 98
theorem Qib : lowF Try.prog Try.f98 = some R_sameTo_lc := by kernel_rfl
theorem QiZ {a0 a1 : Value} {w : World} {R : Ending → World → Prop} (h : R_sameTo_lc.wp Try.prog (retQ Try.prog [.tmp 4] R) (Qc [a0, a1]) w) : Calls Try.prog Qjo ⟨[a0, a1]⟩ w R :=
  Q4 Try.func98 Qib (by kernel_rfl) (by kernel_rfl) h

/- 99 -/
/- 100 -/
/- 101 -/
/- 102 -/
/- 103 -/
/- 126 -/
def QgW : List GO := [qb 2 65 0, qk 4 (vi 0)]
def QgV : List GO := [qm 6 1, qj 7 .sub 3 6 1, qm 1 7]
def QgU : List GO := [qk 5 (vi 0)]
def QgT : List GO := [qm 8 5, qf 9 2 2, ql 10 9, qL 11 10, qt 12 .lss 3 8 11, qm 13 12, qg 13 true (qm 14 1), qg 13 true (qj 15 .geq 3 14 0), ⟨none, .pick 16 (.tmp 13) (.tmp 15) (.const (.bool false))⟩]
def QgS : List GO := [qf 19 2 2, ql 20 19, qm 21 5, qi 22 3 20 21, qV 23 3 22, qm 24 1, ⟨none, .call (some 25) 126 [(.tmp 23), (.tmp 24)]⟩, qm 1 25]
def QgR : List GO := [qm 17 5, qj 18 .add 3 17 1, qm 5 18]
def Q9G : LC := (.seq (.seq (.ops QgT) (.cond (.tmp 16) .skip (.exit 0))) (.seq (.block 1 (.ops QgS)) (.ops QgR)))
def QgQ : List GO := [qm 26 1, qm 4 26]
def R_typeSize_lc : LC := (.seq (.ops QgW) (.seq (.ops QgV) (.seq (.seq (.ops QgU) (.block 0 (.loop Q9G))) (.seq (.ops QgQ) .ret))))
@[reducible] def Q6w : FuncId := 126
theorem QeZ : lowF Try.prog Try.f126 = some R_typeSize_lc := by kernel_rfl
theorem QgX {a0 a1 : Value} {w : World} {R : Ending → World → Prop} (h : R_typeSize_lc.wp Try.prog (retQ Try.prog [.tmp 4] R) (Qc [a0, a1]) w) : Calls Try.prog Q6w ⟨[a0, a1]⟩ w R :=
  Q4 Try.func126 QeZ (by kernel_rfl) (by kernel_rfl) h

/- 127 -/
def Q2T : List GO := [qk 4 (.bool false)]
def Q2S : List GO := [qm 5 0, qm 6 1, ⟨none, .call (some 7) 141 [(.tmp 5), (.tmp 6)]⟩, qj 8 .geq 3 7 0, qm 4 8]
def slices_Contains_byte_byte_lc : LC := (.seq (.ops Q2T) (.seq (.ops Q2S) .ret))
@[reducible] def Q1Y : FuncId := 127
theorem Q2I : lowF Try.prog Try.f127 = some slices_Contains_byte_byte_lc := by kernel_rfl
theorem Q2U {a0 a1 : Value} {w : World} {R : Ending → World → Prop} (h : slices_Contains_byte_byte_lc.wp Try.prog (retQ Try.prog [.tmp 4] R) (Qc [a0, a1]) w) : Calls Try.prog Q1Y ⟨[a0, a1]⟩ w R :=
  Q4 Try.func127 Q2I (by kernel_rfl) (by kernel_rfl) h

/- 128 -/
def QfZ : List GO := [qb 2 65 0, qk 4 (.bool false)]
def QfY : List GO := [qm 7 1, qj 8 .lss 3 7 0]
def QfX : List GO := [qk 4 (.bool false)]
def QfW : List GO := [qf 9 2 2, ql 10 9, qL 11 10, qk 12 (vi 0)]
def QfV : List GO := [qt 13 .lss 3 12 11]
def QfU : List GO := [qi 14 3 10 12, qV 15 3 14, ⟨none, .alloc 6 65 [(vi 0), (vi 0), vn]⟩, qw 3 6 15]
def QfT : List GO := [qV 16 3 6, qm 17 1, qj 18 .sub 3 17 1, ⟨none, .call (some 19) 128 [(.tmp 16), (.tmp 18)]⟩, ⟨none, .un 20 .not (.tmp 19)⟩]
def QfS : List GO := [qk 4 (.bool false)]
def QfR : List GO := [qj 21 .add 3 12 1, qm 12 21]
def Q8O : LC := (.seq (.ops QfV) (.seq (.cond (.tmp 13) .skip (.exit 0)) (.seq (.block 1 (.seq (.ops QfU) (.seq (.ops QfT) (.cond (.tmp 20) (.seq (.ops QfS) .ret) .skip)))) (.ops QfR))))
def QfQ : List GO := [qk 4 (.bool true)]
def types_deep_lc : LC := (.seq (.ops QfZ) (.seq (.seq (.ops QfY) (.cond (.tmp 8) (.seq (.ops QfX) .ret) .skip)) (.seq (.seq (.ops QfW) (.block 0 (.loop Q8O))) (.seq (.ops QfQ) .ret))))
@[reducible] def Q2W : FuncId := 128
theorem QeA : lowF Try.prog Try.f128 = some types_deep_lc := by kernel_rfl
theorem Qg0 {a0 a1 : Value} {w : World} {R : Ending → World → Prop} (h : types_deep_lc.wp Try.prog (retQ Try.prog [.tmp 4] R) (Qc [a0, a1]) w) : Calls Try.prog Q2W ⟨[a0, a1]⟩ w R :=
  Q4 Try.func128 QeA (by kernel_rfl) (by kernel_rfl) h

/- 129 -/
def Qey : List GO := [qb 2 65 0, qk 4 (vi 0)]
def Qex : List GO := [qf 8 2 0, ql 9 8]
def Qew : List GO := [qj 11 .eql 3 9 1, qm 10 11]
def Qev : List GO := [qf 12 2 1, ql 13 12, qj 14 .neq 3 13 0, qm 15 14, qg 15 false (qf 16 2 2), qg 15 false (ql 17 16), qg 15 false (qL 18 17), qg 15 false (qj 19 .gtr 3 18 0), ⟨none, .pick 20 (.tmp 15) (.const (.bool true)) (.tmp 19)⟩]
def Qeu : List GO := [qk 4 (vi 4)]
def Qet : List GO := [qk 4 (vi 0)]
def Qes : List GO := [qj 22 .eql 3 9 2, qm 21 22]
def Qer : List GO := [qj 23 .eql 3 9 4, qm 21 23]
def Qeq : List GO := [qf 24 2 2, ql 25 24, qL 26 25, qj 27 .gtr 3 26 0]
def Qep : List GO := [qk 4 (vi 4)]
def QcR : List GO := [qj 29 .eql 3 9 3, qm 28 29]
def QcQ : List GO := [qf 30 2 2, ql 31 30, qL 32 31, qj 33 .gtr 3 32 8]
def QcP : List GO := [qk 4 (vi 2)]
def QcO : List GO := [qk 4 (vi 3)]
def QcN : List GO := [qf 34 2 1, ql 35 34, qj 36 .lss 3 35 0, qm 37 36, qg 37 false (qf 38 2 1), qg 37 false (ql 39 38), qg 37 false (qm 40 1), qg 37 false (qt 41 .geq 3 39 40), ⟨none, .pick 42 (.tmp 37) (.const (.bool true)) (.tmp 41)⟩]
def QcM : List GO := [qk 4 (vi 1)]
def QcL : List GO := [qf 43 2 2, ql 44 43, qL 45 44, qk 46 (vi 0)]
def QcK : List GO := [qt 47 .lss 3 46 45]
def QcJ : List GO := [qi 48 3 44 46, qV 49 3 48, ⟨none, .alloc 6 65 [(vi 0), (vi 0), vn]⟩, qw 3 6 49]
def QcI : List GO := [qV 50 3 6, qm 51 1, ⟨none, .call (some 52) 129 [(.tmp 50), (.tmp 51)]⟩, qm 7 52]
def QcH : List GO := [qm 53 7, qj 54 .neq 3 53 0]
def QcG : List GO := [qm 55 7, qm 4 55]
def QcF : List GO := [qj 56 .add 3 46 1, qm 46 56]
def Q5g : LC := (.seq (.ops QcK) (.seq (.cond (.tmp 47) .skip (.exit 1)) (.seq (.block 2 (.seq (.ops QcJ) (.seq (.ops QcI) (.seq (.ops QcH) (.cond (.tmp 54) (.seq (.ops QcG) .ret) .skip))))) (.ops QcF))))
def QcE : List GO := [qk 4 (vi 0)]
def types_wrong_lc : LC := (.seq (.ops Qey) (.seq (.seq (.ops Qex) (.block 0 (.seq (.ops Qew) (.cond (.tmp 10) (.seq (.seq (.ops Qev) (.cond (.tmp 20) (.seq (.ops Qeu) .ret) .skip)) (.seq (.ops Qet) .ret)) (.seq (.seq (.ops Qes) (.cond (.tmp 21) .skip (.ops Qer))) (.cond (.tmp 21) (.seq (.ops Qeq) (.cond (.tmp 27) (.seq (.ops Qep) .ret) .skip)) (.seq (.ops QcR) (.cond (.tmp 28) (.seq (.ops QcQ) (.cond (.tmp 33) (.seq (.ops QcP) .ret) .skip)) (.seq (.ops QcO) .ret))))))))) (.seq (.seq (.ops QcN) (.cond (.tmp 42) (.seq (.ops QcM) .ret) .skip)) (.seq (.seq (.ops QcL) (.block 1 (.loop Q5g))) (.seq (.ops QcE) .ret)))))
@[reducible] def Qm : FuncId := 129
theorem QcS : lowF Try.prog Try.f129 = some types_wrong_lc := by kernel_rfl
theorem Qez {a0 a1 : Value} {w : World} {R : Ending → World → Prop} (h : types_wrong_lc.wp Try.prog (retQ Try.prog [.tmp 4] R) (Qc [a0, a1]) w) : Calls Try.prog Qm ⟨[a0, a1]⟩ w R :=
  Q4 Try.func129 QcS (by kernel_rfl) (by kernel_rfl) h

/- 130 -/
/- 131 -/
/- 139 -/
/- 141 -/
def Q3C : List GO := [qk 4 (vi 0)]
def Q3B : List GO := [qm 6 0, qL 7 6, qk 8 (vi 0)]
def Q3A : List GO := [qt 9 .lss 3 8 7]
def Q3z : List GO := [qm 10 8, qm 5 10]
def Q3y : List GO := [qm 11 1, qm 12 0, qm 13 5, qi 14 1 12 13, ql 15 14, qt 16 .eql 5 11 15]
def Q3x : List GO := [qm 17 5, qm 4 17]
def Q3w : List GO := [qj 18 .add 3 8 1, qm 8 18]
def Q1X : LC := (.seq (.ops Q3A) (.seq (.cond (.tmp 9) .skip (.exit 0)) (.seq (.block 1 (.seq (.ops Q3z) (.seq (.ops Q3y) (.cond (.tmp 16) (.seq (.ops Q3x) .ret) .skip)))) (.ops Q3w))))
def Q3v : List GO := [qk 4 (vi (-1))]
def slices_Index_byte_byte_lc : LC := (.seq (.ops Q3C) (.seq (.seq (.ops Q3B) (.block 0 (.loop Q1X))) (.seq (.ops Q3v) .ret)))
@[reducible] def Q1o : FuncId := 141
theorem Q3h : lowF Try.prog Try.f141 = some slices_Index_byte_byte_lc := by kernel_rfl
theorem Q3D {a0 a1 : Value} {w : World} {R : Ending → World → Prop} (h : slices_Index_byte_byte_lc.wp Try.prog (retQ Try.prog [.tmp 4] R) (Qc [a0, a1]) w) : Calls Try.prog Q1o ⟨[a0, a1]⟩ w R :=
  Q4 Try.func141 Q3h (by kernel_rfl) (by kernel_rfl) h

/- 145 -/
end Go.Proofs.Ytanlkfeogoganaa
namespace Go.Proofs.Ytanlkfeogoganaa
open Go.Lir
set_option maxHeartbeats 1000000
attribute [local irreducible] LC.wp Q3 Qz QM retQ Q1x LO.wp Qf Calls
set_option linter.unusedSimpArgs false
set_option linter.unusedVariables false
theorem size_c : ∀ (t : Ty) {cx : Cx} {w : World} {L : List Res} {cs : List Value} {left : Int}, tyR.at cx cs t → -1 ≤ left → left ≤ 1000000 → St cx w L →
    Rets Try.prog Q6w [.agg ⟨cs⟩, .int .i64 left] w fun v w' => v = .int .i64 (t.size left) ∧ St cx w' L := by
  intro t
  induction t using Ty.ind with
  | h k r l ih =>
    intro cx w L cs left ht h1 h2 hS
    obtain ⟨v, rfl, hl⟩ := Q1q ht
    simp only [Ty.kind, Ty.r, Ty.l] at hl ht ⊢
    have hlen := hl.len
    rw [Ty.size]
    all_goals refine QgX ?_
    all_goals (unfold R_typeSize_lc; refine Q0 ?_; refine Q1 ?_; refine zb hS ?_; intro p2 w1 hS; refine zm ?_; refine zn ?_; refine Q0 ?_; refine Q1 ?_; refine zm ?_; refine zsu ?_; refine zm ?_; refine zn ?_; refine Q0 ?_; refine Q0 ?_; refine Q1 ?_; refine zm ?_; refine zn ?_; refine Qa ?_)
    refine zoL hS [2] (fun A LL ρ' w' => ∃ (j : Nat) (n : Int), Has ρ' A ∧ Has ρ' [(1, .int .i64 n), (5, .int .i64 j)] ∧ (j ≤ l.length) ∧ (n ≤ 1000000) ∧ (-2 ≤ n) ∧ (Tys.size l (left - 1) = Tys.size (l.drop j) n) ∧ St cx w' (LL)) (fun ρ' _ => (l.length - iv (ρ' 5)).toNat) ?_ ?_
    · exact ⟨0, left - 1, zh, zh, (by omega), (by omega), (by omega), by simp, hS.sp⟩
    rintro ρ w1 ⟨j, n, hA, hρ, hj, hn, hn1, hd, hS⟩; obtain ⟨ρ, rfl⟩ := env2 hA hρ
    unfold Q9G
    all_goals (refine Q0 ?_; refine Q0 ?_; refine Q1 ?_; refine zm ?_; refine Q2 rfl ?_; refine zl hS ?_; refine zL ?_)
    all_goals (first | (refine Q2G ?_) | (refine Q2H ?_) | (refine Q1h rfl rfl (fun hc => ?_) (fun hc => ?_)))
    all_goals (refine zm ?_; (first | refine s_gn rfl rfl ?_ | (refine s_gy rfl ?_; refine zm ?_)))
    all_goals (first | refine s_gn rfl rfl ?_ | (refine s_gy rfl ?_; (first | (refine Qhe ?_) | (refine Qhf ?_) | (refine Q5k rfl rfl (fun hc => ?_) (fun hc => ?_)))))
    all_goals ((first | (refine zpt ?_) | (refine zpf ?_)); refine zn ?_)
    all_goals
      first
      | (refine Q6 rfl ?_ -- Q6w c0
         all_goals (refine zex ?_; refine Q0 ?_; refine Q1 ?_; refine zm ?_; refine zm ?_; refine zn ?_; refine zr ?_; refine zf ?_)
         all_goals (refine ⟨_, rfl, ?_, hS.sp⟩; (rw [hd]; congr 1; first | (rw [Tys.size_neg _ (by omega)]; done) | (rw [List.drop_of_length_le (by omega), Tys.size]; done)); done))
      | (refine Q5 rfl ?_ -- Q6w c0
         all_goals (refine zsk ?_; refine Q0 ?_; refine Qa ?_; refine Q1 ?_; refine Q2 rfl ?_; refine zl hS ?_; refine zm ?_; refine zi ?_; intro b1 o1 cs1 x1 hat1 hx1 he1; obtain ⟨vl1, rfl, hl1⟩ := Q1q he1; (first | (refine zv hS ?_) | (refine zvk hS ?_)); refine zm ?_; refine zR2 (c := ih _ (List.mem_of_getElem? (by assumption)) (by assumption) (by omega) (by omega) hS) (h := ?_); rintro v1 w1 ⟨rfl, hS⟩; refine zm ?_; refine zn ?_; refine Q1 ?_; refine zm ?_; refine zad ?_; refine zm ?_; refine zn ?_)
         all_goals (exact ⟨⟨j + 1, _, zh, zh, (by omega), by have := Ty.size_rng x1 (left := n) (by omega); omega, by have := Ty.size_rng x1 (left := n) (by omega); omega, by rw [hd, Q7 hx1, Tys.size, if_pos (by omega)], hS.sp⟩, Qh (by omega)⟩))
theorem great_c {t : Ty} {cx : Cx} {w : World} {L : List Res} {cs : List Value} (ht : tyR.at cx cs t) (hS : St cx w L) :
    Rets Try.prog Qen [.agg ⟨cs⟩] w fun v w' => v = .bool t.great ∧ St cx w' L := by
  obtain ⟨v, rfl, hl⟩ := Q1q ht
  all_goals refine Qft ?_
  all_goals (unfold R_GreatType_lc; refine Q0 ?_; refine Q1 ?_; refine zb hS ?_; intro p1 w1 hS; refine zm ?_; refine zn ?_; refine Q0 ?_; refine Q1 ?_; refine zv hS ?_; refine zR2 (c := size_c t ht (by omega) (by omega) hS) (h := ?_); rintro v1 w1 ⟨rfl, hS⟩; refine Qu rfl rfl ?_; refine zm ?_; refine zn ?_; refine zr ?_; refine zf ?_; refine ⟨_, rfl, ?_, hS.sp⟩; (rfl); done)
theorem Qgh {l : List Ty} {cx : Cx} {w : World} {L : List Res} {v : Value} (hl : tyR.sl cx v l) (hS : St cx w L) :
    Rets Try.prog Q29 [v] w fun u w' => u = .bool (Tys.great l) ∧ St cx w' L := by
  have hlen := hl.len
  unfold Tys.great
  all_goals refine Qe6 ?_
  all_goals (unfold R_greatTypes_lc; refine Q0 ?_; refine Q1 ?_; refine zm ?_; refine zn ?_; refine Q0 ?_; refine Q0 ?_; refine Q1 ?_; refine zm ?_; refine zL ?_)
  all_goals (first | (refine QZ ?_) | (refine Q1g ?_) | (refine Qg rfl rfl (fun hc => ?_) (fun hc => ?_)))
  all_goals (refine zn ?_)
  all_goals
    first
    | (refine Q5 rfl ?_ -- Q29 c0
       all_goals (refine Q0 ?_; refine Q1 ?_; refine zm ?_; refine zn ?_; refine zr ?_; refine zf ?_)
       all_goals (refine ⟨_, rfl, ?_, hS.sp⟩; rw [decide_eq_true (by omega), Bool.true_or]; done))
    | (refine Q6 rfl ?_ -- Q29 c0
       all_goals refine zsk ?_)
  all_goals (refine Q0 ?_; refine Q0 ?_; refine Q1 ?_; refine zm ?_; refine zn ?_; refine Qa ?_)
  refine zoL hS [0] (fun A LL ρ' w' => ∃ (j : Nat), Has ρ' A ∧ Has ρ' [(3, .int .i64 j)] ∧ (j ≤ l.length) ∧ (l.any Ty.great = (l.drop j).any Ty.great) ∧ St cx w' (LL)) (fun ρ' _ => (l.length - iv (ρ' 3)).toNat) ?_ ?_
  · exact ⟨0, zh, zh, (by omega), by simp, hS.sp⟩
  rintro ρ w1 ⟨j, hA, hρ, hj, hd, hS⟩; obtain ⟨ρ, rfl⟩ := env2 hA hρ
  unfold Q6n
  all_goals (refine Q0 ?_; refine Q0 ?_; refine Q1 ?_; refine zm ?_; refine zm ?_; refine zL ?_; refine Qu rfl rfl ?_; refine zn ?_)
  refine Ql rfl (fun hc => ?_) (fun hc => ?_)
  · skip
    all_goals (refine zsk ?_; refine Q0 ?_; refine Qa ?_; refine Q0 ?_; refine Q1 ?_; refine zm ?_; refine zm ?_; refine zi ?_; intro b1 o1 cs1 x1 hat1 hx1 he1; obtain ⟨vl1, rfl, hl1⟩ := Q1q he1; (first | (refine zv hS ?_) | (refine zvk hS ?_)))
    all_goals (refine zR1 (c := great_c (by assumption) hS) (h := ?_); rintro v1 w1 ⟨rfl, hS⟩; cases hg : x1.great)
    all_goals (refine zn ?_)
    all_goals
      first
      | (refine Q5 rfl ?_ -- Q29 c2
         all_goals (refine Q0 ?_; refine Q1 ?_; refine zm ?_; refine zn ?_; refine zr ?_; refine zf ?_)
         all_goals (first | (refine ⟨_, rfl, ?_, hS.sp⟩; rw [decide_eq_true (by omega), Bool.true_or]; done) | (refine ⟨_, rfl, ?_, hS.sp⟩; rw [decide_eq_false (by omega), hd, Bool.false_or, Q7 hx1, List.any_cons, hg, Bool.true_or]; done)))
      | (refine Q6 rfl ?_ -- Q29 c2
         all_goals refine zsk ?_)
    all_goals (refine Q1 ?_; refine zm ?_; refine zad ?_; refine zm ?_; refine zn ?_; exact ⟨⟨j + 1, zh, zh, (by omega), by rw [hd, Q7 hx1, List.any_cons, hg, Bool.false_or], hS.sp⟩, Qh (by omega)⟩)
  · skip
    all_goals (refine zex ?_; refine Q0 ?_; refine Q1 ?_; refine zm ?_; refine zn ?_; refine zr ?_; refine zf ?_; (first | (refine ⟨_, rfl, ?_, hS.sp⟩; rw [decide_eq_true (by omega), Bool.true_or]; done) | (refine ⟨_, rfl, ?_, hS.sp⟩; rw [decide_eq_false (by omega), hd, Bool.false_or, Q7 hx1, List.any_cons, hg, Bool.true_or]; done) | (refine ⟨_, rfl, ?_, hS.sp⟩; rw [decide_eq_false (by omega), hd, Bool.false_or, List.drop_of_length_le (by omega)]; rfl; done)))
theorem deep_c : ∀ (t : Ty) {cx : Cx} {w : World} {L : List Res} {cs : List Value} {left : Int}, tyR.at cx cs t → left ≤ 1000000 → St cx w L →
    Rets Try.prog Q2W [.agg ⟨cs⟩, .int .i64 left] w fun v w' => v = .bool (t.deepB left) ∧ St cx w' L := by
  intro t
  induction t using Ty.ind with
  | h k r l ih =>
    intro cx w L cs left ht h1 hS
    obtain ⟨v, rfl, hl⟩ := Q1q ht
    simp only [Ty.kind, Ty.r, Ty.l] at hl ht ⊢
    have hlen := hl.len
    rw [Ty.deepB]
    all_goals refine Qg0 ?_
    all_goals (unfold types_deep_lc; refine Q0 ?_; refine Q1 ?_; refine zb hS ?_; intro p2 w1 hS; refine zm ?_; refine zn ?_; refine Q0 ?_; refine Q0 ?_; refine Q1 ?_; refine zm ?_)
    all_goals (first | (refine Q2G ?_) | (refine Q2H ?_) | (refine Q1h rfl rfl (fun hc => ?_) (fun hc => ?_)))
    all_goals (refine zn ?_)
    all_goals
      first
      | (refine Q5 rfl ?_ -- Q2W c0
         all_goals (refine Q0 ?_; refine Q1 ?_; refine zm ?_; refine zn ?_; refine zr ?_; refine zf ?_)
         all_goals (refine ⟨_, rfl, ?_, hS.sp⟩; rw [if_pos (by omega)]; done))
      | (refine Q6 rfl ?_ -- Q2W c0
         all_goals refine zsk ?_)
    all_goals (refine Q0 ?_; refine Q0 ?_; refine Q1 ?_; refine Q2 rfl ?_; refine zl hS ?_; refine zL ?_; refine zm ?_; refine zn ?_; refine Qa ?_)
    refine zoL hS [1, 10, 11] (fun A LL ρ' w' => ∃ (j : Nat), Has ρ' A ∧ Has ρ' [(12, .int .i64 j)] ∧ (j ≤ l.length) ∧ (Tys.deepB l (left - 1) = Tys.deepB (l.drop j) (left - 1)) ∧ St cx w' (LL)) (fun ρ' _ => (l.length - iv (ρ' 12)).toNat) ?_ ?_
    · exact ⟨0, zh, zh, (by omega), by simp, hS.sp⟩
    rintro ρ w1 ⟨j, hA, hρ, hj, hd, hS⟩; obtain ⟨ρ, rfl⟩ := env2 hA hρ
    unfold Q8O
    all_goals (refine Q0 ?_; refine Q1 ?_; refine Qu rfl rfl ?_; refine zn ?_; refine Q0 ?_)
    refine Ql rfl (fun hc => ?_) (fun hc => ?_)
    · skip
      all_goals (refine zsk ?_; refine Q0 ?_; refine Qa ?_; refine Q0 ?_; refine Q1 ?_; refine zi ?_; intro b1 o1 cs1 x1 hat1 hx1 he1; obtain ⟨vl1, rfl, hl1⟩ := Q1q he1; (first | (refine zv hS ?_) | (refine zvk hS ?_)); refine Qb hS ?_; intro p6 w1 hS; refine zsn hS ?_; intro w1 hS; have hS := hS.ns; refine zn ?_; refine Q0 ?_; refine Q1 ?_; refine zv hS ?_; refine zm ?_; refine zsu ?_)
      all_goals (refine zR2 (c := ih _ (List.mem_of_getElem? (by assumption)) (by assumption) (by omega) hS) (h := ?_); rintro v1 w1 ⟨rfl, hS⟩; cases hg : x1.deepB (left - 1))
      all_goals (refine Q2J rfl ?_; refine zn ?_)
      all_goals
        first
        | (refine Q6 rfl ?_ -- Q2W c2
           all_goals refine zsk ?_)
        | (refine Q5 rfl ?_ -- Q2W c2
           all_goals (refine Q0 ?_; refine Q1 ?_; refine zm ?_; refine zn ?_; refine zr ?_; refine zf ?_)
           all_goals (first | (refine ⟨_, rfl, ?_, hS.sp⟩; rw [if_pos (by omega)]; done) | (refine ⟨_, rfl, ?_, hS.sp⟩; rw [if_neg (by omega), hd, Q7 hx1, Tys.deepB, hg, Bool.false_and]; done)))
      all_goals (refine Q1 ?_; refine zad ?_; refine zm ?_; refine zn ?_; exact ⟨⟨j + 1, zh, zh, (by omega), by rw [hd, Q7 hx1, Tys.deepB, hg, Bool.true_and], hS.sp⟩, Qh (by omega)⟩)
    · skip
      all_goals (refine zex ?_; refine Q0 ?_; refine Q1 ?_; refine zm ?_; refine zn ?_; refine zr ?_; refine zf ?_; (first | (refine ⟨_, rfl, ?_, hS.sp⟩; rw [if_pos (by omega)]; done) | (refine ⟨_, rfl, ?_, hS.sp⟩; rw [if_neg (by omega), hd, Q7 hx1, Tys.deepB, hg, Bool.false_and]; done) | (refine ⟨_, rfl, ?_, hS.sp⟩; rw [if_neg (by omega), hd, List.drop_of_length_le (by omega), Tys.deepB]; done)))
theorem wrong_c : ∀ (t : Ty) {cx : Cx} {w : World} {L : List Res} {cs : List Value} {regs : Int}, tyR.at cx cs t → St cx w L →
    Rets Try.prog Qm [.agg ⟨cs⟩, .int .i64 regs] w fun v w' => v = .int .i64 (t.wrong 8 regs) ∧ St cx w' L := by
  intro t
  induction t using Ty.ind with
  | h k r l ih =>
    intro cx w L cs regs ht hS
    obtain ⟨v, rfl, hl⟩ := Q1q ht
    simp only [Ty.kind, Ty.r, Ty.l] at hl ht ⊢
    have hlen := hl.len
    rw [Ty.wrong]
    all_goals refine Qez ?_
    all_goals (unfold types_wrong_lc; refine Q0 ?_; refine Q1 ?_; refine zb hS ?_; intro p2 w1 hS; refine zm ?_; refine zn ?_)
    refine zML hS [1, 2] (fun A LL ρ' w' => Has ρ' A ∧ Has ρ' [] ∧ (1 ≤ k ∧ k ≤ 4 ∧ k ≠ 1 ∧ (k ≠ 3 → l.length = 0) ∧ l.length ≤ 8) ∧ St cx w' (LL)) ?_ ?_
    · skip
      all_goals (refine Q0 ?_; refine Q1 ?_; refine Q2 rfl ?_; refine zl hS ?_; refine zn ?_; refine Qa ?_; refine Q0 ?_; refine Q1 ?_)
      all_goals (first | (refine Q10 ?_) | (refine Q1p ?_) | (refine Qk rfl rfl (fun hc => ?_) (fun hc => ?_)))
      all_goals (refine zm ?_; refine zn ?_)
      all_goals
        first
        | (refine Q5 rfl ?_ -- Qm c0
           all_goals (refine Q0 ?_; refine Q0 ?_; refine Q1 ?_; refine Q2 rfl ?_; refine zl hS ?_)
           all_goals (first | (refine Q1F ?_) | (refine Q1G ?_) | (refine QC rfl rfl (fun hc => ?_) (fun hc => ?_)))
           all_goals (refine zm ?_; (first | refine s_gn rfl rfl ?_ | (refine s_gy rfl ?_; refine Q2 rfl ?_)); (first | refine s_gn rfl rfl ?_ | (refine s_gy rfl ?_; refine zl hS ?_)); (first | refine s_gn rfl rfl ?_ | (refine s_gy rfl ?_; refine zL ?_)))
           all_goals (first | refine s_gn rfl rfl ?_ | (refine s_gy rfl ?_; (first | (refine QZ ?_) | (refine Q1g ?_) | (refine Qg rfl rfl (fun hc => ?_) (fun hc => ?_)))))
           all_goals ((first | (refine zpt ?_) | (refine zpf ?_)); refine zn ?_)
           all_goals
             first
             | (refine Q5 rfl ?_ -- Qm c1
                all_goals (refine Q0 ?_; refine Q1 ?_; refine zm ?_; refine zn ?_; refine zr ?_; refine zf ?_)
                all_goals (refine ⟨_, rfl, ?_, hS.sp⟩; (repeat (first | rw [if_pos (by omega)] | rw [if_neg (by omega)])); done))
             | (refine Q6 rfl ?_ -- Qm c1
                all_goals refine zsk ?_)
           all_goals (refine Q0 ?_; refine Q1 ?_; refine zm ?_; refine zn ?_; refine zr ?_; refine zf ?_)
           all_goals (first | (refine ⟨_, rfl, ?_, hS.sp⟩; (repeat (first | rw [if_pos (by omega)] | rw [if_neg (by omega)])); done) | (refine ⟨_, rfl, ?_, hS.sp⟩; ((repeat (first | rw [if_pos (by omega)] | rw [if_neg (by omega)])); rw [hd, Q7 hx1, Tys.wrong, if_pos (by assumption)]); done) | (refine ⟨_, rfl, ?_, hS.sp⟩; ((repeat (first | rw [if_pos (by omega)] | rw [if_neg (by omega)])); rw [List.eq_nil_of_length_eq_zero (l := l) (by omega), Tys.wrong]); done)))
        | (refine Q6 rfl ?_ -- Qm c0
           all_goals (refine Q0 ?_; refine Q0 ?_; refine Q1 ?_)
           all_goals (first | (refine Q10 ?_) | (refine Q1p ?_) | (refine Qk rfl rfl (fun hc => ?_) (fun hc => ?_)))
           all_goals (refine zm ?_; refine zn ?_)
           all_goals
             first
             | (refine Q5 rfl ?_ -- Qm c2
                all_goals refine zsk ?_)
             | (refine Q6 rfl ?_ -- Qm c2
                all_goals (refine Q1 ?_)
                all_goals (first | (refine Q10 ?_) | (refine Q1p ?_) | (refine Qk rfl rfl (fun hc => ?_) (fun hc => ?_)))
                all_goals (refine zm ?_)
                all_goals refine zn ?_)
           all_goals
             first
             | (refine Q5 rfl ?_ -- Qm c3
                all_goals (refine Q0 ?_; refine Q1 ?_; refine Q2 rfl ?_; refine zl hS ?_; refine zL ?_)
                all_goals (first | (refine QZ ?_) | (refine Q1g ?_) | (refine Qg rfl rfl (fun hc => ?_) (fun hc => ?_)))
                all_goals (refine zn ?_)
                all_goals
                  first
                  | (refine Q5 rfl ?_ -- Qm c4
                     all_goals (refine Q0 ?_; refine Q1 ?_; refine zm ?_; refine zn ?_; refine zr ?_; refine zf ?_)
                     all_goals (refine ⟨_, rfl, ?_, hS.sp⟩; (repeat (first | rw [if_pos (by omega)] | rw [if_neg (by omega)])); done))
                  | (refine Q6 rfl ?_ -- Qm c4
                     all_goals refine zsk ?_))
             | (refine Q6 rfl ?_ -- Qm c3
                all_goals (refine Q0 ?_; refine Q1 ?_)
                all_goals (first | (refine Q10 ?_) | (refine Q1p ?_) | (refine Qk rfl rfl (fun hc => ?_) (fun hc => ?_)))
                all_goals (refine zm ?_; refine zn ?_)
                all_goals
                  first
                  | (refine Q5 rfl ?_ -- Qm c5
                     all_goals (refine Q0 ?_; refine Q1 ?_; refine Q2 rfl ?_; refine zl hS ?_; refine zL ?_)
                     all_goals (first | (refine QZ ?_) | (refine Q1g ?_) | (refine Qg rfl rfl (fun hc => ?_) (fun hc => ?_)))
                     all_goals (refine zn ?_)
                     all_goals
                       first
                       | (refine Q5 rfl ?_ -- Qm c6
                          all_goals (refine Q0 ?_; refine Q1 ?_; refine zm ?_; refine zn ?_; refine zr ?_; refine zf ?_)
                          all_goals (refine ⟨_, rfl, ?_, hS.sp⟩; (repeat (first | rw [if_pos (by omega)] | rw [if_neg (by omega)])); done))
                       | (refine Q6 rfl ?_ -- Qm c6
                          all_goals refine zsk ?_))
                  | (refine Q6 rfl ?_ -- Qm c5
                     all_goals (refine Q0 ?_; refine Q1 ?_; refine zm ?_; refine zn ?_; refine zr ?_; refine zf ?_)
                     all_goals (refine ⟨_, rfl, ?_, hS.sp⟩; (repeat (first | rw [if_pos (by omega)] | rw [if_neg (by omega)])); done))))
      all_goals (exact ⟨zh, zh, by omega, hS.sp⟩)
    rintro ρ w1 ⟨hA, hρ, hk, hS⟩; obtain ⟨ρ, rfl⟩ := env2 hA hρ
    all_goals (refine Q0 ?_; refine Q0 ?_; refine Q1 ?_; refine Q2 rfl ?_; refine zl hS ?_)
    all_goals (first | (refine Q2G ?_) | (refine Q2H ?_) | (refine Q1h rfl rfl (fun hc => ?_) (fun hc => ?_)))
    all_goals (refine zm ?_; (first | refine s_gn rfl rfl ?_ | (refine s_gy rfl ?_; refine Q2 rfl ?_)); (first | refine s_gn rfl rfl ?_ | (refine s_gy rfl ?_; refine zl hS ?_)); (first | refine s_gn rfl rfl ?_ | (refine s_gy rfl ?_; refine zm ?_)))
    all_goals (first | refine s_gn rfl rfl ?_ | (refine s_gy rfl ?_; (first | (refine Qhe ?_) | (refine Qhf ?_) | (refine Q5k rfl rfl (fun hc => ?_) (fun hc => ?_)))))
    all_goals ((first | (refine zpt ?_) | (refine zpf ?_)); refine zn ?_)
    all_goals
      first
      | (refine Q5 rfl ?_ -- Qm c7
         all_goals (refine Q0 ?_; refine Q1 ?_; refine zm ?_; refine zn ?_; refine zr ?_; refine zf ?_)
         all_goals (refine ⟨_, rfl, ?_, hS.sp⟩; (repeat (first | rw [if_pos (by omega)] | rw [if_neg (by omega)])); done))
      | (refine Q6 rfl ?_ -- Qm c7
         all_goals refine zsk ?_)
    all_goals (refine Q0 ?_; refine Q0 ?_; refine Q1 ?_; refine Q2 rfl ?_; refine zl hS ?_; refine zL ?_; refine zm ?_; refine zn ?_; refine Qa ?_)
    refine zoL hS [1, 44, 45] (fun A LL ρ' w' => ∃ (j : Nat), Has ρ' A ∧ Has ρ' [(46, .int .i64 j)] ∧ (j ≤ l.length) ∧ (Tys.wrong 8 l regs = Tys.wrong 8 (l.drop j) regs) ∧ St cx w' (LL)) (fun ρ' _ => (l.length - iv (ρ' 46)).toNat) ?_ ?_
    · exact ⟨0, zh, zh, (by omega), by simp, hS.sp⟩
    rintro ρ w1 ⟨j, hA, hρ, hj, hd, hS⟩; obtain ⟨ρ, rfl⟩ := env2 hA hρ
    unfold Q5g
    all_goals (refine Q0 ?_; refine Q1 ?_; refine Qu rfl rfl ?_; refine zn ?_; refine Q0 ?_)
    refine Ql rfl (fun hc => ?_) (fun hc => ?_)
    · skip
      all_goals (refine zsk ?_; refine Q0 ?_; refine Qa ?_; refine Q0 ?_; refine Q1 ?_; refine zi ?_; intro b1 o1 cs1 x1 hat1 hx1 he1; obtain ⟨vl1, rfl, hl1⟩ := Q1q he1; (first | (refine zv hS ?_) | (refine zvk hS ?_)); refine Qb hS ?_; intro p6 w1 hS; refine zsn hS ?_; intro w1 hS; have hS := hS.ns; refine zn ?_; refine Q0 ?_; refine Q1 ?_; refine zv hS ?_; refine zm ?_; refine zR2 (c := ih _ (List.mem_of_getElem? (by assumption)) (by assumption) hS) (h := ?_); rintro v1 w1 ⟨rfl, hS⟩; refine zm ?_; refine zn ?_; refine Q0 ?_; refine Q1 ?_; refine zm ?_)
      all_goals (first | (refine Q1F ?_) | (refine Q1G ?_) | (refine QC rfl rfl (fun hc => ?_) (fun hc => ?_)))
      all_goals (refine zn ?_)
      all_goals
        first
        | (refine Q5 rfl ?_ -- Qm c9
           all_goals (refine Q0 ?_; refine Q1 ?_; refine zm ?_; refine zm ?_; refine zn ?_; refine zr ?_; refine zf ?_)
           all_goals (first | (refine ⟨_, rfl, ?_, hS.sp⟩; (repeat (first | rw [if_pos (by omega)] | rw [if_neg (by omega)])); done) | (refine ⟨_, rfl, ?_, hS.sp⟩; ((repeat (first | rw [if_pos (by omega)] | rw [if_neg (by omega)])); rw [hd, Q7 hx1, Tys.wrong, if_pos (by assumption)]); done)))
        | (refine Q6 rfl ?_ -- Qm c9
           all_goals refine zsk ?_)
      all_goals (refine Q1 ?_; refine zad ?_; refine zm ?_; refine zn ?_; exact ⟨⟨j + 1, zh, zh, (by omega), by rw [hd, Q7 hx1, Tys.wrong, if_neg (by omega)], hS.sp⟩, Qh (by omega)⟩)
    · skip
      all_goals (refine zex ?_; refine Q0 ?_; refine Q1 ?_; refine zm ?_; refine zn ?_; refine zr ?_; refine zf ?_; (first | (refine ⟨_, rfl, ?_, hS.sp⟩; (repeat (first | rw [if_pos (by omega)] | rw [if_neg (by omega)])); done) | (refine ⟨_, rfl, ?_, hS.sp⟩; ((repeat (first | rw [if_pos (by omega)] | rw [if_neg (by omega)])); rw [hd, Q7 hx1, Tys.wrong, if_pos (by assumption)]); done) | (refine ⟨_, rfl, ?_, hS.sp⟩; ((repeat (first | rw [if_pos (by omega)] | rw [if_neg (by omega)])); rw [List.eq_nil_of_length_eq_zero (l := l) (by omega), Tys.wrong]); done) | (refine ⟨_, rfl, ?_, hS.sp⟩; ((repeat (first | rw [if_pos (by omega)] | rw [if_neg (by omega)])); rw [hd, List.drop_of_length_le (by omega), Tys.wrong]); done)))
theorem tcheck_c {t : Ty} {cx : Cx} {w : World} {L : List Res} {cs : List Value} {regs : Int} (ht : tyR.at cx cs t) (hS : St cx w L) :
    Rets Try.prog Q48 [.agg ⟨cs⟩, .int .i64 regs] w fun v w' => v = .int .i64 (t.fault regs) ∧ St cx w' L := by
  obtain ⟨v, rfl, hl⟩ := Q1q ht
  unfold Ty.fault
  all_goals refine QeG ?_
  all_goals (unfold types_Check_lc; refine Q0 ?_; refine Q1 ?_; refine zb hS ?_; intro p2 w1 hS; refine zm ?_; refine zn ?_; refine Q0 ?_; refine Q0 ?_; refine Q1 ?_; refine zv hS ?_)
  all_goals (refine zR2 (c := deep_c t ht (by omega) hS) (h := ?_); rintro v1 w1 ⟨rfl, hS⟩; cases hg : t.deepB 4)
  all_goals (refine Q2J rfl ?_; refine zn ?_)
  all_goals
    first
    | (refine Q5 rfl ?_ -- Q48 c0
       all_goals (refine Q0 ?_; refine Q1 ?_; refine zm ?_; refine zn ?_; refine zr ?_; refine zf ?_)
       all_goals (refine ⟨_, rfl, ?_, hS.sp⟩; (rfl); done))
    | (refine Q6 rfl ?_ -- Q48 c0
       all_goals refine zsk ?_)
  all_goals (refine Q0 ?_; refine Q1 ?_; refine zv hS ?_; refine zm ?_; refine zR2 (c := wrong_c t ht hS) (h := ?_); rintro v1 w1 ⟨rfl, hS⟩; refine zm ?_; refine zn ?_; refine zr ?_; refine zf ?_; refine ⟨_, rfl, ?_, hS.sp⟩; (rfl); done)
end Go.Proofs.Ytanlkfeogoganaa
namespace Go.Proofs.Ytanlkfeogoganaa
open Go.Lir
set_option maxHeartbeats 1000000
attribute [local irreducible] LC.wp Q3 Qz QM retQ Q1x LO.wp Qf Calls
set_option linter.unusedSimpArgs false
set_option linter.unusedVariables false
end Go.Proofs.Ytanlkfeogoganaa
namespace Go.Proofs.Ytanlkfeogoganaa
open Go.Lir
set_option maxHeartbeats 1000000
attribute [local irreducible] LC.wp Q3 Qz QM retQ Q1x LO.wp Qf Calls
set_option linter.unusedSimpArgs false
set_option linter.unusedVariables false
theorem Qhr {l : List Ty} (ih : ∀ x ∈ l, ∀ (y : Ty) {cx : Cx} {w : World} {L : List Res} {cs ds : List Value}, tyR.at cx cs x → tyR.at cx ds y → St cx w L → Rets Try.prog QaA [.agg ⟨cs⟩, .agg ⟨ds⟩] w fun u w' => u = .bool (decide (x = y)) ∧ St cx w' L)
    {m : List Ty} {cx : Cx} {w : World} {L : List Res} {v v2 : Value} (hl : tyR.sl cx v l) (hm : tyR.sl cx v2 m) (hS : St cx w L) : Rets Try.prog Q25 [v, v2] w fun u w' => u = .bool (decide (l = m)) ∧ St cx w' L := by
  have hlen := hl.len
  all_goals refine Qfk ?_
  all_goals (unfold R_SameTypes_lc; refine Q0 ?_; refine Q1 ?_; refine zm ?_; refine zn ?_; refine Q0 ?_; refine Q0 ?_; refine Q1 ?_; refine zm ?_; refine zL ?_; refine zm ?_; refine zL ?_)
  all_goals (first | (refine Q1F ?_) | (refine Q1G ?_) | (refine QC rfl rfl (fun hc => ?_) (fun hc => ?_)))
  all_goals (refine zn ?_)
  all_goals
    first
    | (refine Q5 rfl ?_ -- Q25 c0
       all_goals (refine Q0 ?_; refine Q1 ?_; refine zm ?_; refine zn ?_; refine zr ?_; refine zf ?_)
       all_goals (refine ⟨_, rfl, ?_, hS.sp⟩; rw [decide_eq_false]; exact fun e => absurd (congrArg List.length e) (by omega); done))
    | (refine Q6 rfl ?_ -- Q25 c0
       all_goals refine zsk ?_)
  all_goals (refine Q0 ?_; refine Q0 ?_; refine Q1 ?_; refine zm ?_; refine zn ?_; refine Qa ?_)
  refine zoL hS [0, 1] (fun A LL ρ' w' => ∃ (j : Nat), Has ρ' A ∧ Has ρ' [(5, .int .i64 j)] ∧ (j ≤ l.length) ∧ (l.length = m.length) ∧ (l = m ↔ l.drop j = m.drop j) ∧ St cx w' (LL)) (fun ρ' _ => (l.length - iv (ρ' 5)).toNat) ?_ ?_
  · exact ⟨0, zh, zh, (by omega), (by omega), by simp, hS.sp⟩
  rintro ρ w1 ⟨j, hA, hρ, hj, hlm, hd, hS⟩; obtain ⟨ρ, rfl⟩ := env2 hA hρ
  unfold Q7w
  all_goals (refine Q0 ?_; refine Q0 ?_; refine Q1 ?_; refine zm ?_; refine zm ?_; refine zL ?_; refine Qu rfl rfl ?_; refine zn ?_)
  refine Ql rfl (fun hc => ?_) (fun hc => ?_)
  · skip
    all_goals (refine zsk ?_; refine Q0 ?_; refine Qa ?_; refine Q0 ?_; refine zD [(0, none), (1, none), (2, none), (3, none), (4, none), (5, none), (6, none), (7, none), (8, some none), (9, some none)] ?_; have hS := hS.drew; refine zm ?_; refine zm ?_; refine zi ?_; intro b1 o1 cs1 x1 hat1 hx1 he1; obtain ⟨vl1, rfl, hl1⟩ := Q1q he1; (first | (refine zv hS ?_) | (refine zvk hS ?_)); refine zm ?_; refine zm ?_; refine zi ?_; intro b2 o2 cs2 x2 hat2 hx2 he2; obtain ⟨vl2, rfl, hl2⟩ := Q1q he2; (first | (refine zv hS ?_) | (refine zvk hS ?_)))
    all_goals (refine zR2 (c := ih _ (List.mem_of_getElem? hx1) _ he1 he2 hS) (h := ?_); rintro v1 w1 ⟨rfl, hS⟩; (cases hdec : decide (x1 = x2)); have hg := of_decide_eq_false hdec; rotate_left; have hg := of_decide_eq_true hdec; all_goals skip)
    all_goals (refine Q2J rfl ?_; refine zn ?_)
    all_goals
      first
      | (refine Q5 rfl ?_ -- Q25 c2
         all_goals (refine Q0 ?_; refine Q1 ?_; refine zm ?_; refine zn ?_; refine zr ?_; refine zf ?_)
         all_goals (first | (refine ⟨_, rfl, ?_, hS.sp⟩; rw [decide_eq_false]; exact fun e => absurd (congrArg List.length e) (by omega); done) | (refine ⟨_, rfl, ?_, hS.sp⟩; rw [decide_eq_false]; rw [hd, Q7 hx1, Q7 hx2]; simp [hg]; done)))
      | (refine Q6 rfl ?_ -- Q25 c2
         all_goals refine zsk ?_)
    all_goals (refine Q1 ?_; refine zm ?_; refine zad ?_; refine zm ?_; refine zn ?_; exact ⟨⟨j + 1, zh, zh, (by omega), (by omega), by rw [hd, Q7 hx1, Q7 hx2, hg]; simp, hS.sp⟩, Qh (by omega)⟩)
  · skip
    all_goals (refine zex ?_; refine Q0 ?_; refine Q1 ?_; refine zm ?_; refine zn ?_; refine zr ?_; refine zf ?_; (first | (refine ⟨_, rfl, ?_, hS.sp⟩; rw [decide_eq_false]; exact fun e => absurd (congrArg List.length e) (by omega); done) | (refine ⟨_, rfl, ?_, hS.sp⟩; rw [decide_eq_false]; rw [hd, Q7 hx1, Q7 hx2]; simp [hg]; done) | (refine ⟨_, rfl, ?_, hS.sp⟩; rw [decide_eq_true]; rw [hd, List.drop_of_length_le (by omega), List.drop_of_length_le (by omega)]; done)))
theorem rsame_c : ∀ (t u : Ty) {cx : Cx} {w : World} {L : List Res} {cs ds : List Value}, tyR.at cx cs t → tyR.at cx ds u → St cx w L →
    Rets Try.prog QaA [.agg ⟨cs⟩, .agg ⟨ds⟩] w fun v w' => v = .bool (decide (t = u)) ∧ St cx w' L := by
  intro t
  induction t using Ty.ind with
  | h k r l ih =>
    rintro ⟨k2, r2, m⟩ cx w L cs ds ht hu hS
    obtain ⟨v, rfl, hl⟩ := Q1q ht
    obtain ⟨v2, rfl, hm⟩ := Q1q hu
    simp only [Ty.kind, Ty.r, Ty.l, Ty.mk.injEq] at hl hm ht hu ⊢
    all_goals refine Qh1 ?_
    all_goals (unfold R_SameType_lc; refine Q0 ?_; refine Q1 ?_; refine zb hS ?_; intro p2 w1 hS; refine zb hS ?_; intro p3 w1 hS; refine zm ?_; refine zn ?_; refine Q0 ?_; refine Q1 ?_; refine Q2 rfl ?_; refine zl hS ?_; refine Q2 rfl ?_; refine zl hS ?_)
    all_goals (first | (refine Q10 ?_) | (refine Q1p ?_) | (refine Qk rfl rfl (fun hc => ?_) (fun hc => ?_)))
    all_goals (refine zm ?_; (first | refine s_gn rfl rfl ?_ | (refine s_gy rfl ?_; refine Q2 rfl ?_)); (first | refine s_gn rfl rfl ?_ | (refine s_gy rfl ?_; refine zl hS ?_)); (first | refine s_gn rfl rfl ?_ | (refine s_gy rfl ?_; refine Q2 rfl ?_)); (first | refine s_gn rfl rfl ?_ | (refine s_gy rfl ?_; refine zl hS ?_)))
    all_goals (first | refine s_gn rfl rfl ?_ | (refine s_gy rfl ?_; (first | (refine Q10 ?_) | (refine Q1p ?_) | (refine Qk rfl rfl (fun hc => ?_) (fun hc => ?_)))))
    all_goals ((first | (refine zpt ?_) | (refine zpf ?_)); refine zm ?_; (first | refine s_gn rfl rfl ?_ | (refine s_gy rfl ?_; refine Q2 rfl ?_)); (first | refine s_gn rfl rfl ?_ | (refine s_gy rfl ?_; refine zl hS ?_)); (first | refine s_gn rfl rfl ?_ | (refine s_gy rfl ?_; refine Q2 rfl ?_)); (first | refine s_gn rfl rfl ?_ | (refine s_gy rfl ?_; refine zl hS ?_)); (first | refine s_gn rfl rfl ?_ | (refine s_gy rfl ?_; refine zR2 (c := Qhr ih hl hm hS) (h := ?_); rintro v1 w1 ⟨rfl, hS⟩)); (first | (refine zpt ?_) | (refine zpf ?_)); refine zm ?_; refine zn ?_; refine zr ?_; refine zf ?_; refine ⟨_, rfl, ?_, hS.sp⟩; (simp [*]); done)
theorem Q8Q {l m : List Ty} {cx : Cx} {w : World} {L : List Res} {v v2 : Value} (hl : tyR.sl cx v l) (hm : tyR.sl cx v2 m) (hS : St cx w L) : Rets Try.prog Q25 [v, v2] w fun u w' => u = .bool (decide (l = m)) ∧ St cx w' L :=
  Qhr (fun x _ => rsame_c x) hl hm hS
/-- slices.EqualFunc, by a function that tells whether two are the same. -/
theorem eqfT_c {l : List Ty} {f : FuncId} (hf : Q2A Try.prog f = true) {m : List Ty} {cx : Cx} {w : World} {L : List Res} {v v2 : Value}
    (hcall : ∀ x ∈ l, ∀ y ∈ m, ∀ {w : World} {L : List Res} {cs ds : List Value}, tyR.at cx cs x → tyR.at cx ds y → St cx w L → Rets Try.prog f [.agg ⟨cs⟩, .agg ⟨ds⟩] w fun u w' => u = .bool (decide (x = y)) ∧ St cx w' L)
    (hl : tyR.sl cx v l) (hm : tyR.sl cx v2 m) (hS : St cx w L) : Rets Try.prog Q9 [v, v2, .func (.func f) #[] #[]] w fun u w' => u = .bool (decide (l = m)) ∧ St cx w' L := by
  have hlen := hl.len
  all_goals refine Q1b ?_
  all_goals (unfold slices_EqualFunc_api_Type_api_Type_api_Type_api_Type_lc; refine Q0 ?_; refine Q1 ?_; refine zm ?_; refine zn ?_; refine Q0 ?_; refine Q0 ?_; refine Q1 ?_; refine zm ?_; refine zL ?_; refine zm ?_; refine zL ?_)
  all_goals (first | (refine Q1F ?_) | (refine Q1G ?_) | (refine QC rfl rfl (fun hc => ?_) (fun hc => ?_)))
  all_goals (refine zn ?_)
  all_goals
    first
    | (refine Q5 rfl ?_ -- Q9 c0
       all_goals (refine Q0 ?_; refine Q1 ?_; refine zm ?_; refine zn ?_; refine zr ?_; refine zf ?_)
       all_goals (refine ⟨_, rfl, ?_, hS.sp⟩; rw [decide_eq_false]; exact fun e => absurd (congrArg List.length e) (by omega); done))
    | (refine Q6 rfl ?_ -- Q9 c0
       all_goals refine zsk ?_)
  all_goals (refine Q0 ?_; refine Q0 ?_; refine Q1 ?_; refine zm ?_; refine zL ?_; refine zm ?_; refine zn ?_; refine Qa ?_)
  refine zoL hS [1, 2, 15, 16] (fun A LL ρ' w' => ∃ (j : Nat), Has ρ' A ∧ Has ρ' [(17, .int .i64 j)] ∧ (j ≤ l.length) ∧ (l.length = m.length) ∧ (l = m ↔ l.drop j = m.drop j) ∧ St cx w' (LL)) (fun ρ' _ => (l.length - iv (ρ' 17)).toNat) ?_ ?_
  · exact ⟨0, zh, zh, (by omega), (by omega), by simp, hS.sp⟩
  rintro ρ w1 ⟨j, hA, hρ, hj, hlm, hd, hS⟩; obtain ⟨ρ, rfl⟩ := env2 hA hρ
  unfold Qp
  all_goals (refine Q0 ?_; refine Q1 ?_; refine Qu rfl rfl ?_; refine zn ?_; refine Q0 ?_)
  refine Ql rfl (fun hc => ?_) (fun hc => ?_)
  · skip
    all_goals (refine zsk ?_; refine Q0 ?_; refine Qa ?_; refine Q0 ?_; refine Q1 ?_; refine zm ?_; refine zi ?_; intro b1 o1 cs1 x1 hat1 hx1 he1; obtain ⟨vl1, rfl, hl1⟩ := Q1q he1; (first | (refine zv hS ?_) | (refine zvk hS ?_)); refine Qb hS ?_; intro p8 w1 hS; refine zm ?_; refine zsn hS ?_; intro w1 hS; have hS := hS.ns; refine zn ?_; refine Q0 ?_; refine Q1 ?_; refine zm ?_; refine zm ?_; refine zi ?_; intro b2 o2 cs2 x2 hat2 hx2 he2; obtain ⟨vl2, rfl, hl2⟩ := Q1q he2; (first | (refine zv hS ?_) | (refine zvk hS ?_)); refine Qb hS ?_; intro p9 w1 hS; refine zsn hS ?_; intro w1 hS; have hS := hS.ns; refine zn ?_; refine Q0 ?_; refine Q1 ?_; refine zm ?_; refine zv hS ?_; refine zv hS ?_)
    all_goals (refine Qka rfl hf (by rfl) (hcall _ (List.mem_of_getElem? hx1) _ (List.mem_of_getElem? hx2) he1 he2 hS) ?_; rintro v1 w1 ⟨rfl, hS⟩; (cases hdec : decide (x1 = x2)); have hg := of_decide_eq_false hdec; rotate_left; have hg := of_decide_eq_true hdec; all_goals skip)
    all_goals (refine Q2J rfl ?_; refine zn ?_)
    all_goals
      first
      | (refine Q5 rfl ?_ -- Q9 c2
         all_goals (refine Q0 ?_; refine Q1 ?_; refine zm ?_; refine zn ?_; refine zr ?_; refine zf ?_)
         all_goals (first | (refine ⟨_, rfl, ?_, hS.sp⟩; rw [decide_eq_false]; exact fun e => absurd (congrArg List.length e) (by omega); done) | (refine ⟨_, rfl, ?_, hS.sp⟩; rw [decide_eq_false]; rw [hd, Q7 hx1, Q7 hx2]; simp [hg]; done)))
      | (refine Q6 rfl ?_ -- Q9 c2
         all_goals refine zsk ?_)
    all_goals (refine Q1 ?_; refine zad ?_; refine zm ?_; refine zn ?_; exact ⟨⟨j + 1, zh, zh, (by omega), (by omega), by rw [hd, Q7 hx1, Q7 hx2, hg]; simp, hS.sp⟩, Qh (by omega)⟩)
  · skip
    all_goals (refine zex ?_; refine Q0 ?_; refine Q1 ?_; refine zm ?_; refine zn ?_; refine zr ?_; refine zf ?_; (first | (refine ⟨_, rfl, ?_, hS.sp⟩; rw [decide_eq_false]; exact fun e => absurd (congrArg List.length e) (by omega); done) | (refine ⟨_, rfl, ?_, hS.sp⟩; rw [decide_eq_false]; rw [hd, Q7 hx1, Q7 hx2]; simp [hg]; done) | (refine ⟨_, rfl, ?_, hS.sp⟩; rw [decide_eq_true]; rw [hd, List.drop_of_length_le (by omega), List.drop_of_length_le (by omega)]; done)))
theorem psame_c : ∀ (t u : Ty) {cx : Cx} {w : World} {L : List Res} {cs ds : List Value}, tyR.at cx cs t → tyR.at cx ds u → St cx w L →
    Rets Try.prog Qfv [.agg ⟨cs⟩, .agg ⟨ds⟩] w fun v w' => v = .bool (decide (t = u)) ∧ St cx w' L := by
  intro t
  induction t using Ty.ind with
  | h k r l ih =>
    rintro ⟨k2, r2, m⟩ cx w L cs ds ht hu hS
    obtain ⟨v, rfl, hl⟩ := Q1q ht
    obtain ⟨v2, rfl, hm⟩ := Q1q hu
    simp only [Ty.kind, Ty.r, Ty.l, Ty.mk.injEq] at hl hm ht hu ⊢
    all_goals refine Qg3 ?_
    all_goals (unfold types_Same_lc; refine Q0 ?_; refine Q1 ?_; refine zb hS ?_; intro p2 w1 hS; refine zb hS ?_; intro p3 w1 hS; refine zm ?_; refine zn ?_; refine Q0 ?_; refine Q1 ?_; refine Q2 rfl ?_; refine zl hS ?_; refine Q2 rfl ?_; refine zl hS ?_)
    all_goals (first | (refine Q10 ?_) | (refine Q1p ?_) | (refine Qk rfl rfl (fun hc => ?_) (fun hc => ?_)))
    all_goals (refine zm ?_; (first | refine s_gn rfl rfl ?_ | (refine s_gy rfl ?_; refine Q2 rfl ?_)); (first | refine s_gn rfl rfl ?_ | (refine s_gy rfl ?_; refine zl hS ?_)); (first | refine s_gn rfl rfl ?_ | (refine s_gy rfl ?_; refine Q2 rfl ?_)); (first | refine s_gn rfl rfl ?_ | (refine s_gy rfl ?_; refine zl hS ?_)))
    all_goals (first | refine s_gn rfl rfl ?_ | (refine s_gy rfl ?_; (first | (refine Q10 ?_) | (refine Q1p ?_) | (refine Qk rfl rfl (fun hc => ?_) (fun hc => ?_)))))
    all_goals ((first | (refine zpt ?_) | (refine zpf ?_)); refine zm ?_; (first | refine s_gn rfl rfl ?_ | (refine s_gy rfl ?_; refine Q2 rfl ?_)); (first | refine s_gn rfl rfl ?_ | (refine s_gy rfl ?_; refine zl hS ?_)); (first | refine s_gn rfl rfl ?_ | (refine s_gy rfl ?_; refine Q2 rfl ?_)); (first | refine s_gn rfl rfl ?_ | (refine s_gy rfl ?_; refine zl hS ?_)); (first | refine s_gn rfl rfl ?_ | (refine s_gy rfl ?_; refine zR3 (c := eqfT_c (by kernel_rfl) (fun x hx y _ {_ _ _ _} h1 h2 h3 => ih x hx y h1 h2 h3) hl hm hS) (h := ?_); rintro v1 w1 ⟨rfl, hS⟩)); (first | (refine zpt ?_) | (refine zpf ?_)); refine zm ?_; refine zn ?_; refine zr ?_; refine zf ?_; refine ⟨_, rfl, ?_, hS.sp⟩; (simp [*]); done)
end Go.Proofs.Ytanlkfeogoganaa
namespace Go.Proofs.Ytanlkfeogoganaa
open Go.Lir
set_option maxHeartbeats 1000000
attribute [local irreducible] LC.wp Q3 Qz QM retQ Q1x LO.wp Qf Calls
set_option linter.unusedSimpArgs false
set_option linter.unusedVariables false
theorem Qd1 {l m : List Int} {cx : Cx} {w : World} {L : List Res} {v v2 : Value} (hl : intR.sl cx v l) (hm : intR.sl cx v2 m) (hS : St cx w L) : Rets Try.prog Q2Z [v, v2] w fun u w' => u = .bool (decide (l = m)) ∧ St cx w' L := by
  have hlen := hl.len
  all_goals refine Qhb ?_
  all_goals (unfold R_SameInts_lc; refine Q0 ?_; refine Q1 ?_; refine zm ?_; refine zn ?_; refine Q0 ?_; refine Q0 ?_; refine Q1 ?_; refine zm ?_; refine zL ?_; refine zm ?_; refine zL ?_)
  all_goals (first | (refine Q1F ?_) | (refine Q1G ?_) | (refine QC rfl rfl (fun hc => ?_) (fun hc => ?_)))
  all_goals (refine zn ?_)
  all_goals
    first
    | (refine Q5 rfl ?_ -- Q2Z c0
       all_goals (refine Q0 ?_; refine Q1 ?_; refine zm ?_; refine zn ?_; refine zr ?_; refine zf ?_)
       all_goals (refine ⟨_, rfl, ?_, hS.sp⟩; rw [decide_eq_false]; exact fun e => absurd (congrArg List.length e) (by omega); done))
    | (refine Q6 rfl ?_ -- Q2Z c0
       all_goals refine zsk ?_)
  all_goals (refine Q0 ?_; refine Q0 ?_; refine Q1 ?_; refine zm ?_; refine zn ?_; refine Qa ?_)
  refine zoL hS [0, 1] (fun A LL ρ' w' => ∃ (j : Nat), Has ρ' A ∧ Has ρ' [(5, .int .i64 j)] ∧ (j ≤ l.length) ∧ (l.length = m.length) ∧ (l = m ↔ l.drop j = m.drop j) ∧ St cx w' (LL)) (fun ρ' _ => (l.length - iv (ρ' 5)).toNat) ?_ ?_
  · exact ⟨0, zh, zh, (by omega), (by omega), by simp, hS.sp⟩
  rintro ρ w1 ⟨j, hA, hρ, hj, hlm, hd, hS⟩; obtain ⟨ρ, rfl⟩ := env2 hA hρ
  unfold Q9H
  all_goals (refine Q0 ?_; refine Q0 ?_; refine Q1 ?_; refine zm ?_; refine zm ?_; refine zL ?_; refine Qu rfl rfl ?_; refine zn ?_)
  refine Ql rfl (fun hc => ?_) (fun hc => ?_)
  · skip
    all_goals (refine zsk ?_; refine Q0 ?_; refine Qa ?_; refine Q0 ?_; refine zD [(0, none), (1, none), (2, none), (3, none), (4, none), (5, none), (6, none), (7, none), (8, some none)] ?_; have hS := hS.drew; refine zm ?_; refine zm ?_; refine zi ?_; intro b1 o1 cs1 x1 hat1 hx1 he1; obtain rfl := Q1M he1; (first | (refine zl hS ?_) | (refine zlk hS ?_)); refine zm ?_; refine zm ?_; refine zi ?_; intro b2 o2 cs2 x2 hat2 hx2 he2; obtain rfl := Q1M he2; (first | (refine zl hS ?_) | (refine zlk hS ?_)))
    all_goals (first | (refine Q1F ?_) | (refine Q1G ?_) | (refine QC rfl rfl (fun hc => ?_) (fun hc => ?_)))
    all_goals (refine zn ?_)
    all_goals
      first
      | (refine Q5 rfl ?_ -- Q2Z c2
         all_goals (refine Q0 ?_; refine Q1 ?_; refine zm ?_; refine zn ?_; refine zr ?_; refine zf ?_)
         all_goals (first | (refine ⟨_, rfl, ?_, hS.sp⟩; rw [decide_eq_false]; exact fun e => absurd (congrArg List.length e) (by omega); done) | (refine ⟨_, rfl, ?_, hS.sp⟩; rw [decide_eq_false]; rw [hd, Q7 hx1, Q7 hx2]; simp [*]; done)))
      | (refine Q6 rfl ?_ -- Q2Z c2
         all_goals refine zsk ?_)
    all_goals (refine Q1 ?_; refine zm ?_; refine zad ?_; refine zm ?_; refine zn ?_; exact ⟨⟨j + 1, zh, zh, (by omega), (by omega), by rw [hd, Q7 hx1, Q7 hx2, show x1 = x2 by omega]; simp, hS.sp⟩, Qh (by omega)⟩)
  · skip
    all_goals (refine zex ?_; refine Q0 ?_; refine Q1 ?_; refine zm ?_; refine zn ?_; refine zr ?_; refine zf ?_; (first | (refine ⟨_, rfl, ?_, hS.sp⟩; rw [decide_eq_false]; exact fun e => absurd (congrArg List.length e) (by omega); done) | (refine ⟨_, rfl, ?_, hS.sp⟩; rw [decide_eq_false]; rw [hd, Q7 hx1, Q7 hx2]; simp [*]; done) | (refine ⟨_, rfl, ?_, hS.sp⟩; rw [decide_eq_true]; rw [hd, List.drop_of_length_le (by omega), List.drop_of_length_le (by omega)]; done)))
theorem Qhq {x y : To} {cx : Cx} {w : World} {L : List Res} {cs ds : List Value} (hx : toR.at cx cs x) (hy : toR.at cx ds y) (hS : St cx w L) : Rets Try.prog Qjo [.agg ⟨cs⟩, .agg ⟨ds⟩] w fun u w' => u = .bool (decide (x = y)) ∧ St cx w' L := by
  obtain ⟨n, xr, xa⟩ := x
  obtain ⟨n2, yr, ya⟩ := y
  obtain ⟨v1, v2, rfl, h1, h2⟩ := Q7y hx
  obtain ⟨v3, v4, rfl, h3, h4⟩ := Q7y hy
  simp only [To.mk.injEq] at *
  all_goals refine QiZ ?_
  all_goals (unfold R_sameTo_lc; refine Q0 ?_; refine Q1 ?_; refine zb hS ?_; intro p2 w1 hS; refine zb hS ?_; intro p3 w1 hS; refine zm ?_; refine zn ?_; refine Q0 ?_; refine Q1 ?_; refine Q2 rfl ?_; refine zl hS ?_; refine Q2 rfl ?_; refine zl hS ?_)
  all_goals (first | (refine Q10 ?_) | (refine Q1p ?_) | (refine Qk rfl rfl (fun hc => ?_) (fun hc => ?_)))
  all_goals (refine zm ?_; (first | refine s_gn rfl rfl ?_ | (refine s_gy rfl ?_; refine Q2 rfl ?_)); (first | refine s_gn rfl rfl ?_ | (refine s_gy rfl ?_; refine zl hS ?_)); (first | refine s_gn rfl rfl ?_ | (refine s_gy rfl ?_; refine Q2 rfl ?_)); (first | refine s_gn rfl rfl ?_ | (refine s_gy rfl ?_; refine zl hS ?_)))
  all_goals ((first | (refine s_gn rfl rfl ?_) | (refine s_gy rfl ?_; refine zR2 (c := Qd1 h1 h3 hS) (h := ?_); rintro v1 w1 ⟨rfl, hS⟩; (cases hdec : decide (xr = yr)); have hg := of_decide_eq_false hdec; rotate_left; have hg := of_decide_eq_true hdec; all_goals skip)))
  all_goals ((first | (refine zpt ?_) | (refine zpf ?_)); refine zm ?_; (first | refine s_gn rfl rfl ?_ | (refine s_gy rfl ?_; refine Q2 rfl ?_)); (first | refine s_gn rfl rfl ?_ | (refine s_gy rfl ?_; refine zl hS ?_)); (first | refine s_gn rfl rfl ?_ | (refine s_gy rfl ?_; refine Q2 rfl ?_)); (first | refine s_gn rfl rfl ?_ | (refine s_gy rfl ?_; refine zl hS ?_)); (first | (refine s_gn rfl rfl ?_) | (refine s_gy rfl ?_; refine zR2 (c := Qd1 h2 h4 hS) (h := ?_); rintro v1 w1 ⟨rfl, hS⟩)); (first | (refine zpt ?_) | (refine zpf ?_)); refine zm ?_; refine zn ?_; refine zr ?_; refine zf ?_; refine ⟨_, rfl, ?_, hS.sp⟩; (simp [*]); done)
theorem Qjw {x y : Ins} {cx : Cx} {w : World} {L : List Res} {cs ds : List Value} (hx : insR.at cx cs x) (hy : insR.at cx ds y) (hS : St cx w L) : Rets Try.prog Qif [.agg ⟨cs⟩, .agg ⟨ds⟩] w fun u w' => u = .bool (decide (x = y)) ∧ St cx w' L := by
  obtain ⟨n, a, b, c, k, nn, xr, xa⟩ := x
  obtain ⟨n2, a2, b2, c2, k2, nn2, yr, ya⟩ := y
  obtain ⟨v1, v2, rfl, h1, h2⟩ := Q2f hx
  obtain ⟨v3, v4, rfl, h3, h4⟩ := Q2f hy
  simp only [Ins.mk.injEq] at *
  all_goals refine Qie ?_
  all_goals (unfold R_sameIns_lc; refine Q0 ?_; refine Q1 ?_; refine zb hS ?_; intro p2 w1 hS; refine zb hS ?_; intro p3 w1 hS; refine zm ?_; refine zn ?_; refine Q0 ?_; refine Q1 ?_; refine Q2 rfl ?_; refine zl hS ?_; refine Q2 rfl ?_; refine zl hS ?_)
  all_goals (first | (refine Q10 ?_) | (refine Q1p ?_) | (refine Qk rfl rfl (fun hc => ?_) (fun hc => ?_)))
  all_goals (refine zm ?_; (first | refine s_gn rfl rfl ?_ | (refine s_gy rfl ?_; refine Q2 rfl ?_)); (first | refine s_gn rfl rfl ?_ | (refine s_gy rfl ?_; refine zl hS ?_)); (first | refine s_gn rfl rfl ?_ | (refine s_gy rfl ?_; refine Q2 rfl ?_)); (first | refine s_gn rfl rfl ?_ | (refine s_gy rfl ?_; refine zl hS ?_)))
  all_goals (first | refine s_gn rfl rfl ?_ | (refine s_gy rfl ?_; (first | (refine Q10 ?_) | (refine Q1p ?_) | (refine Qk rfl rfl (fun hc => ?_) (fun hc => ?_)))))
  all_goals ((first | (refine zpt ?_) | (refine zpf ?_)); refine zm ?_; (first | refine s_gn rfl rfl ?_ | (refine s_gy rfl ?_; refine Q2 rfl ?_)); (first | refine s_gn rfl rfl ?_ | (refine s_gy rfl ?_; refine zl hS ?_)); (first | refine s_gn rfl rfl ?_ | (refine s_gy rfl ?_; refine Q2 rfl ?_)); (first | refine s_gn rfl rfl ?_ | (refine s_gy rfl ?_; refine zl hS ?_)))
  all_goals (first | refine s_gn rfl rfl ?_ | (refine s_gy rfl ?_; (first | (refine Q10 ?_) | (refine Q1p ?_) | (refine Qk rfl rfl (fun hc => ?_) (fun hc => ?_)))))
  all_goals ((first | (refine zpt ?_) | (refine zpf ?_)); refine zm ?_; (first | refine s_gn rfl rfl ?_ | (refine s_gy rfl ?_; refine Q2 rfl ?_)); (first | refine s_gn rfl rfl ?_ | (refine s_gy rfl ?_; refine zl hS ?_)); (first | refine s_gn rfl rfl ?_ | (refine s_gy rfl ?_; refine Q2 rfl ?_)); (first | refine s_gn rfl rfl ?_ | (refine s_gy rfl ?_; refine zl hS ?_)))
  all_goals (first | refine s_gn rfl rfl ?_ | (refine s_gy rfl ?_; (first | (refine Q10 ?_) | (refine Q1p ?_) | (refine Qk rfl rfl (fun hc => ?_) (fun hc => ?_)))))
  all_goals ((first | (refine zpt ?_) | (refine zpf ?_)); refine zm ?_; (first | refine s_gn rfl rfl ?_ | (refine s_gy rfl ?_; refine Q2 rfl ?_)); (first | refine s_gn rfl rfl ?_ | (refine s_gy rfl ?_; refine zl hS ?_)); (first | refine s_gn rfl rfl ?_ | (refine s_gy rfl ?_; refine Q2 rfl ?_)); (first | refine s_gn rfl rfl ?_ | (refine s_gy rfl ?_; refine zl hS ?_)))
  all_goals (first | refine s_gn rfl rfl ?_ | (refine s_gy rfl ?_; (first | (refine Q10 ?_) | (refine Q1p ?_) | (refine Qk rfl rfl (fun hc => ?_) (fun hc => ?_)))))
  all_goals ((first | (refine zpt ?_) | (refine zpf ?_)); refine zm ?_; (first | refine s_gn rfl rfl ?_ | (refine s_gy rfl ?_; refine Q2 rfl ?_)); (first | refine s_gn rfl rfl ?_ | (refine s_gy rfl ?_; refine zl hS ?_)); (first | refine s_gn rfl rfl ?_ | (refine s_gy rfl ?_; refine Q2 rfl ?_)); (first | refine s_gn rfl rfl ?_ | (refine s_gy rfl ?_; refine zl hS ?_)))
  all_goals (first | refine s_gn rfl rfl ?_ | (refine s_gy rfl ?_; (first | (refine Q10 ?_) | (refine Q1p ?_) | (refine Qk rfl rfl (fun hc => ?_) (fun hc => ?_)))))
  all_goals ((first | (refine zpt ?_) | (refine zpf ?_)); refine zm ?_; (first | refine s_gn rfl rfl ?_ | (refine s_gy rfl ?_; refine Q2 rfl ?_)); (first | refine s_gn rfl rfl ?_ | (refine s_gy rfl ?_; refine zl hS ?_)); (first | refine s_gn rfl rfl ?_ | (refine s_gy rfl ?_; refine Q2 rfl ?_)); (first | refine s_gn rfl rfl ?_ | (refine s_gy rfl ?_; refine zl hS ?_)))
  all_goals ((first | (refine s_gn rfl rfl ?_) | (refine s_gy rfl ?_; refine zR2 (c := Qd1 h1 h3 hS) (h := ?_); rintro v1 w1 ⟨rfl, hS⟩; (cases hdec : decide (xr = yr)); have hg := of_decide_eq_false hdec; rotate_left; have hg := of_decide_eq_true hdec; all_goals skip)))
  all_goals ((first | (refine zpt ?_) | (refine zpf ?_)); refine zm ?_; (first | refine s_gn rfl rfl ?_ | (refine s_gy rfl ?_; refine Q2 rfl ?_)); (first | refine s_gn rfl rfl ?_ | (refine s_gy rfl ?_; refine zl hS ?_)); (first | refine s_gn rfl rfl ?_ | (refine s_gy rfl ?_; refine Q2 rfl ?_)); (first | refine s_gn rfl rfl ?_ | (refine s_gy rfl ?_; refine zl hS ?_)); (first | (refine s_gn rfl rfl ?_) | (refine s_gy rfl ?_; refine zR2 (c := Qd1 h2 h4 hS) (h := ?_); rintro v1 w1 ⟨rfl, hS⟩)); (first | (refine zpt ?_) | (refine zpf ?_)); refine zm ?_; refine zn ?_; refine zr ?_; refine zf ?_; refine ⟨_, rfl, ?_, hS.sp⟩; (simp [*]); done)
end Go.Proofs.Ytanlkfeogoganaa
namespace Go.Proofs.Ytanlkfeogoganaa
open Go.Lir
set_option maxHeartbeats 1000000
attribute [local irreducible] LC.wp Q3 Qz QM retQ Q1x LO.wp Qf Calls
set_option linter.unusedSimpArgs false
set_option linter.unusedVariables false
end Go.Proofs.Ytanlkfeogoganaa
