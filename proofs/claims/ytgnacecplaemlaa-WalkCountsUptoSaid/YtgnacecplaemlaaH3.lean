import Derived.Test.YtgnacecplaemlaaE23
namespace Go.Proofs.Ytgnacecplaemlaa
open AI
set_option linter.unusedVariables false
/-! ### 57: conch/walk.own -/
noncomputable def lp57_3 : Code := (.seq (.region 3 (rg Try.f57 3) false) (.seq (.cond (.tmp 18) .skip (.exit 0)) (.seq (.block 1 (.seq (.region 4 (rg Try.f57 4) false) (.region 5 (rg Try.f57 5) false))) (.region 6 (rg Try.f57 6) false))))
def C57_3 (x1 x3 x15 x16 x17 : AV) : List AV := [.top, x1, .top, x3, .top, .top, .top, .top, .top, .top, .top, .top, .top, .top, .top, x15, x16, x17, .top, .top, .top, .top, .top, .top, .top, .top, .top, .top, .top, .top, .top, .top, .top, .top, .top, .top, .top, .top, .top, .top]
theorem cl57_3 (x0 x1 x2 x3 x4 x5 x6 x7 x8 x9 x10 x11 x12 x13 x14 x15 x16 x17 x18 x19 x20 x21 x22 x23 x24 x25 x26 x27 x28 x29 x30 x31 x32 x33 x34 x35 x36 x37 x38 x39 : AV) : aclear (HK 57) lp57_3 [x0, x1, x2, x3, x4, x5, x6, x7, x8, x9, x10, x11, x12, x13, x14, x15, x16, x17, x18, x19, x20, x21, x22, x23, x24, x25, x26, x27, x28, x29, x30, x31, x32, x33, x34, x35, x36, x37, x38, x39] = C57_3 x1 x3 x15 x16 x17 := by kernel_rfl
noncomputable def lp57_8 : Code := (.seq (.region 8 (rg Try.f57 8) false) (.seq (.cond (.tmp 31) .skip (.exit 2)) (.seq (.block 3 (.seq (.region 9 (rg Try.f57 9) false) (.region 10 (rg Try.f57 10) false))) (.region 11 (rg Try.f57 11) false))))
def C57_8 (x3 x28 x29 x30 : AV) : List AV := [.top, .top, .top, x3, .top, .top, .top, .top, .top, .top, .top, .top, .top, .top, .top, .top, .top, .top, .top, .top, .top, .top, .top, .top, .top, .top, .top, .top, x28, x29, x30, .top, .top, .top, .top, .top, .top, .top, .top, .top]
theorem cl57_8 (x0 x1 x2 x3 x4 x5 x6 x7 x8 x9 x10 x11 x12 x13 x14 x15 x16 x17 x18 x19 x20 x21 x22 x23 x24 x25 x26 x27 x28 x29 x30 x31 x32 x33 x34 x35 x36 x37 x38 x39 : AV) : aclear (HK 57) lp57_8 [x0, x1, x2, x3, x4, x5, x6, x7, x8, x9, x10, x11, x12, x13, x14, x15, x16, x17, x18, x19, x20, x21, x22, x23, x24, x25, x26, x27, x28, x29, x30, x31, x32, x33, x34, x35, x36, x37, x38, x39] = C57_8 x3 x28 x29 x30 := by kernel_rfl
noncomputable def cd57 : Code := (.seq (.region 0 (rg Try.f57 0) false) (.seq (.region 1 (rg Try.f57 1) false) (.seq (.seq (.region 2 (rg Try.f57 2) false) (.block 0 (.loop lp57_3))) (.seq (.seq (.region 7 (rg Try.f57 7) false) (.block 2 (.loop lp57_8))) (.seq (.region 12 (rg Try.f57 12) false) .ret)))))
theorem ent57 (n : Nat) (a0 : AV) (h : AH) : X (n + 1) (.func 57) [a0] h = nrm h (fin1 (arun Try.prog (HK 57) 57 (X n) n none cd57 [a0, .tup [], .tup [], .tup [], .tup [], .tup [], .tup [], .tup [], .tup [], .tup [], .tup [], .tup [], .tup [], .tup [], .tup [], .tup [], .tup [], .tup [], .tup [], .tup [], .tup [], .tup [], .tup [], .tup [], .tup [], .tup [], .tup [], .tup [], .tup [], .tup [], .tup [], .tup [], .tup [], .tup [], .tup [], .tup [], .tup [], .tup [], .tup [], .tup []] h) 2) := by kernel_rfl
section
variable (K : Hint) (fid : FuncId) (call : ACall) (lf : Nat) (rd : Option Nat) (fr : List AV) (h : AH)
theorem reg57_0 : arun Try.prog K fid call lf rd (.region 0 (rg Try.f57 0) false) fr h = regR (aops Try.prog call (rg Try.f57 0) [0, 1] fr h) := by kernel_rfl
theorem st57_0_0 : astep Try.prog call (rg Try.f57 0) 0 fr h = heapS (boxV (fr.getD 0 .top) h) fr 1 := by kernel_rfl
theorem st57_0_1 : astep Try.prog call (rg Try.f57 0) 1 fr h = pureS (some (.nilSl)) fr 2 h := by kernel_rfl
theorem reg57_1 : arun Try.prog K fid call lf rd (.region 1 (rg Try.f57 1) false) fr h = regR (aops Try.prog call (rg Try.f57 1) [0, 1, 2, 3, 4, 5, 6] fr h) := by kernel_rfl
theorem st57_1_0 : astep Try.prog call (rg Try.f57 1) 0 fr h = pureS (afieldAt Try.prog 49 (fr.getD 1 .top) 5) fr 8 h := by kernel_rfl
theorem st57_1_1 : astep Try.prog call (rg Try.f57 1) 1 fr h = pureS (ldV Try.prog 44 (fr.getD 8 .top) h) fr 9 h := by kernel_rfl
theorem st57_1_2 : astep Try.prog call (rg Try.f57 1) 2 fr h = pureS (afieldAt Try.prog 49 (fr.getD 1 .top) 6) fr 10 h := by kernel_rfl
theorem st57_1_3 : astep Try.prog call (rg Try.f57 1) 3 fr h = pureS (ldV Try.prog 44 (fr.getD 10 .top) h) fr 11 h := by kernel_rfl
theorem st57_1_4 : astep Try.prog call (rg Try.f57 1) 4 fr h = heapS (bslV Try.prog 104 2 [(0, (fr.getD 9 .top)), (1, (fr.getD 11 .top))] h) fr 12 := by kernel_rfl
theorem st57_1_5 : astep Try.prog call (rg Try.f57 1) 5 fr h = heapS (callV call (.fn (.func 74) [] []) [(fr.getD 12 .top)] h) fr 13 := by kernel_rfl
theorem st57_1_6 : astep Try.prog call (rg Try.f57 1) 6 fr h = pureS (some (fr.getD 13 .top)) fr 3 h := by kernel_rfl
theorem reg57_2 : arun Try.prog K fid call lf rd (.region 2 (rg Try.f57 2) false) fr h = regR (aops Try.prog call (rg Try.f57 2) [0, 1, 2, 3] fr h) := by kernel_rfl
theorem st57_2_0 : astep Try.prog call (rg Try.f57 2) 0 fr h = pureS (afieldAt Try.prog 49 (fr.getD 1 .top) 7) fr 14 h := by kernel_rfl
theorem st57_2_1 : astep Try.prog call (rg Try.f57 2) 1 fr h = pureS (ldV Try.prog 45 (fr.getD 14 .top) h) fr 15 h := by kernel_rfl
theorem st57_2_2 : astep Try.prog call (rg Try.f57 2) 2 fr h = pureS (lenV (alen Try.prog 45 (fr.getD 15 .top))) fr 16 h := by kernel_rfl
theorem st57_2_3 : astep Try.prog call (rg Try.f57 2) 3 fr h = pureS (some (.int .i64 0)) fr 17 h := by kernel_rfl
theorem reg57_3 : arun Try.prog K fid call lf rd (.region 3 (rg Try.f57 3) false) fr h = regR (aops Try.prog call (rg Try.f57 3) [0] fr h) := by kernel_rfl
theorem st57_3_0 : astep Try.prog call (rg Try.f57 3) 0 fr h = pureS (abin Try.prog .lss 3 (.tmp 17) (.tmp 16) (fr.getD 17 .top) (fr.getD 16 .top)) fr 18 h := by kernel_rfl
theorem reg57_4 : arun Try.prog K fid call lf rd (.region 4 (rg Try.f57 4) false) fr h = regR (aops Try.prog call (rg Try.f57 4) [0, 1, 2, 3] fr h) := by kernel_rfl
theorem st57_4_0 : astep Try.prog call (rg Try.f57 4) 0 fr h = pureS (aindexAt Try.prog 45 (fr.getD 15 .top) (fr.getD 17 .top)) fr 19 h := by kernel_rfl
theorem st57_4_1 : astep Try.prog call (rg Try.f57 4) 1 fr h = pureS (ldV Try.prog 73 (fr.getD 19 .top) h) fr 20 h := by kernel_rfl
theorem st57_4_2 : astep Try.prog call (rg Try.f57 4) 2 fr h = heapS (newV Try.prog 73 h) fr 5 := by kernel_rfl
theorem st57_4_3 : astep Try.prog call (rg Try.f57 4) 3 fr h = heapN (stV Try.prog 73 (fr.getD 5 .top) (fr.getD 20 .top) h) fr := by kernel_rfl
theorem reg57_5 : arun Try.prog K fid call lf rd (.region 5 (rg Try.f57 5) false) fr h = regR (aops Try.prog call (rg Try.f57 5) [0, 1, 2, 3, 4, 5] fr h) := by kernel_rfl
theorem st57_5_0 : astep Try.prog call (rg Try.f57 5) 0 fr h = pureS (some (fr.getD 3 .top)) fr 21 h := by kernel_rfl
theorem st57_5_1 : astep Try.prog call (rg Try.f57 5) 1 fr h = pureS (afieldAt Try.prog 73 (fr.getD 5 .top) 2) fr 22 h := by kernel_rfl
theorem st57_5_2 : astep Try.prog call (rg Try.f57 5) 2 fr h = pureS (ldV Try.prog 60 (fr.getD 22 .top) h) fr 23 h := by kernel_rfl
theorem st57_5_3 : astep Try.prog call (rg Try.f57 5) 3 fr h = heapS (bslV Try.prog 44 1 [(0, (fr.getD 23 .top))] h) fr 24 := by kernel_rfl
theorem st57_5_4 : astep Try.prog call (rg Try.f57 5) 4 fr h = heapS (aappend Try.prog 44 44 (fr.getD 21 .top) (fr.getD 24 .top) h) fr 25 := by kernel_rfl
theorem st57_5_5 : astep Try.prog call (rg Try.f57 5) 5 fr h = pureS (some (fr.getD 25 .top)) fr 3 h := by kernel_rfl
theorem reg57_6 : arun Try.prog K fid call lf rd (.region 6 (rg Try.f57 6) false) fr h = regR (aops Try.prog call (rg Try.f57 6) [0, 1] fr h) := by kernel_rfl
theorem st57_6_0 : astep Try.prog call (rg Try.f57 6) 0 fr h = pureS (abin Try.prog .add 3 (.tmp 17) (.const (.int .i64 1)) (fr.getD 17 .top) (.int .i64 1)) fr 26 h := by kernel_rfl
theorem st57_6_1 : astep Try.prog call (rg Try.f57 6) 1 fr h = pureS (some (fr.getD 26 .top)) fr 17 h := by kernel_rfl
theorem reg57_7 : arun Try.prog K fid call lf rd (.region 7 (rg Try.f57 7) false) fr h = regR (aops Try.prog call (rg Try.f57 7) [0, 1, 2, 3] fr h) := by kernel_rfl
theorem st57_7_0 : astep Try.prog call (rg Try.f57 7) 0 fr h = pureS (afieldAt Try.prog 49 (fr.getD 1 .top) 8) fr 27 h := by kernel_rfl
theorem st57_7_1 : astep Try.prog call (rg Try.f57 7) 1 fr h = pureS (ldV Try.prog 46 (fr.getD 27 .top) h) fr 28 h := by kernel_rfl
theorem st57_7_2 : astep Try.prog call (rg Try.f57 7) 2 fr h = pureS (lenV (alen Try.prog 46 (fr.getD 28 .top))) fr 29 h := by kernel_rfl
theorem st57_7_3 : astep Try.prog call (rg Try.f57 7) 3 fr h = pureS (some (.int .i64 0)) fr 30 h := by kernel_rfl
theorem reg57_8 : arun Try.prog K fid call lf rd (.region 8 (rg Try.f57 8) false) fr h = regR (aops Try.prog call (rg Try.f57 8) [0] fr h) := by kernel_rfl
theorem st57_8_0 : astep Try.prog call (rg Try.f57 8) 0 fr h = pureS (abin Try.prog .lss 3 (.tmp 30) (.tmp 29) (fr.getD 30 .top) (fr.getD 29 .top)) fr 31 h := by kernel_rfl
theorem reg57_9 : arun Try.prog K fid call lf rd (.region 9 (rg Try.f57 9) false) fr h = regR (aops Try.prog call (rg Try.f57 9) [0, 1, 2, 3] fr h) := by kernel_rfl
theorem st57_9_0 : astep Try.prog call (rg Try.f57 9) 0 fr h = pureS (aindexAt Try.prog 46 (fr.getD 28 .top) (fr.getD 30 .top)) fr 32 h := by kernel_rfl
theorem st57_9_1 : astep Try.prog call (rg Try.f57 9) 1 fr h = pureS (ldV Try.prog 76 (fr.getD 32 .top) h) fr 33 h := by kernel_rfl
theorem st57_9_2 : astep Try.prog call (rg Try.f57 9) 2 fr h = heapS (newV Try.prog 76 h) fr 7 := by kernel_rfl
theorem st57_9_3 : astep Try.prog call (rg Try.f57 9) 3 fr h = heapN (stV Try.prog 76 (fr.getD 7 .top) (fr.getD 33 .top) h) fr := by kernel_rfl
theorem reg57_10 : arun Try.prog K fid call lf rd (.region 10 (rg Try.f57 10) false) fr h = regR (aops Try.prog call (rg Try.f57 10) [0, 1, 2, 3, 4] fr h) := by kernel_rfl
theorem st57_10_0 : astep Try.prog call (rg Try.f57 10) 0 fr h = pureS (some (fr.getD 3 .top)) fr 34 h := by kernel_rfl
theorem st57_10_1 : astep Try.prog call (rg Try.f57 10) 1 fr h = pureS (afieldAt Try.prog 76 (fr.getD 7 .top) 0) fr 35 h := by kernel_rfl
theorem st57_10_2 : astep Try.prog call (rg Try.f57 10) 2 fr h = pureS (ldV Try.prog 44 (fr.getD 35 .top) h) fr 36 h := by kernel_rfl
theorem st57_10_3 : astep Try.prog call (rg Try.f57 10) 3 fr h = heapS (aappend Try.prog 44 44 (fr.getD 34 .top) (fr.getD 36 .top) h) fr 37 := by kernel_rfl
theorem st57_10_4 : astep Try.prog call (rg Try.f57 10) 4 fr h = pureS (some (fr.getD 37 .top)) fr 3 h := by kernel_rfl
theorem reg57_11 : arun Try.prog K fid call lf rd (.region 11 (rg Try.f57 11) false) fr h = regR (aops Try.prog call (rg Try.f57 11) [0, 1] fr h) := by kernel_rfl
theorem st57_11_0 : astep Try.prog call (rg Try.f57 11) 0 fr h = pureS (abin Try.prog .add 3 (.tmp 30) (.const (.int .i64 1)) (fr.getD 30 .top) (.int .i64 1)) fr 38 h := by kernel_rfl
theorem st57_11_1 : astep Try.prog call (rg Try.f57 11) 1 fr h = pureS (some (fr.getD 38 .top)) fr 30 h := by kernel_rfl
theorem reg57_12 : arun Try.prog K fid call lf rd (.region 12 (rg Try.f57 12) false) fr h = regR (aops Try.prog call (rg Try.f57 12) [0, 1] fr h) := by kernel_rfl
theorem st57_12_0 : astep Try.prog call (rg Try.f57 12) 0 fr h = pureS (some (fr.getD 3 .top)) fr 39 h := by kernel_rfl
theorem st57_12_1 : astep Try.prog call (rg Try.f57 12) 1 fr h = pureS (some (fr.getD 39 .top)) fr 2 h := by kernel_rfl
end
-- SIMP57: reg57_0, st57_0_0, st57_0_1, reg57_1, st57_1_0, st57_1_1, st57_1_2, st57_1_3, st57_1_4, st57_1_5, st57_1_6, reg57_2, st57_2_0, st57_2_1, st57_2_2, st57_2_3, reg57_3, st57_3_0, reg57_4, st57_4_0, st57_4_1, st57_4_2, st57_4_3, reg57_5, st57_5_0, st57_5_1, st57_5_2, st57_5_3, st57_5_4, st57_5_5, reg57_6, st57_6_0, st57_6_1, reg57_7, st57_7_0, st57_7_1, st57_7_2, st57_7_3, reg57_8, st57_8_0, reg57_9, st57_9_0, st57_9_1, st57_9_2, st57_9_3, reg57_10, st57_10_0, st57_10_1, st57_10_2, st57_10_3, st57_10_4, reg57_11, st57_11_0, st57_11_1, reg57_12, st57_12_0, st57_12_1

/-! ### 74: slices.Concat[[]conch/api.Word,conch/api.Word] -/
noncomputable def lp74_3 : Code := (.seq (.region 3 (rg Try.f74 3) false) (.seq (.cond (.tmp 12) .skip (.exit 0)) (.seq (.block 1 (.seq (.region 4 (rg Try.f74 4) false) (.seq (.region 5 (rg Try.f74 5) false) (.seq (.region 6 (rg Try.f74 6) false) (.cond (.tmp 20) (.region 7 (rg Try.f74 7) false) .skip))))) (.region 8 (rg Try.f74 8) false))))
def C74_3 (x0 x3 x9 x10 x11 : AV) : List AV := [x0, .top, .top, x3, .top, .top, .top, .top, .top, x9, x10, x11, .top, .top, .top, .top, .top, .top, .top, .top, .top, .top, .top, .top, .top, .top, .top, .top, .top, .top, .top, .top, .top, .top, .top, .top]
theorem cl74_3 (x0 x1 x2 x3 x4 x5 x6 x7 x8 x9 x10 x11 x12 x13 x14 x15 x16 x17 x18 x19 x20 x21 x22 x23 x24 x25 x26 x27 x28 x29 x30 x31 x32 x33 x34 x35 : AV) : aclear (HK 74) lp74_3 [x0, x1, x2, x3, x4, x5, x6, x7, x8, x9, x10, x11, x12, x13, x14, x15, x16, x17, x18, x19, x20, x21, x22, x23, x24, x25, x26, x27, x28, x29, x30, x31, x32, x33, x34, x35] = C74_3 x0 x3 x9 x10 x11 := by kernel_rfl
noncomputable def lp74_11 : Code := (.seq (.region 11 (rg Try.f74 11) false) (.seq (.cond (.tmp 28) .skip (.exit 2)) (.seq (.block 3 (.seq (.region 12 (rg Try.f74 12) false) (.region 13 (rg Try.f74 13) false))) (.region 14 (rg Try.f74 14) false))))
def C74_11 (x6 x25 x26 x27 : AV) : List AV := [.top, .top, .top, .top, .top, .top, x6, .top, .top, .top, .top, .top, .top, .top, .top, .top, .top, .top, .top, .top, .top, .top, .top, .top, .top, x25, x26, x27, .top, .top, .top, .top, .top, .top, .top, .top]
theorem cl74_11 (x0 x1 x2 x3 x4 x5 x6 x7 x8 x9 x10 x11 x12 x13 x14 x15 x16 x17 x18 x19 x20 x21 x22 x23 x24 x25 x26 x27 x28 x29 x30 x31 x32 x33 x34 x35 : AV) : aclear (HK 74) lp74_11 [x0, x1, x2, x3, x4, x5, x6, x7, x8, x9, x10, x11, x12, x13, x14, x15, x16, x17, x18, x19, x20, x21, x22, x23, x24, x25, x26, x27, x28, x29, x30, x31, x32, x33, x34, x35] = C74_11 x6 x25 x26 x27 := by kernel_rfl
noncomputable def cd74 : Code := (.seq (.region 0 (rg Try.f74 0) false) (.seq (.region 1 (rg Try.f74 1) false) (.seq (.seq (.region 2 (rg Try.f74 2) false) (.block 0 (.loop lp74_3))) (.seq (.region 9 (rg Try.f74 9) false) (.seq (.seq (.region 10 (rg Try.f74 10) false) (.block 2 (.loop lp74_11))) (.seq (.region 15 (rg Try.f74 15) false) .ret))))))
theorem ent74 (n : Nat) (a0 : AV) (h : AH) : X (n + 1) (.func 74) [a0] h = nrm h (fin1 (arun Try.prog (HK 74) 74 (X n) n none cd74 [a0, .tup [], .tup [], .tup [], .tup [], .tup [], .tup [], .tup [], .tup [], .tup [], .tup [], .tup [], .tup [], .tup [], .tup [], .tup [], .tup [], .tup [], .tup [], .tup [], .tup [], .tup [], .tup [], .tup [], .tup [], .tup [], .tup [], .tup [], .tup [], .tup [], .tup [], .tup [], .tup [], .tup [], .tup [], .tup []] h) 2) := by kernel_rfl
section
variable (K : Hint) (fid : FuncId) (call : ACall) (lf : Nat) (rd : Option Nat) (fr : List AV) (h : AH)
theorem reg74_0 : arun Try.prog K fid call lf rd (.region 0 (rg Try.f74 0) false) fr h = regR (aops Try.prog call (rg Try.f74 0) [0] fr h) := by kernel_rfl
theorem st74_0_0 : astep Try.prog call (rg Try.f74 0) 0 fr h = pureS (some (.nilSl)) fr 2 h := by kernel_rfl
theorem reg74_1 : arun Try.prog K fid call lf rd (.region 1 (rg Try.f74 1) false) fr h = regR (aops Try.prog call (rg Try.f74 1) [0] fr h) := by kernel_rfl
theorem st74_1_0 : astep Try.prog call (rg Try.f74 1) 0 fr h = pureS (some (.int .i64 0)) fr 3 h := by kernel_rfl
theorem reg74_2 : arun Try.prog K fid call lf rd (.region 2 (rg Try.f74 2) false) fr h = regR (aops Try.prog call (rg Try.f74 2) [0, 1, 2] fr h) := by kernel_rfl
theorem st74_2_0 : astep Try.prog call (rg Try.f74 2) 0 fr h = pureS (some (fr.getD 0 .top)) fr 9 h := by kernel_rfl
theorem st74_2_1 : astep Try.prog call (rg Try.f74 2) 1 fr h = pureS (lenV (alen Try.prog 104 (fr.getD 9 .top))) fr 10 h := by kernel_rfl
theorem st74_2_2 : astep Try.prog call (rg Try.f74 2) 2 fr h = pureS (some (.int .i64 0)) fr 11 h := by kernel_rfl
theorem reg74_3 : arun Try.prog K fid call lf rd (.region 3 (rg Try.f74 3) false) fr h = regR (aops Try.prog call (rg Try.f74 3) [0] fr h) := by kernel_rfl
theorem st74_3_0 : astep Try.prog call (rg Try.f74 3) 0 fr h = pureS (abin Try.prog .lss 3 (.tmp 11) (.tmp 10) (fr.getD 11 .top) (fr.getD 10 .top)) fr 12 h := by kernel_rfl
theorem reg74_4 : arun Try.prog K fid call lf rd (.region 4 (rg Try.f74 4) false) fr h = regR (aops Try.prog call (rg Try.f74 4) [0, 1, 2] fr h) := by kernel_rfl
theorem st74_4_0 : astep Try.prog call (rg Try.f74 4) 0 fr h = pureS (aindexAt Try.prog 104 (fr.getD 9 .top) (fr.getD 11 .top)) fr 13 h := by kernel_rfl
theorem st74_4_1 : astep Try.prog call (rg Try.f74 4) 1 fr h = pureS (ldV Try.prog 44 (fr.getD 13 .top) h) fr 14 h := by kernel_rfl
theorem st74_4_2 : astep Try.prog call (rg Try.f74 4) 2 fr h = pureS (some (fr.getD 14 .top)) fr 5 h := by kernel_rfl
theorem reg74_5 : arun Try.prog K fid call lf rd (.region 5 (rg Try.f74 5) false) fr h = regR (aops Try.prog call (rg Try.f74 5) [0, 1, 2, 3, 4] fr h) := by kernel_rfl
theorem st74_5_0 : astep Try.prog call (rg Try.f74 5) 0 fr h = pureS (some (fr.getD 3 .top)) fr 15 h := by kernel_rfl
theorem st74_5_1 : astep Try.prog call (rg Try.f74 5) 1 fr h = pureS (some (fr.getD 5 .top)) fr 16 h := by kernel_rfl
theorem st74_5_2 : astep Try.prog call (rg Try.f74 5) 2 fr h = pureS (lenV (alen Try.prog 44 (fr.getD 16 .top))) fr 17 h := by kernel_rfl
theorem st74_5_3 : astep Try.prog call (rg Try.f74 5) 3 fr h = pureS (abin Try.prog .add 3 (.tmp 15) (.tmp 17) (fr.getD 15 .top) (fr.getD 17 .top)) fr 18 h := by kernel_rfl
theorem st74_5_4 : astep Try.prog call (rg Try.f74 5) 4 fr h = pureS (some (fr.getD 18 .top)) fr 3 h := by kernel_rfl
theorem reg74_6 : arun Try.prog K fid call lf rd (.region 6 (rg Try.f74 6) false) fr h = regR (aops Try.prog call (rg Try.f74 6) [0, 1] fr h) := by kernel_rfl
theorem st74_6_0 : astep Try.prog call (rg Try.f74 6) 0 fr h = pureS (some (fr.getD 3 .top)) fr 19 h := by kernel_rfl
theorem st74_6_1 : astep Try.prog call (rg Try.f74 6) 1 fr h = pureS (abin Try.prog .lss 3 (.tmp 19) (.const (.int .i64 0)) (fr.getD 19 .top) (.int .i64 0)) fr 20 h := by kernel_rfl
theorem reg74_7 : arun Try.prog K fid call lf rd (.region 7 (rg Try.f74 7) false) fr h = regR (aops Try.prog call (rg Try.f74 7) [0, 1] fr h) := by kernel_rfl
-- NO LEMMA: region 7 op 0: ('app', 'makeInterface', ['9', ('app', 'const', [('app', 'string', [('struct', {'data': ('arr', ['10
-- NO LEMMA: region 7 op 1: ('app', 'panic', [('app', 'tmp', ['21'])])
theorem reg74_8 : arun Try.prog K fid call lf rd (.region 8 (rg Try.f74 8) false) fr h = regR (aops Try.prog call (rg Try.f74 8) [0, 1] fr h) := by kernel_rfl
theorem st74_8_0 : astep Try.prog call (rg Try.f74 8) 0 fr h = pureS (abin Try.prog .add 3 (.tmp 11) (.const (.int .i64 1)) (fr.getD 11 .top) (.int .i64 1)) fr 22 h := by kernel_rfl
theorem st74_8_1 : astep Try.prog call (rg Try.f74 8) 1 fr h = pureS (some (fr.getD 22 .top)) fr 11 h := by kernel_rfl
theorem reg74_9 : arun Try.prog K fid call lf rd (.region 9 (rg Try.f74 9) false) fr h = regR (aops Try.prog call (rg Try.f74 9) [0, 1, 2] fr h) := by kernel_rfl
theorem st74_9_0 : astep Try.prog call (rg Try.f74 9) 0 fr h = pureS (some (fr.getD 3 .top)) fr 23 h := by kernel_rfl
theorem st74_9_1 : astep Try.prog call (rg Try.f74 9) 1 fr h = heapS (callV call (.fn (.func 85) [] []) [(.nilSl), (fr.getD 23 .top)] h) fr 24 := by kernel_rfl
theorem st74_9_2 : astep Try.prog call (rg Try.f74 9) 2 fr h = pureS (some (fr.getD 24 .top)) fr 6 h := by kernel_rfl
theorem reg74_10 : arun Try.prog K fid call lf rd (.region 10 (rg Try.f74 10) false) fr h = regR (aops Try.prog call (rg Try.f74 10) [0, 1, 2] fr h) := by kernel_rfl
theorem st74_10_0 : astep Try.prog call (rg Try.f74 10) 0 fr h = pureS (some (fr.getD 0 .top)) fr 25 h := by kernel_rfl
theorem st74_10_1 : astep Try.prog call (rg Try.f74 10) 1 fr h = pureS (lenV (alen Try.prog 104 (fr.getD 25 .top))) fr 26 h := by kernel_rfl
theorem st74_10_2 : astep Try.prog call (rg Try.f74 10) 2 fr h = pureS (some (.int .i64 0)) fr 27 h := by kernel_rfl
theorem reg74_11 : arun Try.prog K fid call lf rd (.region 11 (rg Try.f74 11) false) fr h = regR (aops Try.prog call (rg Try.f74 11) [0] fr h) := by kernel_rfl
theorem st74_11_0 : astep Try.prog call (rg Try.f74 11) 0 fr h = pureS (abin Try.prog .lss 3 (.tmp 27) (.tmp 26) (fr.getD 27 .top) (fr.getD 26 .top)) fr 28 h := by kernel_rfl
theorem reg74_12 : arun Try.prog K fid call lf rd (.region 12 (rg Try.f74 12) false) fr h = regR (aops Try.prog call (rg Try.f74 12) [0, 1, 2] fr h) := by kernel_rfl
theorem st74_12_0 : astep Try.prog call (rg Try.f74 12) 0 fr h = pureS (aindexAt Try.prog 104 (fr.getD 25 .top) (fr.getD 27 .top)) fr 29 h := by kernel_rfl
theorem st74_12_1 : astep Try.prog call (rg Try.f74 12) 1 fr h = pureS (ldV Try.prog 44 (fr.getD 29 .top) h) fr 30 h := by kernel_rfl
theorem st74_12_2 : astep Try.prog call (rg Try.f74 12) 2 fr h = pureS (some (fr.getD 30 .top)) fr 8 h := by kernel_rfl
theorem reg74_13 : arun Try.prog K fid call lf rd (.region 13 (rg Try.f74 13) false) fr h = regR (aops Try.prog call (rg Try.f74 13) [0, 1, 2, 3] fr h) := by kernel_rfl
theorem st74_13_0 : astep Try.prog call (rg Try.f74 13) 0 fr h = pureS (some (fr.getD 6 .top)) fr 31 h := by kernel_rfl
theorem st74_13_1 : astep Try.prog call (rg Try.f74 13) 1 fr h = pureS (some (fr.getD 8 .top)) fr 32 h := by kernel_rfl
theorem st74_13_2 : astep Try.prog call (rg Try.f74 13) 2 fr h = heapS (aappend Try.prog 44 44 (fr.getD 31 .top) (fr.getD 32 .top) h) fr 33 := by kernel_rfl
theorem st74_13_3 : astep Try.prog call (rg Try.f74 13) 3 fr h = pureS (some (fr.getD 33 .top)) fr 6 h := by kernel_rfl
theorem reg74_14 : arun Try.prog K fid call lf rd (.region 14 (rg Try.f74 14) false) fr h = regR (aops Try.prog call (rg Try.f74 14) [0, 1] fr h) := by kernel_rfl
theorem st74_14_0 : astep Try.prog call (rg Try.f74 14) 0 fr h = pureS (abin Try.prog .add 3 (.tmp 27) (.const (.int .i64 1)) (fr.getD 27 .top) (.int .i64 1)) fr 34 h := by kernel_rfl
theorem st74_14_1 : astep Try.prog call (rg Try.f74 14) 1 fr h = pureS (some (fr.getD 34 .top)) fr 27 h := by kernel_rfl
theorem reg74_15 : arun Try.prog K fid call lf rd (.region 15 (rg Try.f74 15) false) fr h = regR (aops Try.prog call (rg Try.f74 15) [0, 1] fr h) := by kernel_rfl
theorem st74_15_0 : astep Try.prog call (rg Try.f74 15) 0 fr h = pureS (some (fr.getD 6 .top)) fr 35 h := by kernel_rfl
theorem st74_15_1 : astep Try.prog call (rg Try.f74 15) 1 fr h = pureS (some (fr.getD 35 .top)) fr 2 h := by kernel_rfl
end
-- SIMP74: reg74_0, st74_0_0, reg74_1, st74_1_0, reg74_2, st74_2_0, st74_2_1, st74_2_2, reg74_3, st74_3_0, reg74_4, st74_4_0, st74_4_1, st74_4_2, reg74_5, st74_5_0, st74_5_1, st74_5_2, st74_5_3, st74_5_4, reg74_6, st74_6_0, st74_6_1, reg74_7, reg74_8, st74_8_0, st74_8_1, reg74_9, st74_9_0, st74_9_1, st74_9_2, reg74_10, st74_10_0, st74_10_1, st74_10_2, reg74_11, st74_11_0, reg74_12, st74_12_0, st74_12_1, st74_12_2, reg74_13, st74_13_0, st74_13_1, st74_13_2, st74_13_3, reg74_14, st74_14_0, st74_14_1, reg74_15, st74_15_0, st74_15_1

/-! ### 85: slices.Grow[[]conch/api.Word,conch/api.Word] -/
noncomputable def cd85 : Code := (.seq (.region 0 (rg Try.f85 0) false) (.seq (.seq (.region 1 (rg Try.f85 1) false) (.cond (.tmp 6) (.region 2 (rg Try.f85 2) false) .skip)) (.seq (.seq (.region 3 (rg Try.f85 3) false) (.seq (.region 4 (rg Try.f85 4) false) (.cond (.tmp 16) (.region 5 (rg Try.f85 5) false) .skip))) (.seq (.region 6 (rg Try.f85 6) false) .ret))))
theorem ent85 (n : Nat) (a0 a1 : AV) (h : AH) : X (n + 1) (.func 85) [a0, a1] h = nrm h (fin1 (arun Try.prog (HK 85) 85 (X n) n none cd85 [a0, a1, .tup [], .tup [], .tup [], .tup [], .tup [], .tup [], .tup [], .tup [], .tup [], .tup [], .tup [], .tup [], .tup [], .tup [], .tup [], .tup [], .tup [], .tup [], .tup [], .tup [], .tup [], .tup [], .tup [], .tup [], .tup []] h) 4) := by kernel_rfl
section
variable (K : Hint) (fid : FuncId) (call : ACall) (lf : Nat) (rd : Option Nat) (fr : List AV) (h : AH)
theorem reg85_0 : arun Try.prog K fid call lf rd (.region 0 (rg Try.f85 0) false) fr h = regR (aops Try.prog call (rg Try.f85 0) [0] fr h) := by kernel_rfl
theorem st85_0_0 : astep Try.prog call (rg Try.f85 0) 0 fr h = pureS (some (.nilSl)) fr 4 h := by kernel_rfl
theorem reg85_1 : arun Try.prog K fid call lf rd (.region 1 (rg Try.f85 1) false) fr h = regR (aops Try.prog call (rg Try.f85 1) [0, 1] fr h) := by kernel_rfl
theorem st85_1_0 : astep Try.prog call (rg Try.f85 1) 0 fr h = pureS (some (fr.getD 1 .top)) fr 5 h := by kernel_rfl
theorem st85_1_1 : astep Try.prog call (rg Try.f85 1) 1 fr h = pureS (abin Try.prog .lss 3 (.tmp 5) (.const (.int .i64 0)) (fr.getD 5 .top) (.int .i64 0)) fr 6 h := by kernel_rfl
theorem reg85_2 : arun Try.prog K fid call lf rd (.region 2 (rg Try.f85 2) false) fr h = regR (aops Try.prog call (rg Try.f85 2) [0, 1] fr h) := by kernel_rfl
-- NO LEMMA: region 2 op 0: ('app', 'makeInterface', ['9', ('app', 'const', [('app', 'string', [('struct', {'data': ('arr', ['99
-- NO LEMMA: region 2 op 1: ('app', 'panic', [('app', 'tmp', ['7'])])
theorem reg85_3 : arun Try.prog K fid call lf rd (.region 3 (rg Try.f85 3) false) fr h = regR (aops Try.prog call (rg Try.f85 3) [0, 1, 2, 3, 4, 5, 6, 7] fr h) := by kernel_rfl
theorem st85_3_0 : astep Try.prog call (rg Try.f85 3) 0 fr h = pureS (some (fr.getD 1 .top)) fr 8 h := by kernel_rfl
theorem st85_3_1 : astep Try.prog call (rg Try.f85 3) 1 fr h = pureS (some (fr.getD 0 .top)) fr 9 h := by kernel_rfl
theorem st85_3_2 : astep Try.prog call (rg Try.f85 3) 2 fr h = pureS (lenV (acap Try.prog 44 (fr.getD 9 .top))) fr 10 h := by kernel_rfl
theorem st85_3_3 : astep Try.prog call (rg Try.f85 3) 3 fr h = pureS (some (fr.getD 0 .top)) fr 11 h := by kernel_rfl
theorem st85_3_4 : astep Try.prog call (rg Try.f85 3) 4 fr h = pureS (lenV (alen Try.prog 44 (fr.getD 11 .top))) fr 12 h := by kernel_rfl
theorem st85_3_5 : astep Try.prog call (rg Try.f85 3) 5 fr h = pureS (abin Try.prog .sub 3 (.tmp 10) (.tmp 12) (fr.getD 10 .top) (fr.getD 12 .top)) fr 13 h := by kernel_rfl
theorem st85_3_6 : astep Try.prog call (rg Try.f85 3) 6 fr h = pureS (abin Try.prog .sub 3 (.tmp 8) (.tmp 13) (fr.getD 8 .top) (fr.getD 13 .top)) fr 14 h := by kernel_rfl
theorem st85_3_7 : astep Try.prog call (rg Try.f85 3) 7 fr h = pureS (some (fr.getD 14 .top)) fr 1 h := by kernel_rfl
theorem reg85_4 : arun Try.prog K fid call lf rd (.region 4 (rg Try.f85 4) false) fr h = regR (aops Try.prog call (rg Try.f85 4) [0, 1] fr h) := by kernel_rfl
theorem st85_4_0 : astep Try.prog call (rg Try.f85 4) 0 fr h = pureS (some (fr.getD 1 .top)) fr 15 h := by kernel_rfl
theorem st85_4_1 : astep Try.prog call (rg Try.f85 4) 1 fr h = pureS (abin Try.prog .gtr 3 (.tmp 15) (.const (.int .i64 0)) (fr.getD 15 .top) (.int .i64 0)) fr 16 h := by kernel_rfl
theorem reg85_5 : arun Try.prog K fid call lf rd (.region 5 (rg Try.f85 5) false) fr h = regR (aops Try.prog call (rg Try.f85 5) [0, 1, 2, 3, 4, 5, 6, 7, 8, 9] fr h) := by kernel_rfl
theorem st85_5_0 : astep Try.prog call (rg Try.f85 5) 0 fr h = pureS (some (fr.getD 0 .top)) fr 17 h := by kernel_rfl
theorem st85_5_1 : astep Try.prog call (rg Try.f85 5) 1 fr h = pureS (some (fr.getD 0 .top)) fr 18 h := by kernel_rfl
theorem st85_5_2 : astep Try.prog call (rg Try.f85 5) 2 fr h = pureS (lenV (acap Try.prog 44 (fr.getD 18 .top))) fr 19 h := by kernel_rfl
theorem st85_5_3 : astep Try.prog call (rg Try.f85 5) 3 fr h = pureS (aslice Try.prog 44 (fr.getD 17 .top) none (some (fr.getD 19 .top)) none) fr 20 h := by kernel_rfl
theorem st85_5_4 : astep Try.prog call (rg Try.f85 5) 4 fr h = pureS (some (fr.getD 1 .top)) fr 21 h := by kernel_rfl
theorem st85_5_5 : astep Try.prog call (rg Try.f85 5) 5 fr h = heapS (aappend Try.prog 44 3 (fr.getD 20 .top) (fr.getD 21 .top) h) fr 22 := by kernel_rfl
theorem st85_5_6 : astep Try.prog call (rg Try.f85 5) 6 fr h = pureS (some (fr.getD 0 .top)) fr 23 h := by kernel_rfl
theorem st85_5_7 : astep Try.prog call (rg Try.f85 5) 7 fr h = pureS (lenV (alen Try.prog 44 (fr.getD 23 .top))) fr 24 h := by kernel_rfl
theorem st85_5_8 : astep Try.prog call (rg Try.f85 5) 8 fr h = pureS (aslice Try.prog 44 (fr.getD 22 .top) none (some (fr.getD 24 .top)) none) fr 25 h := by kernel_rfl
theorem st85_5_9 : astep Try.prog call (rg Try.f85 5) 9 fr h = pureS (some (fr.getD 25 .top)) fr 0 h := by kernel_rfl
theorem reg85_6 : arun Try.prog K fid call lf rd (.region 6 (rg Try.f85 6) false) fr h = regR (aops Try.prog call (rg Try.f85 6) [0, 1] fr h) := by kernel_rfl
theorem st85_6_0 : astep Try.prog call (rg Try.f85 6) 0 fr h = pureS (some (fr.getD 0 .top)) fr 26 h := by kernel_rfl
theorem st85_6_1 : astep Try.prog call (rg Try.f85 6) 1 fr h = pureS (some (fr.getD 26 .top)) fr 4 h := by kernel_rfl
end
-- SIMP85: reg85_0, st85_0_0, reg85_1, st85_1_0, st85_1_1, reg85_2, reg85_3, st85_3_0, st85_3_1, st85_3_2, st85_3_3, st85_3_4, st85_3_5, st85_3_6, st85_3_7, reg85_4, st85_4_0, st85_4_1, reg85_5, st85_5_0, st85_5_1, st85_5_2, st85_5_3, st85_5_4, st85_5_5, st85_5_6, st85_5_7, st85_5_8, st85_5_9, reg85_6, st85_6_0, st85_6_1

/-! ### 70: conch/part.Cmds -/
noncomputable def cd70 : Code := (.seq (.region 0 (rg Try.f70 0) false) (.seq (.region 1 (rg Try.f70 1) false) (.seq (.region 2 (rg Try.f70 2) false) (.seq (.region 3 (rg Try.f70 3) false) .ret))))
theorem ent70 (n : Nat) (a0 : AV) (h : AH) : X (n + 1) (.func 70) [a0] h = nrm h (fin1 (arun Try.prog (HK 70) 70 (X n) n none cd70 [a0, .tup [], .tup [], .tup [], .tup [], .tup [], .tup [], .tup [], .tup []] h) 2) := by kernel_rfl
section
variable (K : Hint) (fid : FuncId) (call : ACall) (lf : Nat) (rd : Option Nat) (fr : List AV) (h : AH)
theorem reg70_0 : arun Try.prog K fid call lf rd (.region 0 (rg Try.f70 0) false) fr h = regR (aops Try.prog call (rg Try.f70 0) [0, 1] fr h) := by kernel_rfl
theorem st70_0_0 : astep Try.prog call (rg Try.f70 0) 0 fr h = heapS (boxV (fr.getD 0 .top) h) fr 1 := by kernel_rfl
theorem st70_0_1 : astep Try.prog call (rg Try.f70 0) 1 fr h = pureS (some (.nilSl)) fr 2 h := by kernel_rfl
theorem reg70_1 : arun Try.prog K fid call lf rd (.region 1 (rg Try.f70 1) false) fr h = regR (aops Try.prog call (rg Try.f70 1) [0] fr h) := by kernel_rfl
theorem st70_1_0 : astep Try.prog call (rg Try.f70 1) 0 fr h = heapS (newV Try.prog 89 h) fr 3 := by kernel_rfl
theorem reg70_2 : arun Try.prog K fid call lf rd (.region 2 (rg Try.f70 2) false) fr h = regR (aops Try.prog call (rg Try.f70 2) [0, 1, 2, 3] fr h) := by kernel_rfl
theorem st70_2_0 : astep Try.prog call (rg Try.f70 2) 0 fr h = pureS (afieldAt Try.prog 60 (fr.getD 1 .top) 0) fr 4 h := by kernel_rfl
theorem st70_2_1 : astep Try.prog call (rg Try.f70 2) 1 fr h = pureS (ldV Try.prog 58 (fr.getD 4 .top) h) fr 5 h := by kernel_rfl
theorem st70_2_2 : astep Try.prog call (rg Try.f70 2) 2 fr h = pureS (some (.fn (.func 83) [] [(fr.getD 3 .top)])) fr 6 h := by kernel_rfl
theorem st70_2_3 : astep Try.prog call (rg Try.f70 2) 3 fr h = heapS (callV call (.fn (.func 82) [] []) [(fr.getD 5 .top), (fr.getD 6 .top)] h) fr 7 := by kernel_rfl
theorem reg70_3 : arun Try.prog K fid call lf rd (.region 3 (rg Try.f70 3) false) fr h = regR (aops Try.prog call (rg Try.f70 3) [0, 1] fr h) := by kernel_rfl
theorem st70_3_0 : astep Try.prog call (rg Try.f70 3) 0 fr h = pureS (ldV Try.prog 89 (fr.getD 3 .top) h) fr 8 h := by kernel_rfl
theorem st70_3_1 : astep Try.prog call (rg Try.f70 3) 1 fr h = pureS (some (fr.getD 8 .top)) fr 2 h := by kernel_rfl
end
-- SIMP70: reg70_0, st70_0_0, st70_0_1, reg70_1, st70_1_0, reg70_2, st70_2_0, st70_2_1, st70_2_2, st70_2_3, reg70_3, st70_3_0, st70_3_1

/-! ### 82: conch/part.each -/
noncomputable def lp82_1 : Code := (.seq (.region 1 (rg Try.f82 1) false) (.seq (.cond (.tmp 9) .skip (.exit 0)) (.seq (.block 1 (.seq (.region 2 (rg Try.f82 2) false) (.seq (.region 3 (rg Try.f82 3) false) (.region 4 (rg Try.f82 4) false)))) (.region 5 (rg Try.f82 5) false))))
def C82_1 (x1 x6 x7 x8 : AV) : List AV := [.top, x1, .top, .top, .top, .top, x6, x7, x8, .top, .top, .top, .top, .top, .top, .top, .top, .top, .top, .top]
theorem cl82_1 (x0 x1 x2 x3 x4 x5 x6 x7 x8 x9 x10 x11 x12 x13 x14 x15 x16 x17 x18 x19 : AV) : aclear (HK 82) lp82_1 [x0, x1, x2, x3, x4, x5, x6, x7, x8, x9, x10, x11, x12, x13, x14, x15, x16, x17, x18, x19] = C82_1 x1 x6 x7 x8 := by kernel_rfl
noncomputable def cd82 : Code := (.seq (.region 0 (rg Try.f82 0) false) (.block 0 (.loop lp82_1)))
theorem ent82 (n : Nat) (a0 a1 : AV) (h : AH) : X (n + 1) (.func 82) [a0, a1] h = (fin0 (arun Try.prog (HK 82) 82 (X n) n none cd82 [a0, a1, .tup [], .tup [], .tup [], .tup [], .tup [], .tup [], .tup [], .tup [], .tup [], .tup [], .tup [], .tup [], .tup [], .tup [], .tup [], .tup [], .tup [], .tup []] h) ) := by kernel_rfl
section
variable (K : Hint) (fid : FuncId) (call : ACall) (lf : Nat) (rd : Option Nat) (fr : List AV) (h : AH)
theorem reg82_0 : arun Try.prog K fid call lf rd (.region 0 (rg Try.f82 0) false) fr h = regR (aops Try.prog call (rg Try.f82 0) [0, 1, 2] fr h) := by kernel_rfl
theorem st82_0_0 : astep Try.prog call (rg Try.f82 0) 0 fr h = pureS (some (fr.getD 0 .top)) fr 6 h := by kernel_rfl
theorem st82_0_1 : astep Try.prog call (rg Try.f82 0) 1 fr h = pureS (lenV (alen Try.prog 58 (fr.getD 6 .top))) fr 7 h := by kernel_rfl
theorem st82_0_2 : astep Try.prog call (rg Try.f82 0) 2 fr h = pureS (some (.int .i64 0)) fr 8 h := by kernel_rfl
theorem reg82_1 : arun Try.prog K fid call lf rd (.region 1 (rg Try.f82 1) false) fr h = regR (aops Try.prog call (rg Try.f82 1) [0] fr h) := by kernel_rfl
theorem st82_1_0 : astep Try.prog call (rg Try.f82 1) 0 fr h = pureS (abin Try.prog .lss 3 (.tmp 8) (.tmp 7) (fr.getD 8 .top) (fr.getD 7 .top)) fr 9 h := by kernel_rfl
theorem reg82_2 : arun Try.prog K fid call lf rd (.region 2 (rg Try.f82 2) false) fr h = regR (aops Try.prog call (rg Try.f82 2) [0, 1, 2, 3] fr h) := by kernel_rfl
theorem st82_2_0 : astep Try.prog call (rg Try.f82 2) 0 fr h = pureS (aindexAt Try.prog 58 (fr.getD 6 .top) (fr.getD 8 .top)) fr 10 h := by kernel_rfl
theorem st82_2_1 : astep Try.prog call (rg Try.f82 2) 1 fr h = pureS (ldV Try.prog 78 (fr.getD 10 .top) h) fr 11 h := by kernel_rfl
theorem st82_2_2 : astep Try.prog call (rg Try.f82 2) 2 fr h = heapS (newV Try.prog 78 h) fr 5 := by kernel_rfl
theorem st82_2_3 : astep Try.prog call (rg Try.f82 2) 3 fr h = heapN (stV Try.prog 78 (fr.getD 5 .top) (fr.getD 11 .top) h) fr := by kernel_rfl
theorem reg82_3 : arun Try.prog K fid call lf rd (.region 3 (rg Try.f82 3) false) fr h = regR (aops Try.prog call (rg Try.f82 3) [0, 1, 2] fr h) := by kernel_rfl
theorem st82_3_0 : astep Try.prog call (rg Try.f82 3) 0 fr h = pureS (some (fr.getD 1 .top)) fr 12 h := by kernel_rfl
theorem st82_3_1 : astep Try.prog call (rg Try.f82 3) 1 fr h = pureS (ldV Try.prog 78 (fr.getD 5 .top) h) fr 13 h := by kernel_rfl
theorem st82_3_2 : astep Try.prog call (rg Try.f82 3) 2 fr h = heapS (callV call (fr.getD 12 .top) [(fr.getD 13 .top)] h) fr 14 := by kernel_rfl
theorem reg82_4 : arun Try.prog K fid call lf rd (.region 4 (rg Try.f82 4) false) fr h = regR (aops Try.prog call (rg Try.f82 4) [0, 1, 2, 3] fr h) := by kernel_rfl
theorem st82_4_0 : astep Try.prog call (rg Try.f82 4) 0 fr h = pureS (afieldAt Try.prog 78 (fr.getD 5 .top) 3) fr 15 h := by kernel_rfl
theorem st82_4_1 : astep Try.prog call (rg Try.f82 4) 1 fr h = pureS (ldV Try.prog 58 (fr.getD 15 .top) h) fr 16 h := by kernel_rfl
theorem st82_4_2 : astep Try.prog call (rg Try.f82 4) 2 fr h = pureS (some (fr.getD 1 .top)) fr 17 h := by kernel_rfl
theorem st82_4_3 : astep Try.prog call (rg Try.f82 4) 3 fr h = heapS (callV call (.fn (.func 82) [] []) [(fr.getD 16 .top), (fr.getD 17 .top)] h) fr 18 := by kernel_rfl
theorem reg82_5 : arun Try.prog K fid call lf rd (.region 5 (rg Try.f82 5) false) fr h = regR (aops Try.prog call (rg Try.f82 5) [0, 1] fr h) := by kernel_rfl
theorem st82_5_0 : astep Try.prog call (rg Try.f82 5) 0 fr h = pureS (abin Try.prog .add 3 (.tmp 8) (.const (.int .i64 1)) (fr.getD 8 .top) (.int .i64 1)) fr 19 h := by kernel_rfl
theorem st82_5_1 : astep Try.prog call (rg Try.f82 5) 1 fr h = pureS (some (fr.getD 19 .top)) fr 8 h := by kernel_rfl
end
-- SIMP82: reg82_0, st82_0_0, st82_0_1, st82_0_2, reg82_1, st82_1_0, reg82_2, st82_2_0, st82_2_1, st82_2_2, st82_2_3, reg82_3, st82_3_0, st82_3_1, st82_3_2, reg82_4, st82_4_0, st82_4_1, st82_4_2, st82_4_3, reg82_5, st82_5_0, st82_5_1

/-! ### 83: conch/part.Cmds$1 -/
noncomputable def cd83 : Code := (.seq (.region 0 (rg Try.f83 0) false) (.seq (.region 1 (rg Try.f83 1) false) (.cond (.tmp 5) (.region 2 (rg Try.f83 2) false) .skip)))
theorem ent83 (n : Nat) (a0 a1 : AV) (h : AH) : X (n + 1) (.func 83) [a0, a1] h = (fin0 (arun Try.prog (HK 83) 83 (X n) n none cd83 [a0, a1, .tup [], .tup [], .tup [], .tup [], .tup [], .tup [], .tup [], .tup [], .tup []] h) ) := by kernel_rfl
section
variable (K : Hint) (fid : FuncId) (call : ACall) (lf : Nat) (rd : Option Nat) (fr : List AV) (h : AH)
theorem reg83_0 : arun Try.prog K fid call lf rd (.region 0 (rg Try.f83 0) false) fr h = regR (aops Try.prog call (rg Try.f83 0) [0] fr h) := by kernel_rfl
theorem st83_0_0 : astep Try.prog call (rg Try.f83 0) 0 fr h = heapS (boxV (fr.getD 0 .top) h) fr 2 := by kernel_rfl
theorem reg83_1 : arun Try.prog K fid call lf rd (.region 1 (rg Try.f83 1) false) fr h = regR (aops Try.prog call (rg Try.f83 1) [0, 1, 2] fr h) := by kernel_rfl
theorem st83_1_0 : astep Try.prog call (rg Try.f83 1) 0 fr h = pureS (afieldAt Try.prog 78 (fr.getD 2 .top) 0) fr 3 h := by kernel_rfl
theorem st83_1_1 : astep Try.prog call (rg Try.f83 1) 1 fr h = pureS (ldV Try.prog 3 (fr.getD 3 .top) h) fr 4 h := by kernel_rfl
theorem st83_1_2 : astep Try.prog call (rg Try.f83 1) 2 fr h = pureS (abin Try.prog .eql 3 (.tmp 4) (.const (.int .i64 6)) (fr.getD 4 .top) (.int .i64 6)) fr 5 h := by kernel_rfl
theorem reg83_2 : arun Try.prog K fid call lf rd (.region 2 (rg Try.f83 2) false) fr h = regR (aops Try.prog call (rg Try.f83 2) [0, 1, 2, 3, 4, 5] fr h) := by kernel_rfl
theorem st83_2_0 : astep Try.prog call (rg Try.f83 2) 0 fr h = pureS (ldV Try.prog 89 (fr.getD 1 .top) h) fr 6 h := by kernel_rfl
theorem st83_2_1 : astep Try.prog call (rg Try.f83 2) 1 fr h = pureS (afieldAt Try.prog 78 (fr.getD 2 .top) 4) fr 7 h := by kernel_rfl
theorem st83_2_2 : astep Try.prog call (rg Try.f83 2) 2 fr h = pureS (ldV Try.prog 47 (fr.getD 7 .top) h) fr 8 h := by kernel_rfl
theorem st83_2_3 : astep Try.prog call (rg Try.f83 2) 3 fr h = heapS (bslV Try.prog 89 1 [(0, (fr.getD 8 .top))] h) fr 9 := by kernel_rfl
theorem st83_2_4 : astep Try.prog call (rg Try.f83 2) 4 fr h = heapS (aappend Try.prog 89 89 (fr.getD 6 .top) (fr.getD 9 .top) h) fr 10 := by kernel_rfl
theorem st83_2_5 : astep Try.prog call (rg Try.f83 2) 5 fr h = heapN (stV Try.prog 89 (fr.getD 1 .top) (fr.getD 10 .top) h) fr := by kernel_rfl
end
-- SIMP83: reg83_0, st83_0_0, reg83_1, st83_1_0, st83_1_1, st83_1_2, reg83_2, st83_2_0, st83_2_1, st83_2_2, st83_2_3, st83_2_4, st83_2_5

end Go.Proofs.Ytgnacecplaemlaa
