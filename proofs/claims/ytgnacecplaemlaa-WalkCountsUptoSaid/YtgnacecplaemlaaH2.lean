import Derived.Test.YtgnacecplaemlaaE23
namespace Go.Proofs.Ytgnacecplaemlaa
open AI
set_option linter.unusedVariables false
/-! ### 27: conch/conchref32.Count -/
noncomputable def lp27_3 : Code := (.seq (.seq (.region 3 (rg Try.f27 3) false) (.cond (.tmp 22) .skip (.exit 0))) (.seq (.block 1 (.region 5 (rg Try.f27 5) false)) (.region 4 (rg Try.f27 4) false)))
def C27_3 (x1 x3 x4 : AV) : List AV := [.top, x1, .top, x3, x4, .top, .top, .top, .top, .top, .top, .top, .top, .top, .top, .top, .top, .top, .top, .top, .top, .top, .top, .top, .top, .top, .top, .top, .top, .top, .top, .top, .top, .top, .top, .top, .top, .top, .top, .top, .top, .top, .top, .top, .top, .top, .top, .top, .top, .top, .top, .top, .top, .top, .top, .top, .top, .top, .top, .top]
theorem cl27_3 (x0 x1 x2 x3 x4 x5 x6 x7 x8 x9 x10 x11 x12 x13 x14 x15 x16 x17 x18 x19 x20 x21 x22 x23 x24 x25 x26 x27 x28 x29 x30 x31 x32 x33 x34 x35 x36 x37 x38 x39 x40 x41 x42 x43 x44 x45 x46 x47 x48 x49 x50 x51 x52 x53 x54 x55 x56 x57 x58 x59 : AV) : aclear (HK 27) lp27_3 [x0, x1, x2, x3, x4, x5, x6, x7, x8, x9, x10, x11, x12, x13, x14, x15, x16, x17, x18, x19, x20, x21, x22, x23, x24, x25, x26, x27, x28, x29, x30, x31, x32, x33, x34, x35, x36, x37, x38, x39, x40, x41, x42, x43, x44, x45, x46, x47, x48, x49, x50, x51, x52, x53, x54, x55, x56, x57, x58, x59] = C27_3 x1 x3 x4 := by kernel_rfl
noncomputable def lp27_7 : Code := (.seq (.seq (.region 7 (rg Try.f27 7) false) (.cond (.tmp 39) .skip (.exit 2))) (.seq (.block 3 (.region 9 (rg Try.f27 9) true)) (.region 8 (rg Try.f27 8) false)))
def C27_7 (x1 x3 x5 : AV) : List AV := [.top, x1, .top, x3, .top, x5, .top, .top, .top, .top, .top, .top, .top, .top, .top, .top, .top, .top, .top, .top, .top, .top, .top, .top, .top, .top, .top, .top, .top, .top, .top, .top, .top, .top, .top, .top, .top, .top, .top, .top, .top, .top, .top, .top, .top, .top, .top, .top, .top, .top, .top, .top, .top, .top, .top, .top, .top, .top, .top, .top]
theorem cl27_7 (x0 x1 x2 x3 x4 x5 x6 x7 x8 x9 x10 x11 x12 x13 x14 x15 x16 x17 x18 x19 x20 x21 x22 x23 x24 x25 x26 x27 x28 x29 x30 x31 x32 x33 x34 x35 x36 x37 x38 x39 x40 x41 x42 x43 x44 x45 x46 x47 x48 x49 x50 x51 x52 x53 x54 x55 x56 x57 x58 x59 : AV) : aclear (HK 27) lp27_7 [x0, x1, x2, x3, x4, x5, x6, x7, x8, x9, x10, x11, x12, x13, x14, x15, x16, x17, x18, x19, x20, x21, x22, x23, x24, x25, x26, x27, x28, x29, x30, x31, x32, x33, x34, x35, x36, x37, x38, x39, x40, x41, x42, x43, x44, x45, x46, x47, x48, x49, x50, x51, x52, x53, x54, x55, x56, x57, x58, x59] = C27_7 x1 x3 x5 := by kernel_rfl
noncomputable def cd27 : Code := (.seq (.region 0 (rg Try.f27 0) false) (.seq (.region 1 (rg Try.f27 1) true) (.seq (.seq (.region 2 (rg Try.f27 2) false) (.block 0 (.loop lp27_3))) (.seq (.seq (.region 6 (rg Try.f27 6) false) (.block 2 (.loop lp27_7))) (.seq (.region 10 (rg Try.f27 10) false) .ret)))))
theorem ent27 (n : Nat) (a0 : AV) (h : AH) : X (n + 1) (.func 27) [a0] h = nrm h (fin1 (arun Try.prog (HK 27) 27 (X n) n none cd27 [a0, .tup [], .tup [], .tup [], .tup [], .tup [], .tup [], .tup [], .tup [], .tup [], .tup [], .tup [], .tup [], .tup [], .tup [], .tup [], .tup [], .tup [], .tup [], .tup [], .tup [], .tup [], .tup [], .tup [], .tup [], .tup [], .tup [], .tup [], .tup [], .tup [], .tup [], .tup [], .tup [], .tup [], .tup [], .tup [], .tup [], .tup [], .tup [], .tup [], .tup [], .tup [], .tup [], .tup [], .tup [], .tup [], .tup [], .tup [], .tup [], .tup [], .tup [], .tup [], .tup [], .tup [], .tup [], .tup [], .tup [], .tup [], .tup [], .tup []] h) 2) := by kernel_rfl
section
variable (K : Hint) (fid : FuncId) (call : ACall) (lf : Nat) (rd : Option Nat) (fr : List AV) (h : AH)
theorem reg27_0 : arun Try.prog K fid call lf rd (.region 0 (rg Try.f27 0) false) fr h = regR (aops Try.prog call (rg Try.f27 0) [0, 1] fr h) := by kernel_rfl
theorem st27_0_0 : astep Try.prog call (rg Try.f27 0) 0 fr h = heapS (boxV (fr.getD 0 .top) h) fr 1 := by kernel_rfl
theorem st27_0_1 : astep Try.prog call (rg Try.f27 0) 1 fr h = pureS (some (.int .i64 0)) fr 2 h := by kernel_rfl
theorem reg27_1 : arun Try.prog (HK 27) fid call lf rd (.region 1 (rg Try.f27 1) true) fr h = regR (aopsS Try.prog call (rg Try.f27 1) [(0, false), (1, false), (2, true), (3, true), (4, true), (5, true), (6, true), (7, true), (8, true), (9, false), (10, false), (11, false), (12, false)] fr h) := by kernel_rfl
theorem st27_1_0 : astep Try.prog call (rg Try.f27 1) 0 fr h = pureS (afieldAt Try.prog 49 (fr.getD 1 .top) 9) fr 6 h := by kernel_rfl
theorem st27_1_1 : astep Try.prog call (rg Try.f27 1) 1 fr h = pureS (ldV Try.prog 47 (fr.getD 6 .top) h) fr 7 h := by kernel_rfl
theorem st27_1_2 : astep Try.prog call (rg Try.f27 1) 2 fr h = heapS (callV call (.fn (.func 49) [] []) [(fr.getD 7 .top)] h) fr 8 := by kernel_rfl
theorem st27_1_3 : astep Try.prog call (rg Try.f27 1) 3 fr h = pureS (abin Try.prog .add 3 (.const (.int .i64 1)) (.tmp 8) (.int .i64 1) (fr.getD 8 .top)) fr 9 h := by kernel_rfl
theorem st27_1_4 : astep Try.prog call (rg Try.f27 1) 4 fr h = pureS (afieldAt Try.prog 49 (fr.getD 1 .top) 5) fr 10 h := by kernel_rfl
theorem st27_1_5 : astep Try.prog call (rg Try.f27 1) 5 fr h = pureS (ldV Try.prog 44 (fr.getD 10 .top) h) fr 11 h := by kernel_rfl
theorem st27_1_6 : astep Try.prog call (rg Try.f27 1) 6 fr h = heapS (callV call (.fn (.func 50) [] []) [(fr.getD 11 .top)] h) fr 12 := by kernel_rfl
theorem st27_1_7 : astep Try.prog call (rg Try.f27 1) 7 fr h = pureS (abin Try.prog .add 3 (.tmp 9) (.tmp 12) (fr.getD 9 .top) (fr.getD 12 .top)) fr 13 h := by kernel_rfl
theorem st27_1_8 : astep Try.prog call (rg Try.f27 1) 8 fr h = pureS (afieldAt Try.prog 49 (fr.getD 1 .top) 6) fr 14 h := by kernel_rfl
theorem st27_1_9 : astep Try.prog call (rg Try.f27 1) 9 fr h = pureS (ldV Try.prog 44 (fr.getD 14 .top) h) fr 15 h := by kernel_rfl
theorem st27_1_10 : astep Try.prog call (rg Try.f27 1) 10 fr h = heapS (callV call (.fn (.func 50) [] []) [(fr.getD 15 .top)] h) fr 16 := by kernel_rfl
theorem st27_1_11 : astep Try.prog call (rg Try.f27 1) 11 fr h = pureS (abin Try.prog .add 3 (.tmp 13) (.tmp 16) (fr.getD 13 .top) (fr.getD 16 .top)) fr 17 h := by kernel_rfl
theorem st27_1_12 : astep Try.prog call (rg Try.f27 1) 12 fr h = pureS (some (fr.getD 17 .top)) fr 3 h := by kernel_rfl
theorem reg27_2 : arun Try.prog K fid call lf rd (.region 2 (rg Try.f27 2) false) fr h = regR (aops Try.prog call (rg Try.f27 2) [0] fr h) := by kernel_rfl
theorem st27_2_0 : astep Try.prog call (rg Try.f27 2) 0 fr h = pureS (some (.int .i64 0)) fr 4 h := by kernel_rfl
theorem reg27_3 : arun Try.prog K fid call lf rd (.region 3 (rg Try.f27 3) false) fr h = regR (aops Try.prog call (rg Try.f27 3) [0, 1, 2, 3, 4] fr h) := by kernel_rfl
theorem st27_3_0 : astep Try.prog call (rg Try.f27 3) 0 fr h = pureS (some (fr.getD 4 .top)) fr 18 h := by kernel_rfl
theorem st27_3_1 : astep Try.prog call (rg Try.f27 3) 1 fr h = pureS (afieldAt Try.prog 49 (fr.getD 1 .top) 7) fr 19 h := by kernel_rfl
theorem st27_3_2 : astep Try.prog call (rg Try.f27 3) 2 fr h = pureS (ldV Try.prog 45 (fr.getD 19 .top) h) fr 20 h := by kernel_rfl
theorem st27_3_3 : astep Try.prog call (rg Try.f27 3) 3 fr h = pureS (lenV (alen Try.prog 45 (fr.getD 20 .top))) fr 21 h := by kernel_rfl
theorem st27_3_4 : astep Try.prog call (rg Try.f27 3) 4 fr h = pureS (abin Try.prog .lss 3 (.tmp 18) (.tmp 21) (fr.getD 18 .top) (fr.getD 21 .top)) fr 22 h := by kernel_rfl
theorem reg27_5 : arun Try.prog K fid call lf rd (.region 5 (rg Try.f27 5) false) fr h = regR (aops Try.prog call (rg Try.f27 5) [0, 1, 2, 3, 4, 5, 6, 7, 8, 9, 10] fr h) := by kernel_rfl
theorem st27_5_0 : astep Try.prog call (rg Try.f27 5) 0 fr h = pureS (some (fr.getD 3 .top)) fr 25 h := by kernel_rfl
theorem st27_5_1 : astep Try.prog call (rg Try.f27 5) 1 fr h = pureS (afieldAt Try.prog 49 (fr.getD 1 .top) 7) fr 26 h := by kernel_rfl
theorem st27_5_2 : astep Try.prog call (rg Try.f27 5) 2 fr h = pureS (ldV Try.prog 45 (fr.getD 26 .top) h) fr 27 h := by kernel_rfl
theorem st27_5_3 : astep Try.prog call (rg Try.f27 5) 3 fr h = pureS (some (fr.getD 4 .top)) fr 28 h := by kernel_rfl
theorem st27_5_4 : astep Try.prog call (rg Try.f27 5) 4 fr h = pureS (aindexAt Try.prog 45 (fr.getD 27 .top) (fr.getD 28 .top)) fr 29 h := by kernel_rfl
theorem st27_5_5 : astep Try.prog call (rg Try.f27 5) 5 fr h = pureS (afieldAt Try.prog 73 (fr.getD 29 .top) 2) fr 30 h := by kernel_rfl
theorem st27_5_6 : astep Try.prog call (rg Try.f27 5) 6 fr h = pureS (ldV Try.prog 60 (fr.getD 30 .top) h) fr 31 h := by kernel_rfl
theorem st27_5_7 : astep Try.prog call (rg Try.f27 5) 7 fr h = heapS (bslV Try.prog 44 1 [(0, (fr.getD 31 .top))] h) fr 32 := by kernel_rfl
theorem st27_5_8 : astep Try.prog call (rg Try.f27 5) 8 fr h = heapS (callV call (.fn (.func 50) [] []) [(fr.getD 32 .top)] h) fr 33 := by kernel_rfl
theorem st27_5_9 : astep Try.prog call (rg Try.f27 5) 9 fr h = pureS (abin Try.prog .add 3 (.tmp 25) (.tmp 33) (fr.getD 25 .top) (fr.getD 33 .top)) fr 34 h := by kernel_rfl
theorem st27_5_10 : astep Try.prog call (rg Try.f27 5) 10 fr h = pureS (some (fr.getD 34 .top)) fr 3 h := by kernel_rfl
theorem reg27_4 : arun Try.prog K fid call lf rd (.region 4 (rg Try.f27 4) false) fr h = regR (aops Try.prog call (rg Try.f27 4) [0, 1, 2] fr h) := by kernel_rfl
theorem st27_4_0 : astep Try.prog call (rg Try.f27 4) 0 fr h = pureS (some (fr.getD 4 .top)) fr 23 h := by kernel_rfl
theorem st27_4_1 : astep Try.prog call (rg Try.f27 4) 1 fr h = pureS (abin Try.prog .add 3 (.tmp 23) (.const (.int .i64 1)) (fr.getD 23 .top) (.int .i64 1)) fr 24 h := by kernel_rfl
theorem st27_4_2 : astep Try.prog call (rg Try.f27 4) 2 fr h = pureS (some (fr.getD 24 .top)) fr 4 h := by kernel_rfl
theorem reg27_6 : arun Try.prog K fid call lf rd (.region 6 (rg Try.f27 6) false) fr h = regR (aops Try.prog call (rg Try.f27 6) [0] fr h) := by kernel_rfl
theorem st27_6_0 : astep Try.prog call (rg Try.f27 6) 0 fr h = pureS (some (.int .i64 0)) fr 5 h := by kernel_rfl
theorem reg27_7 : arun Try.prog K fid call lf rd (.region 7 (rg Try.f27 7) false) fr h = regR (aops Try.prog call (rg Try.f27 7) [0, 1, 2, 3, 4] fr h) := by kernel_rfl
theorem st27_7_0 : astep Try.prog call (rg Try.f27 7) 0 fr h = pureS (some (fr.getD 5 .top)) fr 35 h := by kernel_rfl
theorem st27_7_1 : astep Try.prog call (rg Try.f27 7) 1 fr h = pureS (afieldAt Try.prog 49 (fr.getD 1 .top) 8) fr 36 h := by kernel_rfl
theorem st27_7_2 : astep Try.prog call (rg Try.f27 7) 2 fr h = pureS (ldV Try.prog 46 (fr.getD 36 .top) h) fr 37 h := by kernel_rfl
theorem st27_7_3 : astep Try.prog call (rg Try.f27 7) 3 fr h = pureS (lenV (alen Try.prog 46 (fr.getD 37 .top))) fr 38 h := by kernel_rfl
theorem st27_7_4 : astep Try.prog call (rg Try.f27 7) 4 fr h = pureS (abin Try.prog .lss 3 (.tmp 35) (.tmp 38) (fr.getD 35 .top) (fr.getD 38 .top)) fr 39 h := by kernel_rfl
theorem reg27_9 : arun Try.prog (HK 27) fid call lf rd (.region 9 (rg Try.f27 9) true) fr h = regR (aopsS Try.prog call (rg Try.f27 9) [(0, false), (1, false), (2, false), (3, false), (4, false), (5, false), (6, false), (7, true), (8, true), (9, true), (10, true), (11, true), (12, true), (13, true), (14, false), (15, false), (16, false), (17, false)] fr h) := by kernel_rfl
theorem st27_9_0 : astep Try.prog call (rg Try.f27 9) 0 fr h = pureS (some (fr.getD 3 .top)) fr 42 h := by kernel_rfl
theorem st27_9_1 : astep Try.prog call (rg Try.f27 9) 1 fr h = pureS (afieldAt Try.prog 49 (fr.getD 1 .top) 8) fr 43 h := by kernel_rfl
theorem st27_9_2 : astep Try.prog call (rg Try.f27 9) 2 fr h = pureS (ldV Try.prog 46 (fr.getD 43 .top) h) fr 44 h := by kernel_rfl
theorem st27_9_3 : astep Try.prog call (rg Try.f27 9) 3 fr h = pureS (some (fr.getD 5 .top)) fr 45 h := by kernel_rfl
theorem st27_9_4 : astep Try.prog call (rg Try.f27 9) 4 fr h = pureS (aindexAt Try.prog 46 (fr.getD 44 .top) (fr.getD 45 .top)) fr 46 h := by kernel_rfl
theorem st27_9_5 : astep Try.prog call (rg Try.f27 9) 5 fr h = pureS (afieldAt Try.prog 76 (fr.getD 46 .top) 0) fr 47 h := by kernel_rfl
theorem st27_9_6 : astep Try.prog call (rg Try.f27 9) 6 fr h = pureS (ldV Try.prog 44 (fr.getD 47 .top) h) fr 48 h := by kernel_rfl
theorem st27_9_7 : astep Try.prog call (rg Try.f27 9) 7 fr h = heapS (callV call (.fn (.func 50) [] []) [(fr.getD 48 .top)] h) fr 49 := by kernel_rfl
theorem st27_9_8 : astep Try.prog call (rg Try.f27 9) 8 fr h = pureS (abin Try.prog .add 3 (.tmp 42) (.tmp 49) (fr.getD 42 .top) (fr.getD 49 .top)) fr 50 h := by kernel_rfl
theorem st27_9_9 : astep Try.prog call (rg Try.f27 9) 9 fr h = pureS (afieldAt Try.prog 49 (fr.getD 1 .top) 8) fr 51 h := by kernel_rfl
theorem st27_9_10 : astep Try.prog call (rg Try.f27 9) 10 fr h = pureS (ldV Try.prog 46 (fr.getD 51 .top) h) fr 52 h := by kernel_rfl
theorem st27_9_11 : astep Try.prog call (rg Try.f27 9) 11 fr h = pureS (some (fr.getD 5 .top)) fr 53 h := by kernel_rfl
theorem st27_9_12 : astep Try.prog call (rg Try.f27 9) 12 fr h = pureS (aindexAt Try.prog 46 (fr.getD 52 .top) (fr.getD 53 .top)) fr 54 h := by kernel_rfl
theorem st27_9_13 : astep Try.prog call (rg Try.f27 9) 13 fr h = pureS (afieldAt Try.prog 76 (fr.getD 54 .top) 1) fr 55 h := by kernel_rfl
theorem st27_9_14 : astep Try.prog call (rg Try.f27 9) 14 fr h = pureS (ldV Try.prog 49 (fr.getD 55 .top) h) fr 56 h := by kernel_rfl
theorem st27_9_15 : astep Try.prog call (rg Try.f27 9) 15 fr h = heapS (callV call (.fn (.func 27) [] []) [(fr.getD 56 .top)] h) fr 57 := by kernel_rfl
theorem st27_9_16 : astep Try.prog call (rg Try.f27 9) 16 fr h = pureS (abin Try.prog .add 3 (.tmp 50) (.tmp 57) (fr.getD 50 .top) (fr.getD 57 .top)) fr 58 h := by kernel_rfl
theorem st27_9_17 : astep Try.prog call (rg Try.f27 9) 17 fr h = pureS (some (fr.getD 58 .top)) fr 3 h := by kernel_rfl
theorem reg27_8 : arun Try.prog K fid call lf rd (.region 8 (rg Try.f27 8) false) fr h = regR (aops Try.prog call (rg Try.f27 8) [0, 1, 2] fr h) := by kernel_rfl
theorem st27_8_0 : astep Try.prog call (rg Try.f27 8) 0 fr h = pureS (some (fr.getD 5 .top)) fr 40 h := by kernel_rfl
theorem st27_8_1 : astep Try.prog call (rg Try.f27 8) 1 fr h = pureS (abin Try.prog .add 3 (.tmp 40) (.const (.int .i64 1)) (fr.getD 40 .top) (.int .i64 1)) fr 41 h := by kernel_rfl
theorem st27_8_2 : astep Try.prog call (rg Try.f27 8) 2 fr h = pureS (some (fr.getD 41 .top)) fr 5 h := by kernel_rfl
theorem reg27_10 : arun Try.prog K fid call lf rd (.region 10 (rg Try.f27 10) false) fr h = regR (aops Try.prog call (rg Try.f27 10) [0, 1] fr h) := by kernel_rfl
theorem st27_10_0 : astep Try.prog call (rg Try.f27 10) 0 fr h = pureS (some (fr.getD 3 .top)) fr 59 h := by kernel_rfl
theorem st27_10_1 : astep Try.prog call (rg Try.f27 10) 1 fr h = pureS (some (fr.getD 59 .top)) fr 2 h := by kernel_rfl
end
-- SIMP27: reg27_0, st27_0_0, st27_0_1, reg27_1, st27_1_0, st27_1_1, st27_1_2, st27_1_3, st27_1_4, st27_1_5, st27_1_6, st27_1_7, st27_1_8, st27_1_9, st27_1_10, st27_1_11, st27_1_12, reg27_2, st27_2_0, reg27_3, st27_3_0, st27_3_1, st27_3_2, st27_3_3, st27_3_4, reg27_5, st27_5_0, st27_5_1, st27_5_2, st27_5_3, st27_5_4, st27_5_5, st27_5_6, st27_5_7, st27_5_8, st27_5_9, st27_5_10, reg27_4, st27_4_0, st27_4_1, st27_4_2, reg27_6, st27_6_0, reg27_7, st27_7_0, st27_7_1, st27_7_2, st27_7_3, st27_7_4, reg27_9, st27_9_0, st27_9_1, st27_9_2, st27_9_3, st27_9_4, st27_9_5, st27_9_6, st27_9_7, st27_9_8, st27_9_9, st27_9_10, st27_9_11, st27_9_12, st27_9_13, st27_9_14, st27_9_15, st27_9_16, st27_9_17, reg27_8, st27_8_0, st27_8_1, st27_8_2, reg27_10, st27_10_0, st27_10_1

/-! ### 49: conch/conchref32.CountAll -/
noncomputable def lp49_3 : Code := (.seq (.seq (.region 3 (rg Try.f49 3) false) (.cond (.tmp 8) .skip (.exit 0))) (.seq (.block 1 (.region 5 (rg Try.f49 5) false)) (.region 4 (rg Try.f49 4) false)))
def C49_3 (x0 x3 x4 : AV) : List AV := [x0, .top, .top, x3, x4, .top, .top, .top, .top, .top, .top, .top, .top, .top, .top, .top, .top, .top, .top]
theorem cl49_3 (x0 x1 x2 x3 x4 x5 x6 x7 x8 x9 x10 x11 x12 x13 x14 x15 x16 x17 x18 : AV) : aclear (HK 49) lp49_3 [x0, x1, x2, x3, x4, x5, x6, x7, x8, x9, x10, x11, x12, x13, x14, x15, x16, x17, x18] = C49_3 x0 x3 x4 := by kernel_rfl
noncomputable def cd49 : Code := (.seq (.region 0 (rg Try.f49 0) false) (.seq (.region 1 (rg Try.f49 1) false) (.seq (.seq (.region 2 (rg Try.f49 2) false) (.block 0 (.loop lp49_3))) (.seq (.region 6 (rg Try.f49 6) false) .ret))))
theorem ent49 (n : Nat) (a0 : AV) (h : AH) : X (n + 1) (.func 49) [a0] h = nrm h (fin1 (arun Try.prog (HK 49) 49 (X n) n none cd49 [a0, .tup [], .tup [], .tup [], .tup [], .tup [], .tup [], .tup [], .tup [], .tup [], .tup [], .tup [], .tup [], .tup [], .tup [], .tup [], .tup [], .tup [], .tup []] h) 2) := by kernel_rfl
section
variable (K : Hint) (fid : FuncId) (call : ACall) (lf : Nat) (rd : Option Nat) (fr : List AV) (h : AH)
theorem reg49_0 : arun Try.prog K fid call lf rd (.region 0 (rg Try.f49 0) false) fr h = regR (aops Try.prog call (rg Try.f49 0) [0] fr h) := by kernel_rfl
theorem st49_0_0 : astep Try.prog call (rg Try.f49 0) 0 fr h = pureS (some (.int .i64 0)) fr 2 h := by kernel_rfl
theorem reg49_1 : arun Try.prog K fid call lf rd (.region 1 (rg Try.f49 1) false) fr h = regR (aops Try.prog call (rg Try.f49 1) [0] fr h) := by kernel_rfl
theorem st49_1_0 : astep Try.prog call (rg Try.f49 1) 0 fr h = pureS (some (.int .i64 0)) fr 3 h := by kernel_rfl
theorem reg49_2 : arun Try.prog K fid call lf rd (.region 2 (rg Try.f49 2) false) fr h = regR (aops Try.prog call (rg Try.f49 2) [0] fr h) := by kernel_rfl
theorem st49_2_0 : astep Try.prog call (rg Try.f49 2) 0 fr h = pureS (some (.int .i64 0)) fr 4 h := by kernel_rfl
theorem reg49_3 : arun Try.prog K fid call lf rd (.region 3 (rg Try.f49 3) false) fr h = regR (aops Try.prog call (rg Try.f49 3) [0, 1, 2, 3] fr h) := by kernel_rfl
theorem st49_3_0 : astep Try.prog call (rg Try.f49 3) 0 fr h = pureS (some (fr.getD 4 .top)) fr 5 h := by kernel_rfl
theorem st49_3_1 : astep Try.prog call (rg Try.f49 3) 1 fr h = pureS (some (fr.getD 0 .top)) fr 6 h := by kernel_rfl
theorem st49_3_2 : astep Try.prog call (rg Try.f49 3) 2 fr h = pureS (lenV (alen Try.prog 47 (fr.getD 6 .top))) fr 7 h := by kernel_rfl
theorem st49_3_3 : astep Try.prog call (rg Try.f49 3) 3 fr h = pureS (abin Try.prog .lss 3 (.tmp 5) (.tmp 7) (fr.getD 5 .top) (fr.getD 7 .top)) fr 8 h := by kernel_rfl
theorem reg49_5 : arun Try.prog K fid call lf rd (.region 5 (rg Try.f49 5) false) fr h = regR (aops Try.prog call (rg Try.f49 5) [0, 1, 2, 3, 4, 5, 6, 7] fr h) := by kernel_rfl
theorem st49_5_0 : astep Try.prog call (rg Try.f49 5) 0 fr h = pureS (some (fr.getD 3 .top)) fr 11 h := by kernel_rfl
theorem st49_5_1 : astep Try.prog call (rg Try.f49 5) 1 fr h = pureS (some (fr.getD 0 .top)) fr 12 h := by kernel_rfl
theorem st49_5_2 : astep Try.prog call (rg Try.f49 5) 2 fr h = pureS (some (fr.getD 4 .top)) fr 13 h := by kernel_rfl
theorem st49_5_3 : astep Try.prog call (rg Try.f49 5) 3 fr h = pureS (aindexAt Try.prog 47 (fr.getD 12 .top) (fr.getD 13 .top)) fr 14 h := by kernel_rfl
theorem st49_5_4 : astep Try.prog call (rg Try.f49 5) 4 fr h = pureS (ldV Try.prog 49 (fr.getD 14 .top) h) fr 15 h := by kernel_rfl
theorem st49_5_5 : astep Try.prog call (rg Try.f49 5) 5 fr h = heapS (callV call (.fn (.func 27) [] []) [(fr.getD 15 .top)] h) fr 16 := by kernel_rfl
theorem st49_5_6 : astep Try.prog call (rg Try.f49 5) 6 fr h = pureS (abin Try.prog .add 3 (.tmp 11) (.tmp 16) (fr.getD 11 .top) (fr.getD 16 .top)) fr 17 h := by kernel_rfl
theorem st49_5_7 : astep Try.prog call (rg Try.f49 5) 7 fr h = pureS (some (fr.getD 17 .top)) fr 3 h := by kernel_rfl
theorem reg49_4 : arun Try.prog K fid call lf rd (.region 4 (rg Try.f49 4) false) fr h = regR (aops Try.prog call (rg Try.f49 4) [0, 1, 2] fr h) := by kernel_rfl
theorem st49_4_0 : astep Try.prog call (rg Try.f49 4) 0 fr h = pureS (some (fr.getD 4 .top)) fr 9 h := by kernel_rfl
theorem st49_4_1 : astep Try.prog call (rg Try.f49 4) 1 fr h = pureS (abin Try.prog .add 3 (.tmp 9) (.const (.int .i64 1)) (fr.getD 9 .top) (.int .i64 1)) fr 10 h := by kernel_rfl
theorem st49_4_2 : astep Try.prog call (rg Try.f49 4) 2 fr h = pureS (some (fr.getD 10 .top)) fr 4 h := by kernel_rfl
theorem reg49_6 : arun Try.prog K fid call lf rd (.region 6 (rg Try.f49 6) false) fr h = regR (aops Try.prog call (rg Try.f49 6) [0, 1] fr h) := by kernel_rfl
theorem st49_6_0 : astep Try.prog call (rg Try.f49 6) 0 fr h = pureS (some (fr.getD 3 .top)) fr 18 h := by kernel_rfl
theorem st49_6_1 : astep Try.prog call (rg Try.f49 6) 1 fr h = pureS (some (fr.getD 18 .top)) fr 2 h := by kernel_rfl
end
-- SIMP49: reg49_0, st49_0_0, reg49_1, st49_1_0, reg49_2, st49_2_0, reg49_3, st49_3_0, st49_3_1, st49_3_2, st49_3_3, reg49_5, st49_5_0, st49_5_1, st49_5_2, st49_5_3, st49_5_4, st49_5_5, st49_5_6, st49_5_7, reg49_4, st49_4_0, st49_4_1, st49_4_2, reg49_6, st49_6_0, st49_6_1

/-! ### 50: conch/conchref32.countWords -/
noncomputable def lp50_7 : Code := (.seq (.seq (.region 7 (rg Try.f50 7) false) (.cond (.tmp 22) .skip (.exit 2))) (.seq (.block 3 (.region 9 (rg Try.f50 9) false)) (.region 8 (rg Try.f50 8) false)))
def C50_7 (x0 x3 x4 x5 x6 : AV) : List AV := [x0, .top, .top, x3, x4, x5, x6, .top, .top, .top, .top, .top, .top, .top, .top, .top, .top, .top, .top, .top, .top, .top, .top, .top, .top, .top, .top, .top, .top, .top, .top, .top, .top]
theorem cl50_7 (x0 x1 x2 x3 x4 x5 x6 x7 x8 x9 x10 x11 x12 x13 x14 x15 x16 x17 x18 x19 x20 x21 x22 x23 x24 x25 x26 x27 x28 x29 x30 x31 x32 : AV) : aclear (HK 50) lp50_7 [x0, x1, x2, x3, x4, x5, x6, x7, x8, x9, x10, x11, x12, x13, x14, x15, x16, x17, x18, x19, x20, x21, x22, x23, x24, x25, x26, x27, x28, x29, x30, x31, x32] = C50_7 x0 x3 x4 x5 x6 := by kernel_rfl
noncomputable def lp50_3 : Code := (.seq (.seq (.region 3 (rg Try.f50 3) false) (.cond (.tmp 10) .skip (.exit 0))) (.seq (.block 1 (.seq (.region 5 (rg Try.f50 5) false) (.seq (.region 6 (rg Try.f50 6) false) (.block 2 (.loop lp50_7))))) (.region 4 (rg Try.f50 4) false)))
def C50_3 (x0 x3 x4 : AV) : List AV := [x0, .top, .top, x3, x4, .top, .top, .top, .top, .top, .top, .top, .top, .top, .top, .top, .top, .top, .top, .top, .top, .top, .top, .top, .top, .top, .top, .top, .top, .top, .top, .top, .top]
theorem cl50_3 (x0 x1 x2 x3 x4 x5 x6 x7 x8 x9 x10 x11 x12 x13 x14 x15 x16 x17 x18 x19 x20 x21 x22 x23 x24 x25 x26 x27 x28 x29 x30 x31 x32 : AV) : aclear (HK 50) lp50_3 [x0, x1, x2, x3, x4, x5, x6, x7, x8, x9, x10, x11, x12, x13, x14, x15, x16, x17, x18, x19, x20, x21, x22, x23, x24, x25, x26, x27, x28, x29, x30, x31, x32] = C50_3 x0 x3 x4 := by kernel_rfl
noncomputable def cd50 : Code := (.seq (.region 0 (rg Try.f50 0) false) (.seq (.region 1 (rg Try.f50 1) false) (.seq (.seq (.region 2 (rg Try.f50 2) false) (.block 0 (.loop lp50_3))) (.seq (.region 10 (rg Try.f50 10) false) .ret))))
theorem ent50 (n : Nat) (a0 : AV) (h : AH) : X (n + 1) (.func 50) [a0] h = nrm h (fin1 (arun Try.prog (HK 50) 50 (X n) n none cd50 [a0, .tup [], .tup [], .tup [], .tup [], .tup [], .tup [], .tup [], .tup [], .tup [], .tup [], .tup [], .tup [], .tup [], .tup [], .tup [], .tup [], .tup [], .tup [], .tup [], .tup [], .tup [], .tup [], .tup [], .tup [], .tup [], .tup [], .tup [], .tup [], .tup [], .tup [], .tup [], .tup []] h) 2) := by kernel_rfl
section
variable (K : Hint) (fid : FuncId) (call : ACall) (lf : Nat) (rd : Option Nat) (fr : List AV) (h : AH)
theorem reg50_0 : arun Try.prog K fid call lf rd (.region 0 (rg Try.f50 0) false) fr h = regR (aops Try.prog call (rg Try.f50 0) [0] fr h) := by kernel_rfl
theorem st50_0_0 : astep Try.prog call (rg Try.f50 0) 0 fr h = pureS (some (.int .i64 0)) fr 2 h := by kernel_rfl
theorem reg50_1 : arun Try.prog K fid call lf rd (.region 1 (rg Try.f50 1) false) fr h = regR (aops Try.prog call (rg Try.f50 1) [0] fr h) := by kernel_rfl
theorem st50_1_0 : astep Try.prog call (rg Try.f50 1) 0 fr h = pureS (some (.int .i64 0)) fr 3 h := by kernel_rfl
theorem reg50_2 : arun Try.prog K fid call lf rd (.region 2 (rg Try.f50 2) false) fr h = regR (aops Try.prog call (rg Try.f50 2) [0] fr h) := by kernel_rfl
theorem st50_2_0 : astep Try.prog call (rg Try.f50 2) 0 fr h = pureS (some (.int .i64 0)) fr 4 h := by kernel_rfl
theorem reg50_3 : arun Try.prog K fid call lf rd (.region 3 (rg Try.f50 3) false) fr h = regR (aops Try.prog call (rg Try.f50 3) [0, 1, 2, 3] fr h) := by kernel_rfl
theorem st50_3_0 : astep Try.prog call (rg Try.f50 3) 0 fr h = pureS (some (fr.getD 4 .top)) fr 7 h := by kernel_rfl
theorem st50_3_1 : astep Try.prog call (rg Try.f50 3) 1 fr h = pureS (some (fr.getD 0 .top)) fr 8 h := by kernel_rfl
theorem st50_3_2 : astep Try.prog call (rg Try.f50 3) 2 fr h = pureS (lenV (alen Try.prog 44 (fr.getD 8 .top))) fr 9 h := by kernel_rfl
theorem st50_3_3 : astep Try.prog call (rg Try.f50 3) 3 fr h = pureS (abin Try.prog .lss 3 (.tmp 7) (.tmp 9) (fr.getD 7 .top) (fr.getD 9 .top)) fr 10 h := by kernel_rfl
theorem reg50_5 : arun Try.prog K fid call lf rd (.region 5 (rg Try.f50 5) false) fr h = regR (aops Try.prog call (rg Try.f50 5) [0, 1, 2, 3, 4, 5, 6] fr h) := by kernel_rfl
theorem st50_5_0 : astep Try.prog call (rg Try.f50 5) 0 fr h = pureS (some (fr.getD 0 .top)) fr 13 h := by kernel_rfl
theorem st50_5_1 : astep Try.prog call (rg Try.f50 5) 1 fr h = pureS (some (fr.getD 4 .top)) fr 14 h := by kernel_rfl
theorem st50_5_2 : astep Try.prog call (rg Try.f50 5) 2 fr h = pureS (aindexAt Try.prog 44 (fr.getD 13 .top) (fr.getD 14 .top)) fr 15 h := by kernel_rfl
theorem st50_5_3 : astep Try.prog call (rg Try.f50 5) 3 fr h = pureS (afieldAt Try.prog 60 (fr.getD 15 .top) 0) fr 16 h := by kernel_rfl
theorem st50_5_4 : astep Try.prog call (rg Try.f50 5) 4 fr h = pureS (ldV Try.prog 58 (fr.getD 16 .top) h) fr 17 h := by kernel_rfl
theorem st50_5_5 : astep Try.prog call (rg Try.f50 5) 5 fr h = heapS (callV call (.fn (.func 67) [] []) [(fr.getD 17 .top)] h) fr 18 := by kernel_rfl
theorem st50_5_6 : astep Try.prog call (rg Try.f50 5) 6 fr h = pureS (some (fr.getD 18 .top)) fr 5 h := by kernel_rfl
theorem reg50_6 : arun Try.prog K fid call lf rd (.region 6 (rg Try.f50 6) false) fr h = regR (aops Try.prog call (rg Try.f50 6) [0] fr h) := by kernel_rfl
theorem st50_6_0 : astep Try.prog call (rg Try.f50 6) 0 fr h = pureS (some (.int .i64 0)) fr 6 h := by kernel_rfl
theorem reg50_7 : arun Try.prog K fid call lf rd (.region 7 (rg Try.f50 7) false) fr h = regR (aops Try.prog call (rg Try.f50 7) [0, 1, 2, 3] fr h) := by kernel_rfl
theorem st50_7_0 : astep Try.prog call (rg Try.f50 7) 0 fr h = pureS (some (fr.getD 6 .top)) fr 19 h := by kernel_rfl
theorem st50_7_1 : astep Try.prog call (rg Try.f50 7) 1 fr h = pureS (some (fr.getD 5 .top)) fr 20 h := by kernel_rfl
theorem st50_7_2 : astep Try.prog call (rg Try.f50 7) 2 fr h = pureS (lenV (alen Try.prog 89 (fr.getD 20 .top))) fr 21 h := by kernel_rfl
theorem st50_7_3 : astep Try.prog call (rg Try.f50 7) 3 fr h = pureS (abin Try.prog .lss 3 (.tmp 19) (.tmp 21) (fr.getD 19 .top) (fr.getD 21 .top)) fr 22 h := by kernel_rfl
theorem reg50_9 : arun Try.prog K fid call lf rd (.region 9 (rg Try.f50 9) false) fr h = regR (aops Try.prog call (rg Try.f50 9) [0, 1, 2, 3, 4, 5, 6, 7] fr h) := by kernel_rfl
theorem st50_9_0 : astep Try.prog call (rg Try.f50 9) 0 fr h = pureS (some (fr.getD 3 .top)) fr 25 h := by kernel_rfl
theorem st50_9_1 : astep Try.prog call (rg Try.f50 9) 1 fr h = pureS (some (fr.getD 5 .top)) fr 26 h := by kernel_rfl
theorem st50_9_2 : astep Try.prog call (rg Try.f50 9) 2 fr h = pureS (some (fr.getD 6 .top)) fr 27 h := by kernel_rfl
theorem st50_9_3 : astep Try.prog call (rg Try.f50 9) 3 fr h = pureS (aindexAt Try.prog 89 (fr.getD 26 .top) (fr.getD 27 .top)) fr 28 h := by kernel_rfl
theorem st50_9_4 : astep Try.prog call (rg Try.f50 9) 4 fr h = pureS (ldV Try.prog 47 (fr.getD 28 .top) h) fr 29 h := by kernel_rfl
theorem st50_9_5 : astep Try.prog call (rg Try.f50 9) 5 fr h = heapS (callV call (.fn (.func 49) [] []) [(fr.getD 29 .top)] h) fr 30 := by kernel_rfl
theorem st50_9_6 : astep Try.prog call (rg Try.f50 9) 6 fr h = pureS (abin Try.prog .add 3 (.tmp 25) (.tmp 30) (fr.getD 25 .top) (fr.getD 30 .top)) fr 31 h := by kernel_rfl
theorem st50_9_7 : astep Try.prog call (rg Try.f50 9) 7 fr h = pureS (some (fr.getD 31 .top)) fr 3 h := by kernel_rfl
theorem reg50_8 : arun Try.prog K fid call lf rd (.region 8 (rg Try.f50 8) false) fr h = regR (aops Try.prog call (rg Try.f50 8) [0, 1, 2] fr h) := by kernel_rfl
theorem st50_8_0 : astep Try.prog call (rg Try.f50 8) 0 fr h = pureS (some (fr.getD 6 .top)) fr 23 h := by kernel_rfl
theorem st50_8_1 : astep Try.prog call (rg Try.f50 8) 1 fr h = pureS (abin Try.prog .add 3 (.tmp 23) (.const (.int .i64 1)) (fr.getD 23 .top) (.int .i64 1)) fr 24 h := by kernel_rfl
theorem st50_8_2 : astep Try.prog call (rg Try.f50 8) 2 fr h = pureS (some (fr.getD 24 .top)) fr 6 h := by kernel_rfl
theorem reg50_4 : arun Try.prog K fid call lf rd (.region 4 (rg Try.f50 4) false) fr h = regR (aops Try.prog call (rg Try.f50 4) [0, 1, 2] fr h) := by kernel_rfl
theorem st50_4_0 : astep Try.prog call (rg Try.f50 4) 0 fr h = pureS (some (fr.getD 4 .top)) fr 11 h := by kernel_rfl
theorem st50_4_1 : astep Try.prog call (rg Try.f50 4) 1 fr h = pureS (abin Try.prog .add 3 (.tmp 11) (.const (.int .i64 1)) (fr.getD 11 .top) (.int .i64 1)) fr 12 h := by kernel_rfl
theorem st50_4_2 : astep Try.prog call (rg Try.f50 4) 2 fr h = pureS (some (fr.getD 12 .top)) fr 4 h := by kernel_rfl
theorem reg50_10 : arun Try.prog K fid call lf rd (.region 10 (rg Try.f50 10) false) fr h = regR (aops Try.prog call (rg Try.f50 10) [0, 1] fr h) := by kernel_rfl
theorem st50_10_0 : astep Try.prog call (rg Try.f50 10) 0 fr h = pureS (some (fr.getD 3 .top)) fr 32 h := by kernel_rfl
theorem st50_10_1 : astep Try.prog call (rg Try.f50 10) 1 fr h = pureS (some (fr.getD 32 .top)) fr 2 h := by kernel_rfl
end
-- SIMP50: reg50_0, st50_0_0, reg50_1, st50_1_0, reg50_2, st50_2_0, reg50_3, st50_3_0, st50_3_1, st50_3_2, st50_3_3, reg50_5, st50_5_0, st50_5_1, st50_5_2, st50_5_3, st50_5_4, st50_5_5, st50_5_6, reg50_6, st50_6_0, reg50_7, st50_7_0, st50_7_1, st50_7_2, st50_7_3, reg50_9, st50_9_0, st50_9_1, st50_9_2, st50_9_3, st50_9_4, st50_9_5, st50_9_6, st50_9_7, reg50_8, st50_8_0, st50_8_1, st50_8_2, reg50_4, st50_4_0, st50_4_1, st50_4_2, reg50_10, st50_10_0, st50_10_1

/-! ### 67: conch/conchref24.Cmds -/
noncomputable def lp67_3 : Code := (.seq (.seq (.region 3 (rg Try.f67 3) false) (.cond (.tmp 8) .skip (.exit 0))) (.seq (.block 1 (.seq (.seq (.region 5 (rg Try.f67 5) false) (.cond (.tmp 16) (.region 6 (rg Try.f67 6) false) .skip)) (.region 7 (rg Try.f67 7) false))) (.region 4 (rg Try.f67 4) false)))
def C67_3 (x0 x3 x4 : AV) : List AV := [x0, .top, .top, x3, x4, .top, .top, .top, .top, .top, .top, .top, .top, .top, .top, .top, .top, .top, .top, .top, .top, .top, .top, .top, .top, .top, .top, .top, .top, .top, .top, .top, .top, .top]
theorem cl67_3 (x0 x1 x2 x3 x4 x5 x6 x7 x8 x9 x10 x11 x12 x13 x14 x15 x16 x17 x18 x19 x20 x21 x22 x23 x24 x25 x26 x27 x28 x29 x30 x31 x32 x33 : AV) : aclear (HK 67) lp67_3 [x0, x1, x2, x3, x4, x5, x6, x7, x8, x9, x10, x11, x12, x13, x14, x15, x16, x17, x18, x19, x20, x21, x22, x23, x24, x25, x26, x27, x28, x29, x30, x31, x32, x33] = C67_3 x0 x3 x4 := by kernel_rfl
noncomputable def cd67 : Code := (.seq (.region 0 (rg Try.f67 0) false) (.seq (.region 1 (rg Try.f67 1) false) (.seq (.seq (.region 2 (rg Try.f67 2) false) (.block 0 (.loop lp67_3))) (.seq (.region 8 (rg Try.f67 8) false) .ret))))
theorem ent67 (n : Nat) (a0 : AV) (h : AH) : X (n + 1) (.func 67) [a0] h = nrm h (fin1 (arun Try.prog (HK 67) 67 (X n) n none cd67 [a0, .tup [], .tup [], .tup [], .tup [], .tup [], .tup [], .tup [], .tup [], .tup [], .tup [], .tup [], .tup [], .tup [], .tup [], .tup [], .tup [], .tup [], .tup [], .tup [], .tup [], .tup [], .tup [], .tup [], .tup [], .tup [], .tup [], .tup [], .tup [], .tup [], .tup [], .tup [], .tup [], .tup []] h) 2) := by kernel_rfl
section
variable (K : Hint) (fid : FuncId) (call : ACall) (lf : Nat) (rd : Option Nat) (fr : List AV) (h : AH)
theorem reg67_0 : arun Try.prog K fid call lf rd (.region 0 (rg Try.f67 0) false) fr h = regR (aops Try.prog call (rg Try.f67 0) [0] fr h) := by kernel_rfl
theorem st67_0_0 : astep Try.prog call (rg Try.f67 0) 0 fr h = pureS (some (.nilSl)) fr 2 h := by kernel_rfl
theorem reg67_1 : arun Try.prog K fid call lf rd (.region 1 (rg Try.f67 1) false) fr h = regR (aops Try.prog call (rg Try.f67 1) [0] fr h) := by kernel_rfl
theorem st67_1_0 : astep Try.prog call (rg Try.f67 1) 0 fr h = pureS (some (.nilSl)) fr 3 h := by kernel_rfl
theorem reg67_2 : arun Try.prog K fid call lf rd (.region 2 (rg Try.f67 2) false) fr h = regR (aops Try.prog call (rg Try.f67 2) [0] fr h) := by kernel_rfl
theorem st67_2_0 : astep Try.prog call (rg Try.f67 2) 0 fr h = pureS (some (.int .i64 0)) fr 4 h := by kernel_rfl
theorem reg67_3 : arun Try.prog K fid call lf rd (.region 3 (rg Try.f67 3) false) fr h = regR (aops Try.prog call (rg Try.f67 3) [0, 1, 2, 3] fr h) := by kernel_rfl
theorem st67_3_0 : astep Try.prog call (rg Try.f67 3) 0 fr h = pureS (some (fr.getD 4 .top)) fr 5 h := by kernel_rfl
theorem st67_3_1 : astep Try.prog call (rg Try.f67 3) 1 fr h = pureS (some (fr.getD 0 .top)) fr 6 h := by kernel_rfl
theorem st67_3_2 : astep Try.prog call (rg Try.f67 3) 2 fr h = pureS (lenV (alen Try.prog 58 (fr.getD 6 .top))) fr 7 h := by kernel_rfl
theorem st67_3_3 : astep Try.prog call (rg Try.f67 3) 3 fr h = pureS (abin Try.prog .lss 3 (.tmp 5) (.tmp 7) (fr.getD 5 .top) (fr.getD 7 .top)) fr 8 h := by kernel_rfl
theorem reg67_5 : arun Try.prog K fid call lf rd (.region 5 (rg Try.f67 5) false) fr h = regR (aops Try.prog call (rg Try.f67 5) [0, 1, 2, 3, 4, 5] fr h) := by kernel_rfl
theorem st67_5_0 : astep Try.prog call (rg Try.f67 5) 0 fr h = pureS (some (fr.getD 0 .top)) fr 11 h := by kernel_rfl
theorem st67_5_1 : astep Try.prog call (rg Try.f67 5) 1 fr h = pureS (some (fr.getD 4 .top)) fr 12 h := by kernel_rfl
theorem st67_5_2 : astep Try.prog call (rg Try.f67 5) 2 fr h = pureS (aindexAt Try.prog 58 (fr.getD 11 .top) (fr.getD 12 .top)) fr 13 h := by kernel_rfl
theorem st67_5_3 : astep Try.prog call (rg Try.f67 5) 3 fr h = pureS (afieldAt Try.prog 78 (fr.getD 13 .top) 0) fr 14 h := by kernel_rfl
theorem st67_5_4 : astep Try.prog call (rg Try.f67 5) 4 fr h = pureS (ldV Try.prog 3 (fr.getD 14 .top) h) fr 15 h := by kernel_rfl
theorem st67_5_5 : astep Try.prog call (rg Try.f67 5) 5 fr h = pureS (abin Try.prog .eql 3 (.tmp 15) (.const (.int .i64 6)) (fr.getD 15 .top) (.int .i64 6)) fr 16 h := by kernel_rfl
theorem reg67_6 : arun Try.prog K fid call lf rd (.region 6 (rg Try.f67 6) false) fr h = regR (aops Try.prog call (rg Try.f67 6) [0, 1, 2, 3, 4, 5, 6, 7, 8] fr h) := by kernel_rfl
theorem st67_6_0 : astep Try.prog call (rg Try.f67 6) 0 fr h = pureS (some (fr.getD 3 .top)) fr 17 h := by kernel_rfl
theorem st67_6_1 : astep Try.prog call (rg Try.f67 6) 1 fr h = pureS (some (fr.getD 0 .top)) fr 18 h := by kernel_rfl
theorem st67_6_2 : astep Try.prog call (rg Try.f67 6) 2 fr h = pureS (some (fr.getD 4 .top)) fr 19 h := by kernel_rfl
theorem st67_6_3 : astep Try.prog call (rg Try.f67 6) 3 fr h = pureS (aindexAt Try.prog 58 (fr.getD 18 .top) (fr.getD 19 .top)) fr 20 h := by kernel_rfl
theorem st67_6_4 : astep Try.prog call (rg Try.f67 6) 4 fr h = pureS (afieldAt Try.prog 78 (fr.getD 20 .top) 4) fr 21 h := by kernel_rfl
theorem st67_6_5 : astep Try.prog call (rg Try.f67 6) 5 fr h = pureS (ldV Try.prog 47 (fr.getD 21 .top) h) fr 22 h := by kernel_rfl
theorem st67_6_6 : astep Try.prog call (rg Try.f67 6) 6 fr h = heapS (bslV Try.prog 89 1 [(0, (fr.getD 22 .top))] h) fr 23 := by kernel_rfl
theorem st67_6_7 : astep Try.prog call (rg Try.f67 6) 7 fr h = heapS (aappend Try.prog 89 89 (fr.getD 17 .top) (fr.getD 23 .top) h) fr 24 := by kernel_rfl
theorem st67_6_8 : astep Try.prog call (rg Try.f67 6) 8 fr h = pureS (some (fr.getD 24 .top)) fr 3 h := by kernel_rfl
theorem reg67_7 : arun Try.prog K fid call lf rd (.region 7 (rg Try.f67 7) false) fr h = regR (aops Try.prog call (rg Try.f67 7) [0, 1, 2, 3, 4, 5, 6, 7, 8] fr h) := by kernel_rfl
theorem st67_7_0 : astep Try.prog call (rg Try.f67 7) 0 fr h = pureS (some (fr.getD 3 .top)) fr 25 h := by kernel_rfl
theorem st67_7_1 : astep Try.prog call (rg Try.f67 7) 1 fr h = pureS (some (fr.getD 0 .top)) fr 26 h := by kernel_rfl
theorem st67_7_2 : astep Try.prog call (rg Try.f67 7) 2 fr h = pureS (some (fr.getD 4 .top)) fr 27 h := by kernel_rfl
theorem st67_7_3 : astep Try.prog call (rg Try.f67 7) 3 fr h = pureS (aindexAt Try.prog 58 (fr.getD 26 .top) (fr.getD 27 .top)) fr 28 h := by kernel_rfl
theorem st67_7_4 : astep Try.prog call (rg Try.f67 7) 4 fr h = pureS (afieldAt Try.prog 78 (fr.getD 28 .top) 3) fr 29 h := by kernel_rfl
theorem st67_7_5 : astep Try.prog call (rg Try.f67 7) 5 fr h = pureS (ldV Try.prog 58 (fr.getD 29 .top) h) fr 30 h := by kernel_rfl
theorem st67_7_6 : astep Try.prog call (rg Try.f67 7) 6 fr h = heapS (callV call (.fn (.func 67) [] []) [(fr.getD 30 .top)] h) fr 31 := by kernel_rfl
theorem st67_7_7 : astep Try.prog call (rg Try.f67 7) 7 fr h = heapS (aappend Try.prog 89 89 (fr.getD 25 .top) (fr.getD 31 .top) h) fr 32 := by kernel_rfl
theorem st67_7_8 : astep Try.prog call (rg Try.f67 7) 8 fr h = pureS (some (fr.getD 32 .top)) fr 3 h := by kernel_rfl
theorem reg67_4 : arun Try.prog K fid call lf rd (.region 4 (rg Try.f67 4) false) fr h = regR (aops Try.prog call (rg Try.f67 4) [0, 1, 2] fr h) := by kernel_rfl
theorem st67_4_0 : astep Try.prog call (rg Try.f67 4) 0 fr h = pureS (some (fr.getD 4 .top)) fr 9 h := by kernel_rfl
theorem st67_4_1 : astep Try.prog call (rg Try.f67 4) 1 fr h = pureS (abin Try.prog .add 3 (.tmp 9) (.const (.int .i64 1)) (fr.getD 9 .top) (.int .i64 1)) fr 10 h := by kernel_rfl
theorem st67_4_2 : astep Try.prog call (rg Try.f67 4) 2 fr h = pureS (some (fr.getD 10 .top)) fr 4 h := by kernel_rfl
theorem reg67_8 : arun Try.prog K fid call lf rd (.region 8 (rg Try.f67 8) false) fr h = regR (aops Try.prog call (rg Try.f67 8) [0, 1] fr h) := by kernel_rfl
theorem st67_8_0 : astep Try.prog call (rg Try.f67 8) 0 fr h = pureS (some (fr.getD 3 .top)) fr 33 h := by kernel_rfl
theorem st67_8_1 : astep Try.prog call (rg Try.f67 8) 1 fr h = pureS (some (fr.getD 33 .top)) fr 2 h := by kernel_rfl
end
-- SIMP67: reg67_0, st67_0_0, reg67_1, st67_1_0, reg67_2, st67_2_0, reg67_3, st67_3_0, st67_3_1, st67_3_2, st67_3_3, reg67_5, st67_5_0, st67_5_1, st67_5_2, st67_5_3, st67_5_4, st67_5_5, reg67_6, st67_6_0, st67_6_1, st67_6_2, st67_6_3, st67_6_4, st67_6_5, st67_6_6, st67_6_7, st67_6_8, reg67_7, st67_7_0, st67_7_1, st67_7_2, st67_7_3, st67_7_4, st67_7_5, st67_7_6, st67_7_7, st67_7_8, reg67_4, st67_4_0, st67_4_1, st67_4_2, reg67_8, st67_8_0, st67_8_1

end Go.Proofs.Ytgnacecplaemlaa
