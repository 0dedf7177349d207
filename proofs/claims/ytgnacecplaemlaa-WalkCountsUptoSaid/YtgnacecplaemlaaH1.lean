import Derived.Test.YtgnacecplaemlaaE23
namespace Go.Proofs.Ytgnacecplaemlaa
open AI
set_option linter.unusedVariables false
/-! ### 25: conch/conchlaw32.Much -/
noncomputable def lp25_3 : Code := (.seq (.seq (.region 3 (rg Try.f25 3) false) (.cond (.tmp 35) .skip (.exit 0))) (.seq (.block 1 (.region 5 (rg Try.f25 5) true)) (.region 4 (rg Try.f25 4) false)))
def C25_3 (x1 x3 x4 : AV) : List AV := [.top, x1, .top, x3, x4, .top, .top, .top, .top, .top, .top, .top, .top, .top, .top, .top, .top, .top, .top, .top, .top, .top, .top, .top, .top, .top, .top, .top, .top, .top, .top, .top, .top, .top, .top, .top, .top, .top, .top, .top, .top, .top, .top, .top, .top, .top, .top, .top, .top, .top, .top, .top, .top, .top, .top, .top, .top, .top, .top, .top, .top, .top, .top, .top, .top, .top, .top, .top, .top, .top, .top, .top, .top, .top, .top, .top, .top, .top, .top, .top, .top, .top, .top, .top, .top, .top, .top, .top, .top, .top, .top, .top, .top, .top, .top, .top]
theorem cl25_3 (x0 x1 x2 x3 x4 x5 x6 x7 x8 x9 x10 x11 x12 x13 x14 x15 x16 x17 x18 x19 x20 x21 x22 x23 x24 x25 x26 x27 x28 x29 x30 x31 x32 x33 x34 x35 x36 x37 x38 x39 x40 x41 x42 x43 x44 x45 x46 x47 x48 x49 x50 x51 x52 x53 x54 x55 x56 x57 x58 x59 x60 x61 x62 x63 x64 x65 x66 x67 x68 x69 x70 x71 x72 x73 x74 x75 x76 x77 x78 x79 x80 x81 x82 x83 x84 x85 x86 x87 x88 x89 x90 x91 x92 x93 x94 x95 : AV) : aclear (HK 25) lp25_3 [x0, x1, x2, x3, x4, x5, x6, x7, x8, x9, x10, x11, x12, x13, x14, x15, x16, x17, x18, x19, x20, x21, x22, x23, x24, x25, x26, x27, x28, x29, x30, x31, x32, x33, x34, x35, x36, x37, x38, x39, x40, x41, x42, x43, x44, x45, x46, x47, x48, x49, x50, x51, x52, x53, x54, x55, x56, x57, x58, x59, x60, x61, x62, x63, x64, x65, x66, x67, x68, x69, x70, x71, x72, x73, x74, x75, x76, x77, x78, x79, x80, x81, x82, x83, x84, x85, x86, x87, x88, x89, x90, x91, x92, x93, x94, x95] = C25_3 x1 x3 x4 := by kernel_rfl
noncomputable def lp25_7 : Code := (.seq (.seq (.region 7 (rg Try.f25 7) false) (.cond (.tmp 74) .skip (.exit 2))) (.seq (.block 3 (.region 9 (rg Try.f25 9) true)) (.region 8 (rg Try.f25 8) false)))
def C25_7 (x1 x3 x5 : AV) : List AV := [.top, x1, .top, x3, .top, x5, .top, .top, .top, .top, .top, .top, .top, .top, .top, .top, .top, .top, .top, .top, .top, .top, .top, .top, .top, .top, .top, .top, .top, .top, .top, .top, .top, .top, .top, .top, .top, .top, .top, .top, .top, .top, .top, .top, .top, .top, .top, .top, .top, .top, .top, .top, .top, .top, .top, .top, .top, .top, .top, .top, .top, .top, .top, .top, .top, .top, .top, .top, .top, .top, .top, .top, .top, .top, .top, .top, .top, .top, .top, .top, .top, .top, .top, .top, .top, .top, .top, .top, .top, .top, .top, .top, .top, .top, .top, .top]
theorem cl25_7 (x0 x1 x2 x3 x4 x5 x6 x7 x8 x9 x10 x11 x12 x13 x14 x15 x16 x17 x18 x19 x20 x21 x22 x23 x24 x25 x26 x27 x28 x29 x30 x31 x32 x33 x34 x35 x36 x37 x38 x39 x40 x41 x42 x43 x44 x45 x46 x47 x48 x49 x50 x51 x52 x53 x54 x55 x56 x57 x58 x59 x60 x61 x62 x63 x64 x65 x66 x67 x68 x69 x70 x71 x72 x73 x74 x75 x76 x77 x78 x79 x80 x81 x82 x83 x84 x85 x86 x87 x88 x89 x90 x91 x92 x93 x94 x95 : AV) : aclear (HK 25) lp25_7 [x0, x1, x2, x3, x4, x5, x6, x7, x8, x9, x10, x11, x12, x13, x14, x15, x16, x17, x18, x19, x20, x21, x22, x23, x24, x25, x26, x27, x28, x29, x30, x31, x32, x33, x34, x35, x36, x37, x38, x39, x40, x41, x42, x43, x44, x45, x46, x47, x48, x49, x50, x51, x52, x53, x54, x55, x56, x57, x58, x59, x60, x61, x62, x63, x64, x65, x66, x67, x68, x69, x70, x71, x72, x73, x74, x75, x76, x77, x78, x79, x80, x81, x82, x83, x84, x85, x86, x87, x88, x89, x90, x91, x92, x93, x94, x95] = C25_7 x1 x3 x5 := by kernel_rfl
noncomputable def cd25 : Code := (.seq (.region 0 (rg Try.f25 0) false) (.seq (.region 1 (rg Try.f25 1) true) (.seq (.seq (.region 2 (rg Try.f25 2) false) (.block 0 (.loop lp25_3))) (.seq (.seq (.region 6 (rg Try.f25 6) false) (.block 2 (.loop lp25_7))) (.seq (.region 10 (rg Try.f25 10) false) .ret)))))
theorem ent25 (n : Nat) (a0 : AV) (h : AH) : X (n + 1) (.func 25) [a0] h = nrm h (fin1 (arun Try.prog (HK 25) 25 (X n) n none cd25 [a0, .tup [], .tup [], .tup [], .tup [], .tup [], .tup [], .tup [], .tup [], .tup [], .tup [], .tup [], .tup [], .tup [], .tup [], .tup [], .tup [], .tup [], .tup [], .tup [], .tup [], .tup [], .tup [], .tup [], .tup [], .tup [], .tup [], .tup [], .tup [], .tup [], .tup [], .tup [], .tup [], .tup [], .tup [], .tup [], .tup [], .tup [], .tup [], .tup [], .tup [], .tup [], .tup [], .tup [], .tup [], .tup [], .tup [], .tup [], .tup [], .tup [], .tup [], .tup [], .tup [], .tup [], .tup [], .tup [], .tup [], .tup [], .tup [], .tup [], .tup [], .tup [], .tup [], .tup [], .tup [], .tup [], .tup [], .tup [], .tup [], .tup [], .tup [], .tup [], .tup [], .tup [], .tup [], .tup [], .tup [], .tup [], .tup [], .tup [], .tup [], .tup [], .tup [], .tup [], .tup [], .tup [], .tup [], .tup [], .tup [], .tup [], .tup [], .tup [], .tup [], .tup [], .tup [], .tup []] h) 2) := by kernel_rfl
section
variable (K : Hint) (fid : FuncId) (call : ACall) (lf : Nat) (rd : Option Nat) (fr : List AV) (h : AH)
theorem reg25_0 : arun Try.prog K fid call lf rd (.region 0 (rg Try.f25 0) false) fr h = regR (aops Try.prog call (rg Try.f25 0) [0, 1] fr h) := by kernel_rfl
theorem st25_0_0 : astep Try.prog call (rg Try.f25 0) 0 fr h = heapS (boxV (fr.getD 0 .top) h) fr 1 := by kernel_rfl
theorem st25_0_1 : astep Try.prog call (rg Try.f25 0) 1 fr h = pureS (some (.int .i64 0)) fr 2 h := by kernel_rfl
theorem reg25_1 : arun Try.prog (HK 25) fid call lf rd (.region 1 (rg Try.f25 1) true) fr h = regR (aopsS Try.prog call (rg Try.f25 1) [(0, false), (1, true), (2, true), (3, true), (4, true), (5, true), (6, true), (7, true), (8, true), (9, true), (10, true), (11, true), (12, true), (13, true), (14, true), (15, true), (16, true), (17, true), (18, true), (19, true), (20, false), (21, false)] fr h) := by kernel_rfl
theorem st25_1_0 : astep Try.prog call (rg Try.f25 1) 0 fr h = pureS (afieldAt Try.prog 49 (fr.getD 1 .top) 1) fr 6 h := by kernel_rfl
theorem st25_1_1 : astep Try.prog call (rg Try.f25 1) 1 fr h = pureS (ldV Try.prog 9 (fr.getD 6 .top) h) fr 7 h := by kernel_rfl
theorem st25_1_2 : astep Try.prog call (rg Try.f25 1) 2 fr h = pureS (lenV (alen Try.prog 9 (fr.getD 7 .top))) fr 8 h := by kernel_rfl
theorem st25_1_3 : astep Try.prog call (rg Try.f25 1) 3 fr h = pureS (abin Try.prog .quo 3 (.tmp 8) (.const (.int .i64 10)) (fr.getD 8 .top) (.int .i64 10)) fr 9 h := by kernel_rfl
theorem st25_1_4 : astep Try.prog call (rg Try.f25 1) 4 fr h = pureS (abin Try.prog .add 3 (.const (.int .i64 1)) (.tmp 9) (.int .i64 1) (fr.getD 9 .top)) fr 10 h := by kernel_rfl
theorem st25_1_5 : astep Try.prog call (rg Try.f25 1) 5 fr h = pureS (afieldAt Try.prog 49 (fr.getD 1 .top) 4) fr 11 h := by kernel_rfl
theorem st25_1_6 : astep Try.prog call (rg Try.f25 1) 6 fr h = pureS (ldV Try.prog 43 (fr.getD 11 .top) h) fr 12 h := by kernel_rfl
theorem st25_1_7 : astep Try.prog call (rg Try.f25 1) 7 fr h = pureS (lenV (alen Try.prog 43 (fr.getD 12 .top))) fr 13 h := by kernel_rfl
theorem st25_1_8 : astep Try.prog call (rg Try.f25 1) 8 fr h = pureS (abin Try.prog .add 3 (.tmp 10) (.tmp 13) (fr.getD 10 .top) (fr.getD 13 .top)) fr 14 h := by kernel_rfl
theorem st25_1_9 : astep Try.prog call (rg Try.f25 1) 9 fr h = pureS (afieldAt Try.prog 49 (fr.getD 1 .top) 5) fr 15 h := by kernel_rfl
theorem st25_1_10 : astep Try.prog call (rg Try.f25 1) 10 fr h = pureS (ldV Try.prog 44 (fr.getD 15 .top) h) fr 16 h := by kernel_rfl
theorem st25_1_11 : astep Try.prog call (rg Try.f25 1) 11 fr h = heapS (callV call (.fn (.func 46) [] []) [(fr.getD 16 .top)] h) fr 17 := by kernel_rfl
theorem st25_1_12 : astep Try.prog call (rg Try.f25 1) 12 fr h = pureS (abin Try.prog .add 3 (.tmp 14) (.tmp 17) (fr.getD 14 .top) (fr.getD 17 .top)) fr 18 h := by kernel_rfl
theorem st25_1_13 : astep Try.prog call (rg Try.f25 1) 13 fr h = pureS (afieldAt Try.prog 49 (fr.getD 1 .top) 6) fr 19 h := by kernel_rfl
theorem st25_1_14 : astep Try.prog call (rg Try.f25 1) 14 fr h = pureS (ldV Try.prog 44 (fr.getD 19 .top) h) fr 20 h := by kernel_rfl
theorem st25_1_15 : astep Try.prog call (rg Try.f25 1) 15 fr h = heapS (callV call (.fn (.func 46) [] []) [(fr.getD 20 .top)] h) fr 21 := by kernel_rfl
theorem st25_1_16 : astep Try.prog call (rg Try.f25 1) 16 fr h = pureS (abin Try.prog .add 3 (.tmp 18) (.tmp 21) (fr.getD 18 .top) (fr.getD 21 .top)) fr 22 h := by kernel_rfl
theorem st25_1_17 : astep Try.prog call (rg Try.f25 1) 17 fr h = pureS (afieldAt Try.prog 49 (fr.getD 1 .top) 9) fr 23 h := by kernel_rfl
theorem st25_1_18 : astep Try.prog call (rg Try.f25 1) 18 fr h = pureS (ldV Try.prog 47 (fr.getD 23 .top) h) fr 24 h := by kernel_rfl
theorem st25_1_19 : astep Try.prog call (rg Try.f25 1) 19 fr h = heapS (callV call (.fn (.func 47) [] []) [(fr.getD 24 .top)] h) fr 25 := by kernel_rfl
theorem st25_1_20 : astep Try.prog call (rg Try.f25 1) 20 fr h = pureS (abin Try.prog .add 3 (.tmp 22) (.tmp 25) (fr.getD 22 .top) (fr.getD 25 .top)) fr 26 h := by kernel_rfl
theorem st25_1_21 : astep Try.prog call (rg Try.f25 1) 21 fr h = pureS (some (fr.getD 26 .top)) fr 3 h := by kernel_rfl
theorem reg25_2 : arun Try.prog K fid call lf rd (.region 2 (rg Try.f25 2) false) fr h = regR (aops Try.prog call (rg Try.f25 2) [0] fr h) := by kernel_rfl
theorem st25_2_0 : astep Try.prog call (rg Try.f25 2) 0 fr h = pureS (some (.int .i64 0)) fr 4 h := by kernel_rfl
theorem reg25_3 : arun Try.prog K fid call lf rd (.region 3 (rg Try.f25 3) false) fr h = regR (aops Try.prog call (rg Try.f25 3) [0, 1, 2, 3, 4, 5, 6, 7, 8] fr h) := by kernel_rfl
theorem st25_3_0 : astep Try.prog call (rg Try.f25 3) 0 fr h = pureS (some (fr.getD 4 .top)) fr 27 h := by kernel_rfl
theorem st25_3_1 : astep Try.prog call (rg Try.f25 3) 1 fr h = pureS (afieldAt Try.prog 49 (fr.getD 1 .top) 7) fr 28 h := by kernel_rfl
theorem st25_3_2 : astep Try.prog call (rg Try.f25 3) 2 fr h = pureS (ldV Try.prog 45 (fr.getD 28 .top) h) fr 29 h := by kernel_rfl
theorem st25_3_3 : astep Try.prog call (rg Try.f25 3) 3 fr h = pureS (lenV (alen Try.prog 45 (fr.getD 29 .top))) fr 30 h := by kernel_rfl
theorem st25_3_4 : astep Try.prog call (rg Try.f25 3) 4 fr h = pureS (abin Try.prog .lss 3 (.tmp 27) (.tmp 30) (fr.getD 27 .top) (fr.getD 30 .top)) fr 31 h := by kernel_rfl
theorem st25_3_5 : astep Try.prog call (rg Try.f25 3) 5 fr h = pureS (some (fr.getD 31 .top)) fr 32 h := by kernel_rfl
theorem st25_3_6 : astep Try.prog call (rg Try.f25 3) 6 fr h = gdS (fr.getD 32 .top) true (some (fr.set 33 (.tup []), h)) (pureS (some (fr.getD 3 .top)) fr 33 h) := by kernel_rfl
theorem st25_3_7 : astep Try.prog call (rg Try.f25 3) 7 fr h = gdS (fr.getD 32 .top) true (some (fr.set 34 (.tup []), h)) (pureS (abin Try.prog .leq 3 (.tmp 33) (.const (.int .i64 1000)) (fr.getD 33 .top) (.int .i64 1000)) fr 34 h) := by kernel_rfl
theorem st25_3_8 : astep Try.prog call (rg Try.f25 3) 8 fr h = pureS (pickV (fr.getD 32 .top) (fr.getD 34 .top) (.bool false)) fr 35 h := by kernel_rfl
theorem reg25_5 : arun Try.prog (HK 25) fid call lf rd (.region 5 (rg Try.f25 5) true) fr h = regR (aopsS Try.prog call (rg Try.f25 5) [(0, false), (1, false), (2, false), (3, true), (4, true), (5, true), (6, true), (7, true), (8, true), (9, true), (10, true), (11, true), (12, true), (13, true), (14, true), (15, true), (16, true), (17, true), (18, true), (19, true), (20, true), (21, true), (22, true), (23, true), (24, true), (25, true), (26, true), (27, false), (28, false)] fr h) := by kernel_rfl
theorem st25_5_0 : astep Try.prog call (rg Try.f25 5) 0 fr h = pureS (some (fr.getD 3 .top)) fr 38 h := by kernel_rfl
theorem st25_5_1 : astep Try.prog call (rg Try.f25 5) 1 fr h = pureS (abin Try.prog .add 3 (.tmp 38) (.const (.int .i64 1)) (fr.getD 38 .top) (.int .i64 1)) fr 39 h := by kernel_rfl
theorem st25_5_2 : astep Try.prog call (rg Try.f25 5) 2 fr h = pureS (afieldAt Try.prog 49 (fr.getD 1 .top) 7) fr 40 h := by kernel_rfl
theorem st25_5_3 : astep Try.prog call (rg Try.f25 5) 3 fr h = pureS (ldV Try.prog 45 (fr.getD 40 .top) h) fr 41 h := by kernel_rfl
theorem st25_5_4 : astep Try.prog call (rg Try.f25 5) 4 fr h = pureS (some (fr.getD 4 .top)) fr 42 h := by kernel_rfl
theorem st25_5_5 : astep Try.prog call (rg Try.f25 5) 5 fr h = pureS (aindexAt Try.prog 45 (fr.getD 41 .top) (fr.getD 42 .top)) fr 43 h := by kernel_rfl
theorem st25_5_6 : astep Try.prog call (rg Try.f25 5) 6 fr h = pureS (afieldAt Try.prog 73 (fr.getD 43 .top) 0) fr 44 h := by kernel_rfl
theorem st25_5_7 : astep Try.prog call (rg Try.f25 5) 7 fr h = pureS (ldV Try.prog 9 (fr.getD 44 .top) h) fr 45 h := by kernel_rfl
theorem st25_5_8 : astep Try.prog call (rg Try.f25 5) 8 fr h = pureS (lenV (alen Try.prog 9 (fr.getD 45 .top))) fr 46 h := by kernel_rfl
theorem st25_5_9 : astep Try.prog call (rg Try.f25 5) 9 fr h = pureS (abin Try.prog .quo 3 (.tmp 46) (.const (.int .i64 10)) (fr.getD 46 .top) (.int .i64 10)) fr 47 h := by kernel_rfl
theorem st25_5_10 : astep Try.prog call (rg Try.f25 5) 10 fr h = pureS (abin Try.prog .add 3 (.tmp 39) (.tmp 47) (fr.getD 39 .top) (fr.getD 47 .top)) fr 48 h := by kernel_rfl
theorem st25_5_11 : astep Try.prog call (rg Try.f25 5) 11 fr h = pureS (afieldAt Try.prog 49 (fr.getD 1 .top) 7) fr 49 h := by kernel_rfl
theorem st25_5_12 : astep Try.prog call (rg Try.f25 5) 12 fr h = pureS (ldV Try.prog 45 (fr.getD 49 .top) h) fr 50 h := by kernel_rfl
theorem st25_5_13 : astep Try.prog call (rg Try.f25 5) 13 fr h = pureS (some (fr.getD 4 .top)) fr 51 h := by kernel_rfl
theorem st25_5_14 : astep Try.prog call (rg Try.f25 5) 14 fr h = pureS (aindexAt Try.prog 45 (fr.getD 50 .top) (fr.getD 51 .top)) fr 52 h := by kernel_rfl
theorem st25_5_15 : astep Try.prog call (rg Try.f25 5) 15 fr h = pureS (afieldAt Try.prog 73 (fr.getD 52 .top) 3) fr 53 h := by kernel_rfl
theorem st25_5_16 : astep Try.prog call (rg Try.f25 5) 16 fr h = pureS (ldV Try.prog 9 (fr.getD 53 .top) h) fr 54 h := by kernel_rfl
theorem st25_5_17 : astep Try.prog call (rg Try.f25 5) 17 fr h = pureS (lenV (alen Try.prog 9 (fr.getD 54 .top))) fr 55 h := by kernel_rfl
theorem st25_5_18 : astep Try.prog call (rg Try.f25 5) 18 fr h = pureS (abin Try.prog .quo 3 (.tmp 55) (.const (.int .i64 10)) (fr.getD 55 .top) (.int .i64 10)) fr 56 h := by kernel_rfl
theorem st25_5_19 : astep Try.prog call (rg Try.f25 5) 19 fr h = pureS (abin Try.prog .add 3 (.tmp 48) (.tmp 56) (fr.getD 48 .top) (fr.getD 56 .top)) fr 57 h := by kernel_rfl
theorem st25_5_20 : astep Try.prog call (rg Try.f25 5) 20 fr h = pureS (afieldAt Try.prog 49 (fr.getD 1 .top) 7) fr 58 h := by kernel_rfl
theorem st25_5_21 : astep Try.prog call (rg Try.f25 5) 21 fr h = pureS (ldV Try.prog 45 (fr.getD 58 .top) h) fr 59 h := by kernel_rfl
theorem st25_5_22 : astep Try.prog call (rg Try.f25 5) 22 fr h = pureS (some (fr.getD 4 .top)) fr 60 h := by kernel_rfl
theorem st25_5_23 : astep Try.prog call (rg Try.f25 5) 23 fr h = pureS (aindexAt Try.prog 45 (fr.getD 59 .top) (fr.getD 60 .top)) fr 61 h := by kernel_rfl
theorem st25_5_24 : astep Try.prog call (rg Try.f25 5) 24 fr h = pureS (afieldAt Try.prog 73 (fr.getD 61 .top) 2) fr 62 h := by kernel_rfl
theorem st25_5_25 : astep Try.prog call (rg Try.f25 5) 25 fr h = pureS (ldV Try.prog 60 (fr.getD 62 .top) h) fr 63 h := by kernel_rfl
theorem st25_5_26 : astep Try.prog call (rg Try.f25 5) 26 fr h = heapS (callV call (.fn (.func 48) [] []) [(fr.getD 63 .top)] h) fr 64 := by kernel_rfl
theorem st25_5_27 : astep Try.prog call (rg Try.f25 5) 27 fr h = pureS (abin Try.prog .add 3 (.tmp 57) (.tmp 64) (fr.getD 57 .top) (fr.getD 64 .top)) fr 65 h := by kernel_rfl
theorem st25_5_28 : astep Try.prog call (rg Try.f25 5) 28 fr h = pureS (some (fr.getD 65 .top)) fr 3 h := by kernel_rfl
theorem reg25_4 : arun Try.prog K fid call lf rd (.region 4 (rg Try.f25 4) false) fr h = regR (aops Try.prog call (rg Try.f25 4) [0, 1, 2] fr h) := by kernel_rfl
theorem st25_4_0 : astep Try.prog call (rg Try.f25 4) 0 fr h = pureS (some (fr.getD 4 .top)) fr 36 h := by kernel_rfl
theorem st25_4_1 : astep Try.prog call (rg Try.f25 4) 1 fr h = pureS (abin Try.prog .add 3 (.tmp 36) (.const (.int .i64 1)) (fr.getD 36 .top) (.int .i64 1)) fr 37 h := by kernel_rfl
theorem st25_4_2 : astep Try.prog call (rg Try.f25 4) 2 fr h = pureS (some (fr.getD 37 .top)) fr 4 h := by kernel_rfl
theorem reg25_6 : arun Try.prog K fid call lf rd (.region 6 (rg Try.f25 6) false) fr h = regR (aops Try.prog call (rg Try.f25 6) [0] fr h) := by kernel_rfl
theorem st25_6_0 : astep Try.prog call (rg Try.f25 6) 0 fr h = pureS (some (.int .i64 0)) fr 5 h := by kernel_rfl
theorem reg25_7 : arun Try.prog K fid call lf rd (.region 7 (rg Try.f25 7) false) fr h = regR (aops Try.prog call (rg Try.f25 7) [0, 1, 2, 3, 4, 5, 6, 7, 8] fr h) := by kernel_rfl
theorem st25_7_0 : astep Try.prog call (rg Try.f25 7) 0 fr h = pureS (some (fr.getD 5 .top)) fr 66 h := by kernel_rfl
theorem st25_7_1 : astep Try.prog call (rg Try.f25 7) 1 fr h = pureS (afieldAt Try.prog 49 (fr.getD 1 .top) 8) fr 67 h := by kernel_rfl
theorem st25_7_2 : astep Try.prog call (rg Try.f25 7) 2 fr h = pureS (ldV Try.prog 46 (fr.getD 67 .top) h) fr 68 h := by kernel_rfl
theorem st25_7_3 : astep Try.prog call (rg Try.f25 7) 3 fr h = pureS (lenV (alen Try.prog 46 (fr.getD 68 .top))) fr 69 h := by kernel_rfl
theorem st25_7_4 : astep Try.prog call (rg Try.f25 7) 4 fr h = pureS (abin Try.prog .lss 3 (.tmp 66) (.tmp 69) (fr.getD 66 .top) (fr.getD 69 .top)) fr 70 h := by kernel_rfl
theorem st25_7_5 : astep Try.prog call (rg Try.f25 7) 5 fr h = pureS (some (fr.getD 70 .top)) fr 71 h := by kernel_rfl
theorem st25_7_6 : astep Try.prog call (rg Try.f25 7) 6 fr h = gdS (fr.getD 71 .top) true (some (fr.set 72 (.tup []), h)) (pureS (some (fr.getD 3 .top)) fr 72 h) := by kernel_rfl
theorem st25_7_7 : astep Try.prog call (rg Try.f25 7) 7 fr h = gdS (fr.getD 71 .top) true (some (fr.set 73 (.tup []), h)) (pureS (abin Try.prog .leq 3 (.tmp 72) (.const (.int .i64 1000)) (fr.getD 72 .top) (.int .i64 1000)) fr 73 h) := by kernel_rfl
theorem st25_7_8 : astep Try.prog call (rg Try.f25 7) 8 fr h = pureS (pickV (fr.getD 71 .top) (fr.getD 73 .top) (.bool false)) fr 74 h := by kernel_rfl
theorem reg25_9 : arun Try.prog (HK 25) fid call lf rd (.region 9 (rg Try.f25 9) true) fr h = regR (aopsS Try.prog call (rg Try.f25 9) [(0, false), (1, false), (2, false), (3, false), (4, false), (5, false), (6, false), (7, false), (8, true), (9, true), (10, true), (11, true), (12, true), (13, true), (14, true), (15, false), (16, false), (17, false), (18, false)] fr h) := by kernel_rfl
theorem st25_9_0 : astep Try.prog call (rg Try.f25 9) 0 fr h = pureS (some (fr.getD 3 .top)) fr 77 h := by kernel_rfl
theorem st25_9_1 : astep Try.prog call (rg Try.f25 9) 1 fr h = pureS (abin Try.prog .add 3 (.tmp 77) (.const (.int .i64 1)) (fr.getD 77 .top) (.int .i64 1)) fr 78 h := by kernel_rfl
theorem st25_9_2 : astep Try.prog call (rg Try.f25 9) 2 fr h = pureS (afieldAt Try.prog 49 (fr.getD 1 .top) 8) fr 79 h := by kernel_rfl
theorem st25_9_3 : astep Try.prog call (rg Try.f25 9) 3 fr h = pureS (ldV Try.prog 46 (fr.getD 79 .top) h) fr 80 h := by kernel_rfl
theorem st25_9_4 : astep Try.prog call (rg Try.f25 9) 4 fr h = pureS (some (fr.getD 5 .top)) fr 81 h := by kernel_rfl
theorem st25_9_5 : astep Try.prog call (rg Try.f25 9) 5 fr h = pureS (aindexAt Try.prog 46 (fr.getD 80 .top) (fr.getD 81 .top)) fr 82 h := by kernel_rfl
theorem st25_9_6 : astep Try.prog call (rg Try.f25 9) 6 fr h = pureS (afieldAt Try.prog 76 (fr.getD 82 .top) 0) fr 83 h := by kernel_rfl
theorem st25_9_7 : astep Try.prog call (rg Try.f25 9) 7 fr h = pureS (ldV Try.prog 44 (fr.getD 83 .top) h) fr 84 h := by kernel_rfl
theorem st25_9_8 : astep Try.prog call (rg Try.f25 9) 8 fr h = heapS (callV call (.fn (.func 46) [] []) [(fr.getD 84 .top)] h) fr 85 := by kernel_rfl
theorem st25_9_9 : astep Try.prog call (rg Try.f25 9) 9 fr h = pureS (abin Try.prog .add 3 (.tmp 78) (.tmp 85) (fr.getD 78 .top) (fr.getD 85 .top)) fr 86 h := by kernel_rfl
theorem st25_9_10 : astep Try.prog call (rg Try.f25 9) 10 fr h = pureS (afieldAt Try.prog 49 (fr.getD 1 .top) 8) fr 87 h := by kernel_rfl
theorem st25_9_11 : astep Try.prog call (rg Try.f25 9) 11 fr h = pureS (ldV Try.prog 46 (fr.getD 87 .top) h) fr 88 h := by kernel_rfl
theorem st25_9_12 : astep Try.prog call (rg Try.f25 9) 12 fr h = pureS (some (fr.getD 5 .top)) fr 89 h := by kernel_rfl
theorem st25_9_13 : astep Try.prog call (rg Try.f25 9) 13 fr h = pureS (aindexAt Try.prog 46 (fr.getD 88 .top) (fr.getD 89 .top)) fr 90 h := by kernel_rfl
theorem st25_9_14 : astep Try.prog call (rg Try.f25 9) 14 fr h = pureS (afieldAt Try.prog 76 (fr.getD 90 .top) 1) fr 91 h := by kernel_rfl
theorem st25_9_15 : astep Try.prog call (rg Try.f25 9) 15 fr h = pureS (ldV Try.prog 49 (fr.getD 91 .top) h) fr 92 h := by kernel_rfl
theorem st25_9_16 : astep Try.prog call (rg Try.f25 9) 16 fr h = heapS (callV call (.fn (.func 25) [] []) [(fr.getD 92 .top)] h) fr 93 := by kernel_rfl
theorem st25_9_17 : astep Try.prog call (rg Try.f25 9) 17 fr h = pureS (abin Try.prog .add 3 (.tmp 86) (.tmp 93) (fr.getD 86 .top) (fr.getD 93 .top)) fr 94 h := by kernel_rfl
theorem st25_9_18 : astep Try.prog call (rg Try.f25 9) 18 fr h = pureS (some (fr.getD 94 .top)) fr 3 h := by kernel_rfl
theorem reg25_8 : arun Try.prog K fid call lf rd (.region 8 (rg Try.f25 8) false) fr h = regR (aops Try.prog call (rg Try.f25 8) [0, 1, 2] fr h) := by kernel_rfl
theorem st25_8_0 : astep Try.prog call (rg Try.f25 8) 0 fr h = pureS (some (fr.getD 5 .top)) fr 75 h := by kernel_rfl
theorem st25_8_1 : astep Try.prog call (rg Try.f25 8) 1 fr h = pureS (abin Try.prog .add 3 (.tmp 75) (.const (.int .i64 1)) (fr.getD 75 .top) (.int .i64 1)) fr 76 h := by kernel_rfl
theorem st25_8_2 : astep Try.prog call (rg Try.f25 8) 2 fr h = pureS (some (fr.getD 76 .top)) fr 5 h := by kernel_rfl
theorem reg25_10 : arun Try.prog K fid call lf rd (.region 10 (rg Try.f25 10) false) fr h = regR (aops Try.prog call (rg Try.f25 10) [0, 1] fr h) := by kernel_rfl
theorem st25_10_0 : astep Try.prog call (rg Try.f25 10) 0 fr h = pureS (some (fr.getD 3 .top)) fr 95 h := by kernel_rfl
theorem st25_10_1 : astep Try.prog call (rg Try.f25 10) 1 fr h = pureS (some (fr.getD 95 .top)) fr 2 h := by kernel_rfl
end
-- SIMP25: reg25_0, st25_0_0, st25_0_1, reg25_1, st25_1_0, st25_1_1, st25_1_2, st25_1_3, st25_1_4, st25_1_5, st25_1_6, st25_1_7, st25_1_8, st25_1_9, st25_1_10, st25_1_11, st25_1_12, st25_1_13, st25_1_14, st25_1_15, st25_1_16, st25_1_17, st25_1_18, st25_1_19, st25_1_20, st25_1_21, reg25_2, st25_2_0, reg25_3, st25_3_0, st25_3_1, st25_3_2, st25_3_3, st25_3_4, st25_3_5, st25_3_6, st25_3_7, st25_3_8, reg25_5, st25_5_0, st25_5_1, st25_5_2, st25_5_3, st25_5_4, st25_5_5, st25_5_6, st25_5_7, st25_5_8, st25_5_9, st25_5_10, st25_5_11, st25_5_12, st25_5_13, st25_5_14, st25_5_15, st25_5_16, st25_5_17, st25_5_18, st25_5_19, st25_5_20, st25_5_21, st25_5_22, st25_5_23, st25_5_24, st25_5_25, st25_5_26, st25_5_27, st25_5_28, reg25_4, st25_4_0, st25_4_1, st25_4_2, reg25_6, st25_6_0, reg25_7, st25_7_0, st25_7_1, st25_7_2, st25_7_3, st25_7_4, st25_7_5, st25_7_6, st25_7_7, st25_7_8, reg25_9, st25_9_0, st25_9_1, st25_9_2, st25_9_3, st25_9_4, st25_9_5, st25_9_6, st25_9_7, st25_9_8, st25_9_9, st25_9_10, st25_9_11, st25_9_12, st25_9_13, st25_9_14, st25_9_15, st25_9_16, st25_9_17, st25_9_18, reg25_8, st25_8_0, st25_8_1, st25_8_2, reg25_10, st25_10_0, st25_10_1

/-! ### 46: conch/conchlaw32.words -/
noncomputable def lp46_3 : Code := (.seq (.seq (.region 3 (rg Try.f46 3) false) (.cond (.tmp 14) .skip (.exit 0))) (.seq (.block 1 (.region 5 (rg Try.f46 5) false)) (.region 4 (rg Try.f46 4) false)))
def C46_3 (x0 x3 x4 : AV) : List AV := [x0, .top, .top, x3, x4, .top, .top, .top, .top, .top, .top, .top, .top, .top, .top, .top, .top, .top, .top, .top, .top, .top, .top, .top, .top]
theorem cl46_3 (x0 x1 x2 x3 x4 x5 x6 x7 x8 x9 x10 x11 x12 x13 x14 x15 x16 x17 x18 x19 x20 x21 x22 x23 x24 : AV) : aclear (HK 46) lp46_3 [x0, x1, x2, x3, x4, x5, x6, x7, x8, x9, x10, x11, x12, x13, x14, x15, x16, x17, x18, x19, x20, x21, x22, x23, x24] = C46_3 x0 x3 x4 := by kernel_rfl
noncomputable def cd46 : Code := (.seq (.region 0 (rg Try.f46 0) false) (.seq (.region 1 (rg Try.f46 1) false) (.seq (.seq (.region 2 (rg Try.f46 2) false) (.block 0 (.loop lp46_3))) (.seq (.region 6 (rg Try.f46 6) false) .ret))))
theorem ent46 (n : Nat) (a0 : AV) (h : AH) : X (n + 1) (.func 46) [a0] h = nrm h (fin1 (arun Try.prog (HK 46) 46 (X n) n none cd46 [a0, .tup [], .tup [], .tup [], .tup [], .tup [], .tup [], .tup [], .tup [], .tup [], .tup [], .tup [], .tup [], .tup [], .tup [], .tup [], .tup [], .tup [], .tup [], .tup [], .tup [], .tup [], .tup [], .tup [], .tup []] h) 2) := by kernel_rfl
section
variable (K : Hint) (fid : FuncId) (call : ACall) (lf : Nat) (rd : Option Nat) (fr : List AV) (h : AH)
theorem reg46_0 : arun Try.prog K fid call lf rd (.region 0 (rg Try.f46 0) false) fr h = regR (aops Try.prog call (rg Try.f46 0) [0] fr h) := by kernel_rfl
theorem st46_0_0 : astep Try.prog call (rg Try.f46 0) 0 fr h = pureS (some (.int .i64 0)) fr 2 h := by kernel_rfl
theorem reg46_1 : arun Try.prog K fid call lf rd (.region 1 (rg Try.f46 1) false) fr h = regR (aops Try.prog call (rg Try.f46 1) [0, 1, 2] fr h) := by kernel_rfl
theorem st46_1_0 : astep Try.prog call (rg Try.f46 1) 0 fr h = pureS (some (fr.getD 0 .top)) fr 5 h := by kernel_rfl
theorem st46_1_1 : astep Try.prog call (rg Try.f46 1) 1 fr h = pureS (lenV (alen Try.prog 44 (fr.getD 5 .top))) fr 6 h := by kernel_rfl
theorem st46_1_2 : astep Try.prog call (rg Try.f46 1) 2 fr h = pureS (some (fr.getD 6 .top)) fr 3 h := by kernel_rfl
theorem reg46_2 : arun Try.prog K fid call lf rd (.region 2 (rg Try.f46 2) false) fr h = regR (aops Try.prog call (rg Try.f46 2) [0] fr h) := by kernel_rfl
theorem st46_2_0 : astep Try.prog call (rg Try.f46 2) 0 fr h = pureS (some (.int .i64 0)) fr 4 h := by kernel_rfl
theorem reg46_3 : arun Try.prog K fid call lf rd (.region 3 (rg Try.f46 3) false) fr h = regR (aops Try.prog call (rg Try.f46 3) [0, 1, 2, 3, 4, 5, 6, 7] fr h) := by kernel_rfl
theorem st46_3_0 : astep Try.prog call (rg Try.f46 3) 0 fr h = pureS (some (fr.getD 4 .top)) fr 7 h := by kernel_rfl
theorem st46_3_1 : astep Try.prog call (rg Try.f46 3) 1 fr h = pureS (some (fr.getD 0 .top)) fr 8 h := by kernel_rfl
theorem st46_3_2 : astep Try.prog call (rg Try.f46 3) 2 fr h = pureS (lenV (alen Try.prog 44 (fr.getD 8 .top))) fr 9 h := by kernel_rfl
theorem st46_3_3 : astep Try.prog call (rg Try.f46 3) 3 fr h = pureS (abin Try.prog .lss 3 (.tmp 7) (.tmp 9) (fr.getD 7 .top) (fr.getD 9 .top)) fr 10 h := by kernel_rfl
theorem st46_3_4 : astep Try.prog call (rg Try.f46 3) 4 fr h = pureS (some (fr.getD 10 .top)) fr 11 h := by kernel_rfl
theorem st46_3_5 : astep Try.prog call (rg Try.f46 3) 5 fr h = gdS (fr.getD 11 .top) true (some (fr.set 12 (.tup []), h)) (pureS (some (fr.getD 3 .top)) fr 12 h) := by kernel_rfl
theorem st46_3_6 : astep Try.prog call (rg Try.f46 3) 6 fr h = gdS (fr.getD 11 .top) true (some (fr.set 13 (.tup []), h)) (pureS (abin Try.prog .leq 3 (.tmp 12) (.const (.int .i64 1000)) (fr.getD 12 .top) (.int .i64 1000)) fr 13 h) := by kernel_rfl
theorem st46_3_7 : astep Try.prog call (rg Try.f46 3) 7 fr h = pureS (pickV (fr.getD 11 .top) (fr.getD 13 .top) (.bool false)) fr 14 h := by kernel_rfl
theorem reg46_5 : arun Try.prog K fid call lf rd (.region 5 (rg Try.f46 5) false) fr h = regR (aops Try.prog call (rg Try.f46 5) [0, 1, 2, 3, 4, 5, 6, 7] fr h) := by kernel_rfl
theorem st46_5_0 : astep Try.prog call (rg Try.f46 5) 0 fr h = pureS (some (fr.getD 3 .top)) fr 17 h := by kernel_rfl
theorem st46_5_1 : astep Try.prog call (rg Try.f46 5) 1 fr h = pureS (some (fr.getD 0 .top)) fr 18 h := by kernel_rfl
theorem st46_5_2 : astep Try.prog call (rg Try.f46 5) 2 fr h = pureS (some (fr.getD 4 .top)) fr 19 h := by kernel_rfl
theorem st46_5_3 : astep Try.prog call (rg Try.f46 5) 3 fr h = pureS (aindexAt Try.prog 44 (fr.getD 18 .top) (fr.getD 19 .top)) fr 20 h := by kernel_rfl
theorem st46_5_4 : astep Try.prog call (rg Try.f46 5) 4 fr h = pureS (ldV Try.prog 60 (fr.getD 20 .top) h) fr 21 h := by kernel_rfl
theorem st46_5_5 : astep Try.prog call (rg Try.f46 5) 5 fr h = heapS (callV call (.fn (.func 48) [] []) [(fr.getD 21 .top)] h) fr 22 := by kernel_rfl
theorem st46_5_6 : astep Try.prog call (rg Try.f46 5) 6 fr h = pureS (abin Try.prog .add 3 (.tmp 17) (.tmp 22) (fr.getD 17 .top) (fr.getD 22 .top)) fr 23 h := by kernel_rfl
theorem st46_5_7 : astep Try.prog call (rg Try.f46 5) 7 fr h = pureS (some (fr.getD 23 .top)) fr 3 h := by kernel_rfl
theorem reg46_4 : arun Try.prog K fid call lf rd (.region 4 (rg Try.f46 4) false) fr h = regR (aops Try.prog call (rg Try.f46 4) [0, 1, 2] fr h) := by kernel_rfl
theorem st46_4_0 : astep Try.prog call (rg Try.f46 4) 0 fr h = pureS (some (fr.getD 4 .top)) fr 15 h := by kernel_rfl
theorem st46_4_1 : astep Try.prog call (rg Try.f46 4) 1 fr h = pureS (abin Try.prog .add 3 (.tmp 15) (.const (.int .i64 1)) (fr.getD 15 .top) (.int .i64 1)) fr 16 h := by kernel_rfl
theorem st46_4_2 : astep Try.prog call (rg Try.f46 4) 2 fr h = pureS (some (fr.getD 16 .top)) fr 4 h := by kernel_rfl
theorem reg46_6 : arun Try.prog K fid call lf rd (.region 6 (rg Try.f46 6) false) fr h = regR (aops Try.prog call (rg Try.f46 6) [0, 1] fr h) := by kernel_rfl
theorem st46_6_0 : astep Try.prog call (rg Try.f46 6) 0 fr h = pureS (some (fr.getD 3 .top)) fr 24 h := by kernel_rfl
theorem st46_6_1 : astep Try.prog call (rg Try.f46 6) 1 fr h = pureS (some (fr.getD 24 .top)) fr 2 h := by kernel_rfl
end
-- SIMP46: reg46_0, st46_0_0, reg46_1, st46_1_0, st46_1_1, st46_1_2, reg46_2, st46_2_0, reg46_3, st46_3_0, st46_3_1, st46_3_2, st46_3_3, st46_3_4, st46_3_5, st46_3_6, st46_3_7, reg46_5, st46_5_0, st46_5_1, st46_5_2, st46_5_3, st46_5_4, st46_5_5, st46_5_6, st46_5_7, reg46_4, st46_4_0, st46_4_1, st46_4_2, reg46_6, st46_6_0, st46_6_1

/-! ### 47: conch/conchlaw32.MuchAll -/
noncomputable def lp47_3 : Code := (.seq (.seq (.region 3 (rg Try.f47 3) false) (.cond (.tmp 14) .skip (.exit 0))) (.seq (.block 1 (.region 5 (rg Try.f47 5) false)) (.region 4 (rg Try.f47 4) false)))
def C47_3 (x0 x3 x4 : AV) : List AV := [x0, .top, .top, x3, x4, .top, .top, .top, .top, .top, .top, .top, .top, .top, .top, .top, .top, .top, .top, .top, .top, .top, .top, .top, .top]
theorem cl47_3 (x0 x1 x2 x3 x4 x5 x6 x7 x8 x9 x10 x11 x12 x13 x14 x15 x16 x17 x18 x19 x20 x21 x22 x23 x24 : AV) : aclear (HK 47) lp47_3 [x0, x1, x2, x3, x4, x5, x6, x7, x8, x9, x10, x11, x12, x13, x14, x15, x16, x17, x18, x19, x20, x21, x22, x23, x24] = C47_3 x0 x3 x4 := by kernel_rfl
noncomputable def cd47 : Code := (.seq (.region 0 (rg Try.f47 0) false) (.seq (.region 1 (rg Try.f47 1) false) (.seq (.seq (.region 2 (rg Try.f47 2) false) (.block 0 (.loop lp47_3))) (.seq (.region 6 (rg Try.f47 6) false) .ret))))
theorem ent47 (n : Nat) (a0 : AV) (h : AH) : X (n + 1) (.func 47) [a0] h = nrm h (fin1 (arun Try.prog (HK 47) 47 (X n) n none cd47 [a0, .tup [], .tup [], .tup [], .tup [], .tup [], .tup [], .tup [], .tup [], .tup [], .tup [], .tup [], .tup [], .tup [], .tup [], .tup [], .tup [], .tup [], .tup [], .tup [], .tup [], .tup [], .tup [], .tup [], .tup []] h) 2) := by kernel_rfl
section
variable (K : Hint) (fid : FuncId) (call : ACall) (lf : Nat) (rd : Option Nat) (fr : List AV) (h : AH)
theorem reg47_0 : arun Try.prog K fid call lf rd (.region 0 (rg Try.f47 0) false) fr h = regR (aops Try.prog call (rg Try.f47 0) [0] fr h) := by kernel_rfl
theorem st47_0_0 : astep Try.prog call (rg Try.f47 0) 0 fr h = pureS (some (.int .i64 0)) fr 2 h := by kernel_rfl
theorem reg47_1 : arun Try.prog K fid call lf rd (.region 1 (rg Try.f47 1) false) fr h = regR (aops Try.prog call (rg Try.f47 1) [0, 1, 2] fr h) := by kernel_rfl
theorem st47_1_0 : astep Try.prog call (rg Try.f47 1) 0 fr h = pureS (some (fr.getD 0 .top)) fr 5 h := by kernel_rfl
theorem st47_1_1 : astep Try.prog call (rg Try.f47 1) 1 fr h = pureS (lenV (alen Try.prog 47 (fr.getD 5 .top))) fr 6 h := by kernel_rfl
theorem st47_1_2 : astep Try.prog call (rg Try.f47 1) 2 fr h = pureS (some (fr.getD 6 .top)) fr 3 h := by kernel_rfl
theorem reg47_2 : arun Try.prog K fid call lf rd (.region 2 (rg Try.f47 2) false) fr h = regR (aops Try.prog call (rg Try.f47 2) [0] fr h) := by kernel_rfl
theorem st47_2_0 : astep Try.prog call (rg Try.f47 2) 0 fr h = pureS (some (.int .i64 0)) fr 4 h := by kernel_rfl
theorem reg47_3 : arun Try.prog K fid call lf rd (.region 3 (rg Try.f47 3) false) fr h = regR (aops Try.prog call (rg Try.f47 3) [0, 1, 2, 3, 4, 5, 6, 7] fr h) := by kernel_rfl
theorem st47_3_0 : astep Try.prog call (rg Try.f47 3) 0 fr h = pureS (some (fr.getD 4 .top)) fr 7 h := by kernel_rfl
theorem st47_3_1 : astep Try.prog call (rg Try.f47 3) 1 fr h = pureS (some (fr.getD 0 .top)) fr 8 h := by kernel_rfl
theorem st47_3_2 : astep Try.prog call (rg Try.f47 3) 2 fr h = pureS (lenV (alen Try.prog 47 (fr.getD 8 .top))) fr 9 h := by kernel_rfl
theorem st47_3_3 : astep Try.prog call (rg Try.f47 3) 3 fr h = pureS (abin Try.prog .lss 3 (.tmp 7) (.tmp 9) (fr.getD 7 .top) (fr.getD 9 .top)) fr 10 h := by kernel_rfl
theorem st47_3_4 : astep Try.prog call (rg Try.f47 3) 4 fr h = pureS (some (fr.getD 10 .top)) fr 11 h := by kernel_rfl
theorem st47_3_5 : astep Try.prog call (rg Try.f47 3) 5 fr h = gdS (fr.getD 11 .top) true (some (fr.set 12 (.tup []), h)) (pureS (some (fr.getD 3 .top)) fr 12 h) := by kernel_rfl
theorem st47_3_6 : astep Try.prog call (rg Try.f47 3) 6 fr h = gdS (fr.getD 11 .top) true (some (fr.set 13 (.tup []), h)) (pureS (abin Try.prog .leq 3 (.tmp 12) (.const (.int .i64 1000)) (fr.getD 12 .top) (.int .i64 1000)) fr 13 h) := by kernel_rfl
theorem st47_3_7 : astep Try.prog call (rg Try.f47 3) 7 fr h = pureS (pickV (fr.getD 11 .top) (fr.getD 13 .top) (.bool false)) fr 14 h := by kernel_rfl
theorem reg47_5 : arun Try.prog K fid call lf rd (.region 5 (rg Try.f47 5) false) fr h = regR (aops Try.prog call (rg Try.f47 5) [0, 1, 2, 3, 4, 5, 6, 7] fr h) := by kernel_rfl
theorem st47_5_0 : astep Try.prog call (rg Try.f47 5) 0 fr h = pureS (some (fr.getD 3 .top)) fr 17 h := by kernel_rfl
theorem st47_5_1 : astep Try.prog call (rg Try.f47 5) 1 fr h = pureS (some (fr.getD 0 .top)) fr 18 h := by kernel_rfl
theorem st47_5_2 : astep Try.prog call (rg Try.f47 5) 2 fr h = pureS (some (fr.getD 4 .top)) fr 19 h := by kernel_rfl
theorem st47_5_3 : astep Try.prog call (rg Try.f47 5) 3 fr h = pureS (aindexAt Try.prog 47 (fr.getD 18 .top) (fr.getD 19 .top)) fr 20 h := by kernel_rfl
theorem st47_5_4 : astep Try.prog call (rg Try.f47 5) 4 fr h = pureS (ldV Try.prog 49 (fr.getD 20 .top) h) fr 21 h := by kernel_rfl
theorem st47_5_5 : astep Try.prog call (rg Try.f47 5) 5 fr h = heapS (callV call (.fn (.func 25) [] []) [(fr.getD 21 .top)] h) fr 22 := by kernel_rfl
theorem st47_5_6 : astep Try.prog call (rg Try.f47 5) 6 fr h = pureS (abin Try.prog .add 3 (.tmp 17) (.tmp 22) (fr.getD 17 .top) (fr.getD 22 .top)) fr 23 h := by kernel_rfl
theorem st47_5_7 : astep Try.prog call (rg Try.f47 5) 7 fr h = pureS (some (fr.getD 23 .top)) fr 3 h := by kernel_rfl
theorem reg47_4 : arun Try.prog K fid call lf rd (.region 4 (rg Try.f47 4) false) fr h = regR (aops Try.prog call (rg Try.f47 4) [0, 1, 2] fr h) := by kernel_rfl
theorem st47_4_0 : astep Try.prog call (rg Try.f47 4) 0 fr h = pureS (some (fr.getD 4 .top)) fr 15 h := by kernel_rfl
theorem st47_4_1 : astep Try.prog call (rg Try.f47 4) 1 fr h = pureS (abin Try.prog .add 3 (.tmp 15) (.const (.int .i64 1)) (fr.getD 15 .top) (.int .i64 1)) fr 16 h := by kernel_rfl
theorem st47_4_2 : astep Try.prog call (rg Try.f47 4) 2 fr h = pureS (some (fr.getD 16 .top)) fr 4 h := by kernel_rfl
theorem reg47_6 : arun Try.prog K fid call lf rd (.region 6 (rg Try.f47 6) false) fr h = regR (aops Try.prog call (rg Try.f47 6) [0, 1] fr h) := by kernel_rfl
theorem st47_6_0 : astep Try.prog call (rg Try.f47 6) 0 fr h = pureS (some (fr.getD 3 .top)) fr 24 h := by kernel_rfl
theorem st47_6_1 : astep Try.prog call (rg Try.f47 6) 1 fr h = pureS (some (fr.getD 24 .top)) fr 2 h := by kernel_rfl
end
-- SIMP47: reg47_0, st47_0_0, reg47_1, st47_1_0, st47_1_1, st47_1_2, reg47_2, st47_2_0, reg47_3, st47_3_0, st47_3_1, st47_3_2, st47_3_3, st47_3_4, st47_3_5, st47_3_6, st47_3_7, reg47_5, st47_5_0, st47_5_1, st47_5_2, st47_5_3, st47_5_4, st47_5_5, st47_5_6, st47_5_7, reg47_4, st47_4_0, st47_4_1, st47_4_2, reg47_6, st47_6_0, st47_6_1

/-! ### 48: conch/conchlaw32.MuchWord -/
noncomputable def lp48_4 : Code := (.seq (.seq (.region 4 (rg Try.f48 4) false) (.cond (.tmp 19) .skip (.exit 0))) (.seq (.block 1 (.region 6 (rg Try.f48 6) false)) (.region 5 (rg Try.f48 5) false)))
def C48_4 (x3 x4 x5 : AV) : List AV := [.top, .top, .top, x3, x4, x5, .top, .top, .top, .top, .top, .top, .top, .top, .top, .top, .top, .top, .top, .top, .top, .top, .top, .top, .top, .top, .top, .top, .top, .top]
theorem cl48_4 (x0 x1 x2 x3 x4 x5 x6 x7 x8 x9 x10 x11 x12 x13 x14 x15 x16 x17 x18 x19 x20 x21 x22 x23 x24 x25 x26 x27 x28 x29 : AV) : aclear (HK 48) lp48_4 [x0, x1, x2, x3, x4, x5, x6, x7, x8, x9, x10, x11, x12, x13, x14, x15, x16, x17, x18, x19, x20, x21, x22, x23, x24, x25, x26, x27, x28, x29] = C48_4 x3 x4 x5 := by kernel_rfl
noncomputable def cd48 : Code := (.seq (.region 0 (rg Try.f48 0) false) (.seq (.region 1 (rg Try.f48 1) false) (.seq (.region 2 (rg Try.f48 2) false) (.seq (.seq (.region 3 (rg Try.f48 3) false) (.block 0 (.loop lp48_4))) (.seq (.region 7 (rg Try.f48 7) false) .ret)))))
theorem ent48 (n : Nat) (a0 : AV) (h : AH) : X (n + 1) (.func 48) [a0] h = nrm h (fin1 (arun Try.prog (HK 48) 48 (X n) n none cd48 [a0, .tup [], .tup [], .tup [], .tup [], .tup [], .tup [], .tup [], .tup [], .tup [], .tup [], .tup [], .tup [], .tup [], .tup [], .tup [], .tup [], .tup [], .tup [], .tup [], .tup [], .tup [], .tup [], .tup [], .tup [], .tup [], .tup [], .tup [], .tup [], .tup []] h) 2) := by kernel_rfl
section
variable (K : Hint) (fid : FuncId) (call : ACall) (lf : Nat) (rd : Option Nat) (fr : List AV) (h : AH)
theorem reg48_0 : arun Try.prog K fid call lf rd (.region 0 (rg Try.f48 0) false) fr h = regR (aops Try.prog call (rg Try.f48 0) [0, 1] fr h) := by kernel_rfl
theorem st48_0_0 : astep Try.prog call (rg Try.f48 0) 0 fr h = heapS (boxV (fr.getD 0 .top) h) fr 1 := by kernel_rfl
theorem st48_0_1 : astep Try.prog call (rg Try.f48 0) 1 fr h = pureS (some (.int .i64 0)) fr 2 h := by kernel_rfl
theorem reg48_1 : arun Try.prog K fid call lf rd (.region 1 (rg Try.f48 1) false) fr h = regR (aops Try.prog call (rg Try.f48 1) [0, 1, 2, 3] fr h) := by kernel_rfl
theorem st48_1_0 : astep Try.prog call (rg Try.f48 1) 0 fr h = pureS (afieldAt Try.prog 60 (fr.getD 1 .top) 0) fr 6 h := by kernel_rfl
theorem st48_1_1 : astep Try.prog call (rg Try.f48 1) 1 fr h = pureS (ldV Try.prog 58 (fr.getD 6 .top) h) fr 7 h := by kernel_rfl
theorem st48_1_2 : astep Try.prog call (rg Try.f48 1) 2 fr h = heapS (callV call (.fn (.func 65) [] []) [(fr.getD 7 .top)] h) fr 8 := by kernel_rfl
theorem st48_1_3 : astep Try.prog call (rg Try.f48 1) 3 fr h = pureS (some (fr.getD 8 .top)) fr 3 h := by kernel_rfl
theorem reg48_2 : arun Try.prog K fid call lf rd (.region 2 (rg Try.f48 2) false) fr h = regR (aops Try.prog call (rg Try.f48 2) [0, 1, 2, 3] fr h) := by kernel_rfl
theorem st48_2_0 : astep Try.prog call (rg Try.f48 2) 0 fr h = pureS (afieldAt Try.prog 60 (fr.getD 1 .top) 0) fr 9 h := by kernel_rfl
theorem st48_2_1 : astep Try.prog call (rg Try.f48 2) 1 fr h = pureS (ldV Try.prog 58 (fr.getD 9 .top) h) fr 10 h := by kernel_rfl
theorem st48_2_2 : astep Try.prog call (rg Try.f48 2) 2 fr h = heapS (callV call (.fn (.func 66) [] []) [(fr.getD 10 .top)] h) fr 11 := by kernel_rfl
theorem st48_2_3 : astep Try.prog call (rg Try.f48 2) 3 fr h = pureS (some (fr.getD 11 .top)) fr 4 h := by kernel_rfl
theorem reg48_3 : arun Try.prog K fid call lf rd (.region 3 (rg Try.f48 3) false) fr h = regR (aops Try.prog call (rg Try.f48 3) [0] fr h) := by kernel_rfl
theorem st48_3_0 : astep Try.prog call (rg Try.f48 3) 0 fr h = pureS (some (.int .i64 0)) fr 5 h := by kernel_rfl
theorem reg48_4 : arun Try.prog K fid call lf rd (.region 4 (rg Try.f48 4) false) fr h = regR (aops Try.prog call (rg Try.f48 4) [0, 1, 2, 3, 4, 5, 6, 7] fr h) := by kernel_rfl
theorem st48_4_0 : astep Try.prog call (rg Try.f48 4) 0 fr h = pureS (some (fr.getD 5 .top)) fr 12 h := by kernel_rfl
theorem st48_4_1 : astep Try.prog call (rg Try.f48 4) 1 fr h = pureS (some (fr.getD 4 .top)) fr 13 h := by kernel_rfl
theorem st48_4_2 : astep Try.prog call (rg Try.f48 4) 2 fr h = pureS (lenV (alen Try.prog 89 (fr.getD 13 .top))) fr 14 h := by kernel_rfl
theorem st48_4_3 : astep Try.prog call (rg Try.f48 4) 3 fr h = pureS (abin Try.prog .lss 3 (.tmp 12) (.tmp 14) (fr.getD 12 .top) (fr.getD 14 .top)) fr 15 h := by kernel_rfl
theorem st48_4_4 : astep Try.prog call (rg Try.f48 4) 4 fr h = pureS (some (fr.getD 15 .top)) fr 16 h := by kernel_rfl
theorem st48_4_5 : astep Try.prog call (rg Try.f48 4) 5 fr h = gdS (fr.getD 16 .top) true (some (fr.set 17 (.tup []), h)) (pureS (some (fr.getD 3 .top)) fr 17 h) := by kernel_rfl
theorem st48_4_6 : astep Try.prog call (rg Try.f48 4) 6 fr h = gdS (fr.getD 16 .top) true (some (fr.set 18 (.tup []), h)) (pureS (abin Try.prog .leq 3 (.tmp 17) (.const (.int .i64 1000)) (fr.getD 17 .top) (.int .i64 1000)) fr 18 h) := by kernel_rfl
theorem st48_4_7 : astep Try.prog call (rg Try.f48 4) 7 fr h = pureS (pickV (fr.getD 16 .top) (fr.getD 18 .top) (.bool false)) fr 19 h := by kernel_rfl
theorem reg48_6 : arun Try.prog K fid call lf rd (.region 6 (rg Try.f48 6) false) fr h = regR (aops Try.prog call (rg Try.f48 6) [0, 1, 2, 3, 4, 5, 6, 7] fr h) := by kernel_rfl
theorem st48_6_0 : astep Try.prog call (rg Try.f48 6) 0 fr h = pureS (some (fr.getD 3 .top)) fr 22 h := by kernel_rfl
theorem st48_6_1 : astep Try.prog call (rg Try.f48 6) 1 fr h = pureS (some (fr.getD 4 .top)) fr 23 h := by kernel_rfl
theorem st48_6_2 : astep Try.prog call (rg Try.f48 6) 2 fr h = pureS (some (fr.getD 5 .top)) fr 24 h := by kernel_rfl
theorem st48_6_3 : astep Try.prog call (rg Try.f48 6) 3 fr h = pureS (aindexAt Try.prog 89 (fr.getD 23 .top) (fr.getD 24 .top)) fr 25 h := by kernel_rfl
theorem st48_6_4 : astep Try.prog call (rg Try.f48 6) 4 fr h = pureS (ldV Try.prog 47 (fr.getD 25 .top) h) fr 26 h := by kernel_rfl
theorem st48_6_5 : astep Try.prog call (rg Try.f48 6) 5 fr h = heapS (callV call (.fn (.func 47) [] []) [(fr.getD 26 .top)] h) fr 27 := by kernel_rfl
theorem st48_6_6 : astep Try.prog call (rg Try.f48 6) 6 fr h = pureS (abin Try.prog .add 3 (.tmp 22) (.tmp 27) (fr.getD 22 .top) (fr.getD 27 .top)) fr 28 h := by kernel_rfl
theorem st48_6_7 : astep Try.prog call (rg Try.f48 6) 7 fr h = pureS (some (fr.getD 28 .top)) fr 3 h := by kernel_rfl
theorem reg48_5 : arun Try.prog K fid call lf rd (.region 5 (rg Try.f48 5) false) fr h = regR (aops Try.prog call (rg Try.f48 5) [0, 1, 2] fr h) := by kernel_rfl
theorem st48_5_0 : astep Try.prog call (rg Try.f48 5) 0 fr h = pureS (some (fr.getD 5 .top)) fr 20 h := by kernel_rfl
theorem st48_5_1 : astep Try.prog call (rg Try.f48 5) 1 fr h = pureS (abin Try.prog .add 3 (.tmp 20) (.const (.int .i64 1)) (fr.getD 20 .top) (.int .i64 1)) fr 21 h := by kernel_rfl
theorem st48_5_2 : astep Try.prog call (rg Try.f48 5) 2 fr h = pureS (some (fr.getD 21 .top)) fr 5 h := by kernel_rfl
theorem reg48_7 : arun Try.prog K fid call lf rd (.region 7 (rg Try.f48 7) false) fr h = regR (aops Try.prog call (rg Try.f48 7) [0, 1] fr h) := by kernel_rfl
theorem st48_7_0 : astep Try.prog call (rg Try.f48 7) 0 fr h = pureS (some (fr.getD 3 .top)) fr 29 h := by kernel_rfl
theorem st48_7_1 : astep Try.prog call (rg Try.f48 7) 1 fr h = pureS (some (fr.getD 29 .top)) fr 2 h := by kernel_rfl
end
-- SIMP48: reg48_0, st48_0_0, st48_0_1, reg48_1, st48_1_0, st48_1_1, st48_1_2, st48_1_3, reg48_2, st48_2_0, st48_2_1, st48_2_2, st48_2_3, reg48_3, st48_3_0, reg48_4, st48_4_0, st48_4_1, st48_4_2, st48_4_3, st48_4_4, st48_4_5, st48_4_6, st48_4_7, reg48_6, st48_6_0, st48_6_1, st48_6_2, st48_6_3, st48_6_4, st48_6_5, st48_6_6, st48_6_7, reg48_5, st48_5_0, st48_5_1, st48_5_2, reg48_7, st48_7_0, st48_7_1

/-! ### 65: conch/conchlaw24.Much -/
noncomputable def lp65_3 : Code := (.seq (.seq (.region 3 (rg Try.f65 3) false) (.cond (.tmp 14) .skip (.exit 0))) (.seq (.block 1 (.region 5 (rg Try.f65 5) true)) (.region 4 (rg Try.f65 4) false)))
def C65_3 (x0 x3 x4 : AV) : List AV := [x0, .top, .top, x3, x4, .top, .top, .top, .top, .top, .top, .top, .top, .top, .top, .top, .top, .top, .top, .top, .top, .top, .top, .top, .top, .top, .top, .top, .top, .top, .top, .top, .top, .top, .top, .top, .top, .top, .top, .top, .top, .top, .top, .top, .top, .top, .top, .top, .top]
theorem cl65_3 (x0 x1 x2 x3 x4 x5 x6 x7 x8 x9 x10 x11 x12 x13 x14 x15 x16 x17 x18 x19 x20 x21 x22 x23 x24 x25 x26 x27 x28 x29 x30 x31 x32 x33 x34 x35 x36 x37 x38 x39 x40 x41 x42 x43 x44 x45 x46 x47 x48 : AV) : aclear (HK 65) lp65_3 [x0, x1, x2, x3, x4, x5, x6, x7, x8, x9, x10, x11, x12, x13, x14, x15, x16, x17, x18, x19, x20, x21, x22, x23, x24, x25, x26, x27, x28, x29, x30, x31, x32, x33, x34, x35, x36, x37, x38, x39, x40, x41, x42, x43, x44, x45, x46, x47, x48] = C65_3 x0 x3 x4 := by kernel_rfl
noncomputable def cd65 : Code := (.seq (.region 0 (rg Try.f65 0) false) (.seq (.region 1 (rg Try.f65 1) false) (.seq (.seq (.region 2 (rg Try.f65 2) false) (.block 0 (.loop lp65_3))) (.seq (.region 6 (rg Try.f65 6) false) .ret))))
theorem ent65 (n : Nat) (a0 : AV) (h : AH) : X (n + 1) (.func 65) [a0] h = nrm h (fin1 (arun Try.prog (HK 65) 65 (X n) n none cd65 [a0, .tup [], .tup [], .tup [], .tup [], .tup [], .tup [], .tup [], .tup [], .tup [], .tup [], .tup [], .tup [], .tup [], .tup [], .tup [], .tup [], .tup [], .tup [], .tup [], .tup [], .tup [], .tup [], .tup [], .tup [], .tup [], .tup [], .tup [], .tup [], .tup [], .tup [], .tup [], .tup [], .tup [], .tup [], .tup [], .tup [], .tup [], .tup [], .tup [], .tup [], .tup [], .tup [], .tup [], .tup [], .tup [], .tup [], .tup [], .tup []] h) 2) := by kernel_rfl
section
variable (K : Hint) (fid : FuncId) (call : ACall) (lf : Nat) (rd : Option Nat) (fr : List AV) (h : AH)
theorem reg65_0 : arun Try.prog K fid call lf rd (.region 0 (rg Try.f65 0) false) fr h = regR (aops Try.prog call (rg Try.f65 0) [0] fr h) := by kernel_rfl
theorem st65_0_0 : astep Try.prog call (rg Try.f65 0) 0 fr h = pureS (some (.int .i64 0)) fr 2 h := by kernel_rfl
theorem reg65_1 : arun Try.prog K fid call lf rd (.region 1 (rg Try.f65 1) false) fr h = regR (aops Try.prog call (rg Try.f65 1) [0, 1, 2] fr h) := by kernel_rfl
theorem st65_1_0 : astep Try.prog call (rg Try.f65 1) 0 fr h = pureS (some (fr.getD 0 .top)) fr 5 h := by kernel_rfl
theorem st65_1_1 : astep Try.prog call (rg Try.f65 1) 1 fr h = pureS (lenV (alen Try.prog 58 (fr.getD 5 .top))) fr 6 h := by kernel_rfl
theorem st65_1_2 : astep Try.prog call (rg Try.f65 1) 2 fr h = pureS (some (fr.getD 6 .top)) fr 3 h := by kernel_rfl
theorem reg65_2 : arun Try.prog K fid call lf rd (.region 2 (rg Try.f65 2) false) fr h = regR (aops Try.prog call (rg Try.f65 2) [0] fr h) := by kernel_rfl
theorem st65_2_0 : astep Try.prog call (rg Try.f65 2) 0 fr h = pureS (some (.int .i64 0)) fr 4 h := by kernel_rfl
theorem reg65_3 : arun Try.prog K fid call lf rd (.region 3 (rg Try.f65 3) false) fr h = regR (aops Try.prog call (rg Try.f65 3) [0, 1, 2, 3, 4, 5, 6, 7] fr h) := by kernel_rfl
theorem st65_3_0 : astep Try.prog call (rg Try.f65 3) 0 fr h = pureS (some (fr.getD 4 .top)) fr 7 h := by kernel_rfl
theorem st65_3_1 : astep Try.prog call (rg Try.f65 3) 1 fr h = pureS (some (fr.getD 0 .top)) fr 8 h := by kernel_rfl
theorem st65_3_2 : astep Try.prog call (rg Try.f65 3) 2 fr h = pureS (lenV (alen Try.prog 58 (fr.getD 8 .top))) fr 9 h := by kernel_rfl
theorem st65_3_3 : astep Try.prog call (rg Try.f65 3) 3 fr h = pureS (abin Try.prog .lss 3 (.tmp 7) (.tmp 9) (fr.getD 7 .top) (fr.getD 9 .top)) fr 10 h := by kernel_rfl
theorem st65_3_4 : astep Try.prog call (rg Try.f65 3) 4 fr h = pureS (some (fr.getD 10 .top)) fr 11 h := by kernel_rfl
theorem st65_3_5 : astep Try.prog call (rg Try.f65 3) 5 fr h = gdS (fr.getD 11 .top) true (some (fr.set 12 (.tup []), h)) (pureS (some (fr.getD 3 .top)) fr 12 h) := by kernel_rfl
theorem st65_3_6 : astep Try.prog call (rg Try.f65 3) 6 fr h = gdS (fr.getD 11 .top) true (some (fr.set 13 (.tup []), h)) (pureS (abin Try.prog .leq 3 (.tmp 12) (.const (.int .i64 1000)) (fr.getD 12 .top) (.int .i64 1000)) fr 13 h) := by kernel_rfl
theorem st65_3_7 : astep Try.prog call (rg Try.f65 3) 7 fr h = pureS (pickV (fr.getD 11 .top) (fr.getD 13 .top) (.bool false)) fr 14 h := by kernel_rfl
theorem reg65_5 : arun Try.prog (HK 65) fid call lf rd (.region 5 (rg Try.f65 5) true) fr h = regR (aopsS Try.prog call (rg Try.f65 5) [(0, false), (1, false), (2, false), (3, false), (4, false), (5, true), (6, true), (7, true), (8, true), (9, true), (10, true), (11, true), (12, true), (13, true), (14, true), (15, true), (16, true), (17, true), (18, true), (19, true), (20, true), (21, true), (22, true), (23, true), (24, true), (25, true), (26, true), (27, true), (28, true), (29, true), (30, false), (31, false)] fr h) := by kernel_rfl
theorem st65_5_0 : astep Try.prog call (rg Try.f65 5) 0 fr h = pureS (some (fr.getD 3 .top)) fr 17 h := by kernel_rfl
theorem st65_5_1 : astep Try.prog call (rg Try.f65 5) 1 fr h = pureS (some (fr.getD 0 .top)) fr 18 h := by kernel_rfl
theorem st65_5_2 : astep Try.prog call (rg Try.f65 5) 2 fr h = pureS (some (fr.getD 4 .top)) fr 19 h := by kernel_rfl
theorem st65_5_3 : astep Try.prog call (rg Try.f65 5) 3 fr h = pureS (aindexAt Try.prog 58 (fr.getD 18 .top) (fr.getD 19 .top)) fr 20 h := by kernel_rfl
theorem st65_5_4 : astep Try.prog call (rg Try.f65 5) 4 fr h = pureS (afieldAt Try.prog 78 (fr.getD 20 .top) 1) fr 21 h := by kernel_rfl
theorem st65_5_5 : astep Try.prog call (rg Try.f65 5) 5 fr h = pureS (ldV Try.prog 9 (fr.getD 21 .top) h) fr 22 h := by kernel_rfl
theorem st65_5_6 : astep Try.prog call (rg Try.f65 5) 6 fr h = pureS (lenV (alen Try.prog 9 (fr.getD 22 .top))) fr 23 h := by kernel_rfl
theorem st65_5_7 : astep Try.prog call (rg Try.f65 5) 7 fr h = pureS (abin Try.prog .quo 3 (.tmp 23) (.const (.int .i64 10)) (fr.getD 23 .top) (.int .i64 10)) fr 24 h := by kernel_rfl
theorem st65_5_8 : astep Try.prog call (rg Try.f65 5) 8 fr h = pureS (abin Try.prog .add 3 (.tmp 17) (.tmp 24) (fr.getD 17 .top) (fr.getD 24 .top)) fr 25 h := by kernel_rfl
theorem st65_5_9 : astep Try.prog call (rg Try.f65 5) 9 fr h = pureS (some (fr.getD 0 .top)) fr 26 h := by kernel_rfl
theorem st65_5_10 : astep Try.prog call (rg Try.f65 5) 10 fr h = pureS (some (fr.getD 4 .top)) fr 27 h := by kernel_rfl
theorem st65_5_11 : astep Try.prog call (rg Try.f65 5) 11 fr h = pureS (aindexAt Try.prog 58 (fr.getD 26 .top) (fr.getD 27 .top)) fr 28 h := by kernel_rfl
theorem st65_5_12 : astep Try.prog call (rg Try.f65 5) 12 fr h = pureS (afieldAt Try.prog 78 (fr.getD 28 .top) 2) fr 29 h := by kernel_rfl
theorem st65_5_13 : astep Try.prog call (rg Try.f65 5) 13 fr h = pureS (ldV Try.prog 9 (fr.getD 29 .top) h) fr 30 h := by kernel_rfl
theorem st65_5_14 : astep Try.prog call (rg Try.f65 5) 14 fr h = pureS (lenV (alen Try.prog 9 (fr.getD 30 .top))) fr 31 h := by kernel_rfl
theorem st65_5_15 : astep Try.prog call (rg Try.f65 5) 15 fr h = pureS (abin Try.prog .quo 3 (.tmp 31) (.const (.int .i64 10)) (fr.getD 31 .top) (.int .i64 10)) fr 32 h := by kernel_rfl
theorem st65_5_16 : astep Try.prog call (rg Try.f65 5) 16 fr h = pureS (abin Try.prog .add 3 (.tmp 25) (.tmp 32) (fr.getD 25 .top) (fr.getD 32 .top)) fr 33 h := by kernel_rfl
theorem st65_5_17 : astep Try.prog call (rg Try.f65 5) 17 fr h = pureS (some (fr.getD 0 .top)) fr 34 h := by kernel_rfl
theorem st65_5_18 : astep Try.prog call (rg Try.f65 5) 18 fr h = pureS (some (fr.getD 4 .top)) fr 35 h := by kernel_rfl
theorem st65_5_19 : astep Try.prog call (rg Try.f65 5) 19 fr h = pureS (aindexAt Try.prog 58 (fr.getD 34 .top) (fr.getD 35 .top)) fr 36 h := by kernel_rfl
theorem st65_5_20 : astep Try.prog call (rg Try.f65 5) 20 fr h = pureS (afieldAt Try.prog 78 (fr.getD 36 .top) 4) fr 37 h := by kernel_rfl
theorem st65_5_21 : astep Try.prog call (rg Try.f65 5) 21 fr h = pureS (ldV Try.prog 47 (fr.getD 37 .top) h) fr 38 h := by kernel_rfl
theorem st65_5_22 : astep Try.prog call (rg Try.f65 5) 22 fr h = pureS (lenV (alen Try.prog 47 (fr.getD 38 .top))) fr 39 h := by kernel_rfl
theorem st65_5_23 : astep Try.prog call (rg Try.f65 5) 23 fr h = pureS (abin Try.prog .add 3 (.tmp 33) (.tmp 39) (fr.getD 33 .top) (fr.getD 39 .top)) fr 40 h := by kernel_rfl
theorem st65_5_24 : astep Try.prog call (rg Try.f65 5) 24 fr h = pureS (some (fr.getD 0 .top)) fr 41 h := by kernel_rfl
theorem st65_5_25 : astep Try.prog call (rg Try.f65 5) 25 fr h = pureS (some (fr.getD 4 .top)) fr 42 h := by kernel_rfl
theorem st65_5_26 : astep Try.prog call (rg Try.f65 5) 26 fr h = pureS (aindexAt Try.prog 58 (fr.getD 41 .top) (fr.getD 42 .top)) fr 43 h := by kernel_rfl
theorem st65_5_27 : astep Try.prog call (rg Try.f65 5) 27 fr h = pureS (afieldAt Try.prog 78 (fr.getD 43 .top) 3) fr 44 h := by kernel_rfl
theorem st65_5_28 : astep Try.prog call (rg Try.f65 5) 28 fr h = pureS (ldV Try.prog 58 (fr.getD 44 .top) h) fr 45 h := by kernel_rfl
theorem st65_5_29 : astep Try.prog call (rg Try.f65 5) 29 fr h = heapS (callV call (.fn (.func 65) [] []) [(fr.getD 45 .top)] h) fr 46 := by kernel_rfl
theorem st65_5_30 : astep Try.prog call (rg Try.f65 5) 30 fr h = pureS (abin Try.prog .add 3 (.tmp 40) (.tmp 46) (fr.getD 40 .top) (fr.getD 46 .top)) fr 47 h := by kernel_rfl
theorem st65_5_31 : astep Try.prog call (rg Try.f65 5) 31 fr h = pureS (some (fr.getD 47 .top)) fr 3 h := by kernel_rfl
theorem reg65_4 : arun Try.prog K fid call lf rd (.region 4 (rg Try.f65 4) false) fr h = regR (aops Try.prog call (rg Try.f65 4) [0, 1, 2] fr h) := by kernel_rfl
theorem st65_4_0 : astep Try.prog call (rg Try.f65 4) 0 fr h = pureS (some (fr.getD 4 .top)) fr 15 h := by kernel_rfl
theorem st65_4_1 : astep Try.prog call (rg Try.f65 4) 1 fr h = pureS (abin Try.prog .add 3 (.tmp 15) (.const (.int .i64 1)) (fr.getD 15 .top) (.int .i64 1)) fr 16 h := by kernel_rfl
theorem st65_4_2 : astep Try.prog call (rg Try.f65 4) 2 fr h = pureS (some (fr.getD 16 .top)) fr 4 h := by kernel_rfl
theorem reg65_6 : arun Try.prog K fid call lf rd (.region 6 (rg Try.f65 6) false) fr h = regR (aops Try.prog call (rg Try.f65 6) [0, 1] fr h) := by kernel_rfl
theorem st65_6_0 : astep Try.prog call (rg Try.f65 6) 0 fr h = pureS (some (fr.getD 3 .top)) fr 48 h := by kernel_rfl
theorem st65_6_1 : astep Try.prog call (rg Try.f65 6) 1 fr h = pureS (some (fr.getD 48 .top)) fr 2 h := by kernel_rfl
end
-- SIMP65: reg65_0, st65_0_0, reg65_1, st65_1_0, st65_1_1, st65_1_2, reg65_2, st65_2_0, reg65_3, st65_3_0, st65_3_1, st65_3_2, st65_3_3, st65_3_4, st65_3_5, st65_3_6, st65_3_7, reg65_5, st65_5_0, st65_5_1, st65_5_2, st65_5_3, st65_5_4, st65_5_5, st65_5_6, st65_5_7, st65_5_8, st65_5_9, st65_5_10, st65_5_11, st65_5_12, st65_5_13, st65_5_14, st65_5_15, st65_5_16, st65_5_17, st65_5_18, st65_5_19, st65_5_20, st65_5_21, st65_5_22, st65_5_23, st65_5_24, st65_5_25, st65_5_26, st65_5_27, st65_5_28, st65_5_29, st65_5_30, st65_5_31, reg65_4, st65_4_0, st65_4_1, st65_4_2, reg65_6, st65_6_0, st65_6_1

/-! ### 66: conch/conchlaw32.cmds -/
noncomputable def lp66_3 : Code := (.seq (.seq (.region 3 (rg Try.f66 3) false) (.cond (.tmp 12) .skip (.exit 0))) (.seq (.block 1 (.seq (.seq (.region 5 (rg Try.f66 5) false) (.cond (.tmp 21) (.region 6 (rg Try.f66 6) false) .skip)) (.region 7 (rg Try.f66 7) false))) (.region 4 (rg Try.f66 4) false)))
def C66_3 (x0 x3 x4 : AV) : List AV := [x0, .top, .top, x3, x4, .top, .top, .top, .top, .top, .top, .top, .top, .top, .top, .top, .top, .top, .top, .top, .top, .top, .top, .top, .top, .top, .top, .top, .top, .top, .top, .top, .top, .top, .top, .top, .top, .top, .top]
theorem cl66_3 (x0 x1 x2 x3 x4 x5 x6 x7 x8 x9 x10 x11 x12 x13 x14 x15 x16 x17 x18 x19 x20 x21 x22 x23 x24 x25 x26 x27 x28 x29 x30 x31 x32 x33 x34 x35 x36 x37 x38 : AV) : aclear (HK 66) lp66_3 [x0, x1, x2, x3, x4, x5, x6, x7, x8, x9, x10, x11, x12, x13, x14, x15, x16, x17, x18, x19, x20, x21, x22, x23, x24, x25, x26, x27, x28, x29, x30, x31, x32, x33, x34, x35, x36, x37, x38] = C66_3 x0 x3 x4 := by kernel_rfl
noncomputable def cd66 : Code := (.seq (.region 0 (rg Try.f66 0) false) (.seq (.region 1 (rg Try.f66 1) false) (.seq (.seq (.region 2 (rg Try.f66 2) false) (.block 0 (.loop lp66_3))) (.seq (.region 8 (rg Try.f66 8) false) .ret))))
theorem ent66 (n : Nat) (a0 : AV) (h : AH) : X (n + 1) (.func 66) [a0] h = nrm h (fin1 (arun Try.prog (HK 66) 66 (X n) n none cd66 [a0, .tup [], .tup [], .tup [], .tup [], .tup [], .tup [], .tup [], .tup [], .tup [], .tup [], .tup [], .tup [], .tup [], .tup [], .tup [], .tup [], .tup [], .tup [], .tup [], .tup [], .tup [], .tup [], .tup [], .tup [], .tup [], .tup [], .tup [], .tup [], .tup [], .tup [], .tup [], .tup [], .tup [], .tup [], .tup [], .tup [], .tup [], .tup []] h) 2) := by kernel_rfl
section
variable (K : Hint) (fid : FuncId) (call : ACall) (lf : Nat) (rd : Option Nat) (fr : List AV) (h : AH)
theorem reg66_0 : arun Try.prog K fid call lf rd (.region 0 (rg Try.f66 0) false) fr h = regR (aops Try.prog call (rg Try.f66 0) [0] fr h) := by kernel_rfl
theorem st66_0_0 : astep Try.prog call (rg Try.f66 0) 0 fr h = pureS (some (.nilSl)) fr 2 h := by kernel_rfl
theorem reg66_1 : arun Try.prog K fid call lf rd (.region 1 (rg Try.f66 1) false) fr h = regR (aops Try.prog call (rg Try.f66 1) [0] fr h) := by kernel_rfl
theorem st66_1_0 : astep Try.prog call (rg Try.f66 1) 0 fr h = pureS (some (.nilSl)) fr 3 h := by kernel_rfl
theorem reg66_2 : arun Try.prog K fid call lf rd (.region 2 (rg Try.f66 2) false) fr h = regR (aops Try.prog call (rg Try.f66 2) [0] fr h) := by kernel_rfl
theorem st66_2_0 : astep Try.prog call (rg Try.f66 2) 0 fr h = pureS (some (.int .i64 0)) fr 4 h := by kernel_rfl
theorem reg66_3 : arun Try.prog K fid call lf rd (.region 3 (rg Try.f66 3) false) fr h = regR (aops Try.prog call (rg Try.f66 3) [0, 1, 2, 3, 4, 5, 6, 7] fr h) := by kernel_rfl
theorem st66_3_0 : astep Try.prog call (rg Try.f66 3) 0 fr h = pureS (some (fr.getD 4 .top)) fr 5 h := by kernel_rfl
theorem st66_3_1 : astep Try.prog call (rg Try.f66 3) 1 fr h = pureS (some (fr.getD 0 .top)) fr 6 h := by kernel_rfl
theorem st66_3_2 : astep Try.prog call (rg Try.f66 3) 2 fr h = pureS (lenV (alen Try.prog 58 (fr.getD 6 .top))) fr 7 h := by kernel_rfl
theorem st66_3_3 : astep Try.prog call (rg Try.f66 3) 3 fr h = pureS (abin Try.prog .lss 3 (.tmp 5) (.tmp 7) (fr.getD 5 .top) (fr.getD 7 .top)) fr 8 h := by kernel_rfl
theorem st66_3_4 : astep Try.prog call (rg Try.f66 3) 4 fr h = pureS (some (fr.getD 8 .top)) fr 9 h := by kernel_rfl
theorem st66_3_5 : astep Try.prog call (rg Try.f66 3) 5 fr h = gdS (fr.getD 9 .top) true (some (fr.set 10 (.tup []), h)) (pureS (some (fr.getD 4 .top)) fr 10 h) := by kernel_rfl
theorem st66_3_6 : astep Try.prog call (rg Try.f66 3) 6 fr h = gdS (fr.getD 9 .top) true (some (fr.set 11 (.tup []), h)) (pureS (abin Try.prog .lss 3 (.tmp 10) (.const (.int .i64 1000)) (fr.getD 10 .top) (.int .i64 1000)) fr 11 h) := by kernel_rfl
theorem st66_3_7 : astep Try.prog call (rg Try.f66 3) 7 fr h = pureS (pickV (fr.getD 9 .top) (fr.getD 11 .top) (.bool false)) fr 12 h := by kernel_rfl
theorem reg66_5 : arun Try.prog K fid call lf rd (.region 5 (rg Try.f66 5) false) fr h = regR (aops Try.prog call (rg Try.f66 5) [0, 1, 2, 3, 4, 5, 6] fr h) := by kernel_rfl
theorem st66_5_0 : astep Try.prog call (rg Try.f66 5) 0 fr h = pureS (some (fr.getD 0 .top)) fr 15 h := by kernel_rfl
theorem st66_5_1 : astep Try.prog call (rg Try.f66 5) 1 fr h = pureS (some (fr.getD 4 .top)) fr 16 h := by kernel_rfl
theorem st66_5_2 : astep Try.prog call (rg Try.f66 5) 2 fr h = pureS (aindexAt Try.prog 58 (fr.getD 15 .top) (fr.getD 16 .top)) fr 17 h := by kernel_rfl
theorem st66_5_3 : astep Try.prog call (rg Try.f66 5) 3 fr h = pureS (afieldAt Try.prog 78 (fr.getD 17 .top) 4) fr 18 h := by kernel_rfl
theorem st66_5_4 : astep Try.prog call (rg Try.f66 5) 4 fr h = pureS (ldV Try.prog 47 (fr.getD 18 .top) h) fr 19 h := by kernel_rfl
theorem st66_5_5 : astep Try.prog call (rg Try.f66 5) 5 fr h = pureS (lenV (alen Try.prog 47 (fr.getD 19 .top))) fr 20 h := by kernel_rfl
theorem st66_5_6 : astep Try.prog call (rg Try.f66 5) 6 fr h = pureS (abin Try.prog .gtr 3 (.tmp 20) (.const (.int .i64 0)) (fr.getD 20 .top) (.int .i64 0)) fr 21 h := by kernel_rfl
theorem reg66_6 : arun Try.prog K fid call lf rd (.region 6 (rg Try.f66 6) false) fr h = regR (aops Try.prog call (rg Try.f66 6) [0, 1, 2, 3, 4, 5, 6, 7, 8] fr h) := by kernel_rfl
theorem st66_6_0 : astep Try.prog call (rg Try.f66 6) 0 fr h = pureS (some (fr.getD 3 .top)) fr 22 h := by kernel_rfl
theorem st66_6_1 : astep Try.prog call (rg Try.f66 6) 1 fr h = pureS (some (fr.getD 0 .top)) fr 23 h := by kernel_rfl
theorem st66_6_2 : astep Try.prog call (rg Try.f66 6) 2 fr h = pureS (some (fr.getD 4 .top)) fr 24 h := by kernel_rfl
theorem st66_6_3 : astep Try.prog call (rg Try.f66 6) 3 fr h = pureS (aindexAt Try.prog 58 (fr.getD 23 .top) (fr.getD 24 .top)) fr 25 h := by kernel_rfl
theorem st66_6_4 : astep Try.prog call (rg Try.f66 6) 4 fr h = pureS (afieldAt Try.prog 78 (fr.getD 25 .top) 4) fr 26 h := by kernel_rfl
theorem st66_6_5 : astep Try.prog call (rg Try.f66 6) 5 fr h = pureS (ldV Try.prog 47 (fr.getD 26 .top) h) fr 27 h := by kernel_rfl
theorem st66_6_6 : astep Try.prog call (rg Try.f66 6) 6 fr h = heapS (bslV Try.prog 89 1 [(0, (fr.getD 27 .top))] h) fr 28 := by kernel_rfl
theorem st66_6_7 : astep Try.prog call (rg Try.f66 6) 7 fr h = heapS (aappend Try.prog 89 89 (fr.getD 22 .top) (fr.getD 28 .top) h) fr 29 := by kernel_rfl
theorem st66_6_8 : astep Try.prog call (rg Try.f66 6) 8 fr h = pureS (some (fr.getD 29 .top)) fr 3 h := by kernel_rfl
theorem reg66_7 : arun Try.prog K fid call lf rd (.region 7 (rg Try.f66 7) false) fr h = regR (aops Try.prog call (rg Try.f66 7) [0, 1, 2, 3, 4, 5, 6, 7, 8] fr h) := by kernel_rfl
theorem st66_7_0 : astep Try.prog call (rg Try.f66 7) 0 fr h = pureS (some (fr.getD 3 .top)) fr 30 h := by kernel_rfl
theorem st66_7_1 : astep Try.prog call (rg Try.f66 7) 1 fr h = pureS (some (fr.getD 0 .top)) fr 31 h := by kernel_rfl
theorem st66_7_2 : astep Try.prog call (rg Try.f66 7) 2 fr h = pureS (some (fr.getD 4 .top)) fr 32 h := by kernel_rfl
theorem st66_7_3 : astep Try.prog call (rg Try.f66 7) 3 fr h = pureS (aindexAt Try.prog 58 (fr.getD 31 .top) (fr.getD 32 .top)) fr 33 h := by kernel_rfl
theorem st66_7_4 : astep Try.prog call (rg Try.f66 7) 4 fr h = pureS (afieldAt Try.prog 78 (fr.getD 33 .top) 3) fr 34 h := by kernel_rfl
theorem st66_7_5 : astep Try.prog call (rg Try.f66 7) 5 fr h = pureS (ldV Try.prog 58 (fr.getD 34 .top) h) fr 35 h := by kernel_rfl
theorem st66_7_6 : astep Try.prog call (rg Try.f66 7) 6 fr h = heapS (callV call (.fn (.func 66) [] []) [(fr.getD 35 .top)] h) fr 36 := by kernel_rfl
theorem st66_7_7 : astep Try.prog call (rg Try.f66 7) 7 fr h = heapS (aappend Try.prog 89 89 (fr.getD 30 .top) (fr.getD 36 .top) h) fr 37 := by kernel_rfl
theorem st66_7_8 : astep Try.prog call (rg Try.f66 7) 8 fr h = pureS (some (fr.getD 37 .top)) fr 3 h := by kernel_rfl
theorem reg66_4 : arun Try.prog K fid call lf rd (.region 4 (rg Try.f66 4) false) fr h = regR (aops Try.prog call (rg Try.f66 4) [0, 1, 2] fr h) := by kernel_rfl
theorem st66_4_0 : astep Try.prog call (rg Try.f66 4) 0 fr h = pureS (some (fr.getD 4 .top)) fr 13 h := by kernel_rfl
theorem st66_4_1 : astep Try.prog call (rg Try.f66 4) 1 fr h = pureS (abin Try.prog .add 3 (.tmp 13) (.const (.int .i64 1)) (fr.getD 13 .top) (.int .i64 1)) fr 14 h := by kernel_rfl
theorem st66_4_2 : astep Try.prog call (rg Try.f66 4) 2 fr h = pureS (some (fr.getD 14 .top)) fr 4 h := by kernel_rfl
theorem reg66_8 : arun Try.prog K fid call lf rd (.region 8 (rg Try.f66 8) false) fr h = regR (aops Try.prog call (rg Try.f66 8) [0, 1] fr h) := by kernel_rfl
theorem st66_8_0 : astep Try.prog call (rg Try.f66 8) 0 fr h = pureS (some (fr.getD 3 .top)) fr 38 h := by kernel_rfl
theorem st66_8_1 : astep Try.prog call (rg Try.f66 8) 1 fr h = pureS (some (fr.getD 38 .top)) fr 2 h := by kernel_rfl
end
-- SIMP66: reg66_0, st66_0_0, reg66_1, st66_1_0, reg66_2, st66_2_0, reg66_3, st66_3_0, st66_3_1, st66_3_2, st66_3_3, st66_3_4, st66_3_5, st66_3_6, st66_3_7, reg66_5, st66_5_0, st66_5_1, st66_5_2, st66_5_3, st66_5_4, st66_5_5, st66_5_6, reg66_6, st66_6_0, st66_6_1, st66_6_2, st66_6_3, st66_6_4, st66_6_5, st66_6_6, st66_6_7, st66_6_8, reg66_7, st66_7_0, st66_7_1, st66_7_2, st66_7_3, st66_7_4, st66_7_5, st66_7_6, st66_7_7, st66_7_8, reg66_4, st66_4_0, st66_4_1, st66_4_2, reg66_8, st66_8_0, st66_8_1

end Go.Proofs.Ytgnacecplaemlaa
