import Derived.Test.YtgnacecplaemlaaE23
namespace Go.Proofs.Ytgnacecplaemlaa
open AI
set_option linter.unusedVariables false
/-! ### 69: conch/walk.below$1 -/
noncomputable def lp69_7 : Code := (.seq (.region 7 (rg Try.f69 7) false) (.seq (.cond (.tmp 30) .skip (.exit 4)) (.seq (.block 5 (.seq (.region 8 (rg Try.f69 8) false) (.seq (.region 9 (rg Try.f69 9) false) (.cond (.tmp 36) .ret .skip)))) (.region 10 (rg Try.f69 10) false))))
def C69_7 (x0 x1 x14 x15 x16 x21 x22 x23 x27 x28 x29 : AV) : List AV := [x0, x1, .top, .top, .top, .top, .top, .top, .top, .top, .top, .top, .top, .top, x14, x15, x16, .top, .top, .top, .top, x21, x22, x23, .top, .top, .top, x27, x28, x29, .top, .top, .top, .top, .top, .top, .top, .top, .top, .top, .top, .top, .top, .top, .top, .top, .top, .top, .top, .top, .top, .top, .top, .top, .top, .top, .top, .top, .top, .top, .top, .top, .top, .top, .top]
theorem cl69_7 (x0 x1 x2 x3 x4 x5 x6 x7 x8 x9 x10 x11 x12 x13 x14 x15 x16 x17 x18 x19 x20 x21 x22 x23 x24 x25 x26 x27 x28 x29 x30 x31 x32 x33 x34 x35 x36 x37 x38 x39 x40 x41 x42 x43 x44 x45 x46 x47 x48 x49 x50 x51 x52 x53 x54 x55 x56 x57 x58 x59 x60 x61 x62 x63 x64 : AV) : aclear (HK 69) lp69_7 [x0, x1, x2, x3, x4, x5, x6, x7, x8, x9, x10, x11, x12, x13, x14, x15, x16, x17, x18, x19, x20, x21, x22, x23, x24, x25, x26, x27, x28, x29, x30, x31, x32, x33, x34, x35, x36, x37, x38, x39, x40, x41, x42, x43, x44, x45, x46, x47, x48, x49, x50, x51, x52, x53, x54, x55, x56, x57, x58, x59, x60, x61, x62, x63, x64] = C69_7 x0 x1 x14 x15 x16 x21 x22 x23 x27 x28 x29 := by kernel_rfl
noncomputable def lp69_4 : Code := (.seq (.region 4 (rg Try.f69 4) false) (.seq (.cond (.tmp 24) .skip (.exit 2)) (.seq (.block 3 (.seq (.region 5 (rg Try.f69 5) false) (.seq (.region 6 (rg Try.f69 6) false) (.block 4 (.loop lp69_7))))) (.region 11 (rg Try.f69 11) false))))
def C69_4 (x0 x1 x14 x15 x16 x21 x22 x23 : AV) : List AV := [x0, x1, .top, .top, .top, .top, .top, .top, .top, .top, .top, .top, .top, .top, x14, x15, x16, .top, .top, .top, .top, x21, x22, x23, .top, .top, .top, .top, .top, .top, .top, .top, .top, .top, .top, .top, .top, .top, .top, .top, .top, .top, .top, .top, .top, .top, .top, .top, .top, .top, .top, .top, .top, .top, .top, .top, .top, .top, .top, .top, .top, .top, .top, .top, .top]
theorem cl69_4 (x0 x1 x2 x3 x4 x5 x6 x7 x8 x9 x10 x11 x12 x13 x14 x15 x16 x17 x18 x19 x20 x21 x22 x23 x24 x25 x26 x27 x28 x29 x30 x31 x32 x33 x34 x35 x36 x37 x38 x39 x40 x41 x42 x43 x44 x45 x46 x47 x48 x49 x50 x51 x52 x53 x54 x55 x56 x57 x58 x59 x60 x61 x62 x63 x64 : AV) : aclear (HK 69) lp69_4 [x0, x1, x2, x3, x4, x5, x6, x7, x8, x9, x10, x11, x12, x13, x14, x15, x16, x17, x18, x19, x20, x21, x22, x23, x24, x25, x26, x27, x28, x29, x30, x31, x32, x33, x34, x35, x36, x37, x38, x39, x40, x41, x42, x43, x44, x45, x46, x47, x48, x49, x50, x51, x52, x53, x54, x55, x56, x57, x58, x59, x60, x61, x62, x63, x64] = C69_4 x0 x1 x14 x15 x16 x21 x22 x23 := by kernel_rfl
noncomputable def lp69_1 : Code := (.seq (.region 1 (rg Try.f69 1) false) (.seq (.cond (.tmp 17) .skip (.exit 0)) (.seq (.block 1 (.seq (.region 2 (rg Try.f69 2) false) (.seq (.region 3 (rg Try.f69 3) false) (.block 2 (.loop lp69_4))))) (.region 12 (rg Try.f69 12) false))))
def C69_1 (x0 x1 x14 x15 x16 : AV) : List AV := [x0, x1, .top, .top, .top, .top, .top, .top, .top, .top, .top, .top, .top, .top, x14, x15, x16, .top, .top, .top, .top, .top, .top, .top, .top, .top, .top, .top, .top, .top, .top, .top, .top, .top, .top, .top, .top, .top, .top, .top, .top, .top, .top, .top, .top, .top, .top, .top, .top, .top, .top, .top, .top, .top, .top, .top, .top, .top, .top, .top, .top, .top, .top, .top, .top]
theorem cl69_1 (x0 x1 x2 x3 x4 x5 x6 x7 x8 x9 x10 x11 x12 x13 x14 x15 x16 x17 x18 x19 x20 x21 x22 x23 x24 x25 x26 x27 x28 x29 x30 x31 x32 x33 x34 x35 x36 x37 x38 x39 x40 x41 x42 x43 x44 x45 x46 x47 x48 x49 x50 x51 x52 x53 x54 x55 x56 x57 x58 x59 x60 x61 x62 x63 x64 : AV) : aclear (HK 69) lp69_1 [x0, x1, x2, x3, x4, x5, x6, x7, x8, x9, x10, x11, x12, x13, x14, x15, x16, x17, x18, x19, x20, x21, x22, x23, x24, x25, x26, x27, x28, x29, x30, x31, x32, x33, x34, x35, x36, x37, x38, x39, x40, x41, x42, x43, x44, x45, x46, x47, x48, x49, x50, x51, x52, x53, x54, x55, x56, x57, x58, x59, x60, x61, x62, x63, x64] = C69_1 x0 x1 x14 x15 x16 := by kernel_rfl
noncomputable def lp69_14 : Code := (.seq (.region 14 (rg Try.f69 14) false) (.seq (.cond (.tmp 44) .skip (.exit 6)) (.seq (.block 7 (.seq (.region 15 (rg Try.f69 15) false) (.seq (.region 16 (rg Try.f69 16) false) (.cond (.tmp 51) .ret .skip)))) (.region 17 (rg Try.f69 17) false))))
def C69_14 (x0 x1 x41 x42 x43 : AV) : List AV := [x0, x1, .top, .top, .top, .top, .top, .top, .top, .top, .top, .top, .top, .top, .top, .top, .top, .top, .top, .top, .top, .top, .top, .top, .top, .top, .top, .top, .top, .top, .top, .top, .top, .top, .top, .top, .top, .top, .top, .top, .top, x41, x42, x43, .top, .top, .top, .top, .top, .top, .top, .top, .top, .top, .top, .top, .top, .top, .top, .top, .top, .top, .top, .top, .top]
theorem cl69_14 (x0 x1 x2 x3 x4 x5 x6 x7 x8 x9 x10 x11 x12 x13 x14 x15 x16 x17 x18 x19 x20 x21 x22 x23 x24 x25 x26 x27 x28 x29 x30 x31 x32 x33 x34 x35 x36 x37 x38 x39 x40 x41 x42 x43 x44 x45 x46 x47 x48 x49 x50 x51 x52 x53 x54 x55 x56 x57 x58 x59 x60 x61 x62 x63 x64 : AV) : aclear (HK 69) lp69_14 [x0, x1, x2, x3, x4, x5, x6, x7, x8, x9, x10, x11, x12, x13, x14, x15, x16, x17, x18, x19, x20, x21, x22, x23, x24, x25, x26, x27, x28, x29, x30, x31, x32, x33, x34, x35, x36, x37, x38, x39, x40, x41, x42, x43, x44, x45, x46, x47, x48, x49, x50, x51, x52, x53, x54, x55, x56, x57, x58, x59, x60, x61, x62, x63, x64] = C69_14 x0 x1 x41 x42 x43 := by kernel_rfl
noncomputable def lp69_19 : Code := (.seq (.region 19 (rg Try.f69 19) false) (.seq (.cond (.tmp 57) .skip (.exit 8)) (.seq (.block 9 (.seq (.region 20 (rg Try.f69 20) false) (.seq (.region 21 (rg Try.f69 21) false) (.cond (.tmp 63) .ret .skip)))) (.region 22 (rg Try.f69 22) false))))
def C69_19 (x0 x54 x55 x56 : AV) : List AV := [x0, .top, .top, .top, .top, .top, .top, .top, .top, .top, .top, .top, .top, .top, .top, .top, .top, .top, .top, .top, .top, .top, .top, .top, .top, .top, .top, .top, .top, .top, .top, .top, .top, .top, .top, .top, .top, .top, .top, .top, .top, .top, .top, .top, .top, .top, .top, .top, .top, .top, .top, .top, .top, .top, x54, x55, x56, .top, .top, .top, .top, .top, .top, .top, .top]
theorem cl69_19 (x0 x1 x2 x3 x4 x5 x6 x7 x8 x9 x10 x11 x12 x13 x14 x15 x16 x17 x18 x19 x20 x21 x22 x23 x24 x25 x26 x27 x28 x29 x30 x31 x32 x33 x34 x35 x36 x37 x38 x39 x40 x41 x42 x43 x44 x45 x46 x47 x48 x49 x50 x51 x52 x53 x54 x55 x56 x57 x58 x59 x60 x61 x62 x63 x64 : AV) : aclear (HK 69) lp69_19 [x0, x1, x2, x3, x4, x5, x6, x7, x8, x9, x10, x11, x12, x13, x14, x15, x16, x17, x18, x19, x20, x21, x22, x23, x24, x25, x26, x27, x28, x29, x30, x31, x32, x33, x34, x35, x36, x37, x38, x39, x40, x41, x42, x43, x44, x45, x46, x47, x48, x49, x50, x51, x52, x53, x54, x55, x56, x57, x58, x59, x60, x61, x62, x63, x64] = C69_19 x0 x54 x55 x56 := by kernel_rfl
noncomputable def cd69 : Code := (.seq (.seq (.region 0 (rg Try.f69 0) false) (.block 0 (.loop lp69_1))) (.seq (.seq (.region 13 (rg Try.f69 13) false) (.block 6 (.loop lp69_14))) (.seq (.region 18 (rg Try.f69 18) false) (.block 8 (.loop lp69_19)))))
theorem ent69 (n : Nat) (a0 a1 : AV) (h : AH) : X (n + 1) (.func 69) [a0, a1] h = (fin0 (arun Try.prog (HK 69) 69 (X n) n none cd69 [a0, a1, .tup [], .tup [], .tup [], .tup [], .tup [], .tup [], .tup [], .tup [], .tup [], .tup [], .tup [], .tup [], .tup [], .tup [], .tup [], .tup [], .tup [], .tup [], .tup [], .tup [], .tup [], .tup [], .tup [], .tup [], .tup [], .tup [], .tup [], .tup [], .tup [], .tup [], .tup [], .tup [], .tup [], .tup [], .tup [], .tup [], .tup [], .tup [], .tup [], .tup [], .tup [], .tup [], .tup [], .tup [], .tup [], .tup [], .tup [], .tup [], .tup [], .tup [], .tup [], .tup [], .tup [], .tup [], .tup [], .tup [], .tup [], .tup [], .tup [], .tup [], .tup [], .tup [], .tup []] h) ) := by kernel_rfl
section
variable (K : Hint) (fid : FuncId) (call : ACall) (lf : Nat) (rd : Option Nat) (fr : List AV) (h : AH)
theorem reg69_0 : arun Try.prog K fid call lf rd (.region 0 (rg Try.f69 0) false) fr h = regR (aops Try.prog call (rg Try.f69 0) [0, 1, 2, 3] fr h) := by kernel_rfl
theorem st69_0_0 : astep Try.prog call (rg Try.f69 0) 0 fr h = pureS (ldV Try.prog 49 (fr.getD 1 .top) h) fr 13 h := by kernel_rfl
theorem st69_0_1 : astep Try.prog call (rg Try.f69 0) 1 fr h = heapS (callV call (.fn (.func 57) [] []) [(fr.getD 13 .top)] h) fr 14 := by kernel_rfl
theorem st69_0_2 : astep Try.prog call (rg Try.f69 0) 2 fr h = pureS (lenV (alen Try.prog 44 (fr.getD 14 .top))) fr 15 h := by kernel_rfl
theorem st69_0_3 : astep Try.prog call (rg Try.f69 0) 3 fr h = pureS (some (.int .i64 0)) fr 16 h := by kernel_rfl
theorem reg69_1 : arun Try.prog K fid call lf rd (.region 1 (rg Try.f69 1) false) fr h = regR (aops Try.prog call (rg Try.f69 1) [0] fr h) := by kernel_rfl
theorem st69_1_0 : astep Try.prog call (rg Try.f69 1) 0 fr h = pureS (abin Try.prog .lss 3 (.tmp 16) (.tmp 15) (fr.getD 16 .top) (fr.getD 15 .top)) fr 17 h := by kernel_rfl
theorem reg69_2 : arun Try.prog K fid call lf rd (.region 2 (rg Try.f69 2) false) fr h = regR (aops Try.prog call (rg Try.f69 2) [0, 1, 2, 3] fr h) := by kernel_rfl
theorem st69_2_0 : astep Try.prog call (rg Try.f69 2) 0 fr h = pureS (aindexAt Try.prog 44 (fr.getD 14 .top) (fr.getD 16 .top)) fr 18 h := by kernel_rfl
theorem st69_2_1 : astep Try.prog call (rg Try.f69 2) 1 fr h = pureS (ldV Try.prog 60 (fr.getD 18 .top) h) fr 19 h := by kernel_rfl
theorem st69_2_2 : astep Try.prog call (rg Try.f69 2) 2 fr h = heapS (newV Try.prog 60 h) fr 4 := by kernel_rfl
theorem st69_2_3 : astep Try.prog call (rg Try.f69 2) 3 fr h = heapN (stV Try.prog 60 (fr.getD 4 .top) (fr.getD 19 .top) h) fr := by kernel_rfl
theorem reg69_3 : arun Try.prog K fid call lf rd (.region 3 (rg Try.f69 3) false) fr h = regR (aops Try.prog call (rg Try.f69 3) [0, 1, 2, 3] fr h) := by kernel_rfl
theorem st69_3_0 : astep Try.prog call (rg Try.f69 3) 0 fr h = pureS (ldV Try.prog 60 (fr.getD 4 .top) h) fr 20 h := by kernel_rfl
theorem st69_3_1 : astep Try.prog call (rg Try.f69 3) 1 fr h = heapS (callV call (.fn (.func 70) [] []) [(fr.getD 20 .top)] h) fr 21 := by kernel_rfl
theorem st69_3_2 : astep Try.prog call (rg Try.f69 3) 2 fr h = pureS (lenV (alen Try.prog 89 (fr.getD 21 .top))) fr 22 h := by kernel_rfl
theorem st69_3_3 : astep Try.prog call (rg Try.f69 3) 3 fr h = pureS (some (.int .i64 0)) fr 23 h := by kernel_rfl
theorem reg69_4 : arun Try.prog K fid call lf rd (.region 4 (rg Try.f69 4) false) fr h = regR (aops Try.prog call (rg Try.f69 4) [0] fr h) := by kernel_rfl
theorem st69_4_0 : astep Try.prog call (rg Try.f69 4) 0 fr h = pureS (abin Try.prog .lss 3 (.tmp 23) (.tmp 22) (fr.getD 23 .top) (fr.getD 22 .top)) fr 24 h := by kernel_rfl
theorem reg69_5 : arun Try.prog K fid call lf rd (.region 5 (rg Try.f69 5) false) fr h = regR (aops Try.prog call (rg Try.f69 5) [0, 1, 2] fr h) := by kernel_rfl
theorem st69_5_0 : astep Try.prog call (rg Try.f69 5) 0 fr h = pureS (aindexAt Try.prog 89 (fr.getD 21 .top) (fr.getD 23 .top)) fr 25 h := by kernel_rfl
theorem st69_5_1 : astep Try.prog call (rg Try.f69 5) 1 fr h = pureS (ldV Try.prog 47 (fr.getD 25 .top) h) fr 26 h := by kernel_rfl
theorem st69_5_2 : astep Try.prog call (rg Try.f69 5) 2 fr h = pureS (some (fr.getD 26 .top)) fr 6 h := by kernel_rfl
theorem reg69_6 : arun Try.prog K fid call lf rd (.region 6 (rg Try.f69 6) false) fr h = regR (aops Try.prog call (rg Try.f69 6) [0, 1, 2] fr h) := by kernel_rfl
theorem st69_6_0 : astep Try.prog call (rg Try.f69 6) 0 fr h = pureS (some (fr.getD 6 .top)) fr 27 h := by kernel_rfl
theorem st69_6_1 : astep Try.prog call (rg Try.f69 6) 1 fr h = pureS (lenV (alen Try.prog 47 (fr.getD 27 .top))) fr 28 h := by kernel_rfl
theorem st69_6_2 : astep Try.prog call (rg Try.f69 6) 2 fr h = pureS (some (.int .i64 0)) fr 29 h := by kernel_rfl
theorem reg69_7 : arun Try.prog K fid call lf rd (.region 7 (rg Try.f69 7) false) fr h = regR (aops Try.prog call (rg Try.f69 7) [0] fr h) := by kernel_rfl
theorem st69_7_0 : astep Try.prog call (rg Try.f69 7) 0 fr h = pureS (abin Try.prog .lss 3 (.tmp 29) (.tmp 28) (fr.getD 29 .top) (fr.getD 28 .top)) fr 30 h := by kernel_rfl
theorem reg69_8 : arun Try.prog K fid call lf rd (.region 8 (rg Try.f69 8) false) fr h = regR (aops Try.prog call (rg Try.f69 8) [0, 1, 2, 3] fr h) := by kernel_rfl
theorem st69_8_0 : astep Try.prog call (rg Try.f69 8) 0 fr h = pureS (aindexAt Try.prog 47 (fr.getD 27 .top) (fr.getD 29 .top)) fr 31 h := by kernel_rfl
theorem st69_8_1 : astep Try.prog call (rg Try.f69 8) 1 fr h = pureS (ldV Try.prog 49 (fr.getD 31 .top) h) fr 32 h := by kernel_rfl
theorem st69_8_2 : astep Try.prog call (rg Try.f69 8) 2 fr h = heapS (newV Try.prog 49 h) fr 8 := by kernel_rfl
theorem st69_8_3 : astep Try.prog call (rg Try.f69 8) 3 fr h = heapN (stV Try.prog 49 (fr.getD 8 .top) (fr.getD 32 .top) h) fr := by kernel_rfl
theorem reg69_9 : arun Try.prog K fid call lf rd (.region 9 (rg Try.f69 9) false) fr h = regR (aops Try.prog call (rg Try.f69 9) [0, 1, 2, 3] fr h) := by kernel_rfl
theorem st69_9_0 : astep Try.prog call (rg Try.f69 9) 0 fr h = pureS (some (fr.getD 0 .top)) fr 33 h := by kernel_rfl
theorem st69_9_1 : astep Try.prog call (rg Try.f69 9) 1 fr h = pureS (ldV Try.prog 49 (fr.getD 8 .top) h) fr 34 h := by kernel_rfl
theorem st69_9_2 : astep Try.prog call (rg Try.f69 9) 2 fr h = heapS (callV call (fr.getD 33 .top) [(fr.getD 34 .top)] h) fr 35 := by kernel_rfl
theorem st69_9_3 : astep Try.prog call (rg Try.f69 9) 3 fr h = pureS (aun .not (fr.getD 35 .top)) fr 36 h := by kernel_rfl
theorem reg69_10 : arun Try.prog K fid call lf rd (.region 10 (rg Try.f69 10) false) fr h = regR (aops Try.prog call (rg Try.f69 10) [0, 1] fr h) := by kernel_rfl
theorem st69_10_0 : astep Try.prog call (rg Try.f69 10) 0 fr h = pureS (abin Try.prog .add 3 (.tmp 29) (.const (.int .i64 1)) (fr.getD 29 .top) (.int .i64 1)) fr 37 h := by kernel_rfl
theorem st69_10_1 : astep Try.prog call (rg Try.f69 10) 1 fr h = pureS (some (fr.getD 37 .top)) fr 29 h := by kernel_rfl
theorem reg69_11 : arun Try.prog K fid call lf rd (.region 11 (rg Try.f69 11) false) fr h = regR (aops Try.prog call (rg Try.f69 11) [0, 1] fr h) := by kernel_rfl
theorem st69_11_0 : astep Try.prog call (rg Try.f69 11) 0 fr h = pureS (abin Try.prog .add 3 (.tmp 23) (.const (.int .i64 1)) (fr.getD 23 .top) (.int .i64 1)) fr 38 h := by kernel_rfl
theorem st69_11_1 : astep Try.prog call (rg Try.f69 11) 1 fr h = pureS (some (fr.getD 38 .top)) fr 23 h := by kernel_rfl
theorem reg69_12 : arun Try.prog K fid call lf rd (.region 12 (rg Try.f69 12) false) fr h = regR (aops Try.prog call (rg Try.f69 12) [0, 1] fr h) := by kernel_rfl
theorem st69_12_0 : astep Try.prog call (rg Try.f69 12) 0 fr h = pureS (abin Try.prog .add 3 (.tmp 16) (.const (.int .i64 1)) (fr.getD 16 .top) (.int .i64 1)) fr 39 h := by kernel_rfl
theorem st69_12_1 : astep Try.prog call (rg Try.f69 12) 1 fr h = pureS (some (fr.getD 39 .top)) fr 16 h := by kernel_rfl
theorem reg69_13 : arun Try.prog K fid call lf rd (.region 13 (rg Try.f69 13) false) fr h = regR (aops Try.prog call (rg Try.f69 13) [0, 1, 2, 3] fr h) := by kernel_rfl
theorem st69_13_0 : astep Try.prog call (rg Try.f69 13) 0 fr h = pureS (afieldAt Try.prog 49 (fr.getD 1 .top) 8) fr 40 h := by kernel_rfl
theorem st69_13_1 : astep Try.prog call (rg Try.f69 13) 1 fr h = pureS (ldV Try.prog 46 (fr.getD 40 .top) h) fr 41 h := by kernel_rfl
theorem st69_13_2 : astep Try.prog call (rg Try.f69 13) 2 fr h = pureS (lenV (alen Try.prog 46 (fr.getD 41 .top))) fr 42 h := by kernel_rfl
theorem st69_13_3 : astep Try.prog call (rg Try.f69 13) 3 fr h = pureS (some (.int .i64 0)) fr 43 h := by kernel_rfl
theorem reg69_14 : arun Try.prog K fid call lf rd (.region 14 (rg Try.f69 14) false) fr h = regR (aops Try.prog call (rg Try.f69 14) [0] fr h) := by kernel_rfl
theorem st69_14_0 : astep Try.prog call (rg Try.f69 14) 0 fr h = pureS (abin Try.prog .lss 3 (.tmp 43) (.tmp 42) (fr.getD 43 .top) (fr.getD 42 .top)) fr 44 h := by kernel_rfl
theorem reg69_15 : arun Try.prog K fid call lf rd (.region 15 (rg Try.f69 15) false) fr h = regR (aops Try.prog call (rg Try.f69 15) [0, 1, 2, 3] fr h) := by kernel_rfl
theorem st69_15_0 : astep Try.prog call (rg Try.f69 15) 0 fr h = pureS (aindexAt Try.prog 46 (fr.getD 41 .top) (fr.getD 43 .top)) fr 45 h := by kernel_rfl
theorem st69_15_1 : astep Try.prog call (rg Try.f69 15) 1 fr h = pureS (ldV Try.prog 76 (fr.getD 45 .top) h) fr 46 h := by kernel_rfl
theorem st69_15_2 : astep Try.prog call (rg Try.f69 15) 2 fr h = heapS (newV Try.prog 76 h) fr 10 := by kernel_rfl
theorem st69_15_3 : astep Try.prog call (rg Try.f69 15) 3 fr h = heapN (stV Try.prog 76 (fr.getD 10 .top) (fr.getD 46 .top) h) fr := by kernel_rfl
theorem reg69_16 : arun Try.prog K fid call lf rd (.region 16 (rg Try.f69 16) false) fr h = regR (aops Try.prog call (rg Try.f69 16) [0, 1, 2, 3, 4] fr h) := by kernel_rfl
theorem st69_16_0 : astep Try.prog call (rg Try.f69 16) 0 fr h = pureS (some (fr.getD 0 .top)) fr 47 h := by kernel_rfl
theorem st69_16_1 : astep Try.prog call (rg Try.f69 16) 1 fr h = pureS (afieldAt Try.prog 76 (fr.getD 10 .top) 1) fr 48 h := by kernel_rfl
theorem st69_16_2 : astep Try.prog call (rg Try.f69 16) 2 fr h = pureS (ldV Try.prog 49 (fr.getD 48 .top) h) fr 49 h := by kernel_rfl
theorem st69_16_3 : astep Try.prog call (rg Try.f69 16) 3 fr h = heapS (callV call (fr.getD 47 .top) [(fr.getD 49 .top)] h) fr 50 := by kernel_rfl
theorem st69_16_4 : astep Try.prog call (rg Try.f69 16) 4 fr h = pureS (aun .not (fr.getD 50 .top)) fr 51 h := by kernel_rfl
theorem reg69_17 : arun Try.prog K fid call lf rd (.region 17 (rg Try.f69 17) false) fr h = regR (aops Try.prog call (rg Try.f69 17) [0, 1] fr h) := by kernel_rfl
theorem st69_17_0 : astep Try.prog call (rg Try.f69 17) 0 fr h = pureS (abin Try.prog .add 3 (.tmp 43) (.const (.int .i64 1)) (fr.getD 43 .top) (.int .i64 1)) fr 52 h := by kernel_rfl
theorem st69_17_1 : astep Try.prog call (rg Try.f69 17) 1 fr h = pureS (some (fr.getD 52 .top)) fr 43 h := by kernel_rfl
theorem reg69_18 : arun Try.prog K fid call lf rd (.region 18 (rg Try.f69 18) false) fr h = regR (aops Try.prog call (rg Try.f69 18) [0, 1, 2, 3] fr h) := by kernel_rfl
theorem st69_18_0 : astep Try.prog call (rg Try.f69 18) 0 fr h = pureS (afieldAt Try.prog 49 (fr.getD 1 .top) 9) fr 53 h := by kernel_rfl
theorem st69_18_1 : astep Try.prog call (rg Try.f69 18) 1 fr h = pureS (ldV Try.prog 47 (fr.getD 53 .top) h) fr 54 h := by kernel_rfl
theorem st69_18_2 : astep Try.prog call (rg Try.f69 18) 2 fr h = pureS (lenV (alen Try.prog 47 (fr.getD 54 .top))) fr 55 h := by kernel_rfl
theorem st69_18_3 : astep Try.prog call (rg Try.f69 18) 3 fr h = pureS (some (.int .i64 0)) fr 56 h := by kernel_rfl
theorem reg69_19 : arun Try.prog K fid call lf rd (.region 19 (rg Try.f69 19) false) fr h = regR (aops Try.prog call (rg Try.f69 19) [0] fr h) := by kernel_rfl
theorem st69_19_0 : astep Try.prog call (rg Try.f69 19) 0 fr h = pureS (abin Try.prog .lss 3 (.tmp 56) (.tmp 55) (fr.getD 56 .top) (fr.getD 55 .top)) fr 57 h := by kernel_rfl
theorem reg69_20 : arun Try.prog K fid call lf rd (.region 20 (rg Try.f69 20) false) fr h = regR (aops Try.prog call (rg Try.f69 20) [0, 1, 2, 3] fr h) := by kernel_rfl
theorem st69_20_0 : astep Try.prog call (rg Try.f69 20) 0 fr h = pureS (aindexAt Try.prog 47 (fr.getD 54 .top) (fr.getD 56 .top)) fr 58 h := by kernel_rfl
theorem st69_20_1 : astep Try.prog call (rg Try.f69 20) 1 fr h = pureS (ldV Try.prog 49 (fr.getD 58 .top) h) fr 59 h := by kernel_rfl
theorem st69_20_2 : astep Try.prog call (rg Try.f69 20) 2 fr h = heapS (newV Try.prog 49 h) fr 12 := by kernel_rfl
theorem st69_20_3 : astep Try.prog call (rg Try.f69 20) 3 fr h = heapN (stV Try.prog 49 (fr.getD 12 .top) (fr.getD 59 .top) h) fr := by kernel_rfl
theorem reg69_21 : arun Try.prog K fid call lf rd (.region 21 (rg Try.f69 21) false) fr h = regR (aops Try.prog call (rg Try.f69 21) [0, 1, 2, 3] fr h) := by kernel_rfl
theorem st69_21_0 : astep Try.prog call (rg Try.f69 21) 0 fr h = pureS (some (fr.getD 0 .top)) fr 60 h := by kernel_rfl
theorem st69_21_1 : astep Try.prog call (rg Try.f69 21) 1 fr h = pureS (ldV Try.prog 49 (fr.getD 12 .top) h) fr 61 h := by kernel_rfl
theorem st69_21_2 : astep Try.prog call (rg Try.f69 21) 2 fr h = heapS (callV call (fr.getD 60 .top) [(fr.getD 61 .top)] h) fr 62 := by kernel_rfl
theorem st69_21_3 : astep Try.prog call (rg Try.f69 21) 3 fr h = pureS (aun .not (fr.getD 62 .top)) fr 63 h := by kernel_rfl
theorem reg69_22 : arun Try.prog K fid call lf rd (.region 22 (rg Try.f69 22) false) fr h = regR (aops Try.prog call (rg Try.f69 22) [0, 1] fr h) := by kernel_rfl
theorem st69_22_0 : astep Try.prog call (rg Try.f69 22) 0 fr h = pureS (abin Try.prog .add 3 (.tmp 56) (.const (.int .i64 1)) (fr.getD 56 .top) (.int .i64 1)) fr 64 h := by kernel_rfl
theorem st69_22_1 : astep Try.prog call (rg Try.f69 22) 1 fr h = pureS (some (fr.getD 64 .top)) fr 56 h := by kernel_rfl
end
-- SIMP69: reg69_0, st69_0_0, st69_0_1, st69_0_2, st69_0_3, reg69_1, st69_1_0, reg69_2, st69_2_0, st69_2_1, st69_2_2, st69_2_3, reg69_3, st69_3_0, st69_3_1, st69_3_2, st69_3_3, reg69_4, st69_4_0, reg69_5, st69_5_0, st69_5_1, st69_5_2, reg69_6, st69_6_0, st69_6_1, st69_6_2, reg69_7, st69_7_0, reg69_8, st69_8_0, st69_8_1, st69_8_2, st69_8_3, reg69_9, st69_9_0, st69_9_1, st69_9_2, st69_9_3, reg69_10, st69_10_0, st69_10_1, reg69_11, st69_11_0, st69_11_1, reg69_12, st69_12_0, st69_12_1, reg69_13, st69_13_0, st69_13_1, st69_13_2, st69_13_3, reg69_14, st69_14_0, reg69_15, st69_15_0, st69_15_1, st69_15_2, st69_15_3, reg69_16, st69_16_0, st69_16_1, st69_16_2, st69_16_3, st69_16_4, reg69_17, st69_17_0, st69_17_1, reg69_18, st69_18_0, st69_18_1, st69_18_2, st69_18_3, reg69_19, st69_19_0, reg69_20, st69_20_0, st69_20_1, st69_20_2, st69_20_3, reg69_21, st69_21_0, st69_21_1, st69_21_2, st69_21_3, reg69_22, st69_22_0, st69_22_1

/-! ### 53: conch/walk.below -/
noncomputable def cd53 : Code := (.seq (.region 0 (rg Try.f53 0) false) (.seq (.region 1 (rg Try.f53 1) false) .ret))
theorem ent53 (n : Nat) (a0 : AV) (h : AH) : X (n + 1) (.func 53) [a0] h = (fin1 (arun Try.prog (HK 53) 53 (X n) n none cd53 [a0, .tup [], .tup [], .tup []] h) 2) := by kernel_rfl
section
variable (K : Hint) (fid : FuncId) (call : ACall) (lf : Nat) (rd : Option Nat) (fr : List AV) (h : AH)
theorem reg53_0 : arun Try.prog K fid call lf rd (.region 0 (rg Try.f53 0) false) fr h = regR (aops Try.prog call (rg Try.f53 0) [0, 1] fr h) := by kernel_rfl
theorem st53_0_0 : astep Try.prog call (rg Try.f53 0) 0 fr h = heapS (boxV (fr.getD 0 .top) h) fr 1 := by kernel_rfl
theorem st53_0_1 : astep Try.prog call (rg Try.f53 0) 1 fr h = pureS (some (.nilFn)) fr 2 h := by kernel_rfl
theorem reg53_1 : arun Try.prog K fid call lf rd (.region 1 (rg Try.f53 1) false) fr h = regR (aops Try.prog call (rg Try.f53 1) [0, 1] fr h) := by kernel_rfl
theorem st53_1_0 : astep Try.prog call (rg Try.f53 1) 0 fr h = pureS (some (.fn (.func 69) [] [(fr.getD 1 .top)])) fr 3 h := by kernel_rfl
theorem st53_1_1 : astep Try.prog call (rg Try.f53 1) 1 fr h = pureS (some (fr.getD 3 .top)) fr 2 h := by kernel_rfl
end
-- SIMP53: reg53_0, st53_0_0, st53_0_1, reg53_1, st53_1_0, st53_1_1

/-! ### 68: conch/walk.All$1 -/
noncomputable def ra68_3 : Code := (.region 3 (rg Try.f68 3) false)
noncomputable def ra68_5 : Code := (.region 5 (rg Try.f68 5) false)
noncomputable def rb68_6 : Code := (.block 3 (.seq (.region 6 (rg Try.f68 6) false) (.cond (.tmp 18) .ret .skip)))
noncomputable def rb68_4 : Code := (.block 1 (.seq (.region 4 (rg Try.f68 4) false) (.block 2 (.rangeFunc (.tmp 13) #[14] ra68_5 rb68_6))))
noncomputable def cd68 : Code := (.seq (.region 0 (rg Try.f68 0) false) (.seq (.seq (.region 1 (rg Try.f68 1) false) (.cond (.tmp 8) .ret .skip)) (.seq (.region 2 (rg Try.f68 2) false) (.block 0 (.rangeFunc (.tmp 10) #[11] ra68_3 rb68_4)))))
theorem ent68 (n : Nat) (a0 a1 : AV) (h : AH) : X (n + 1) (.func 68) [a0, a1] h = (fin0 (arun Try.prog (HK 68) 68 (X n) n none cd68 [a0, a1, .tup [], .tup [], .tup [], .tup [], .tup [], .tup [], .tup [], .tup [], .tup [], .tup [], .tup [], .tup [], .tup [], .tup [], .tup [], .tup [], .tup []] h) ) := by kernel_rfl
section
variable (K : Hint) (fid : FuncId) (call : ACall) (lf : Nat) (rd : Option Nat) (fr : List AV) (h : AH)
theorem reg68_0 : arun Try.prog K fid call lf rd (.region 0 (rg Try.f68 0) false) fr h = regR (aops Try.prog call (rg Try.f68 0) [0] fr h) := by kernel_rfl
theorem st68_0_0 : astep Try.prog call (rg Try.f68 0) 0 fr h = heapS (boxV (fr.getD 0 .top) h) fr 2 := by kernel_rfl
theorem reg68_1 : arun Try.prog K fid call lf rd (.region 1 (rg Try.f68 1) false) fr h = regR (aops Try.prog call (rg Try.f68 1) [0, 1, 2, 3] fr h) := by kernel_rfl
theorem st68_1_0 : astep Try.prog call (rg Try.f68 1) 0 fr h = pureS (ldV Try.prog 53 (fr.getD 2 .top) h) fr 5 h := by kernel_rfl
theorem st68_1_1 : astep Try.prog call (rg Try.f68 1) 1 fr h = pureS (ldV Try.prog 49 (fr.getD 1 .top) h) fr 6 h := by kernel_rfl
theorem st68_1_2 : astep Try.prog call (rg Try.f68 1) 2 fr h = heapS (callV call (fr.getD 5 .top) [(fr.getD 6 .top)] h) fr 7 := by kernel_rfl
theorem st68_1_3 : astep Try.prog call (rg Try.f68 1) 3 fr h = pureS (aun .not (fr.getD 7 .top)) fr 8 h := by kernel_rfl
theorem reg68_2 : arun Try.prog K fid call lf rd (.region 2 (rg Try.f68 2) false) fr h = regR (aops Try.prog call (rg Try.f68 2) [0, 1] fr h) := by kernel_rfl
theorem st68_2_0 : astep Try.prog call (rg Try.f68 2) 0 fr h = pureS (ldV Try.prog 49 (fr.getD 1 .top) h) fr 9 h := by kernel_rfl
theorem st68_2_1 : astep Try.prog call (rg Try.f68 2) 1 fr h = heapS (callV call (.fn (.func 53) [] []) [(fr.getD 9 .top)] h) fr 10 := by kernel_rfl
theorem reg68_3 : arun Try.prog K fid call lf rd (.region 3 (rg Try.f68 3) false) fr h = regR (aops Try.prog call (rg Try.f68 3) [0, 1] fr h) := by kernel_rfl
theorem st68_3_0 : astep Try.prog call (rg Try.f68 3) 0 fr h = heapS (newV Try.prog 49 h) fr 3 := by kernel_rfl
theorem st68_3_1 : astep Try.prog call (rg Try.f68 3) 1 fr h = heapN (stV Try.prog 49 (fr.getD 3 .top) (fr.getD 11 .top) h) fr := by kernel_rfl
theorem reg68_4 : arun Try.prog K fid call lf rd (.region 4 (rg Try.f68 4) false) fr h = regR (aops Try.prog call (rg Try.f68 4) [0, 1] fr h) := by kernel_rfl
theorem st68_4_0 : astep Try.prog call (rg Try.f68 4) 0 fr h = pureS (ldV Try.prog 49 (fr.getD 3 .top) h) fr 12 h := by kernel_rfl
theorem st68_4_1 : astep Try.prog call (rg Try.f68 4) 1 fr h = heapS (callV call (.fn (.func 51) [] []) [(fr.getD 12 .top)] h) fr 13 := by kernel_rfl
theorem reg68_5 : arun Try.prog K fid call lf rd (.region 5 (rg Try.f68 5) false) fr h = regR (aops Try.prog call (rg Try.f68 5) [0, 1] fr h) := by kernel_rfl
theorem st68_5_0 : astep Try.prog call (rg Try.f68 5) 0 fr h = heapS (newV Try.prog 49 h) fr 4 := by kernel_rfl
theorem st68_5_1 : astep Try.prog call (rg Try.f68 5) 1 fr h = heapN (stV Try.prog 49 (fr.getD 4 .top) (fr.getD 14 .top) h) fr := by kernel_rfl
theorem reg68_6 : arun Try.prog K fid call lf rd (.region 6 (rg Try.f68 6) false) fr h = regR (aops Try.prog call (rg Try.f68 6) [0, 1, 2, 3] fr h) := by kernel_rfl
theorem st68_6_0 : astep Try.prog call (rg Try.f68 6) 0 fr h = pureS (ldV Try.prog 53 (fr.getD 2 .top) h) fr 15 h := by kernel_rfl
theorem st68_6_1 : astep Try.prog call (rg Try.f68 6) 1 fr h = pureS (ldV Try.prog 49 (fr.getD 4 .top) h) fr 16 h := by kernel_rfl
theorem st68_6_2 : astep Try.prog call (rg Try.f68 6) 2 fr h = heapS (callV call (fr.getD 15 .top) [(fr.getD 16 .top)] h) fr 17 := by kernel_rfl
theorem st68_6_3 : astep Try.prog call (rg Try.f68 6) 3 fr h = pureS (aun .not (fr.getD 17 .top)) fr 18 h := by kernel_rfl
end
-- SIMP68: reg68_0, st68_0_0, reg68_1, st68_1_0, st68_1_1, st68_1_2, st68_1_3, reg68_2, st68_2_0, st68_2_1, reg68_3, st68_3_0, st68_3_1, reg68_4, st68_4_0, st68_4_1, reg68_5, st68_5_0, st68_5_1, reg68_6, st68_6_0, st68_6_1, st68_6_2, st68_6_3

/-! ### 51: conch/walk.All -/
noncomputable def cd51 : Code := (.seq (.region 0 (rg Try.f51 0) false) (.seq (.region 1 (rg Try.f51 1) false) .ret))
theorem ent51 (n : Nat) (a0 : AV) (h : AH) : X (n + 1) (.func 51) [a0] h = (fin1 (arun Try.prog (HK 51) 51 (X n) n none cd51 [a0, .tup [], .tup [], .tup []] h) 2) := by kernel_rfl
section
variable (K : Hint) (fid : FuncId) (call : ACall) (lf : Nat) (rd : Option Nat) (fr : List AV) (h : AH)
theorem reg51_0 : arun Try.prog K fid call lf rd (.region 0 (rg Try.f51 0) false) fr h = regR (aops Try.prog call (rg Try.f51 0) [0, 1] fr h) := by kernel_rfl
theorem st51_0_0 : astep Try.prog call (rg Try.f51 0) 0 fr h = heapS (boxV (fr.getD 0 .top) h) fr 1 := by kernel_rfl
theorem st51_0_1 : astep Try.prog call (rg Try.f51 0) 1 fr h = pureS (some (.nilFn)) fr 2 h := by kernel_rfl
theorem reg51_1 : arun Try.prog K fid call lf rd (.region 1 (rg Try.f51 1) false) fr h = regR (aops Try.prog call (rg Try.f51 1) [0, 1] fr h) := by kernel_rfl
theorem st51_1_0 : astep Try.prog call (rg Try.f51 1) 0 fr h = pureS (some (.fn (.func 68) [] [(fr.getD 1 .top)])) fr 3 h := by kernel_rfl
theorem st51_1_1 : astep Try.prog call (rg Try.f51 1) 1 fr h = pureS (some (fr.getD 3 .top)) fr 2 h := by kernel_rfl
end
-- SIMP51: reg51_0, st51_0_0, st51_0_1, reg51_1, st51_1_0, st51_1_1

/-! ### 28: conch/conchlaw42.nodes -/
noncomputable def cd28 : Code := (.seq (.region 0 (rg Try.f28 0) false) (.seq (.region 1 (rg Try.f28 1) false) (.seq (.seq (.region 2 (rg Try.f28 2) false) (.cond (.tmp 8) (.seq (.region 3 (rg Try.f28 3) false) .ret) .skip)) (.seq (.region 4 (rg Try.f28 4) false) (.seq (.seq (.region 5 (rg Try.f28 5) false) (.cond (.tmp 12) (.seq (.region 6 (rg Try.f28 6) false) .ret) .skip)) (.seq (.region 7 (rg Try.f28 7) false) (.seq (.region 8 (rg Try.f28 8) false) .ret)))))))
theorem ent28 (n : Nat) (a0 a1 : AV) (h : AH) : X (n + 1) (.func 28) [a0, a1] h = nrm h (fin1 (arun Try.prog (HK 28) 28 (X n) n none cd28 [a0, a1, .tup [], .tup [], .tup [], .tup [], .tup [], .tup [], .tup [], .tup [], .tup [], .tup [], .tup [], .tup [], .tup [], .tup [], .tup []] h) 4) := by kernel_rfl
section
variable (K : Hint) (fid : FuncId) (call : ACall) (lf : Nat) (rd : Option Nat) (fr : List AV) (h : AH)
theorem reg28_0 : arun Try.prog K fid call lf rd (.region 0 (rg Try.f28 0) false) fr h = regR (aops Try.prog call (rg Try.f28 0) [0, 1, 2] fr h) := by kernel_rfl
theorem st28_0_0 : astep Try.prog call (rg Try.f28 0) 0 fr h = heapS (boxV (fr.getD 0 .top) h) fr 2 := by kernel_rfl
theorem st28_0_1 : astep Try.prog call (rg Try.f28 0) 1 fr h = heapS (boxV (fr.getD 1 .top) h) fr 3 := by kernel_rfl
theorem st28_0_2 : astep Try.prog call (rg Try.f28 0) 2 fr h = pureS (some (.nilSl)) fr 4 h := by kernel_rfl
theorem reg28_1 : arun Try.prog K fid call lf rd (.region 1 (rg Try.f28 1) false) fr h = regR (aops Try.prog call (rg Try.f28 1) [0] fr h) := by kernel_rfl
theorem st28_1_0 : astep Try.prog call (rg Try.f28 1) 0 fr h = heapS (newV Try.prog 47 h) fr 5 := by kernel_rfl
theorem reg28_2 : arun Try.prog K fid call lf rd (.region 2 (rg Try.f28 2) false) fr h = regR (aops Try.prog call (rg Try.f28 2) [0, 1] fr h) := by kernel_rfl
theorem st28_2_0 : astep Try.prog call (rg Try.f28 2) 0 fr h = pureS (ldV Try.prog 3 (fr.getD 3 .top) h) fr 7 h := by kernel_rfl
theorem st28_2_1 : astep Try.prog call (rg Try.f28 2) 1 fr h = pureS (abin Try.prog .leq 3 (.tmp 7) (.const (.int .i64 0)) (fr.getD 7 .top) (.int .i64 0)) fr 8 h := by kernel_rfl
theorem reg28_3 : arun Try.prog K fid call lf rd (.region 3 (rg Try.f28 3) false) fr h = regR (aops Try.prog call (rg Try.f28 3) [0] fr h) := by kernel_rfl
theorem st28_3_0 : astep Try.prog call (rg Try.f28 3) 0 fr h = pureS (some (.nilSl)) fr 4 h := by kernel_rfl
theorem reg28_4 : arun Try.prog K fid call lf rd (.region 4 (rg Try.f28 4) false) fr h = regR (aops Try.prog call (rg Try.f28 4) [0, 1, 2] fr h) := by kernel_rfl
theorem st28_4_0 : astep Try.prog call (rg Try.f28 4) 0 fr h = pureS (ldV Try.prog 49 (fr.getD 2 .top) h) fr 9 h := by kernel_rfl
theorem st28_4_1 : astep Try.prog call (rg Try.f28 4) 1 fr h = heapS (callV call (.fn (.func 51) [] []) [(fr.getD 9 .top)] h) fr 10 := by kernel_rfl
theorem st28_4_2 : astep Try.prog call (rg Try.f28 4) 2 fr h = pureS (some (fr.getD 10 .top)) fr 6 h := by kernel_rfl
theorem reg28_5 : arun Try.prog K fid call lf rd (.region 5 (rg Try.f28 5) false) fr h = regR (aops Try.prog call (rg Try.f28 5) [0, 1] fr h) := by kernel_rfl
theorem st28_5_0 : astep Try.prog call (rg Try.f28 5) 0 fr h = pureS (some (fr.getD 6 .top)) fr 11 h := by kernel_rfl
theorem st28_5_1 : astep Try.prog call (rg Try.f28 5) 1 fr h = pureS (abin Try.prog .eql 80 (.tmp 11) (.const .nilFunc) (fr.getD 11 .top) (.nilFn)) fr 12 h := by kernel_rfl
theorem reg28_6 : arun Try.prog K fid call lf rd (.region 6 (rg Try.f28 6) false) fr h = regR (aops Try.prog call (rg Try.f28 6) [0] fr h) := by kernel_rfl
theorem st28_6_0 : astep Try.prog call (rg Try.f28 6) 0 fr h = pureS (some (.nilSl)) fr 4 h := by kernel_rfl
theorem reg28_7 : arun Try.prog K fid call lf rd (.region 7 (rg Try.f28 7) false) fr h = regR (aops Try.prog call (rg Try.f28 7) [0, 1, 2] fr h) := by kernel_rfl
theorem st28_7_0 : astep Try.prog call (rg Try.f28 7) 0 fr h = pureS (some (fr.getD 6 .top)) fr 13 h := by kernel_rfl
theorem st28_7_1 : astep Try.prog call (rg Try.f28 7) 1 fr h = pureS (some (.fn (.func 52) [] [(fr.getD 5 .top), (fr.getD 3 .top)])) fr 14 h := by kernel_rfl
theorem st28_7_2 : astep Try.prog call (rg Try.f28 7) 2 fr h = heapS (callV call (fr.getD 13 .top) [(fr.getD 14 .top)] h) fr 15 := by kernel_rfl
theorem reg28_8 : arun Try.prog K fid call lf rd (.region 8 (rg Try.f28 8) false) fr h = regR (aops Try.prog call (rg Try.f28 8) [0, 1] fr h) := by kernel_rfl
theorem st28_8_0 : astep Try.prog call (rg Try.f28 8) 0 fr h = pureS (ldV Try.prog 47 (fr.getD 5 .top) h) fr 16 h := by kernel_rfl
theorem st28_8_1 : astep Try.prog call (rg Try.f28 8) 1 fr h = pureS (some (fr.getD 16 .top)) fr 4 h := by kernel_rfl
end
-- SIMP28: reg28_0, st28_0_0, st28_0_1, st28_0_2, reg28_1, st28_1_0, reg28_2, st28_2_0, st28_2_1, reg28_3, st28_3_0, reg28_4, st28_4_0, st28_4_1, st28_4_2, reg28_5, st28_5_0, st28_5_1, reg28_6, st28_6_0, reg28_7, st28_7_0, st28_7_1, st28_7_2, reg28_8, st28_8_0, st28_8_1

/-! ### 52: conch/conchlaw42.nodes$1 -/
noncomputable def cd52 : Code := (.seq (.region 0 (rg Try.f52 0) false) (.seq (.region 1 (rg Try.f52 1) true) (.seq (.region 2 (rg Try.f52 2) false) .ret)))
theorem ent52 (n : Nat) (a0 a1 a2 : AV) (h : AH) : X (n + 1) (.func 52) [a0, a1, a2] h = (fin1 (arun Try.prog (HK 52) 52 (X n) n none cd52 [a0, a1, a2, .tup [], .tup [], .tup [], .tup [], .tup [], .tup [], .tup [], .tup [], .tup [], .tup [], .tup [], .tup []] h) 4) := by kernel_rfl
section
variable (K : Hint) (fid : FuncId) (call : ACall) (lf : Nat) (rd : Option Nat) (fr : List AV) (h : AH)
theorem reg52_0 : arun Try.prog K fid call lf rd (.region 0 (rg Try.f52 0) false) fr h = regR (aops Try.prog call (rg Try.f52 0) [0, 1] fr h) := by kernel_rfl
theorem st52_0_0 : astep Try.prog call (rg Try.f52 0) 0 fr h = heapS (boxV (fr.getD 0 .top) h) fr 3 := by kernel_rfl
theorem st52_0_1 : astep Try.prog call (rg Try.f52 0) 1 fr h = pureS (some (.bool false)) fr 4 h := by kernel_rfl
theorem dok52_1 : drawOK Try.prog (befs (rg Try.f52 1).toList []) (rg Try.f52 1) = false := by kernel_rfl
theorem prs52_1 : pairsOK Try.prog (befs (rg Try.f52 1).toList []) (rg Try.f52 1) [(0, 3), (1, 3)] = true := by kernel_rfl
theorem rng52_1 : List.range (rg Try.f52 1).size = [0, 1, 2, 3, 4, 5, 6, 7] := by kernel_rfl
theorem flo52_1 : floatOK Try.prog (befs (rg Try.f52 1).toList []) (rg Try.f52 1) ((rg Try.f52 1).size - 1) = true := by kernel_rfl
theorem fls52_1 : floatsOK (befs (rg Try.f52 1).toList []) (rg Try.f52 1) ((rg Try.f52 1).size - 1) [6] = true := by kernel_rfl
theorem siz52_1 : (rg Try.f52 1).size - 1 = 7 := by kernel_rfl
theorem drw52_1 {r : List AV × AH} (h0 : aops Try.prog call (rg Try.f52 1) [0, 1, 2, 3, 4, 5, 6, 7] fr h = some r) (hq : ∀ p ∈ ([(0, 3), (1, 3)] : List (Nat × Nat)), PairOK Try.prog call (rg Try.f52 1) fr h p.1 p.2) (ha : ∀ i ∈ ([6] : List Nat), ApartAt Try.prog call (rg Try.f52 1) fr h ((rg Try.f52 1).size - 1) i) : arun Try.prog (HK 52) fid call lf rd (.region 1 (rg Try.f52 1) true) fr h = regR (some r) := (show _ = regR (adraw Try.prog call (rg Try.f52 1) fr h) by kernel_rfl).trans (congrArg regR (adraw_float _ _ dok52_1 flo52_1 prs52_1 fls52_1 ((congrArg (fun l => aops Try.prog call (rg Try.f52 1) l fr h) rng52_1).trans h0) hq (by simp) ha))
theorem li52_1_0 : loadI Try.prog (rg Try.f52 1) 0 fr h = ldV Try.prog 47 (fr.getD 1 .top) h := by kernel_rfl
theorem li52_1_1 : loadI Try.prog (rg Try.f52 1) 1 fr h = ldV Try.prog 49 (fr.getD 3 .top) h := by kernel_rfl
theorem rng52_1_0 : List.range 0 = [] := by rfl
theorem rng52_1_1 : List.range 1 = [0] := by rfl
theorem rng52_1_3 : List.range 3 = [0, 1, 2] := by rfl
theorem rng52_1_4 : List.range 4 = [0, 1, 2, 3] := by rfl
theorem rng52_1_6 : List.range 6 = [0, 1, 2, 3, 4, 5] := by rfl
theorem rng52_1_7 : List.range 7 = [0, 1, 2, 3, 4, 5, 6] := by rfl
theorem st52_1_0 : astep Try.prog call (rg Try.f52 1) 0 fr h = pureS (ldV Try.prog 47 (fr.getD 1 .top) h) fr 5 h := by kernel_rfl
theorem st52_1_1 : astep Try.prog call (rg Try.f52 1) 1 fr h = pureS (ldV Try.prog 49 (fr.getD 3 .top) h) fr 6 h := by kernel_rfl
theorem st52_1_2 : astep Try.prog call (rg Try.f52 1) 2 fr h = pureS (lenV (alen Try.prog 47 (fr.getD 5 .top))) fr 7 h := by kernel_rfl
theorem st52_1_3 : astep Try.prog call (rg Try.f52 1) 3 fr h = heapS (bslV Try.prog 47 1 [(0, (.agg [.int .i64 0, .str [], .bool false, .bool false, .nilSl, .nilSl, .nilSl, .nilSl, .nilSl, .nilSl]))] h) fr 8 := by kernel_rfl
theorem st52_1_4 : astep Try.prog call (rg Try.f52 1) 4 fr h = heapS (aappend Try.prog 47 47 (fr.getD 5 .top) (fr.getD 8 .top) h) fr 9 := by kernel_rfl
theorem st52_1_5 : astep Try.prog call (rg Try.f52 1) 5 fr h = pureS (aindexAt Try.prog 47 (fr.getD 9 .top) (fr.getD 7 .top)) fr 10 h := by kernel_rfl
theorem st52_1_6 : astep Try.prog call (rg Try.f52 1) 6 fr h = heapN (stV Try.prog 49 (fr.getD 10 .top) (fr.getD 6 .top) h) fr := by kernel_rfl
theorem st52_1_7 : astep Try.prog call (rg Try.f52 1) 7 fr h = heapN (stV Try.prog 47 (fr.getD 1 .top) (fr.getD 9 .top) h) fr := by kernel_rfl
theorem reg52_2 : arun Try.prog K fid call lf rd (.region 2 (rg Try.f52 2) false) fr h = regR (aops Try.prog call (rg Try.f52 2) [0, 1, 2, 3, 4] fr h) := by kernel_rfl
theorem st52_2_0 : astep Try.prog call (rg Try.f52 2) 0 fr h = pureS (ldV Try.prog 47 (fr.getD 1 .top) h) fr 11 h := by kernel_rfl
theorem st52_2_1 : astep Try.prog call (rg Try.f52 2) 1 fr h = pureS (lenV (alen Try.prog 47 (fr.getD 11 .top))) fr 12 h := by kernel_rfl
theorem st52_2_2 : astep Try.prog call (rg Try.f52 2) 2 fr h = pureS (ldV Try.prog 3 (fr.getD 2 .top) h) fr 13 h := by kernel_rfl
theorem st52_2_3 : astep Try.prog call (rg Try.f52 2) 3 fr h = pureS (abin Try.prog .lss 3 (.tmp 12) (.tmp 13) (fr.getD 12 .top) (fr.getD 13 .top)) fr 14 h := by kernel_rfl
theorem st52_2_4 : astep Try.prog call (rg Try.f52 2) 4 fr h = pureS (some (fr.getD 14 .top)) fr 4 h := by kernel_rfl
end
-- SIMP52: reg52_0, st52_0_0, st52_0_1, st52_1_0, st52_1_1, st52_1_2, st52_1_3, st52_1_4, st52_1_5, st52_1_6, st52_1_7, reg52_2, st52_2_0, st52_2_1, st52_2_2, st52_2_3, st52_2_4

end Go.Proofs.Ytgnacecplaemlaa
