import Derived.Test.YtgnacecplaemlaaS5
namespace Go.Proofs.Ytgnacecplaemlaa
open AI
set_option linter.unusedVariables false
/-! ### 3: conch/conchlaw37.SourceReads -/
noncomputable def lp3_9 : Code := (.seq (.seq (.region 9 (rg Try.f3 9) false) (.cond (.tmp 34) .skip (.exit 0))) (.seq (.block 1 (.seq (.seq (.region 11 (rg Try.f3 11) false) (.cond (.tmp 45) (.seq (.region 12 (rg Try.f3 12) false) .ret) .skip)) (.seq (.region 13 (rg Try.f3 13) false) (.seq (.seq (.region 14 (rg Try.f3 14) false) (.cond (.tmp 52) (.exit 0) .skip)) (.seq (.region 15 (rg Try.f3 15) false) (.region 16 (rg Try.f3 16) false)))))) (.region 10 (rg Try.f3 10) false)))
theorem cl3_9 (x0 x1 x2 x3 x4 x5 x6 x7 x8 x9 x10 x11 x12 x13 x14 x15 x16 x17 x18 x19 x20 x21 x22 x23 x24 x25 x26 x27 x28 x29 x30 x31 x32 x33 x34 x35 x36 x37 x38 x39 x40 x41 x42 x43 x44 x45 x46 x47 x48 x49 x50 x51 x52 x53 x54 x55 x56 x57 x58 x59 x60 x61 x62 x63 x64 x65 x66 x67 x68 x69 x70 x71 x72 x73 x74 x75 x76 x77 x78 x79 x80 x81 x82 x83 x84 x85 x86 x87 x88 x89 x90 x91 : AV) : aclear (HK 3) lp3_9 [x0, x1, x2, x3, x4, x5, x6, x7, x8, x9, x10, x11, x12, x13, x14, x15, x16, x17, x18, x19, x20, x21, x22, x23, x24, x25, x26, x27, x28, x29, x30, x31, x32, x33, x34, x35, x36, x37, x38, x39, x40, x41, x42, x43, x44, x45, x46, x47, x48, x49, x50, x51, x52, x53, x54, x55, x56, x57, x58, x59, x60, x61, x62, x63, x64, x65, x66, x67, x68, x69, x70, x71, x72, x73, x74, x75, x76, x77, x78, x79, x80, x81, x82, x83, x84, x85, x86, x87, x88, x89, x90, x91] = [x0, x1, x2, .top, .top, .top, x6, x7, x8, x9, x10, .top, .top, .top, .top, .top, .top, .top, .top, .top, .top, .top, .top, .top, .top, .top, .top, .top, .top, .top, .top, .top, .top, .top, .top, .top, .top, .top, .top, .top, .top, .top, .top, .top, .top, .top, .top, .top, .top, .top, .top, .top, .top, .top, .top, .top, .top, .top, .top, .top, .top, .top, .top, .top, .top, .top, .top, .top, .top, .top, .top, .top, .top, .top, .top, .top, .top, .top, .top, .top, .top, .top, .top, .top, .top, .top, .top, .top, .top, .top, .top, .top] := by kernel_rfl
noncomputable def cd3 : Code := (.seq (.region 0 (rg Try.f3 0) false) (.seq (.seq (.region 1 (rg Try.f3 1) false) (.cond (.tmp 20) (.seq (.region 2 (rg Try.f3 2) false) .ret) .skip)) (.seq (.region 3 (rg Try.f3 3) false) (.seq (.seq (.region 4 (rg Try.f3 4) false) (.cond (.tmp 26) (.seq (.region 5 (rg Try.f3 5) false) .ret) .skip)) (.seq (.region 6 (rg Try.f3 6) false) (.seq (.region 7 (rg Try.f3 7) false) (.seq (.seq (.region 8 (rg Try.f3 8) false) (.block 0 (.loop lp3_9))) (.seq (.region 17 (rg Try.f3 17) true) .ret))))))))
theorem ent3 (n : Nat) (a0 a1 a2 : AV) (h : AH) : X (n + 1) 3 [a0, a1, a2] h = fin1 (arun Try.prog (HK 3) (X n) n cd3 [a0, a1, a2, .tup [], .tup [], .tup [], .tup [], .tup [], .tup [], .tup [], .tup [], .tup [], .tup [], .tup [], .tup [], .tup [], .tup [], .tup [], .tup [], .tup [], .tup [], .tup [], .tup [], .tup [], .tup [], .tup [], .tup [], .tup [], .tup [], .tup [], .tup [], .tup [], .tup [], .tup [], .tup [], .tup [], .tup [], .tup [], .tup [], .tup [], .tup [], .tup [], .tup [], .tup [], .tup [], .tup [], .tup [], .tup [], .tup [], .tup [], .tup [], .tup [], .tup [], .tup [], .tup [], .tup [], .tup [], .tup [], .tup [], .tup [], .tup [], .tup [], .tup [], .tup [], .tup [], .tup [], .tup [], .tup [], .tup [], .tup [], .tup [], .tup [], .tup [], .tup [], .tup [], .tup [], .tup [], .tup [], .tup [], .tup [], .tup [], .tup [], .tup [], .tup [], .tup [], .tup [], .tup [], .tup [], .tup [], .tup [], .tup [], .tup []] h) 6 := by kernel_rfl
section
variable (K : Hint) (call : FuncId → List AV → AH → Option (AV × AH)) (lf : Nat) (fr : List AV) (h : AH)
theorem reg3_0 : arun Try.prog K call lf (.region 0 (rg Try.f3 0) false) fr h = regR (aops Try.prog call (rg Try.f3 0) [0] fr h) := by kernel_rfl
theorem st3_0_0 : astep Try.prog call (rg Try.f3 0) 0 fr h = pureS (some (.bool false)) fr 6 h := by kernel_rfl
theorem reg3_1 : arun Try.prog K call lf (.region 1 (rg Try.f3 1) false) fr h = regR (aops Try.prog call (rg Try.f3 1) [0, 1, 2, 3, 4, 5, 6, 7] fr h) := by kernel_rfl
theorem st3_1_0 : astep Try.prog call (rg Try.f3 1) 0 fr h = pureS (some (fr.getD 0 .top)) fr 13 h := by kernel_rfl
theorem st3_1_1 : astep Try.prog call (rg Try.f3 1) 1 fr h = pureS (lenV (alen Try.prog 9 (fr.getD 13 .top))) fr 14 h := by kernel_rfl
theorem st3_1_2 : astep Try.prog call (rg Try.f3 1) 2 fr h = pureS (abin Try.prog .gtr 3 (.tmp 14) (.const (.int .i64 200)) (fr.getD 14 .top) (.int .i64 200)) fr 15 h := by kernel_rfl
theorem st3_1_3 : astep Try.prog call (rg Try.f3 1) 3 fr h = pureS (some (fr.getD 15 .top)) fr 16 h := by kernel_rfl
theorem st3_1_4 : astep Try.prog call (rg Try.f3 1) 4 fr h = gdS (fr.getD 16 .top) false (some (fr.set 17 (.tup []), h)) (pureS (some (fr.getD 1 .top)) fr 17 h) := by kernel_rfl
theorem st3_1_5 : astep Try.prog call (rg Try.f3 1) 5 fr h = gdS (fr.getD 16 .top) false (some (fr.set 18 (.tup []), h)) (pureS (lenV (alen Try.prog 9 (fr.getD 17 .top))) fr 18 h) := by kernel_rfl
theorem st3_1_6 : astep Try.prog call (rg Try.f3 1) 6 fr h = gdS (fr.getD 16 .top) false (some (fr.set 19 (.tup []), h)) (pureS (abin Try.prog .gtr 3 (.tmp 18) (.const (.int .i64 200)) (fr.getD 18 .top) (.int .i64 200)) fr 19 h) := by kernel_rfl
theorem st3_1_7 : astep Try.prog call (rg Try.f3 1) 7 fr h = pureS (pickV (fr.getD 16 .top) (.bool true) (fr.getD 19 .top)) fr 20 h := by kernel_rfl
theorem reg3_2 : arun Try.prog K call lf (.region 2 (rg Try.f3 2) false) fr h = regR (aops Try.prog call (rg Try.f3 2) [0, 1] fr h) := by kernel_rfl
theorem st3_2_0 : astep Try.prog call (rg Try.f3 2) 0 fr h = heapS (callV call (.fn (.func 8) [] []) [] h) fr 21 := by kernel_rfl
theorem st3_2_1 : astep Try.prog call (rg Try.f3 2) 1 fr h = pureS (some (fr.getD 21 .top)) fr 6 h := by kernel_rfl
theorem reg3_3 : arun Try.prog K call lf (.region 3 (rg Try.f3 3) false) fr h = regR (aops Try.prog call (rg Try.f3 3) [0, 1] fr h) := by kernel_rfl
theorem st3_3_0 : astep Try.prog call (rg Try.f3 3) 0 fr h = heapS (callV call (.fn (.func 9) [] []) [] h) fr 22 := by kernel_rfl
theorem st3_3_1 : astep Try.prog call (rg Try.f3 3) 1 fr h = pureS (some (fr.getD 22 .top)) fr 7 h := by kernel_rfl
theorem reg3_4 : arun Try.prog K call lf (.region 4 (rg Try.f3 4) false) fr h = regR (aops Try.prog call (rg Try.f3 4) [0, 1, 2, 3] fr h) := by kernel_rfl
theorem st3_4_0 : astep Try.prog call (rg Try.f3 4) 0 fr h = pureS (some (fr.getD 7 .top)) fr 23 h := by kernel_rfl
theorem st3_4_1 : astep Try.prog call (rg Try.f3 4) 1 fr h = pureS (some (fr.getD 0 .top)) fr 24 h := by kernel_rfl
theorem st3_4_2 : astep Try.prog call (rg Try.f3 4) 2 fr h = heapS (callV call (.fn (.func 10) [] []) [(fr.getD 23 .top), (.str [118]), (fr.getD 24 .top)] h) fr 25 := by kernel_rfl
theorem st3_4_3 : astep Try.prog call (rg Try.f3 4) 3 fr h = pureS (aun .not (fr.getD 25 .top)) fr 26 h := by kernel_rfl
theorem reg3_5 : arun Try.prog K call lf (.region 5 (rg Try.f3 5) false) fr h = regR (aops Try.prog call (rg Try.f3 5) [0] fr h) := by kernel_rfl
theorem st3_5_0 : astep Try.prog call (rg Try.f3 5) 0 fr h = pureS (some (.bool false)) fr 6 h := by kernel_rfl
theorem reg3_6 : arun Try.prog K call lf (.region 6 (rg Try.f3 6) false) fr h = regR (aops Try.prog call (rg Try.f3 6) [0, 1, 2, 3, 4, 5, 6] fr h) := by kernel_rfl
theorem st3_6_0 : astep Try.prog call (rg Try.f3 6) 0 fr h = pureS (some (fr.getD 2 .top)) fr 27 h := by kernel_rfl
theorem st3_6_1 : astep Try.prog call (rg Try.f3 6) 1 fr h = pureS (aconv Try.prog 5 3 (fr.getD 27 .top)) fr 28 h := by kernel_rfl
theorem st3_6_2 : astep Try.prog call (rg Try.f3 6) 2 fr h = pureS (some (fr.getD 0 .top)) fr 29 h := by kernel_rfl
theorem st3_6_3 : astep Try.prog call (rg Try.f3 6) 3 fr h = pureS (lenV (alen Try.prog 9 (fr.getD 29 .top))) fr 30 h := by kernel_rfl
theorem st3_6_4 : astep Try.prog call (rg Try.f3 6) 4 fr h = pureS (abin Try.prog .add 3 (.tmp 30) (.const (.int .i64 1)) (fr.getD 30 .top) (.int .i64 1)) fr 31 h := by kernel_rfl
theorem st3_6_5 : astep Try.prog call (rg Try.f3 6) 5 fr h = pureS (abin Try.prog .rem 3 (.tmp 28) (.tmp 31) (fr.getD 28 .top) (fr.getD 31 .top)) fr 32 h := by kernel_rfl
theorem st3_6_6 : astep Try.prog call (rg Try.f3 6) 6 fr h = pureS (some (fr.getD 32 .top)) fr 8 h := by kernel_rfl
theorem reg3_7 : arun Try.prog K call lf (.region 7 (rg Try.f3 7) false) fr h = regR (aops Try.prog call (rg Try.f3 7) [0] fr h) := by kernel_rfl
theorem st3_7_0 : astep Try.prog call (rg Try.f3 7) 0 fr h = pureS (some (.str [])) fr 9 h := by kernel_rfl
theorem reg3_8 : arun Try.prog K call lf (.region 8 (rg Try.f3 8) false) fr h = regR (aops Try.prog call (rg Try.f3 8) [0] fr h) := by kernel_rfl
theorem st3_8_0 : astep Try.prog call (rg Try.f3 8) 0 fr h = pureS (some (.int .i64 0)) fr 10 h := by kernel_rfl
theorem reg3_9 : arun Try.prog K call lf (.region 9 (rg Try.f3 9) false) fr h = regR (aops Try.prog call (rg Try.f3 9) [0, 1] fr h) := by kernel_rfl
theorem st3_9_0 : astep Try.prog call (rg Try.f3 9) 0 fr h = pureS (some (fr.getD 10 .top)) fr 33 h := by kernel_rfl
theorem st3_9_1 : astep Try.prog call (rg Try.f3 9) 1 fr h = pureS (abin Try.prog .lss 3 (.tmp 33) (.const (.int .i64 500)) (fr.getD 33 .top) (.int .i64 500)) fr 34 h := by kernel_rfl
theorem reg3_11 : arun Try.prog K call lf (.region 11 (rg Try.f3 11) false) fr h = regR (aops Try.prog call (rg Try.f3 11) [0, 1, 2, 3, 4, 5, 6, 7, 8] fr h) := by kernel_rfl
theorem st3_11_0 : astep Try.prog call (rg Try.f3 11) 0 fr h = pureS (some (fr.getD 10 .top)) fr 37 h := by kernel_rfl
theorem st3_11_1 : astep Try.prog call (rg Try.f3 11) 1 fr h = pureS (some (fr.getD 8 .top)) fr 38 h := by kernel_rfl
theorem st3_11_2 : astep Try.prog call (rg Try.f3 11) 2 fr h = pureS (abin Try.prog .eql 3 (.tmp 37) (.tmp 38) (fr.getD 37 .top) (fr.getD 38 .top)) fr 39 h := by kernel_rfl
theorem st3_11_3 : astep Try.prog call (rg Try.f3 11) 3 fr h = pureS (some (fr.getD 39 .top)) fr 40 h := by kernel_rfl
theorem st3_11_4 : astep Try.prog call (rg Try.f3 11) 4 fr h = gdS (fr.getD 40 .top) true (some (fr.set 41 (.tup []), h)) (pureS (some (fr.getD 7 .top)) fr 41 h) := by kernel_rfl
theorem st3_11_5 : astep Try.prog call (rg Try.f3 11) 5 fr h = gdS (fr.getD 40 .top) true (some (fr.set 42 (.tup []), h)) (pureS (some (fr.getD 1 .top)) fr 42 h) := by kernel_rfl
theorem st3_11_6 : astep Try.prog call (rg Try.f3 11) 6 fr h = gdS (fr.getD 40 .top) true (some (fr.set 43 (.tup []), h)) (heapS (callV call (.fn (.func 10) [] []) [(fr.getD 41 .top), (.str [119]), (fr.getD 42 .top)] h) fr 43) := by kernel_rfl
theorem st3_11_7 : astep Try.prog call (rg Try.f3 11) 7 fr h = gdS (fr.getD 40 .top) true (some (fr.set 44 (.tup []), h)) (pureS (aun .not (fr.getD 43 .top)) fr 44 h) := by kernel_rfl
theorem st3_11_8 : astep Try.prog call (rg Try.f3 11) 8 fr h = pureS (pickV (fr.getD 40 .top) (fr.getD 44 .top) (.bool false)) fr 45 h := by kernel_rfl
theorem reg3_12 : arun Try.prog K call lf (.region 12 (rg Try.f3 12) false) fr h = regR (aops Try.prog call (rg Try.f3 12) [0] fr h) := by kernel_rfl
theorem st3_12_0 : astep Try.prog call (rg Try.f3 12) 0 fr h = pureS (some (.bool false)) fr 6 h := by kernel_rfl
theorem reg3_13 : arun Try.prog K call lf (.region 13 (rg Try.f3 13) false) fr h = regR (aops Try.prog call (rg Try.f3 13) [0, 1, 2, 3, 4, 5, 6] fr h) := by kernel_rfl
theorem st3_13_0 : astep Try.prog call (rg Try.f3 13) 0 fr h = pureS (some (fr.getD 7 .top)) fr 47 h := by kernel_rfl
theorem st3_13_1 : astep Try.prog call (rg Try.f3 13) 1 fr h = heapS (callV call (.fn (.func 11) [] []) [(fr.getD 47 .top)] h) fr 48 := by kernel_rfl
theorem st3_13_2 : astep Try.prog call (rg Try.f3 13) 2 fr h = pureS (some (fr.getD 48 .top)) fr 46 h := by kernel_rfl
theorem st3_13_3 : astep Try.prog call (rg Try.f3 13) 3 fr h = pureS (extV (fr.getD 46 .top) 0) fr 49 h := by kernel_rfl
theorem st3_13_4 : astep Try.prog call (rg Try.f3 13) 4 fr h = pureS (extV (fr.getD 46 .top) 1) fr 50 h := by kernel_rfl
theorem st3_13_5 : astep Try.prog call (rg Try.f3 13) 5 fr h = pureS (some (fr.getD 49 .top)) fr 11 h := by kernel_rfl
theorem st3_13_6 : astep Try.prog call (rg Try.f3 13) 6 fr h = pureS (some (fr.getD 50 .top)) fr 12 h := by kernel_rfl
theorem reg3_14 : arun Try.prog K call lf (.region 14 (rg Try.f3 14) false) fr h = regR (aops Try.prog call (rg Try.f3 14) [0, 1] fr h) := by kernel_rfl
theorem st3_14_0 : astep Try.prog call (rg Try.f3 14) 0 fr h = pureS (some (fr.getD 12 .top)) fr 51 h := by kernel_rfl
theorem st3_14_1 : astep Try.prog call (rg Try.f3 14) 1 fr h = pureS (aun .not (fr.getD 51 .top)) fr 52 h := by kernel_rfl
theorem reg3_15 : arun Try.prog K call lf (.region 15 (rg Try.f3 15) false) fr h = regR (aops Try.prog call (rg Try.f3 15) [0, 1, 2, 3, 4, 5] fr h) := by kernel_rfl
theorem st3_15_0 : astep Try.prog call (rg Try.f3 15) 0 fr h = pureS (some (fr.getD 9 .top)) fr 53 h := by kernel_rfl
theorem st3_15_1 : astep Try.prog call (rg Try.f3 15) 1 fr h = pureS (some (fr.getD 11 .top)) fr 54 h := by kernel_rfl
theorem st3_15_2 : astep Try.prog call (rg Try.f3 15) 2 fr h = heapS (bslV Try.prog 28 1 [(0, (fr.getD 54 .top))] h) fr 55 := by kernel_rfl
theorem st3_15_3 : astep Try.prog call (rg Try.f3 15) 3 fr h = pureS (bytesV (fr.getD 55 .top) h) fr 56 h := by kernel_rfl
theorem st3_15_4 : astep Try.prog call (rg Try.f3 15) 4 fr h = pureS (abin Try.prog .add 9 (.tmp 53) (.tmp 56) (fr.getD 53 .top) (fr.getD 56 .top)) fr 57 h := by kernel_rfl
theorem st3_15_5 : astep Try.prog call (rg Try.f3 15) 5 fr h = pureS (some (fr.getD 57 .top)) fr 9 h := by kernel_rfl
theorem reg3_16 : arun Try.prog K call lf (.region 16 (rg Try.f3 16) false) fr h = regR (aops Try.prog call (rg Try.f3 16) [0, 1] fr h) := by kernel_rfl
theorem st3_16_0 : astep Try.prog call (rg Try.f3 16) 0 fr h = pureS (some (fr.getD 7 .top)) fr 58 h := by kernel_rfl
theorem st3_16_1 : astep Try.prog call (rg Try.f3 16) 1 fr h = heapS (callV call (.fn (.func 12) [] []) [(fr.getD 58 .top)] h) fr 59 := by kernel_rfl
theorem reg3_10 : arun Try.prog K call lf (.region 10 (rg Try.f3 10) false) fr h = regR (aops Try.prog call (rg Try.f3 10) [0, 1, 2] fr h) := by kernel_rfl
theorem st3_10_0 : astep Try.prog call (rg Try.f3 10) 0 fr h = pureS (some (fr.getD 10 .top)) fr 35 h := by kernel_rfl
theorem st3_10_1 : astep Try.prog call (rg Try.f3 10) 1 fr h = pureS (abin Try.prog .add 3 (.tmp 35) (.const (.int .i64 1)) (fr.getD 35 .top) (.int .i64 1)) fr 36 h := by kernel_rfl
theorem st3_10_2 : astep Try.prog call (rg Try.f3 10) 2 fr h = pureS (some (fr.getD 36 .top)) fr 10 h := by kernel_rfl
theorem dok3_17 : drawOK Try.prog (befs (rg Try.f3 17).toList []) (rg Try.f3 17) = true := by kernel_rfl
theorem prs3_17 : pairsOK Try.prog (befs (rg Try.f3 17).toList []) (rg Try.f3 17) [] = true := by kernel_rfl
theorem rng3_17 : List.range (rg Try.f3 17).size = [0, 1, 2, 3, 4, 5, 6, 7, 8, 9, 10, 11, 12, 13, 14, 15, 16, 17, 18, 19, 20, 21, 22, 23, 24, 25, 26, 27, 28, 29, 30, 31, 32] := by kernel_rfl
theorem reg3_17 : arun Try.prog K call lf (.region 17 (rg Try.f3 17) true) fr h = regR (aops Try.prog call (rg Try.f3 17) [0, 1, 2, 3, 4, 5, 6, 7, 8, 9, 10, 11, 12, 13, 14, 15, 16, 17, 18, 19, 20, 21, 22, 23, 24, 25, 26, 27, 28, 29, 30, 31, 32] fr h) := (show _ = regR (adraw Try.prog call (rg Try.f3 17) fr h) by kernel_rfl).trans (congrArg regR ((adraw_plain dok3_17 prs3_17).trans (congrArg (fun l => aops Try.prog call (rg Try.f3 17) l fr h) rng3_17)))
theorem st3_17_0 : astep Try.prog call (rg Try.f3 17) 0 fr h = pureS (some (fr.getD 9 .top)) fr 60 h := by kernel_rfl
theorem st3_17_1 : astep Try.prog call (rg Try.f3 17) 1 fr h = pureS (some (fr.getD 0 .top)) fr 61 h := by kernel_rfl
theorem st3_17_2 : astep Try.prog call (rg Try.f3 17) 2 fr h = pureS (some (fr.getD 8 .top)) fr 62 h := by kernel_rfl
theorem st3_17_3 : astep Try.prog call (rg Try.f3 17) 3 fr h = pureS (aslice Try.prog 9 (fr.getD 61 .top) none (some (fr.getD 62 .top)) none) fr 63 h := by kernel_rfl
theorem st3_17_4 : astep Try.prog call (rg Try.f3 17) 4 fr h = pureS (some (fr.getD 1 .top)) fr 64 h := by kernel_rfl
theorem st3_17_5 : astep Try.prog call (rg Try.f3 17) 5 fr h = pureS (abin Try.prog .add 9 (.tmp 63) (.tmp 64) (fr.getD 63 .top) (fr.getD 64 .top)) fr 65 h := by kernel_rfl
theorem st3_17_6 : astep Try.prog call (rg Try.f3 17) 6 fr h = pureS (abin Try.prog .add 9 (.tmp 65) (.const (.string { data := #[32] })) (fr.getD 65 .top) (.str [32])) fr 66 h := by kernel_rfl
theorem st3_17_7 : astep Try.prog call (rg Try.f3 17) 7 fr h = pureS (some (fr.getD 0 .top)) fr 67 h := by kernel_rfl
theorem st3_17_8 : astep Try.prog call (rg Try.f3 17) 8 fr h = pureS (some (fr.getD 8 .top)) fr 68 h := by kernel_rfl
theorem st3_17_9 : astep Try.prog call (rg Try.f3 17) 9 fr h = pureS (aslice Try.prog 9 (fr.getD 67 .top) (some (fr.getD 68 .top)) none none) fr 69 h := by kernel_rfl
theorem st3_17_10 : astep Try.prog call (rg Try.f3 17) 10 fr h = pureS (abin Try.prog .add 9 (.tmp 66) (.tmp 69) (fr.getD 66 .top) (fr.getD 69 .top)) fr 70 h := by kernel_rfl
theorem st3_17_11 : astep Try.prog call (rg Try.f3 17) 11 fr h = pureS (abin Try.prog .add 9 (.tmp 70) (.const (.string { data := #[32] })) (fr.getD 70 .top) (.str [32])) fr 71 h := by kernel_rfl
theorem st3_17_12 : astep Try.prog call (rg Try.f3 17) 12 fr h = pureS (abin Try.prog .eql 9 (.tmp 60) (.tmp 71) (fr.getD 60 .top) (fr.getD 71 .top)) fr 72 h := by kernel_rfl
theorem st3_17_13 : astep Try.prog call (rg Try.f3 17) 13 fr h = pureS (some (fr.getD 72 .top)) fr 73 h := by kernel_rfl
theorem st3_17_14 : astep Try.prog call (rg Try.f3 17) 14 fr h = gdS (fr.getD 73 .top) true (some (fr.set 74 (.tup []), h)) (pureS (some (fr.getD 7 .top)) fr 74 h) := by kernel_rfl
theorem st3_17_15 : astep Try.prog call (rg Try.f3 17) 15 fr h = gdS (fr.getD 73 .top) true (some (fr.set 75 (.tup []), h)) (heapS (callV call (.fn (.func 13) [] []) [(fr.getD 74 .top)] h) fr 75) := by kernel_rfl
theorem st3_17_16 : astep Try.prog call (rg Try.f3 17) 16 fr h = gdS (fr.getD 73 .top) true (some (fr.set 76 (.tup []), h)) (pureS (abin Try.prog .eql 3 (.tmp 75) (.const (.int .i64 0)) (fr.getD 75 .top) (.int .i64 0)) fr 76 h) := by kernel_rfl
theorem st3_17_17 : astep Try.prog call (rg Try.f3 17) 17 fr h = pureS (pickV (fr.getD 73 .top) (fr.getD 76 .top) (.bool false)) fr 77 h := by kernel_rfl
theorem st3_17_18 : astep Try.prog call (rg Try.f3 17) 18 fr h = pureS (some (fr.getD 77 .top)) fr 78 h := by kernel_rfl
theorem st3_17_19 : astep Try.prog call (rg Try.f3 17) 19 fr h = gdS (fr.getD 78 .top) true (some (fr.set 79 (.tup []), h)) (pureS (some (fr.getD 7 .top)) fr 79 h) := by kernel_rfl
theorem st3_17_20 : astep Try.prog call (rg Try.f3 17) 20 fr h = gdS (fr.getD 78 .top) true (some (fr.set 80 (.tup []), h)) (heapS (callV call (.fn (.func 14) [] []) [(fr.getD 79 .top)] h) fr 80) := by kernel_rfl
theorem st3_17_21 : astep Try.prog call (rg Try.f3 17) 21 fr h = gdS (fr.getD 78 .top) true (some (fr.set 81 (.tup []), h)) (pureS (some (fr.getD 0 .top)) fr 81 h) := by kernel_rfl
theorem st3_17_22 : astep Try.prog call (rg Try.f3 17) 22 fr h = gdS (fr.getD 78 .top) true (some (fr.set 82 (.tup []), h)) (pureS (lenV (alen Try.prog 9 (fr.getD 81 .top))) fr 82 h) := by kernel_rfl
theorem st3_17_23 : astep Try.prog call (rg Try.f3 17) 23 fr h = gdS (fr.getD 78 .top) true (some (fr.set 83 (.tup []), h)) (pureS (some (fr.getD 1 .top)) fr 83 h) := by kernel_rfl
theorem st3_17_24 : astep Try.prog call (rg Try.f3 17) 24 fr h = gdS (fr.getD 78 .top) true (some (fr.set 84 (.tup []), h)) (pureS (lenV (alen Try.prog 9 (fr.getD 83 .top))) fr 84 h) := by kernel_rfl
theorem st3_17_25 : astep Try.prog call (rg Try.f3 17) 25 fr h = gdS (fr.getD 78 .top) true (some (fr.set 85 (.tup []), h)) (pureS (abin Try.prog .add 3 (.tmp 82) (.tmp 84) (fr.getD 82 .top) (fr.getD 84 .top)) fr 85 h) := by kernel_rfl
theorem st3_17_26 : astep Try.prog call (rg Try.f3 17) 26 fr h = gdS (fr.getD 78 .top) true (some (fr.set 86 (.tup []), h)) (pureS (abin Try.prog .add 3 (.tmp 85) (.const (.int .i64 2)) (fr.getD 85 .top) (.int .i64 2)) fr 86 h) := by kernel_rfl
theorem st3_17_27 : astep Try.prog call (rg Try.f3 17) 27 fr h = gdS (fr.getD 78 .top) true (some (fr.set 87 (.tup []), h)) (pureS (abin Try.prog .eql 3 (.tmp 80) (.tmp 86) (fr.getD 80 .top) (fr.getD 86 .top)) fr 87 h) := by kernel_rfl
theorem st3_17_28 : astep Try.prog call (rg Try.f3 17) 28 fr h = pureS (pickV (fr.getD 78 .top) (fr.getD 87 .top) (.bool false)) fr 88 h := by kernel_rfl
theorem st3_17_29 : astep Try.prog call (rg Try.f3 17) 29 fr h = pureS (some (fr.getD 88 .top)) fr 89 h := by kernel_rfl
theorem st3_17_30 : astep Try.prog call (rg Try.f3 17) 30 fr h = gdS (fr.getD 89 .top) true (some (fr.set 90 (.tup []), h)) (heapS (callV call (.fn (.func 8) [] []) [] h) fr 90) := by kernel_rfl
theorem st3_17_31 : astep Try.prog call (rg Try.f3 17) 31 fr h = pureS (pickV (fr.getD 89 .top) (fr.getD 90 .top) (.bool false)) fr 91 h := by kernel_rfl
theorem st3_17_32 : astep Try.prog call (rg Try.f3 17) 32 fr h = pureS (some (fr.getD 91 .top)) fr 6 h := by kernel_rfl
end
-- SIMP3: reg3_0, st3_0_0, reg3_1, st3_1_0, st3_1_1, st3_1_2, st3_1_3, st3_1_4, st3_1_5, st3_1_6, st3_1_7, reg3_2, st3_2_0, st3_2_1, reg3_3, st3_3_0, st3_3_1, reg3_4, st3_4_0, st3_4_1, st3_4_2, st3_4_3, reg3_5, st3_5_0, reg3_6, st3_6_0, st3_6_1, st3_6_2, st3_6_3, st3_6_4, st3_6_5, st3_6_6, reg3_7, st3_7_0, reg3_8, st3_8_0, reg3_9, st3_9_0, st3_9_1, reg3_11, st3_11_0, st3_11_1, st3_11_2, st3_11_3, st3_11_4, st3_11_5, st3_11_6, st3_11_7, st3_11_8, reg3_12, st3_12_0, reg3_13, st3_13_0, st3_13_1, st3_13_2, st3_13_3, st3_13_4, st3_13_5, st3_13_6, reg3_14, st3_14_0, st3_14_1, reg3_15, st3_15_0, st3_15_1, st3_15_2, st3_15_3, st3_15_4, st3_15_5, reg3_16, st3_16_0, st3_16_1, reg3_10, st3_10_0, st3_10_1, st3_10_2, reg3_17, st3_17_0, st3_17_1, st3_17_2, st3_17_3, st3_17_4, st3_17_5, st3_17_6, st3_17_7, st3_17_8, st3_17_9, st3_17_10, st3_17_11, st3_17_12, st3_17_13, st3_17_14, st3_17_15, st3_17_16, st3_17_17, st3_17_18, st3_17_19, st3_17_20, st3_17_21, st3_17_22, st3_17_23, st3_17_24, st3_17_25, st3_17_26, st3_17_27, st3_17_28, st3_17_29, st3_17_30, st3_17_31, st3_17_32

end Go.Proofs.Ytgnacecplaemlaa
