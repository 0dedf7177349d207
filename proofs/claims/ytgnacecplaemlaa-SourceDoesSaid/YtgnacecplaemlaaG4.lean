import Derived.Test.YtgnacecplaemlaaS5
namespace Go.Proofs.Ytgnacecplaemlaa
open AI
set_option linter.unusedVariables false
/-! ### 4: conch/conchlaw37.SourceDoes -/
noncomputable def lp4_3 : Code := (.seq (.seq (.region 3 (rg Try.f4 3) false) (.cond (.tmp 20) .skip (.exit 0))) (.seq (.block 1 (.seq (.seq (.region 5 (rg Try.f4 5) false) (.cond (.tmp 38) (.seq (.region 6 (rg Try.f4 6) false) .ret) .skip)) (.seq (.seq (.region 7 (rg Try.f4 7) false) (.cond (.tmp 45) (.seq (.region 8 (rg Try.f4 8) true) (.cond (.tmp 70) (.seq (.region 9 (rg Try.f4 9) false) .ret) .skip)) (.seq (.region 10 (rg Try.f4 10) false) (.cond (.tmp 75) (.seq (.region 11 (rg Try.f4 11) false) .ret) .skip)))) (.seq (.region 12 (rg Try.f4 12) false) (.seq (.region 13 (rg Try.f4 13) false) (.seq (.region 14 (rg Try.f4 14) true) (.cond (.tmp 136) (.seq (.region 15 (rg Try.f4 15) false) .ret) .skip))))))) (.region 4 (rg Try.f4 4) false)))
theorem cl4_3 (x0 x1 x2 x3 x4 x5 x6 x7 x8 x9 x10 x11 x12 x13 x14 x15 x16 x17 x18 x19 x20 x21 x22 x23 x24 x25 x26 x27 x28 x29 x30 x31 x32 x33 x34 x35 x36 x37 x38 x39 x40 x41 x42 x43 x44 x45 x46 x47 x48 x49 x50 x51 x52 x53 x54 x55 x56 x57 x58 x59 x60 x61 x62 x63 x64 x65 x66 x67 x68 x69 x70 x71 x72 x73 x74 x75 x76 x77 x78 x79 x80 x81 x82 x83 x84 x85 x86 x87 x88 x89 x90 x91 x92 x93 x94 x95 x96 x97 x98 x99 x100 x101 x102 x103 x104 x105 x106 x107 x108 x109 x110 x111 x112 x113 x114 x115 x116 x117 x118 x119 x120 x121 x122 x123 x124 x125 x126 x127 x128 x129 x130 x131 x132 x133 x134 x135 x136 x137 x138 x139 x140 x141 x142 x143 x144 : AV) : aclear (HK 4) lp4_3 [x0, x1, x2, x3, x4, x5, x6, x7, x8, x9, x10, x11, x12, x13, x14, x15, x16, x17, x18, x19, x20, x21, x22, x23, x24, x25, x26, x27, x28, x29, x30, x31, x32, x33, x34, x35, x36, x37, x38, x39, x40, x41, x42, x43, x44, x45, x46, x47, x48, x49, x50, x51, x52, x53, x54, x55, x56, x57, x58, x59, x60, x61, x62, x63, x64, x65, x66, x67, x68, x69, x70, x71, x72, x73, x74, x75, x76, x77, x78, x79, x80, x81, x82, x83, x84, x85, x86, x87, x88, x89, x90, x91, x92, x93, x94, x95, x96, x97, x98, x99, x100, x101, x102, x103, x104, x105, x106, x107, x108, x109, x110, x111, x112, x113, x114, x115, x116, x117, x118, x119, x120, x121, x122, x123, x124, x125, x126, x127, x128, x129, x130, x131, x132, x133, x134, x135, x136, x137, x138, x139, x140, x141, x142, x143, x144] = [x0, .top, x2, x3, x4, x5, .top, .top, .top, .top, .top, .top, .top, .top, .top, .top, .top, .top, .top, .top, .top, .top, .top, .top, .top, .top, .top, .top, .top, .top, .top, .top, .top, .top, .top, .top, .top, .top, .top, .top, .top, .top, .top, .top, .top, .top, .top, .top, .top, .top, .top, .top, .top, .top, .top, .top, .top, .top, .top, .top, .top, .top, .top, .top, .top, .top, .top, .top, .top, .top, .top, .top, .top, .top, .top, .top, .top, .top, .top, .top, .top, .top, .top, .top, .top, .top, .top, .top, .top, .top, .top, .top, .top, .top, .top, .top, .top, .top, .top, .top, .top, .top, .top, .top, .top, .top, .top, .top, .top, .top, .top, .top, .top, .top, .top, .top, .top, .top, .top, .top, .top, .top, .top, .top, .top, .top, .top, .top, .top, .top, .top, .top, .top, .top, .top, .top, .top, .top, .top, .top, .top, .top, .top, .top, .top] := by kernel_rfl
noncomputable def cd4 : Code := (.seq (.region 0 (rg Try.f4 0) false) (.seq (.region 1 (rg Try.f4 1) false) (.seq (.seq (.region 2 (rg Try.f4 2) false) (.block 0 (.loop lp4_3))) (.seq (.region 16 (rg Try.f4 16) false) .ret))))
theorem ent4 (n : Nat) (a0 : AV) (h : AH) : X (n + 1) 4 [a0] h = fin1 (arun Try.prog (HK 4) (X n) n cd4 [a0, .tup [], .tup [], .tup [], .tup [], .tup [], .tup [], .tup [], .tup [], .tup [], .tup [], .tup [], .tup [], .tup [], .tup [], .tup [], .tup [], .tup [], .tup [], .tup [], .tup [], .tup [], .tup [], .tup [], .tup [], .tup [], .tup [], .tup [], .tup [], .tup [], .tup [], .tup [], .tup [], .tup [], .tup [], .tup [], .tup [], .tup [], .tup [], .tup [], .tup [], .tup [], .tup [], .tup [], .tup [], .tup [], .tup [], .tup [], .tup [], .tup [], .tup [], .tup [], .tup [], .tup [], .tup [], .tup [], .tup [], .tup [], .tup [], .tup [], .tup [], .tup [], .tup [], .tup [], .tup [], .tup [], .tup [], .tup [], .tup [], .tup [], .tup [], .tup [], .tup [], .tup [], .tup [], .tup [], .tup [], .tup [], .tup [], .tup [], .tup [], .tup [], .tup [], .tup [], .tup [], .tup [], .tup [], .tup [], .tup [], .tup [], .tup [], .tup [], .tup [], .tup [], .tup [], .tup [], .tup [], .tup [], .tup [], .tup [], .tup [], .tup [], .tup [], .tup [], .tup [], .tup [], .tup [], .tup [], .tup [], .tup [], .tup [], .tup [], .tup [], .tup [], .tup [], .tup [], .tup [], .tup [], .tup [], .tup [], .tup [], .tup [], .tup [], .tup [], .tup [], .tup [], .tup [], .tup [], .tup [], .tup [], .tup [], .tup [], .tup [], .tup [], .tup [], .tup [], .tup [], .tup [], .tup [], .tup [], .tup [], .tup [], .tup [], .tup [], .tup []] h) 2 := by kernel_rfl
section
variable (K : Hint) (call : FuncId → List AV → AH → Option (AV × AH)) (lf : Nat) (fr : List AV) (h : AH)
theorem reg4_0 : arun Try.prog K call lf (.region 0 (rg Try.f4 0) false) fr h = regR (aops Try.prog call (rg Try.f4 0) [0] fr h) := by kernel_rfl
theorem st4_0_0 : astep Try.prog call (rg Try.f4 0) 0 fr h = pureS (some (.bool false)) fr 2 h := by kernel_rfl
theorem reg4_1 : arun Try.prog K call lf (.region 1 (rg Try.f4 1) false) fr h = regR (aops Try.prog call (rg Try.f4 1) [0, 1, 2, 3, 4] fr h) := by kernel_rfl
theorem st4_1_0 : astep Try.prog call (rg Try.f4 1) 0 fr h = heapS (callV call (.fn (.func 9) [] []) [] h) fr 10 := by kernel_rfl
theorem st4_1_1 : astep Try.prog call (rg Try.f4 1) 1 fr h = pureS (abuild Try.prog 35 []) fr 11 h := by kernel_rfl
theorem st4_1_2 : astep Try.prog call (rg Try.f4 1) 2 fr h = heapS (boxV (fr.getD 11 .top) h) fr 12 := by kernel_rfl
theorem st4_1_3 : astep Try.prog call (rg Try.f4 1) 3 fr h = pureS (some (fr.getD 10 .top)) fr 3 h := by kernel_rfl
theorem st4_1_4 : astep Try.prog call (rg Try.f4 1) 4 fr h = pureS (some (fr.getD 12 .top)) fr 4 h := by kernel_rfl
theorem reg4_2 : arun Try.prog K call lf (.region 2 (rg Try.f4 2) false) fr h = regR (aops Try.prog call (rg Try.f4 2) [0] fr h) := by kernel_rfl
theorem st4_2_0 : astep Try.prog call (rg Try.f4 2) 0 fr h = pureS (some (.int .i64 0)) fr 5 h := by kernel_rfl
theorem reg4_3 : arun Try.prog K call lf (.region 3 (rg Try.f4 3) false) fr h = regR (aops Try.prog call (rg Try.f4 3) [0, 1, 2, 3, 4, 5, 6, 7] fr h) := by kernel_rfl
theorem st4_3_0 : astep Try.prog call (rg Try.f4 3) 0 fr h = pureS (some (fr.getD 5 .top)) fr 13 h := by kernel_rfl
theorem st4_3_1 : astep Try.prog call (rg Try.f4 3) 1 fr h = pureS (some (fr.getD 0 .top)) fr 14 h := by kernel_rfl
theorem st4_3_2 : astep Try.prog call (rg Try.f4 3) 2 fr h = pureS (lenV (alen Try.prog 31 (fr.getD 14 .top))) fr 15 h := by kernel_rfl
theorem st4_3_3 : astep Try.prog call (rg Try.f4 3) 3 fr h = pureS (abin Try.prog .lss 3 (.tmp 13) (.tmp 15) (fr.getD 13 .top) (fr.getD 15 .top)) fr 16 h := by kernel_rfl
theorem st4_3_4 : astep Try.prog call (rg Try.f4 3) 4 fr h = pureS (some (fr.getD 16 .top)) fr 17 h := by kernel_rfl
theorem st4_3_5 : astep Try.prog call (rg Try.f4 3) 5 fr h = gdS (fr.getD 17 .top) true (some (fr.set 18 (.tup []), h)) (pureS (some (fr.getD 5 .top)) fr 18 h) := by kernel_rfl
theorem st4_3_6 : astep Try.prog call (rg Try.f4 3) 6 fr h = gdS (fr.getD 17 .top) true (some (fr.set 19 (.tup []), h)) (pureS (abin Try.prog .lss 3 (.tmp 18) (.const (.int .i64 120)) (fr.getD 18 .top) (.int .i64 120)) fr 19 h) := by kernel_rfl
theorem st4_3_7 : astep Try.prog call (rg Try.f4 3) 7 fr h = pureS (pickV (fr.getD 17 .top) (fr.getD 19 .top) (.bool false)) fr 20 h := by kernel_rfl
theorem reg4_5 : arun Try.prog K call lf (.region 5 (rg Try.f4 5) false) fr h = regR (aops Try.prog call (rg Try.f4 5) [0, 1, 2, 3, 4, 5, 6, 7, 8, 9, 10, 11, 12, 13, 14, 15] fr h) := by kernel_rfl
theorem st4_5_0 : astep Try.prog call (rg Try.f4 5) 0 fr h = pureS (some (fr.getD 0 .top)) fr 23 h := by kernel_rfl
theorem st4_5_1 : astep Try.prog call (rg Try.f4 5) 1 fr h = pureS (some (fr.getD 5 .top)) fr 24 h := by kernel_rfl
theorem st4_5_2 : astep Try.prog call (rg Try.f4 5) 2 fr h = pureS (aindexAt Try.prog 31 (fr.getD 23 .top) (fr.getD 24 .top)) fr 25 h := by kernel_rfl
theorem st4_5_3 : astep Try.prog call (rg Try.f4 5) 3 fr h = pureS (afieldAt Try.prog 37 (fr.getD 25 .top) 1) fr 26 h := by kernel_rfl
theorem st4_5_4 : astep Try.prog call (rg Try.f4 5) 4 fr h = pureS (ldV Try.prog 9 (fr.getD 26 .top) h) fr 27 h := by kernel_rfl
theorem st4_5_5 : astep Try.prog call (rg Try.f4 5) 5 fr h = pureS (lenV (alen Try.prog 9 (fr.getD 27 .top))) fr 28 h := by kernel_rfl
theorem st4_5_6 : astep Try.prog call (rg Try.f4 5) 6 fr h = pureS (abin Try.prog .gtr 3 (.tmp 28) (.const (.int .i64 1000)) (fr.getD 28 .top) (.int .i64 1000)) fr 29 h := by kernel_rfl
theorem st4_5_7 : astep Try.prog call (rg Try.f4 5) 7 fr h = pureS (some (fr.getD 29 .top)) fr 30 h := by kernel_rfl
theorem st4_5_8 : astep Try.prog call (rg Try.f4 5) 8 fr h = gdS (fr.getD 30 .top) false (some (fr.set 31 (.tup []), h)) (pureS (some (fr.getD 0 .top)) fr 31 h) := by kernel_rfl
theorem st4_5_9 : astep Try.prog call (rg Try.f4 5) 9 fr h = gdS (fr.getD 30 .top) false (some (fr.set 32 (.tup []), h)) (pureS (some (fr.getD 5 .top)) fr 32 h) := by kernel_rfl
theorem st4_5_10 : astep Try.prog call (rg Try.f4 5) 10 fr h = gdS (fr.getD 30 .top) false (some (fr.set 33 (.tup []), h)) (pureS (aindexAt Try.prog 31 (fr.getD 31 .top) (fr.getD 32 .top)) fr 33 h) := by kernel_rfl
theorem st4_5_11 : astep Try.prog call (rg Try.f4 5) 11 fr h = gdS (fr.getD 30 .top) false (some (fr.set 34 (.tup []), h)) (pureS (afieldAt Try.prog 37 (fr.getD 33 .top) 2) fr 34 h) := by kernel_rfl
theorem st4_5_12 : astep Try.prog call (rg Try.f4 5) 12 fr h = gdS (fr.getD 30 .top) false (some (fr.set 35 (.tup []), h)) (pureS (ldV Try.prog 9 (fr.getD 34 .top) h) fr 35 h) := by kernel_rfl
theorem st4_5_13 : astep Try.prog call (rg Try.f4 5) 13 fr h = gdS (fr.getD 30 .top) false (some (fr.set 36 (.tup []), h)) (pureS (lenV (alen Try.prog 9 (fr.getD 35 .top))) fr 36 h) := by kernel_rfl
theorem st4_5_14 : astep Try.prog call (rg Try.f4 5) 14 fr h = gdS (fr.getD 30 .top) false (some (fr.set 37 (.tup []), h)) (pureS (abin Try.prog .gtr 3 (.tmp 36) (.const (.int .i64 1000)) (fr.getD 36 .top) (.int .i64 1000)) fr 37 h) := by kernel_rfl
theorem st4_5_15 : astep Try.prog call (rg Try.f4 5) 15 fr h = pureS (pickV (fr.getD 30 .top) (.bool true) (fr.getD 37 .top)) fr 38 h := by kernel_rfl
theorem reg4_6 : arun Try.prog K call lf (.region 6 (rg Try.f4 6) false) fr h = regR (aops Try.prog call (rg Try.f4 6) [0, 1] fr h) := by kernel_rfl
theorem st4_6_0 : astep Try.prog call (rg Try.f4 6) 0 fr h = heapS (callV call (.fn (.func 8) [] []) [] h) fr 39 := by kernel_rfl
theorem st4_6_1 : astep Try.prog call (rg Try.f4 6) 1 fr h = pureS (some (fr.getD 39 .top)) fr 2 h := by kernel_rfl
theorem reg4_7 : arun Try.prog K call lf (.region 7 (rg Try.f4 7) false) fr h = regR (aops Try.prog call (rg Try.f4 7) [0, 1, 2, 3, 4, 5] fr h) := by kernel_rfl
theorem st4_7_0 : astep Try.prog call (rg Try.f4 7) 0 fr h = pureS (some (fr.getD 0 .top)) fr 40 h := by kernel_rfl
theorem st4_7_1 : astep Try.prog call (rg Try.f4 7) 1 fr h = pureS (some (fr.getD 5 .top)) fr 41 h := by kernel_rfl
theorem st4_7_2 : astep Try.prog call (rg Try.f4 7) 2 fr h = pureS (aindexAt Try.prog 31 (fr.getD 40 .top) (fr.getD 41 .top)) fr 42 h := by kernel_rfl
theorem st4_7_3 : astep Try.prog call (rg Try.f4 7) 3 fr h = pureS (afieldAt Try.prog 37 (fr.getD 42 .top) 0) fr 43 h := by kernel_rfl
theorem st4_7_4 : astep Try.prog call (rg Try.f4 7) 4 fr h = pureS (ldV Try.prog 3 (fr.getD 43 .top) h) fr 44 h := by kernel_rfl
theorem st4_7_5 : astep Try.prog call (rg Try.f4 7) 5 fr h = pureS (abin Try.prog .eql 3 (.tmp 44) (.const (.int .i64 0)) (fr.getD 44 .top) (.int .i64 0)) fr 45 h := by kernel_rfl
theorem dok4_8 : drawOK Try.prog (befs (rg Try.f4 8).toList []) (rg Try.f4 8) = true := by kernel_rfl
theorem prs4_8 : pairsOK Try.prog (befs (rg Try.f4 8).toList []) (rg Try.f4 8) [(17, 11), (22, 11)] = true := by kernel_rfl
theorem rng4_8 : List.range (rg Try.f4 8).size = [0, 1, 2, 3, 4, 5, 6, 7, 8, 9, 10, 11, 12, 13, 14, 15, 16, 17, 18, 19, 20, 21, 22, 23, 24] := by kernel_rfl
theorem drw4_8 {r : List AV × AH} (h0 : aops Try.prog call (rg Try.f4 8) [0, 1, 2, 3, 4, 5, 6, 7, 8, 9, 10, 11, 12, 13, 14, 15, 16, 17, 18, 19, 20, 21, 22, 23, 24] fr h = some r) (hq : ∀ p ∈ ([(17, 11), (22, 11)] : List (Nat × Nat)), PairOK Try.prog call (rg Try.f4 8) fr h p.1 p.2) : arun Try.prog K call lf (.region 8 (rg Try.f4 8) true) fr h = regR (some r) := (show _ = regR (adraw Try.prog call (rg Try.f4 8) fr h) by kernel_rfl).trans (congrArg regR (adraw_eval _ dok4_8 prs4_8 ((congrArg (fun l => aops Try.prog call (rg Try.f4 8) l fr h) rng4_8).trans h0) hq))
theorem li4_8_17 : loadI Try.prog (rg Try.f4 8) 17 fr h = ldV Try.prog 9 (fr.getD 62 .top) h := by kernel_rfl
theorem li4_8_22 : loadI Try.prog (rg Try.f4 8) 22 fr h = ldV Try.prog 9 (fr.getD 67 .top) h := by kernel_rfl
theorem rng4_8_11 : List.range 11 = [0, 1, 2, 3, 4, 5, 6, 7, 8, 9, 10] := by rfl
theorem rng4_8_12 : List.range 12 = [0, 1, 2, 3, 4, 5, 6, 7, 8, 9, 10, 11] := by rfl
theorem rng4_8_17 : List.range 17 = [0, 1, 2, 3, 4, 5, 6, 7, 8, 9, 10, 11, 12, 13, 14, 15, 16] := by rfl
theorem rng4_8_22 : List.range 22 = [0, 1, 2, 3, 4, 5, 6, 7, 8, 9, 10, 11, 12, 13, 14, 15, 16, 17, 18, 19, 20, 21] := by rfl
theorem st4_8_0 : astep Try.prog call (rg Try.f4 8) 0 fr h = pureS (some (fr.getD 3 .top)) fr 46 h := by kernel_rfl
theorem st4_8_1 : astep Try.prog call (rg Try.f4 8) 1 fr h = pureS (some (fr.getD 0 .top)) fr 47 h := by kernel_rfl
theorem st4_8_2 : astep Try.prog call (rg Try.f4 8) 2 fr h = pureS (some (fr.getD 5 .top)) fr 48 h := by kernel_rfl
theorem st4_8_3 : astep Try.prog call (rg Try.f4 8) 3 fr h = pureS (aindexAt Try.prog 31 (fr.getD 47 .top) (fr.getD 48 .top)) fr 49 h := by kernel_rfl
theorem st4_8_4 : astep Try.prog call (rg Try.f4 8) 4 fr h = pureS (afieldAt Try.prog 37 (fr.getD 49 .top) 1) fr 50 h := by kernel_rfl
theorem st4_8_5 : astep Try.prog call (rg Try.f4 8) 5 fr h = pureS (ldV Try.prog 9 (fr.getD 50 .top) h) fr 51 h := by kernel_rfl
theorem st4_8_6 : astep Try.prog call (rg Try.f4 8) 6 fr h = pureS (some (fr.getD 0 .top)) fr 52 h := by kernel_rfl
theorem st4_8_7 : astep Try.prog call (rg Try.f4 8) 7 fr h = pureS (some (fr.getD 5 .top)) fr 53 h := by kernel_rfl
theorem st4_8_8 : astep Try.prog call (rg Try.f4 8) 8 fr h = pureS (aindexAt Try.prog 31 (fr.getD 52 .top) (fr.getD 53 .top)) fr 54 h := by kernel_rfl
theorem st4_8_9 : astep Try.prog call (rg Try.f4 8) 9 fr h = pureS (afieldAt Try.prog 37 (fr.getD 54 .top) 2) fr 55 h := by kernel_rfl
theorem st4_8_10 : astep Try.prog call (rg Try.f4 8) 10 fr h = pureS (ldV Try.prog 9 (fr.getD 55 .top) h) fr 56 h := by kernel_rfl
theorem st4_8_11 : astep Try.prog call (rg Try.f4 8) 11 fr h = heapS (callV call (.fn (.func 10) [] []) [(fr.getD 46 .top), (fr.getD 51 .top), (fr.getD 56 .top)] h) fr 57 := by kernel_rfl
theorem st4_8_12 : astep Try.prog call (rg Try.f4 8) 12 fr h = pureS (some (fr.getD 4 .top)) fr 58 h := by kernel_rfl
theorem st4_8_13 : astep Try.prog call (rg Try.f4 8) 13 fr h = pureS (some (fr.getD 0 .top)) fr 59 h := by kernel_rfl
theorem st4_8_14 : astep Try.prog call (rg Try.f4 8) 14 fr h = pureS (some (fr.getD 5 .top)) fr 60 h := by kernel_rfl
theorem st4_8_15 : astep Try.prog call (rg Try.f4 8) 15 fr h = pureS (aindexAt Try.prog 31 (fr.getD 59 .top) (fr.getD 60 .top)) fr 61 h := by kernel_rfl
theorem st4_8_16 : astep Try.prog call (rg Try.f4 8) 16 fr h = pureS (afieldAt Try.prog 37 (fr.getD 61 .top) 1) fr 62 h := by kernel_rfl
theorem st4_8_17 : astep Try.prog call (rg Try.f4 8) 17 fr h = pureS (ldV Try.prog 9 (fr.getD 62 .top) h) fr 63 h := by kernel_rfl
theorem st4_8_18 : astep Try.prog call (rg Try.f4 8) 18 fr h = pureS (some (fr.getD 0 .top)) fr 64 h := by kernel_rfl
theorem st4_8_19 : astep Try.prog call (rg Try.f4 8) 19 fr h = pureS (some (fr.getD 5 .top)) fr 65 h := by kernel_rfl
theorem st4_8_20 : astep Try.prog call (rg Try.f4 8) 20 fr h = pureS (aindexAt Try.prog 31 (fr.getD 64 .top) (fr.getD 65 .top)) fr 66 h := by kernel_rfl
theorem st4_8_21 : astep Try.prog call (rg Try.f4 8) 21 fr h = pureS (afieldAt Try.prog 37 (fr.getD 66 .top) 2) fr 67 h := by kernel_rfl
theorem st4_8_22 : astep Try.prog call (rg Try.f4 8) 22 fr h = pureS (ldV Try.prog 9 (fr.getD 67 .top) h) fr 68 h := by kernel_rfl
theorem st4_8_23 : astep Try.prog call (rg Try.f4 8) 23 fr h = heapS (callV call (.fn (.func 15) [] []) [(fr.getD 58 .top), (fr.getD 63 .top), (fr.getD 68 .top)] h) fr 69 := by kernel_rfl
theorem st4_8_24 : astep Try.prog call (rg Try.f4 8) 24 fr h = pureS (abin Try.prog .neq 4 (.tmp 57) (.tmp 69) (fr.getD 57 .top) (fr.getD 69 .top)) fr 70 h := by kernel_rfl
theorem reg4_9 : arun Try.prog K call lf (.region 9 (rg Try.f4 9) false) fr h = regR (aops Try.prog call (rg Try.f4 9) [0] fr h) := by kernel_rfl
theorem st4_9_0 : astep Try.prog call (rg Try.f4 9) 0 fr h = pureS (some (.bool false)) fr 2 h := by kernel_rfl
theorem reg4_10 : arun Try.prog K call lf (.region 10 (rg Try.f4 10) false) fr h = regR (aops Try.prog call (rg Try.f4 10) [0, 1, 2, 3, 4] fr h) := by kernel_rfl
theorem st4_10_0 : astep Try.prog call (rg Try.f4 10) 0 fr h = pureS (some (fr.getD 3 .top)) fr 71 h := by kernel_rfl
theorem st4_10_1 : astep Try.prog call (rg Try.f4 10) 1 fr h = heapS (callV call (.fn (.func 12) [] []) [(fr.getD 71 .top)] h) fr 72 := by kernel_rfl
theorem st4_10_2 : astep Try.prog call (rg Try.f4 10) 2 fr h = pureS (some (fr.getD 4 .top)) fr 73 h := by kernel_rfl
theorem st4_10_3 : astep Try.prog call (rg Try.f4 10) 3 fr h = heapS (callV call (.fn (.func 16) [] []) [(fr.getD 73 .top)] h) fr 74 := by kernel_rfl
theorem st4_10_4 : astep Try.prog call (rg Try.f4 10) 4 fr h = pureS (abin Try.prog .neq 4 (.tmp 72) (.tmp 74) (fr.getD 72 .top) (fr.getD 74 .top)) fr 75 h := by kernel_rfl
theorem reg4_11 : arun Try.prog K call lf (.region 11 (rg Try.f4 11) false) fr h = regR (aops Try.prog call (rg Try.f4 11) [0] fr h) := by kernel_rfl
theorem st4_11_0 : astep Try.prog call (rg Try.f4 11) 0 fr h = pureS (some (.bool false)) fr 2 h := by kernel_rfl
theorem reg4_12 : arun Try.prog K call lf (.region 12 (rg Try.f4 12) false) fr h = regR (aops Try.prog call (rg Try.f4 12) [0, 1, 2, 3, 4, 5, 6] fr h) := by kernel_rfl
theorem st4_12_0 : astep Try.prog call (rg Try.f4 12) 0 fr h = pureS (some (fr.getD 3 .top)) fr 77 h := by kernel_rfl
theorem st4_12_1 : astep Try.prog call (rg Try.f4 12) 1 fr h = heapS (callV call (.fn (.func 11) [] []) [(fr.getD 77 .top)] h) fr 78 := by kernel_rfl
theorem st4_12_2 : astep Try.prog call (rg Try.f4 12) 2 fr h = pureS (some (fr.getD 78 .top)) fr 76 h := by kernel_rfl
theorem st4_12_3 : astep Try.prog call (rg Try.f4 12) 3 fr h = pureS (extV (fr.getD 76 .top) 0) fr 79 h := by kernel_rfl
theorem st4_12_4 : astep Try.prog call (rg Try.f4 12) 4 fr h = pureS (extV (fr.getD 76 .top) 1) fr 80 h := by kernel_rfl
theorem st4_12_5 : astep Try.prog call (rg Try.f4 12) 5 fr h = pureS (some (fr.getD 79 .top)) fr 6 h := by kernel_rfl
theorem st4_12_6 : astep Try.prog call (rg Try.f4 12) 6 fr h = pureS (some (fr.getD 80 .top)) fr 7 h := by kernel_rfl
theorem reg4_13 : arun Try.prog K call lf (.region 13 (rg Try.f4 13) false) fr h = regR (aops Try.prog call (rg Try.f4 13) [0, 1, 2, 3, 4, 5, 6] fr h) := by kernel_rfl
theorem st4_13_0 : astep Try.prog call (rg Try.f4 13) 0 fr h = pureS (some (fr.getD 4 .top)) fr 82 h := by kernel_rfl
theorem st4_13_1 : astep Try.prog call (rg Try.f4 13) 1 fr h = heapS (callV call (.fn (.func 17) [] []) [(fr.getD 82 .top)] h) fr 83 := by kernel_rfl
theorem st4_13_2 : astep Try.prog call (rg Try.f4 13) 2 fr h = pureS (some (fr.getD 83 .top)) fr 81 h := by kernel_rfl
theorem st4_13_3 : astep Try.prog call (rg Try.f4 13) 3 fr h = pureS (extV (fr.getD 81 .top) 0) fr 84 h := by kernel_rfl
theorem st4_13_4 : astep Try.prog call (rg Try.f4 13) 4 fr h = pureS (extV (fr.getD 81 .top) 1) fr 85 h := by kernel_rfl
theorem st4_13_5 : astep Try.prog call (rg Try.f4 13) 5 fr h = pureS (some (fr.getD 84 .top)) fr 8 h := by kernel_rfl
theorem st4_13_6 : astep Try.prog call (rg Try.f4 13) 6 fr h = pureS (some (fr.getD 85 .top)) fr 9 h := by kernel_rfl
theorem dok4_14 : drawOK Try.prog (befs (rg Try.f4 14).toList []) (rg Try.f4 14) = true := by kernel_rfl
theorem prs4_14 : pairsOK Try.prog (befs (rg Try.f4 14).toList []) (rg Try.f4 14) [(14, 10), (31, 27), (47, 41)] = true := by kernel_rfl
theorem rng4_14 : List.range (rg Try.f4 14).size = [0, 1, 2, 3, 4, 5, 6, 7, 8, 9, 10, 11, 12, 13, 14, 15, 16, 17, 18, 19, 20, 21, 22, 23, 24, 25, 26, 27, 28, 29, 30, 31, 32, 33, 34, 35, 36, 37, 38, 39, 40, 41, 42, 43, 44, 45, 46, 47, 48, 49, 50] := by kernel_rfl
theorem drw4_14 {r : List AV × AH} (h0 : aops Try.prog call (rg Try.f4 14) [0, 1, 2, 3, 4, 5, 6, 7, 8, 9, 10, 11, 12, 13, 14, 15, 16, 17, 18, 19, 20, 21, 22, 23, 24, 25, 26, 27, 28, 29, 30, 31, 32, 33, 34, 35, 36, 37, 38, 39, 40, 41, 42, 43, 44, 45, 46, 47, 48, 49, 50] fr h = some r) (hq : ∀ p ∈ ([(14, 10), (31, 27), (47, 41)] : List (Nat × Nat)), PairOK Try.prog call (rg Try.f4 14) fr h p.1 p.2) : arun Try.prog K call lf (.region 14 (rg Try.f4 14) true) fr h = regR (some r) := (show _ = regR (adraw Try.prog call (rg Try.f4 14) fr h) by kernel_rfl).trans (congrArg regR (adraw_eval _ dok4_14 prs4_14 ((congrArg (fun l => aops Try.prog call (rg Try.f4 14) l fr h) rng4_14).trans h0) hq))
theorem li4_14_14 : loadI Try.prog (rg Try.f4 14) 14 fr h = ldV Try.prog 33 (fr.getD 99 .top) h := by kernel_rfl
theorem li4_14_31 : loadI Try.prog (rg Try.f4 14) 31 fr h = ldV Try.prog 3 (fr.getD 116 .top) h := by kernel_rfl
theorem li4_14_47 : loadI Try.prog (rg Try.f4 14) 47 fr h = ldV Try.prog 9 (fr.getD 132 .top) h := by kernel_rfl
theorem rng4_14_10 : List.range 10 = [0, 1, 2, 3, 4, 5, 6, 7, 8, 9] := by rfl
theorem rng4_14_11 : List.range 11 = [0, 1, 2, 3, 4, 5, 6, 7, 8, 9, 10] := by rfl
theorem rng4_14_14 : List.range 14 = [0, 1, 2, 3, 4, 5, 6, 7, 8, 9, 10, 11, 12, 13] := by rfl
theorem rng4_14_27 : List.range 27 = [0, 1, 2, 3, 4, 5, 6, 7, 8, 9, 10, 11, 12, 13, 14, 15, 16, 17, 18, 19, 20, 21, 22, 23, 24, 25, 26] := by rfl
theorem rng4_14_28 : List.range 28 = [0, 1, 2, 3, 4, 5, 6, 7, 8, 9, 10, 11, 12, 13, 14, 15, 16, 17, 18, 19, 20, 21, 22, 23, 24, 25, 26, 27] := by rfl
theorem rng4_14_31 : List.range 31 = [0, 1, 2, 3, 4, 5, 6, 7, 8, 9, 10, 11, 12, 13, 14, 15, 16, 17, 18, 19, 20, 21, 22, 23, 24, 25, 26, 27, 28, 29, 30] := by rfl
theorem rng4_14_41 : List.range 41 = [0, 1, 2, 3, 4, 5, 6, 7, 8, 9, 10, 11, 12, 13, 14, 15, 16, 17, 18, 19, 20, 21, 22, 23, 24, 25, 26, 27, 28, 29, 30, 31, 32, 33, 34, 35, 36, 37, 38, 39, 40] := by rfl
theorem rng4_14_42 : List.range 42 = [0, 1, 2, 3, 4, 5, 6, 7, 8, 9, 10, 11, 12, 13, 14, 15, 16, 17, 18, 19, 20, 21, 22, 23, 24, 25, 26, 27, 28, 29, 30, 31, 32, 33, 34, 35, 36, 37, 38, 39, 40, 41] := by rfl
theorem rng4_14_47 : List.range 47 = [0, 1, 2, 3, 4, 5, 6, 7, 8, 9, 10, 11, 12, 13, 14, 15, 16, 17, 18, 19, 20, 21, 22, 23, 24, 25, 26, 27, 28, 29, 30, 31, 32, 33, 34, 35, 36, 37, 38, 39, 40, 41, 42, 43, 44, 45, 46] := by rfl
theorem st4_14_0 : astep Try.prog call (rg Try.f4 14) 0 fr h = pureS (some (fr.getD 6 .top)) fr 86 h := by kernel_rfl
theorem st4_14_1 : astep Try.prog call (rg Try.f4 14) 1 fr h = pureS (some (fr.getD 8 .top)) fr 87 h := by kernel_rfl
theorem st4_14_2 : astep Try.prog call (rg Try.f4 14) 2 fr h = pureS (abin Try.prog .neq 5 (.tmp 86) (.tmp 87) (fr.getD 86 .top) (fr.getD 87 .top)) fr 88 h := by kernel_rfl
theorem st4_14_3 : astep Try.prog call (rg Try.f4 14) 3 fr h = pureS (some (fr.getD 88 .top)) fr 89 h := by kernel_rfl
theorem st4_14_4 : astep Try.prog call (rg Try.f4 14) 4 fr h = gdS (fr.getD 89 .top) false (some (fr.set 90 (.tup []), h)) (pureS (some (fr.getD 7 .top)) fr 90 h) := by kernel_rfl
theorem st4_14_5 : astep Try.prog call (rg Try.f4 14) 5 fr h = gdS (fr.getD 89 .top) false (some (fr.set 91 (.tup []), h)) (pureS (some (fr.getD 9 .top)) fr 91 h) := by kernel_rfl
theorem st4_14_6 : astep Try.prog call (rg Try.f4 14) 6 fr h = gdS (fr.getD 89 .top) false (some (fr.set 92 (.tup []), h)) (pureS (abin Try.prog .neq 4 (.tmp 90) (.tmp 91) (fr.getD 90 .top) (fr.getD 91 .top)) fr 92 h) := by kernel_rfl
theorem st4_14_7 : astep Try.prog call (rg Try.f4 14) 7 fr h = pureS (pickV (fr.getD 89 .top) (.bool true) (fr.getD 92 .top)) fr 93 h := by kernel_rfl
theorem st4_14_8 : astep Try.prog call (rg Try.f4 14) 8 fr h = pureS (some (fr.getD 93 .top)) fr 94 h := by kernel_rfl
theorem st4_14_9 : astep Try.prog call (rg Try.f4 14) 9 fr h = gdS (fr.getD 94 .top) false (some (fr.set 95 (.tup []), h)) (pureS (some (fr.getD 3 .top)) fr 95 h) := by kernel_rfl
theorem st4_14_10 : astep Try.prog call (rg Try.f4 14) 10 fr h = gdS (fr.getD 94 .top) false (some (fr.set 96 (.tup []), h)) (heapS (callV call (.fn (.func 18) [] []) [(fr.getD 95 .top)] h) fr 96) := by kernel_rfl
theorem st4_14_11 : astep Try.prog call (rg Try.f4 14) 11 fr h = gdS (fr.getD 94 .top) false (some (fr.set 97 (.tup []), h)) (pureS (some (fr.getD 4 .top)) fr 97 h) := by kernel_rfl
theorem st4_14_12 : astep Try.prog call (rg Try.f4 14) 12 fr h = gdS (fr.getD 94 .top) false (some (fr.set 98 (.tup []), h)) (pureS (anilCheck (fr.getD 97 .top)) fr 98 h) := by kernel_rfl
theorem st4_14_13 : astep Try.prog call (rg Try.f4 14) 13 fr h = gdS (fr.getD 94 .top) false (some (fr.set 99 (.tup []), h)) (pureS (afieldAt Try.prog 35 (fr.getD 98 .top) 0) fr 99 h) := by kernel_rfl
theorem st4_14_14 : astep Try.prog call (rg Try.f4 14) 14 fr h = gdS (fr.getD 94 .top) false (some (fr.set 100 (.tup []), h)) (pureS (ldV Try.prog 33 (fr.getD 99 .top) h) fr 100 h) := by kernel_rfl
theorem st4_14_15 : astep Try.prog call (rg Try.f4 14) 15 fr h = gdS (fr.getD 94 .top) false (some (fr.set 101 (.tup []), h)) (pureS (lenV (alen Try.prog 33 (fr.getD 100 .top))) fr 101 h) := by kernel_rfl
theorem st4_14_16 : astep Try.prog call (rg Try.f4 14) 16 fr h = gdS (fr.getD 94 .top) false (some (fr.set 102 (.tup []), h)) (pureS (abin Try.prog .neq 3 (.tmp 96) (.tmp 101) (fr.getD 96 .top) (fr.getD 101 .top)) fr 102 h) := by kernel_rfl
theorem st4_14_17 : astep Try.prog call (rg Try.f4 14) 17 fr h = pureS (pickV (fr.getD 94 .top) (.bool true) (fr.getD 102 .top)) fr 103 h := by kernel_rfl
theorem st4_14_18 : astep Try.prog call (rg Try.f4 14) 18 fr h = pureS (some (fr.getD 103 .top)) fr 104 h := by kernel_rfl
theorem st4_14_19 : astep Try.prog call (rg Try.f4 14) 19 fr h = gdS (fr.getD 104 .top) false (some (fr.set 105 (.tup []), h)) (pureS (some (fr.getD 3 .top)) fr 105 h) := by kernel_rfl
theorem st4_14_20 : astep Try.prog call (rg Try.f4 14) 20 fr h = gdS (fr.getD 104 .top) false (some (fr.set 106 (.tup []), h)) (heapS (callV call (.fn (.func 13) [] []) [(fr.getD 105 .top)] h) fr 106) := by kernel_rfl
theorem st4_14_21 : astep Try.prog call (rg Try.f4 14) 21 fr h = gdS (fr.getD 104 .top) false (some (fr.set 107 (.tup []), h)) (pureS (some (fr.getD 4 .top)) fr 107 h) := by kernel_rfl
theorem st4_14_22 : astep Try.prog call (rg Try.f4 14) 22 fr h = gdS (fr.getD 104 .top) false (some (fr.set 108 (.tup []), h)) (heapS (callV call (.fn (.func 19) [] []) [(fr.getD 107 .top)] h) fr 108) := by kernel_rfl
theorem st4_14_23 : astep Try.prog call (rg Try.f4 14) 23 fr h = gdS (fr.getD 104 .top) false (some (fr.set 109 (.tup []), h)) (pureS (abin Try.prog .neq 3 (.tmp 106) (.tmp 108) (fr.getD 106 .top) (fr.getD 108 .top)) fr 109 h) := by kernel_rfl
theorem st4_14_24 : astep Try.prog call (rg Try.f4 14) 24 fr h = pureS (pickV (fr.getD 104 .top) (.bool true) (fr.getD 109 .top)) fr 110 h := by kernel_rfl
theorem st4_14_25 : astep Try.prog call (rg Try.f4 14) 25 fr h = pureS (some (fr.getD 110 .top)) fr 111 h := by kernel_rfl
theorem st4_14_26 : astep Try.prog call (rg Try.f4 14) 26 fr h = gdS (fr.getD 111 .top) false (some (fr.set 112 (.tup []), h)) (pureS (some (fr.getD 3 .top)) fr 112 h) := by kernel_rfl
theorem st4_14_27 : astep Try.prog call (rg Try.f4 14) 27 fr h = gdS (fr.getD 111 .top) false (some (fr.set 113 (.tup []), h)) (heapS (callV call (.fn (.func 14) [] []) [(fr.getD 112 .top)] h) fr 113) := by kernel_rfl
theorem st4_14_28 : astep Try.prog call (rg Try.f4 14) 28 fr h = gdS (fr.getD 111 .top) false (some (fr.set 114 (.tup []), h)) (pureS (some (fr.getD 4 .top)) fr 114 h) := by kernel_rfl
theorem st4_14_29 : astep Try.prog call (rg Try.f4 14) 29 fr h = gdS (fr.getD 111 .top) false (some (fr.set 115 (.tup []), h)) (pureS (anilCheck (fr.getD 114 .top)) fr 115 h) := by kernel_rfl
theorem st4_14_30 : astep Try.prog call (rg Try.f4 14) 30 fr h = gdS (fr.getD 111 .top) false (some (fr.set 116 (.tup []), h)) (pureS (afieldAt Try.prog 35 (fr.getD 115 .top) 1) fr 116 h) := by kernel_rfl
theorem st4_14_31 : astep Try.prog call (rg Try.f4 14) 31 fr h = gdS (fr.getD 111 .top) false (some (fr.set 117 (.tup []), h)) (pureS (ldV Try.prog 3 (fr.getD 116 .top) h) fr 117 h) := by kernel_rfl
theorem st4_14_32 : astep Try.prog call (rg Try.f4 14) 32 fr h = gdS (fr.getD 111 .top) false (some (fr.set 118 (.tup []), h)) (pureS (abin Try.prog .neq 3 (.tmp 113) (.tmp 117) (fr.getD 113 .top) (fr.getD 117 .top)) fr 118 h) := by kernel_rfl
theorem st4_14_33 : astep Try.prog call (rg Try.f4 14) 33 fr h = pureS (pickV (fr.getD 111 .top) (.bool true) (fr.getD 118 .top)) fr 119 h := by kernel_rfl
theorem st4_14_34 : astep Try.prog call (rg Try.f4 14) 34 fr h = pureS (some (fr.getD 119 .top)) fr 120 h := by kernel_rfl
theorem st4_14_35 : astep Try.prog call (rg Try.f4 14) 35 fr h = gdS (fr.getD 120 .top) false (some (fr.set 121 (.tup []), h)) (pureS (some (fr.getD 3 .top)) fr 121 h) := by kernel_rfl
theorem st4_14_36 : astep Try.prog call (rg Try.f4 14) 36 fr h = gdS (fr.getD 120 .top) false (some (fr.set 122 (.tup []), h)) (pureS (some (fr.getD 0 .top)) fr 122 h) := by kernel_rfl
theorem st4_14_37 : astep Try.prog call (rg Try.f4 14) 37 fr h = gdS (fr.getD 120 .top) false (some (fr.set 123 (.tup []), h)) (pureS (some (fr.getD 5 .top)) fr 123 h) := by kernel_rfl
theorem st4_14_38 : astep Try.prog call (rg Try.f4 14) 38 fr h = gdS (fr.getD 120 .top) false (some (fr.set 124 (.tup []), h)) (pureS (aindexAt Try.prog 31 (fr.getD 122 .top) (fr.getD 123 .top)) fr 124 h) := by kernel_rfl
theorem st4_14_39 : astep Try.prog call (rg Try.f4 14) 39 fr h = gdS (fr.getD 120 .top) false (some (fr.set 125 (.tup []), h)) (pureS (afieldAt Try.prog 37 (fr.getD 124 .top) 1) fr 125 h) := by kernel_rfl
theorem st4_14_40 : astep Try.prog call (rg Try.f4 14) 40 fr h = gdS (fr.getD 120 .top) false (some (fr.set 126 (.tup []), h)) (pureS (ldV Try.prog 9 (fr.getD 125 .top) h) fr 126 h) := by kernel_rfl
theorem st4_14_41 : astep Try.prog call (rg Try.f4 14) 41 fr h = gdS (fr.getD 120 .top) false (some (fr.set 127 (.tup []), h)) (heapS (callV call (.fn (.func 20) [] []) [(fr.getD 121 .top), (fr.getD 126 .top)] h) fr 127) := by kernel_rfl
theorem st4_14_42 : astep Try.prog call (rg Try.f4 14) 42 fr h = gdS (fr.getD 120 .top) false (some (fr.set 128 (.tup []), h)) (pureS (some (fr.getD 4 .top)) fr 128 h) := by kernel_rfl
theorem st4_14_43 : astep Try.prog call (rg Try.f4 14) 43 fr h = gdS (fr.getD 120 .top) false (some (fr.set 129 (.tup []), h)) (pureS (some (fr.getD 0 .top)) fr 129 h) := by kernel_rfl
theorem st4_14_44 : astep Try.prog call (rg Try.f4 14) 44 fr h = gdS (fr.getD 120 .top) false (some (fr.set 130 (.tup []), h)) (pureS (some (fr.getD 5 .top)) fr 130 h) := by kernel_rfl
theorem st4_14_45 : astep Try.prog call (rg Try.f4 14) 45 fr h = gdS (fr.getD 120 .top) false (some (fr.set 131 (.tup []), h)) (pureS (aindexAt Try.prog 31 (fr.getD 129 .top) (fr.getD 130 .top)) fr 131 h) := by kernel_rfl
theorem st4_14_46 : astep Try.prog call (rg Try.f4 14) 46 fr h = gdS (fr.getD 120 .top) false (some (fr.set 132 (.tup []), h)) (pureS (afieldAt Try.prog 37 (fr.getD 131 .top) 1) fr 132 h) := by kernel_rfl
theorem st4_14_47 : astep Try.prog call (rg Try.f4 14) 47 fr h = gdS (fr.getD 120 .top) false (some (fr.set 133 (.tup []), h)) (pureS (ldV Try.prog 9 (fr.getD 132 .top) h) fr 133 h) := by kernel_rfl
theorem st4_14_48 : astep Try.prog call (rg Try.f4 14) 48 fr h = gdS (fr.getD 120 .top) false (some (fr.set 134 (.tup []), h)) (heapS (callV call (.fn (.func 21) [] []) [(fr.getD 128 .top), (fr.getD 133 .top)] h) fr 134) := by kernel_rfl
theorem st4_14_49 : astep Try.prog call (rg Try.f4 14) 49 fr h = gdS (fr.getD 120 .top) false (some (fr.set 135 (.tup []), h)) (pureS (abin Try.prog .neq 4 (.tmp 127) (.tmp 134) (fr.getD 127 .top) (fr.getD 134 .top)) fr 135 h) := by kernel_rfl
theorem st4_14_50 : astep Try.prog call (rg Try.f4 14) 50 fr h = pureS (pickV (fr.getD 120 .top) (.bool true) (fr.getD 135 .top)) fr 136 h := by kernel_rfl
theorem reg4_15 : arun Try.prog K call lf (.region 15 (rg Try.f4 15) false) fr h = regR (aops Try.prog call (rg Try.f4 15) [0] fr h) := by kernel_rfl
theorem st4_15_0 : astep Try.prog call (rg Try.f4 15) 0 fr h = pureS (some (.bool false)) fr 2 h := by kernel_rfl
theorem reg4_4 : arun Try.prog K call lf (.region 4 (rg Try.f4 4) false) fr h = regR (aops Try.prog call (rg Try.f4 4) [0, 1, 2] fr h) := by kernel_rfl
theorem st4_4_0 : astep Try.prog call (rg Try.f4 4) 0 fr h = pureS (some (fr.getD 5 .top)) fr 21 h := by kernel_rfl
theorem st4_4_1 : astep Try.prog call (rg Try.f4 4) 1 fr h = pureS (abin Try.prog .add 3 (.tmp 21) (.const (.int .i64 1)) (fr.getD 21 .top) (.int .i64 1)) fr 22 h := by kernel_rfl
theorem st4_4_2 : astep Try.prog call (rg Try.f4 4) 2 fr h = pureS (some (fr.getD 22 .top)) fr 5 h := by kernel_rfl
theorem reg4_16 : arun Try.prog K call lf (.region 16 (rg Try.f4 16) false) fr h = regR (aops Try.prog call (rg Try.f4 16) [0, 1, 2, 3, 4, 5, 6, 7, 8] fr h) := by kernel_rfl
theorem st4_16_0 : astep Try.prog call (rg Try.f4 16) 0 fr h = pureS (some (fr.getD 3 .top)) fr 137 h := by kernel_rfl
theorem st4_16_1 : astep Try.prog call (rg Try.f4 16) 1 fr h = heapS (callV call (.fn (.func 23) [] []) [(fr.getD 137 .top)] h) fr 138 := by kernel_rfl
theorem st4_16_2 : astep Try.prog call (rg Try.f4 16) 2 fr h = pureS (some (fr.getD 4 .top)) fr 139 h := by kernel_rfl
theorem st4_16_3 : astep Try.prog call (rg Try.f4 16) 3 fr h = heapS (callV call (.fn (.func 24) [] []) [(fr.getD 139 .top)] h) fr 140 := by kernel_rfl
theorem st4_16_4 : astep Try.prog call (rg Try.f4 16) 4 fr h = heapS (callV call (.fn (.func 22) [] []) [(fr.getD 138 .top), (fr.getD 140 .top)] h) fr 141 := by kernel_rfl
theorem st4_16_5 : astep Try.prog call (rg Try.f4 16) 5 fr h = pureS (some (fr.getD 141 .top)) fr 142 h := by kernel_rfl
theorem st4_16_6 : astep Try.prog call (rg Try.f4 16) 6 fr h = gdS (fr.getD 142 .top) true (some (fr.set 143 (.tup []), h)) (heapS (callV call (.fn (.func 8) [] []) [] h) fr 143) := by kernel_rfl
theorem st4_16_7 : astep Try.prog call (rg Try.f4 16) 7 fr h = pureS (pickV (fr.getD 142 .top) (fr.getD 143 .top) (.bool false)) fr 144 h := by kernel_rfl
theorem st4_16_8 : astep Try.prog call (rg Try.f4 16) 8 fr h = pureS (some (fr.getD 144 .top)) fr 2 h := by kernel_rfl
end
-- SIMP4: reg4_0, st4_0_0, reg4_1, st4_1_0, st4_1_1, st4_1_2, st4_1_3, st4_1_4, reg4_2, st4_2_0, reg4_3, st4_3_0, st4_3_1, st4_3_2, st4_3_3, st4_3_4, st4_3_5, st4_3_6, st4_3_7, reg4_5, st4_5_0, st4_5_1, st4_5_2, st4_5_3, st4_5_4, st4_5_5, st4_5_6, st4_5_7, st4_5_8, st4_5_9, st4_5_10, st4_5_11, st4_5_12, st4_5_13, st4_5_14, st4_5_15, reg4_6, st4_6_0, st4_6_1, reg4_7, st4_7_0, st4_7_1, st4_7_2, st4_7_3, st4_7_4, st4_7_5, st4_8_0, st4_8_1, st4_8_2, st4_8_3, st4_8_4, st4_8_5, st4_8_6, st4_8_7, st4_8_8, st4_8_9, st4_8_10, st4_8_11, st4_8_12, st4_8_13, st4_8_14, st4_8_15, st4_8_16, st4_8_17, st4_8_18, st4_8_19, st4_8_20, st4_8_21, st4_8_22, st4_8_23, st4_8_24, reg4_9, st4_9_0, reg4_10, st4_10_0, st4_10_1, st4_10_2, st4_10_3, st4_10_4, reg4_11, st4_11_0, reg4_12, st4_12_0, st4_12_1, st4_12_2, st4_12_3, st4_12_4, st4_12_5, st4_12_6, reg4_13, st4_13_0, st4_13_1, st4_13_2, st4_13_3, st4_13_4, st4_13_5, st4_13_6, st4_14_0, st4_14_1, st4_14_2, st4_14_3, st4_14_4, st4_14_5, st4_14_6, st4_14_7, st4_14_8, st4_14_9, st4_14_10, st4_14_11, st4_14_12, st4_14_13, st4_14_14, st4_14_15, st4_14_16, st4_14_17, st4_14_18, st4_14_19, st4_14_20, st4_14_21, st4_14_22, st4_14_23, st4_14_24, st4_14_25, st4_14_26, st4_14_27, st4_14_28, st4_14_29, st4_14_30, st4_14_31, st4_14_32, st4_14_33, st4_14_34, st4_14_35, st4_14_36, st4_14_37, st4_14_38, st4_14_39, st4_14_40, st4_14_41, st4_14_42, st4_14_43, st4_14_44, st4_14_45, st4_14_46, st4_14_47, st4_14_48, st4_14_49, st4_14_50, reg4_15, st4_15_0, reg4_4, st4_4_0, st4_4_1, st4_4_2, reg4_16, st4_16_0, st4_16_1, st4_16_2, st4_16_3, st4_16_4, st4_16_5, st4_16_6, st4_16_7, st4_16_8

end Go.Proofs.Ytgnacecplaemlaa
