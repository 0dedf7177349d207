import Derived.Test.YtgnacecplaemlaaS5
namespace Go.Proofs.Ytgnacecplaemlaa
open AI
set_option linter.unusedVariables false
/-! ### 15: (*conch/conchref37.Source).Enter -/
noncomputable def cd15 : Code := (.seq (.region 0 (rg Try.f15 0) false) (.seq (.seq (.region 1 (rg Try.f15 1) false) (.cond (.tmp 24) (.seq (.region 2 (rg Try.f15 2) false) .ret) .skip)) (.seq (.region 3 (rg Try.f15 3) false) (.seq (.region 4 (rg Try.f15 4) false) (.seq (.region 5 (rg Try.f15 5) false) (.seq (.region 6 (rg Try.f15 6) false) .ret))))))
theorem ent15 (n : Nat) (a0 a1 a2 : AV) (h : AH) : X (n + 1) 15 [a0, a1, a2] h = fin1 (arun Try.prog (HK 15) (X n) n cd15 [a0, a1, a2, .tup [], .tup [], .tup [], .tup [], .tup [], .tup [], .tup [], .tup [], .tup [], .tup [], .tup [], .tup [], .tup [], .tup [], .tup [], .tup [], .tup [], .tup [], .tup [], .tup [], .tup [], .tup [], .tup [], .tup [], .tup [], .tup [], .tup [], .tup [], .tup [], .tup [], .tup [], .tup [], .tup [], .tup [], .tup [], .tup [], .tup [], .tup [], .tup [], .tup [], .tup [], .tup [], .tup [], .tup [], .tup [], .tup [], .tup [], .tup [], .tup [], .tup [], .tup [], .tup [], .tup [], .tup [], .tup [], .tup []] h) 6 := by kernel_rfl
section
variable (K : Hint) (call : FuncId → List AV → AH → Option (AV × AH)) (lf : Nat) (fr : List AV) (h : AH)
theorem reg15_0 : arun Try.prog K call lf (.region 0 (rg Try.f15 0) false) fr h = regR (aops Try.prog call (rg Try.f15 0) [0] fr h) := by kernel_rfl
theorem st15_0_0 : astep Try.prog call (rg Try.f15 0) 0 fr h = pureS (some (.bool false)) fr 6 h := by kernel_rfl
theorem reg15_1 : arun Try.prog K call lf (.region 1 (rg Try.f15 1) false) fr h = regR (aops Try.prog call (rg Try.f15 1) [0, 1, 2, 3, 4, 5, 6, 7, 8, 9, 10, 11, 12, 13, 14, 15] fr h) := by kernel_rfl
theorem st15_1_0 : astep Try.prog call (rg Try.f15 1) 0 fr h = pureS (some (fr.getD 0 .top)) fr 9 h := by kernel_rfl
theorem st15_1_1 : astep Try.prog call (rg Try.f15 1) 1 fr h = pureS (some (fr.getD 1 .top)) fr 10 h := by kernel_rfl
theorem st15_1_2 : astep Try.prog call (rg Try.f15 1) 2 fr h = heapS (callV call (.fn (.func 21) [] []) [(fr.getD 9 .top), (fr.getD 10 .top)] h) fr 11 := by kernel_rfl
theorem st15_1_3 : astep Try.prog call (rg Try.f15 1) 3 fr h = pureS (some (fr.getD 11 .top)) fr 12 h := by kernel_rfl
theorem st15_1_4 : astep Try.prog call (rg Try.f15 1) 4 fr h = gdS (fr.getD 12 .top) false (some (fr.set 13 (.tup []), h)) (pureS (some (fr.getD 0 .top)) fr 13 h) := by kernel_rfl
theorem st15_1_5 : astep Try.prog call (rg Try.f15 1) 5 fr h = gdS (fr.getD 12 .top) false (some (fr.set 14 (.tup []), h)) (pureS (anilCheck (fr.getD 13 .top)) fr 14 h) := by kernel_rfl
theorem st15_1_6 : astep Try.prog call (rg Try.f15 1) 6 fr h = gdS (fr.getD 12 .top) false (some (fr.set 15 (.tup []), h)) (pureS (afieldAt Try.prog 35 (fr.getD 14 .top) 0) fr 15 h) := by kernel_rfl
theorem st15_1_7 : astep Try.prog call (rg Try.f15 1) 7 fr h = gdS (fr.getD 12 .top) false (some (fr.set 16 (.tup []), h)) (pureS (ldV Try.prog 33 (fr.getD 15 .top) h) fr 16 h) := by kernel_rfl
theorem st15_1_8 : astep Try.prog call (rg Try.f15 1) 8 fr h = gdS (fr.getD 12 .top) false (some (fr.set 17 (.tup []), h)) (pureS (lenV (alen Try.prog 33 (fr.getD 16 .top))) fr 17 h) := by kernel_rfl
theorem st15_1_9 : astep Try.prog call (rg Try.f15 1) 9 fr h = gdS (fr.getD 12 .top) false (some (fr.set 18 (.tup []), h)) (pureS (abin Try.prog .geq 3 (.tmp 17) (.const (.int .i64 40)) (fr.getD 17 .top) (.int .i64 40)) fr 18 h) := by kernel_rfl
theorem st15_1_10 : astep Try.prog call (rg Try.f15 1) 10 fr h = pureS (pickV (fr.getD 12 .top) (.bool true) (fr.getD 18 .top)) fr 19 h := by kernel_rfl
theorem st15_1_11 : astep Try.prog call (rg Try.f15 1) 11 fr h = pureS (some (fr.getD 19 .top)) fr 20 h := by kernel_rfl
theorem st15_1_12 : astep Try.prog call (rg Try.f15 1) 12 fr h = gdS (fr.getD 20 .top) false (some (fr.set 21 (.tup []), h)) (pureS (some (fr.getD 2 .top)) fr 21 h) := by kernel_rfl
theorem st15_1_13 : astep Try.prog call (rg Try.f15 1) 13 fr h = gdS (fr.getD 20 .top) false (some (fr.set 22 (.tup []), h)) (pureS (lenV (alen Try.prog 9 (fr.getD 21 .top))) fr 22 h) := by kernel_rfl
theorem st15_1_14 : astep Try.prog call (rg Try.f15 1) 14 fr h = gdS (fr.getD 20 .top) false (some (fr.set 23 (.tup []), h)) (pureS (abin Try.prog .gtr 3 (.tmp 22) (.const (.int .i64 200)) (fr.getD 22 .top) (.int .i64 200)) fr 23 h) := by kernel_rfl
theorem st15_1_15 : astep Try.prog call (rg Try.f15 1) 15 fr h = pureS (pickV (fr.getD 20 .top) (.bool true) (fr.getD 23 .top)) fr 24 h := by kernel_rfl
theorem reg15_2 : arun Try.prog K call lf (.region 2 (rg Try.f15 2) false) fr h = regR (aops Try.prog call (rg Try.f15 2) [0] fr h) := by kernel_rfl
theorem st15_2_0 : astep Try.prog call (rg Try.f15 2) 0 fr h = pureS (some (.bool false)) fr 6 h := by kernel_rfl
theorem reg15_3 : arun Try.prog K call lf (.region 3 (rg Try.f15 3) false) fr h = regR (aops Try.prog call (rg Try.f15 3) [0, 1, 2] fr h) := by kernel_rfl
theorem st15_3_0 : astep Try.prog call (rg Try.f15 3) 0 fr h = pureS (some (fr.getD 2 .top)) fr 25 h := by kernel_rfl
theorem st15_3_1 : astep Try.prog call (rg Try.f15 3) 1 fr h = pureS (lenV (alen Try.prog 9 (fr.getD 25 .top))) fr 26 h := by kernel_rfl
theorem st15_3_2 : astep Try.prog call (rg Try.f15 3) 2 fr h = pureS (some (fr.getD 26 .top)) fr 7 h := by kernel_rfl
theorem reg15_4 : arun Try.prog K call lf (.region 4 (rg Try.f15 4) false) fr h = regR (aops Try.prog call (rg Try.f15 4) [0, 1, 2, 3, 4, 5, 6, 7, 8, 9, 10, 11, 12, 13, 14, 15, 16] fr h) := by kernel_rfl
theorem st15_4_0 : astep Try.prog call (rg Try.f15 4) 0 fr h = pureS (some (fr.getD 7 .top)) fr 27 h := by kernel_rfl
theorem st15_4_1 : astep Try.prog call (rg Try.f15 4) 1 fr h = pureS (abin Try.prog .gtr 3 (.tmp 27) (.const (.int .i64 0)) (fr.getD 27 .top) (.int .i64 0)) fr 28 h := by kernel_rfl
theorem st15_4_2 : astep Try.prog call (rg Try.f15 4) 2 fr h = pureS (some (fr.getD 28 .top)) fr 29 h := by kernel_rfl
theorem st15_4_3 : astep Try.prog call (rg Try.f15 4) 3 fr h = gdS (fr.getD 29 .top) true (some (fr.set 30 (.tup []), h)) (pureS (some (fr.getD 2 .top)) fr 30 h) := by kernel_rfl
theorem st15_4_4 : astep Try.prog call (rg Try.f15 4) 4 fr h = gdS (fr.getD 29 .top) true (some (fr.set 31 (.tup []), h)) (pureS (some (fr.getD 7 .top)) fr 31 h) := by kernel_rfl
theorem st15_4_5 : astep Try.prog call (rg Try.f15 4) 5 fr h = gdS (fr.getD 29 .top) true (some (fr.set 32 (.tup []), h)) (pureS (abin Try.prog .sub 3 (.tmp 31) (.const (.int .i64 1)) (fr.getD 31 .top) (.int .i64 1)) fr 32 h) := by kernel_rfl
theorem st15_4_6 : astep Try.prog call (rg Try.f15 4) 6 fr h = gdS (fr.getD 29 .top) true (some (fr.set 33 (.tup []), h)) (pureS (aindex Try.prog 9 (fr.getD 30 .top) (fr.getD 32 .top)) fr 33 h) := by kernel_rfl
theorem st15_4_7 : astep Try.prog call (rg Try.f15 4) 7 fr h = gdS (fr.getD 29 .top) true (some (fr.set 34 (.tup []), h)) (pureS (abin Try.prog .eql 5 (.tmp 33) (.const (.int .u8 32)) (fr.getD 33 .top) (.int .u8 32)) fr 34 h) := by kernel_rfl
theorem st15_4_8 : astep Try.prog call (rg Try.f15 4) 8 fr h = gdS (fr.getD 29 .top) true (some (fr.set 35 (.tup []), h)) (pureS (some (fr.getD 34 .top)) fr 35 h) := by kernel_rfl
theorem st15_4_9 : astep Try.prog call (rg Try.f15 4) 9 fr h = gdS (fr.getD 35 .top) false (some (fr.set 36 (.tup []), h)) (pureS (some (fr.getD 2 .top)) fr 36 h) := by kernel_rfl
theorem st15_4_10 : astep Try.prog call (rg Try.f15 4) 10 fr h = gdS (fr.getD 35 .top) false (some (fr.set 37 (.tup []), h)) (pureS (some (fr.getD 7 .top)) fr 37 h) := by kernel_rfl
theorem st15_4_11 : astep Try.prog call (rg Try.f15 4) 11 fr h = gdS (fr.getD 35 .top) false (some (fr.set 38 (.tup []), h)) (pureS (abin Try.prog .sub 3 (.tmp 37) (.const (.int .i64 1)) (fr.getD 37 .top) (.int .i64 1)) fr 38 h) := by kernel_rfl
theorem st15_4_12 : astep Try.prog call (rg Try.f15 4) 12 fr h = gdS (fr.getD 35 .top) false (some (fr.set 39 (.tup []), h)) (pureS (aindex Try.prog 9 (fr.getD 36 .top) (fr.getD 38 .top)) fr 39 h) := by kernel_rfl
theorem st15_4_13 : astep Try.prog call (rg Try.f15 4) 13 fr h = gdS (fr.getD 35 .top) false (some (fr.set 40 (.tup []), h)) (pureS (abin Try.prog .eql 5 (.tmp 39) (.const (.int .u8 9)) (fr.getD 39 .top) (.int .u8 9)) fr 40 h) := by kernel_rfl
theorem st15_4_14 : astep Try.prog call (rg Try.f15 4) 14 fr h = gdS (fr.getD 29 .top) true (some (fr.set 41 (.tup []), h)) (pureS (pickV (fr.getD 35 .top) (.bool true) (fr.getD 40 .top)) fr 41 h) := by kernel_rfl
theorem st15_4_15 : astep Try.prog call (rg Try.f15 4) 15 fr h = pureS (pickV (fr.getD 29 .top) (fr.getD 41 .top) (.bool false)) fr 42 h := by kernel_rfl
theorem st15_4_16 : astep Try.prog call (rg Try.f15 4) 16 fr h = pureS (some (fr.getD 42 .top)) fr 8 h := by kernel_rfl
theorem reg15_5 : arun Try.prog K call lf (.region 5 (rg Try.f15 5) false) fr h = regR (aops Try.prog call (rg Try.f15 5) [0, 1, 2, 3, 4, 5, 6, 7, 8, 9, 10, 11, 12, 13, 14, 15, 16] fr h) := by kernel_rfl
theorem st15_5_0 : astep Try.prog call (rg Try.f15 5) 0 fr h = pureS (some (fr.getD 0 .top)) fr 43 h := by kernel_rfl
theorem st15_5_1 : astep Try.prog call (rg Try.f15 5) 1 fr h = heapS (bslV Try.prog 33 0 [] h) fr 44 := by kernel_rfl
theorem st15_5_2 : astep Try.prog call (rg Try.f15 5) 2 fr h = pureS (some (fr.getD 0 .top)) fr 45 h := by kernel_rfl
theorem st15_5_3 : astep Try.prog call (rg Try.f15 5) 3 fr h = pureS (anilCheck (fr.getD 45 .top)) fr 46 h := by kernel_rfl
theorem st15_5_4 : astep Try.prog call (rg Try.f15 5) 4 fr h = pureS (afieldAt Try.prog 35 (fr.getD 46 .top) 0) fr 47 h := by kernel_rfl
theorem st15_5_5 : astep Try.prog call (rg Try.f15 5) 5 fr h = pureS (ldV Try.prog 33 (fr.getD 47 .top) h) fr 48 h := by kernel_rfl
theorem st15_5_6 : astep Try.prog call (rg Try.f15 5) 6 fr h = heapS (aappend Try.prog 33 33 (fr.getD 44 .top) (fr.getD 48 .top) h) fr 49 := by kernel_rfl
theorem st15_5_7 : astep Try.prog call (rg Try.f15 5) 7 fr h = pureS (some (fr.getD 1 .top)) fr 50 h := by kernel_rfl
theorem st15_5_8 : astep Try.prog call (rg Try.f15 5) 8 fr h = pureS (some (fr.getD 2 .top)) fr 51 h := by kernel_rfl
theorem st15_5_9 : astep Try.prog call (rg Try.f15 5) 9 fr h = pureS (abin Try.prog .add 9 (.tmp 51) (.const (.string { data := #[32] })) (fr.getD 51 .top) (.str [32])) fr 52 h := by kernel_rfl
theorem st15_5_10 : astep Try.prog call (rg Try.f15 5) 10 fr h = pureS (some (fr.getD 8 .top)) fr 53 h := by kernel_rfl
theorem st15_5_11 : astep Try.prog call (rg Try.f15 5) 11 fr h = pureS (abuild Try.prog 69 [(0, (fr.getD 50 .top)), (1, (fr.getD 52 .top)), (2, (fr.getD 53 .top))]) fr 54 h := by kernel_rfl
theorem st15_5_12 : astep Try.prog call (rg Try.f15 5) 12 fr h = heapS (bslV Try.prog 33 1 [(0, (fr.getD 54 .top))] h) fr 55 := by kernel_rfl
theorem st15_5_13 : astep Try.prog call (rg Try.f15 5) 13 fr h = heapS (aappend Try.prog 33 33 (fr.getD 49 .top) (fr.getD 55 .top) h) fr 56 := by kernel_rfl
theorem st15_5_14 : astep Try.prog call (rg Try.f15 5) 14 fr h = pureS (anilCheck (fr.getD 43 .top)) fr 57 h := by kernel_rfl
theorem st15_5_15 : astep Try.prog call (rg Try.f15 5) 15 fr h = pureS (afieldAt Try.prog 35 (fr.getD 57 .top) 0) fr 58 h := by kernel_rfl
theorem st15_5_16 : astep Try.prog call (rg Try.f15 5) 16 fr h = heapN (stV Try.prog 33 (fr.getD 58 .top) (fr.getD 56 .top) h) fr := by kernel_rfl
theorem reg15_6 : arun Try.prog K call lf (.region 6 (rg Try.f15 6) false) fr h = regR (aops Try.prog call (rg Try.f15 6) [0] fr h) := by kernel_rfl
theorem st15_6_0 : astep Try.prog call (rg Try.f15 6) 0 fr h = pureS (some (.bool true)) fr 6 h := by kernel_rfl
end
-- SIMP15: reg15_0, st15_0_0, reg15_1, st15_1_0, st15_1_1, st15_1_2, st15_1_3, st15_1_4, st15_1_5, st15_1_6, st15_1_7, st15_1_8, st15_1_9, st15_1_10, st15_1_11, st15_1_12, st15_1_13, st15_1_14, st15_1_15, reg15_2, st15_2_0, reg15_3, st15_3_0, st15_3_1, st15_3_2, reg15_4, st15_4_0, st15_4_1, st15_4_2, st15_4_3, st15_4_4, st15_4_5, st15_4_6, st15_4_7, st15_4_8, st15_4_9, st15_4_10, st15_4_11, st15_4_12, st15_4_13, st15_4_14, st15_4_15, st15_4_16, reg15_5, st15_5_0, st15_5_1, st15_5_2, st15_5_3, st15_5_4, st15_5_5, st15_5_6, st15_5_7, st15_5_8, st15_5_9, st15_5_10, st15_5_11, st15_5_12, st15_5_13, st15_5_14, st15_5_15, st15_5_16, reg15_6, st15_6_0

/-! ### 16: (*conch/conchref37.Source).Step -/
noncomputable def cd16 : Code := (.seq (.region 0 (rg Try.f16 0) false) (.seq (.seq (.region 1 (rg Try.f16 1) false) (.cond (.tmp 10) (.seq (.region 2 (rg Try.f16 2) false) .ret) .skip)) (.seq (.region 3 (rg Try.f16 3) false) (.seq (.region 4 (rg Try.f16 4) false) (.seq (.region 5 (rg Try.f16 5) false) (.seq (.region 6 (rg Try.f16 6) false) (.seq (.region 7 (rg Try.f16 7) false) (.seq (.seq (.region 8 (rg Try.f16 8) false) (.cond (.tmp 48) (.seq (.region 9 (rg Try.f16 9) true) (.seq (.region 10 (rg Try.f16 10) false) .ret)) .skip)) (.seq (.region 11 (rg Try.f16 11) false) .ret)))))))))
theorem ent16 (n : Nat) (a0 : AV) (h : AH) : X (n + 1) 16 [a0] h = fin1 (arun Try.prog (HK 16) (X n) n cd16 [a0, .tup [], .tup [], .tup [], .tup [], .tup [], .tup [], .tup [], .tup [], .tup [], .tup [], .tup [], .tup [], .tup [], .tup [], .tup [], .tup [], .tup [], .tup [], .tup [], .tup [], .tup [], .tup [], .tup [], .tup [], .tup [], .tup [], .tup [], .tup [], .tup [], .tup [], .tup [], .tup [], .tup [], .tup [], .tup [], .tup [], .tup [], .tup [], .tup [], .tup [], .tup [], .tup [], .tup [], .tup [], .tup [], .tup [], .tup [], .tup [], .tup [], .tup [], .tup [], .tup [], .tup [], .tup [], .tup [], .tup [], .tup [], .tup [], .tup [], .tup []] h) 2 := by kernel_rfl
section
variable (K : Hint) (call : FuncId → List AV → AH → Option (AV × AH)) (lf : Nat) (fr : List AV) (h : AH)
theorem reg16_0 : arun Try.prog K call lf (.region 0 (rg Try.f16 0) false) fr h = regR (aops Try.prog call (rg Try.f16 0) [0] fr h) := by kernel_rfl
theorem st16_0_0 : astep Try.prog call (rg Try.f16 0) 0 fr h = pureS (some (.bool false)) fr 2 h := by kernel_rfl
theorem reg16_1 : arun Try.prog K call lf (.region 1 (rg Try.f16 1) false) fr h = regR (aops Try.prog call (rg Try.f16 1) [0, 1, 2, 3, 4, 5] fr h) := by kernel_rfl
theorem st16_1_0 : astep Try.prog call (rg Try.f16 1) 0 fr h = pureS (some (fr.getD 0 .top)) fr 5 h := by kernel_rfl
theorem st16_1_1 : astep Try.prog call (rg Try.f16 1) 1 fr h = pureS (anilCheck (fr.getD 5 .top)) fr 6 h := by kernel_rfl
theorem st16_1_2 : astep Try.prog call (rg Try.f16 1) 2 fr h = pureS (afieldAt Try.prog 35 (fr.getD 6 .top) 0) fr 7 h := by kernel_rfl
theorem st16_1_3 : astep Try.prog call (rg Try.f16 1) 3 fr h = pureS (ldV Try.prog 33 (fr.getD 7 .top) h) fr 8 h := by kernel_rfl
theorem st16_1_4 : astep Try.prog call (rg Try.f16 1) 4 fr h = pureS (lenV (alen Try.prog 33 (fr.getD 8 .top))) fr 9 h := by kernel_rfl
theorem st16_1_5 : astep Try.prog call (rg Try.f16 1) 5 fr h = pureS (abin Try.prog .eql 3 (.tmp 9) (.const (.int .i64 0)) (fr.getD 9 .top) (.int .i64 0)) fr 10 h := by kernel_rfl
theorem reg16_2 : arun Try.prog K call lf (.region 2 (rg Try.f16 2) false) fr h = regR (aops Try.prog call (rg Try.f16 2) [0] fr h) := by kernel_rfl
theorem st16_2_0 : astep Try.prog call (rg Try.f16 2) 0 fr h = pureS (some (.bool false)) fr 2 h := by kernel_rfl
theorem reg16_3 : arun Try.prog K call lf (.region 3 (rg Try.f16 3) false) fr h = regR (aops Try.prog call (rg Try.f16 3) [0, 1, 2, 3, 4, 5, 6] fr h) := by kernel_rfl
theorem st16_3_0 : astep Try.prog call (rg Try.f16 3) 0 fr h = pureS (some (fr.getD 0 .top)) fr 11 h := by kernel_rfl
theorem st16_3_1 : astep Try.prog call (rg Try.f16 3) 1 fr h = pureS (anilCheck (fr.getD 11 .top)) fr 12 h := by kernel_rfl
theorem st16_3_2 : astep Try.prog call (rg Try.f16 3) 2 fr h = pureS (afieldAt Try.prog 35 (fr.getD 12 .top) 0) fr 13 h := by kernel_rfl
theorem st16_3_3 : astep Try.prog call (rg Try.f16 3) 3 fr h = pureS (ldV Try.prog 33 (fr.getD 13 .top) h) fr 14 h := by kernel_rfl
theorem st16_3_4 : astep Try.prog call (rg Try.f16 3) 4 fr h = pureS (lenV (alen Try.prog 33 (fr.getD 14 .top))) fr 15 h := by kernel_rfl
theorem st16_3_5 : astep Try.prog call (rg Try.f16 3) 5 fr h = pureS (abin Try.prog .sub 3 (.tmp 15) (.const (.int .i64 1)) (fr.getD 15 .top) (.int .i64 1)) fr 16 h := by kernel_rfl
theorem st16_3_6 : astep Try.prog call (rg Try.f16 3) 6 fr h = pureS (some (fr.getD 16 .top)) fr 3 h := by kernel_rfl
theorem reg16_4 : arun Try.prog K call lf (.region 4 (rg Try.f16 4) false) fr h = regR (aops Try.prog call (rg Try.f16 4) [0, 1, 2, 3, 4, 5, 6, 7] fr h) := by kernel_rfl
theorem st16_4_0 : astep Try.prog call (rg Try.f16 4) 0 fr h = pureS (some (fr.getD 0 .top)) fr 17 h := by kernel_rfl
theorem st16_4_1 : astep Try.prog call (rg Try.f16 4) 1 fr h = pureS (anilCheck (fr.getD 17 .top)) fr 18 h := by kernel_rfl
theorem st16_4_2 : astep Try.prog call (rg Try.f16 4) 2 fr h = pureS (afieldAt Try.prog 35 (fr.getD 18 .top) 1) fr 19 h := by kernel_rfl
theorem st16_4_3 : astep Try.prog call (rg Try.f16 4) 3 fr h = pureS (ldV Try.prog 3 (fr.getD 19 .top) h) fr 20 h := by kernel_rfl
theorem st16_4_4 : astep Try.prog call (rg Try.f16 4) 4 fr h = pureS (abin Try.prog .add 3 (.tmp 20) (.const (.int .i64 1)) (fr.getD 20 .top) (.int .i64 1)) fr 21 h := by kernel_rfl
theorem st16_4_5 : astep Try.prog call (rg Try.f16 4) 5 fr h = pureS (anilCheck (fr.getD 17 .top)) fr 22 h := by kernel_rfl
theorem st16_4_6 : astep Try.prog call (rg Try.f16 4) 6 fr h = pureS (afieldAt Try.prog 35 (fr.getD 22 .top) 1) fr 23 h := by kernel_rfl
theorem st16_4_7 : astep Try.prog call (rg Try.f16 4) 7 fr h = heapN (stV Try.prog 3 (fr.getD 23 .top) (fr.getD 21 .top) h) fr := by kernel_rfl
theorem reg16_5 : arun Try.prog K call lf (.region 5 (rg Try.f16 5) false) fr h = regR (aops Try.prog call (rg Try.f16 5) [0, 1, 2, 3, 4, 5, 6, 7, 8] fr h) := by kernel_rfl
theorem st16_5_0 : astep Try.prog call (rg Try.f16 5) 0 fr h = pureS (some (fr.getD 0 .top)) fr 24 h := by kernel_rfl
theorem st16_5_1 : astep Try.prog call (rg Try.f16 5) 1 fr h = pureS (anilCheck (fr.getD 24 .top)) fr 25 h := by kernel_rfl
theorem st16_5_2 : astep Try.prog call (rg Try.f16 5) 2 fr h = pureS (afieldAt Try.prog 35 (fr.getD 25 .top) 0) fr 26 h := by kernel_rfl
theorem st16_5_3 : astep Try.prog call (rg Try.f16 5) 3 fr h = pureS (ldV Try.prog 33 (fr.getD 26 .top) h) fr 27 h := by kernel_rfl
theorem st16_5_4 : astep Try.prog call (rg Try.f16 5) 4 fr h = pureS (some (fr.getD 3 .top)) fr 28 h := by kernel_rfl
theorem st16_5_5 : astep Try.prog call (rg Try.f16 5) 5 fr h = pureS (aindexAt Try.prog 33 (fr.getD 27 .top) (fr.getD 28 .top)) fr 29 h := by kernel_rfl
theorem st16_5_6 : astep Try.prog call (rg Try.f16 5) 6 fr h = pureS (ldV Try.prog 69 (fr.getD 29 .top) h) fr 30 h := by kernel_rfl
theorem st16_5_7 : astep Try.prog call (rg Try.f16 5) 7 fr h = heapS (newV Try.prog 69 h) fr 4 := by kernel_rfl
theorem st16_5_8 : astep Try.prog call (rg Try.f16 5) 8 fr h = heapN (stV Try.prog 69 (fr.getD 4 .top) (fr.getD 30 .top) h) fr := by kernel_rfl
theorem reg16_6 : arun Try.prog K call lf (.region 6 (rg Try.f16 6) false) fr h = regR (aops Try.prog call (rg Try.f16 6) [0, 1, 2, 3, 4] fr h) := by kernel_rfl
theorem st16_6_0 : astep Try.prog call (rg Try.f16 6) 0 fr h = pureS (afieldAt Try.prog 69 (fr.getD 4 .top) 1) fr 31 h := by kernel_rfl
theorem st16_6_1 : astep Try.prog call (rg Try.f16 6) 1 fr h = pureS (ldV Try.prog 9 (fr.getD 31 .top) h) fr 32 h := by kernel_rfl
theorem st16_6_2 : astep Try.prog call (rg Try.f16 6) 2 fr h = pureS (aslice Try.prog 9 (fr.getD 32 .top) (some (.int .i64 1)) none none) fr 33 h := by kernel_rfl
theorem st16_6_3 : astep Try.prog call (rg Try.f16 6) 3 fr h = pureS (afieldAt Try.prog 69 (fr.getD 4 .top) 1) fr 34 h := by kernel_rfl
theorem st16_6_4 : astep Try.prog call (rg Try.f16 6) 4 fr h = heapN (stV Try.prog 9 (fr.getD 34 .top) (fr.getD 33 .top) h) fr := by kernel_rfl
theorem reg16_7 : arun Try.prog K call lf (.region 7 (rg Try.f16 7) false) fr h = regR (aops Try.prog call (rg Try.f16 7) [0, 1, 2, 3, 4, 5, 6, 7, 8, 9, 10, 11] fr h) := by kernel_rfl
theorem st16_7_0 : astep Try.prog call (rg Try.f16 7) 0 fr h = pureS (some (fr.getD 0 .top)) fr 35 h := by kernel_rfl
theorem st16_7_1 : astep Try.prog call (rg Try.f16 7) 1 fr h = heapS (bslV Try.prog 33 0 [] h) fr 36 := by kernel_rfl
theorem st16_7_2 : astep Try.prog call (rg Try.f16 7) 2 fr h = pureS (some (fr.getD 0 .top)) fr 37 h := by kernel_rfl
theorem st16_7_3 : astep Try.prog call (rg Try.f16 7) 3 fr h = pureS (anilCheck (fr.getD 37 .top)) fr 38 h := by kernel_rfl
theorem st16_7_4 : astep Try.prog call (rg Try.f16 7) 4 fr h = pureS (afieldAt Try.prog 35 (fr.getD 38 .top) 0) fr 39 h := by kernel_rfl
theorem st16_7_5 : astep Try.prog call (rg Try.f16 7) 5 fr h = pureS (ldV Try.prog 33 (fr.getD 39 .top) h) fr 40 h := by kernel_rfl
theorem st16_7_6 : astep Try.prog call (rg Try.f16 7) 6 fr h = pureS (some (fr.getD 3 .top)) fr 41 h := by kernel_rfl
theorem st16_7_7 : astep Try.prog call (rg Try.f16 7) 7 fr h = pureS (aslice Try.prog 33 (fr.getD 40 .top) none (some (fr.getD 41 .top)) none) fr 42 h := by kernel_rfl
theorem st16_7_8 : astep Try.prog call (rg Try.f16 7) 8 fr h = heapS (aappend Try.prog 33 33 (fr.getD 36 .top) (fr.getD 42 .top) h) fr 43 := by kernel_rfl
theorem st16_7_9 : astep Try.prog call (rg Try.f16 7) 9 fr h = pureS (anilCheck (fr.getD 35 .top)) fr 44 h := by kernel_rfl
theorem st16_7_10 : astep Try.prog call (rg Try.f16 7) 10 fr h = pureS (afieldAt Try.prog 35 (fr.getD 44 .top) 0) fr 45 h := by kernel_rfl
theorem st16_7_11 : astep Try.prog call (rg Try.f16 7) 11 fr h = heapN (stV Try.prog 33 (fr.getD 45 .top) (fr.getD 43 .top) h) fr := by kernel_rfl
theorem reg16_8 : arun Try.prog K call lf (.region 8 (rg Try.f16 8) false) fr h = regR (aops Try.prog call (rg Try.f16 8) [0, 1, 2] fr h) := by kernel_rfl
theorem st16_8_0 : astep Try.prog call (rg Try.f16 8) 0 fr h = pureS (afieldAt Try.prog 69 (fr.getD 4 .top) 1) fr 46 h := by kernel_rfl
theorem st16_8_1 : astep Try.prog call (rg Try.f16 8) 1 fr h = pureS (ldV Try.prog 9 (fr.getD 46 .top) h) fr 47 h := by kernel_rfl
theorem st16_8_2 : astep Try.prog call (rg Try.f16 8) 2 fr h = pureS (abin Try.prog .neq 9 (.tmp 47) (.const (.string { data := #[] })) (fr.getD 47 .top) (.str [])) fr 48 h := by kernel_rfl
theorem dok16_9 : drawOK Try.prog (befs (rg Try.f16 9).toList []) (rg Try.f16 9) = true := by kernel_rfl
theorem prs16_9 : pairsOK Try.prog (befs (rg Try.f16 9).toList []) (rg Try.f16 9) [(4, 6)] = true := by kernel_rfl
theorem rng16_9 : List.range (rg Try.f16 9).size = [0, 1, 2, 3, 4, 5, 6, 7, 8, 9, 10] := by kernel_rfl
theorem drw16_9 {r : List AV × AH} (h0 : aops Try.prog call (rg Try.f16 9) [0, 1, 2, 3, 4, 5, 6, 7, 8, 9, 10] fr h = some r) (hq : ∀ p ∈ ([(4, 6)] : List (Nat × Nat)), PairOK Try.prog call (rg Try.f16 9) fr h p.1 p.2) : arun Try.prog K call lf (.region 9 (rg Try.f16 9) true) fr h = regR (some r) := (show _ = regR (adraw Try.prog call (rg Try.f16 9) fr h) by kernel_rfl).trans (congrArg regR (adraw_eval _ dok16_9 prs16_9 ((congrArg (fun l => aops Try.prog call (rg Try.f16 9) l fr h) rng16_9).trans h0) hq))
theorem li16_9_4 : loadI Try.prog (rg Try.f16 9) 4 fr h = ldV Try.prog 33 (fr.getD 52 .top) h := by kernel_rfl
theorem rng16_9_4 : List.range 4 = [0, 1, 2, 3] := by rfl
theorem rng16_9_6 : List.range 6 = [0, 1, 2, 3, 4, 5] := by rfl
theorem rng16_9_7 : List.range 7 = [0, 1, 2, 3, 4, 5, 6] := by rfl
theorem st16_9_0 : astep Try.prog call (rg Try.f16 9) 0 fr h = pureS (some (fr.getD 0 .top)) fr 49 h := by kernel_rfl
theorem st16_9_1 : astep Try.prog call (rg Try.f16 9) 1 fr h = pureS (some (fr.getD 0 .top)) fr 50 h := by kernel_rfl
theorem st16_9_2 : astep Try.prog call (rg Try.f16 9) 2 fr h = pureS (anilCheck (fr.getD 50 .top)) fr 51 h := by kernel_rfl
theorem st16_9_3 : astep Try.prog call (rg Try.f16 9) 3 fr h = pureS (afieldAt Try.prog 35 (fr.getD 51 .top) 0) fr 52 h := by kernel_rfl
theorem st16_9_4 : astep Try.prog call (rg Try.f16 9) 4 fr h = pureS (ldV Try.prog 33 (fr.getD 52 .top) h) fr 53 h := by kernel_rfl
theorem st16_9_5 : astep Try.prog call (rg Try.f16 9) 5 fr h = pureS (ldV Try.prog 69 (fr.getD 4 .top) h) fr 54 h := by kernel_rfl
theorem st16_9_6 : astep Try.prog call (rg Try.f16 9) 6 fr h = heapS (bslV Try.prog 33 1 [(0, (fr.getD 54 .top))] h) fr 55 := by kernel_rfl
theorem st16_9_7 : astep Try.prog call (rg Try.f16 9) 7 fr h = heapS (aappend Try.prog 33 33 (fr.getD 53 .top) (fr.getD 55 .top) h) fr 56 := by kernel_rfl
theorem st16_9_8 : astep Try.prog call (rg Try.f16 9) 8 fr h = pureS (anilCheck (fr.getD 49 .top)) fr 57 h := by kernel_rfl
theorem st16_9_9 : astep Try.prog call (rg Try.f16 9) 9 fr h = pureS (afieldAt Try.prog 35 (fr.getD 57 .top) 0) fr 58 h := by kernel_rfl
theorem st16_9_10 : astep Try.prog call (rg Try.f16 9) 10 fr h = heapN (stV Try.prog 33 (fr.getD 58 .top) (fr.getD 56 .top) h) fr := by kernel_rfl
theorem reg16_10 : arun Try.prog K call lf (.region 10 (rg Try.f16 10) false) fr h = regR (aops Try.prog call (rg Try.f16 10) [0] fr h) := by kernel_rfl
theorem st16_10_0 : astep Try.prog call (rg Try.f16 10) 0 fr h = pureS (some (.bool false)) fr 2 h := by kernel_rfl
theorem reg16_11 : arun Try.prog K call lf (.region 11 (rg Try.f16 11) false) fr h = regR (aops Try.prog call (rg Try.f16 11) [0, 1, 2] fr h) := by kernel_rfl
theorem st16_11_0 : astep Try.prog call (rg Try.f16 11) 0 fr h = pureS (afieldAt Try.prog 69 (fr.getD 4 .top) 2) fr 59 h := by kernel_rfl
theorem st16_11_1 : astep Try.prog call (rg Try.f16 11) 1 fr h = pureS (ldV Try.prog 4 (fr.getD 59 .top) h) fr 60 h := by kernel_rfl
theorem st16_11_2 : astep Try.prog call (rg Try.f16 11) 2 fr h = pureS (some (fr.getD 60 .top)) fr 2 h := by kernel_rfl
end
-- SIMP16: reg16_0, st16_0_0, reg16_1, st16_1_0, st16_1_1, st16_1_2, st16_1_3, st16_1_4, st16_1_5, reg16_2, st16_2_0, reg16_3, st16_3_0, st16_3_1, st16_3_2, st16_3_3, st16_3_4, st16_3_5, st16_3_6, reg16_4, st16_4_0, st16_4_1, st16_4_2, st16_4_3, st16_4_4, st16_4_5, st16_4_6, st16_4_7, reg16_5, st16_5_0, st16_5_1, st16_5_2, st16_5_3, st16_5_4, st16_5_5, st16_5_6, st16_5_7, st16_5_8, reg16_6, st16_6_0, st16_6_1, st16_6_2, st16_6_3, st16_6_4, reg16_7, st16_7_0, st16_7_1, st16_7_2, st16_7_3, st16_7_4, st16_7_5, st16_7_6, st16_7_7, st16_7_8, st16_7_9, st16_7_10, st16_7_11, reg16_8, st16_8_0, st16_8_1, st16_8_2, st16_9_0, st16_9_1, st16_9_2, st16_9_3, st16_9_4, st16_9_5, st16_9_6, st16_9_7, st16_9_8, st16_9_9, st16_9_10, reg16_10, st16_10_0, reg16_11, st16_11_0, st16_11_1, st16_11_2

/-! ### 17: (*conch/conchref37.Source).Peek -/
noncomputable def cd17 : Code := (.seq (.region 0 (rg Try.f17 0) false) (.seq (.seq (.region 1 (rg Try.f17 1) false) (.cond (.tmp 9) (.seq (.region 2 (rg Try.f17 2) false) .ret) .skip)) (.seq (.region 3 (rg Try.f17 3) true) .ret)))
theorem ent17 (n : Nat) (a0 : AV) (h : AH) : X (n + 1) 17 [a0] h = finN (arun Try.prog (HK 17) (X n) n cd17 [a0, .tup [], .tup [], .tup [], .tup [], .tup [], .tup [], .tup [], .tup [], .tup [], .tup [], .tup [], .tup [], .tup [], .tup [], .tup [], .tup [], .tup [], .tup [], .tup [], .tup [], .tup [], .tup [], .tup []] h) [2, 3] := by kernel_rfl
section
variable (K : Hint) (call : FuncId → List AV → AH → Option (AV × AH)) (lf : Nat) (fr : List AV) (h : AH)
theorem reg17_0 : arun Try.prog K call lf (.region 0 (rg Try.f17 0) false) fr h = regR (aops Try.prog call (rg Try.f17 0) [0, 1] fr h) := by kernel_rfl
theorem st17_0_0 : astep Try.prog call (rg Try.f17 0) 0 fr h = pureS (some (.int .u8 0)) fr 2 h := by kernel_rfl
theorem st17_0_1 : astep Try.prog call (rg Try.f17 0) 1 fr h = pureS (some (.bool false)) fr 3 h := by kernel_rfl
theorem reg17_1 : arun Try.prog K call lf (.region 1 (rg Try.f17 1) false) fr h = regR (aops Try.prog call (rg Try.f17 1) [0, 1, 2, 3, 4, 5] fr h) := by kernel_rfl
theorem st17_1_0 : astep Try.prog call (rg Try.f17 1) 0 fr h = pureS (some (fr.getD 0 .top)) fr 4 h := by kernel_rfl
theorem st17_1_1 : astep Try.prog call (rg Try.f17 1) 1 fr h = pureS (anilCheck (fr.getD 4 .top)) fr 5 h := by kernel_rfl
theorem st17_1_2 : astep Try.prog call (rg Try.f17 1) 2 fr h = pureS (afieldAt Try.prog 35 (fr.getD 5 .top) 0) fr 6 h := by kernel_rfl
theorem st17_1_3 : astep Try.prog call (rg Try.f17 1) 3 fr h = pureS (ldV Try.prog 33 (fr.getD 6 .top) h) fr 7 h := by kernel_rfl
theorem st17_1_4 : astep Try.prog call (rg Try.f17 1) 4 fr h = pureS (lenV (alen Try.prog 33 (fr.getD 7 .top))) fr 8 h := by kernel_rfl
theorem st17_1_5 : astep Try.prog call (rg Try.f17 1) 5 fr h = pureS (abin Try.prog .eql 3 (.tmp 8) (.const (.int .i64 0)) (fr.getD 8 .top) (.int .i64 0)) fr 9 h := by kernel_rfl
theorem reg17_2 : arun Try.prog K call lf (.region 2 (rg Try.f17 2) false) fr h = regR (aops Try.prog call (rg Try.f17 2) [0, 1] fr h) := by kernel_rfl
theorem st17_2_0 : astep Try.prog call (rg Try.f17 2) 0 fr h = pureS (some (.int .u8 0)) fr 2 h := by kernel_rfl
theorem st17_2_1 : astep Try.prog call (rg Try.f17 2) 1 fr h = pureS (some (.bool false)) fr 3 h := by kernel_rfl
theorem dok17_3 : drawOK Try.prog (befs (rg Try.f17 3).toList []) (rg Try.f17 3) = true := by kernel_rfl
theorem prs17_3 : pairsOK Try.prog (befs (rg Try.f17 3).toList []) (rg Try.f17 3) [] = true := by kernel_rfl
theorem rng17_3 : List.range (rg Try.f17 3).size = [0, 1, 2, 3, 4, 5, 6, 7, 8, 9, 10, 11, 12, 13, 14, 15] := by kernel_rfl
theorem reg17_3 : arun Try.prog K call lf (.region 3 (rg Try.f17 3) true) fr h = regR (aops Try.prog call (rg Try.f17 3) [0, 1, 2, 3, 4, 5, 6, 7, 8, 9, 10, 11, 12, 13, 14, 15] fr h) := (show _ = regR (adraw Try.prog call (rg Try.f17 3) fr h) by kernel_rfl).trans (congrArg regR ((adraw_plain dok17_3 prs17_3).trans (congrArg (fun l => aops Try.prog call (rg Try.f17 3) l fr h) rng17_3)))
theorem st17_3_0 : astep Try.prog call (rg Try.f17 3) 0 fr h = pureS (some (fr.getD 0 .top)) fr 10 h := by kernel_rfl
theorem st17_3_1 : astep Try.prog call (rg Try.f17 3) 1 fr h = pureS (anilCheck (fr.getD 10 .top)) fr 11 h := by kernel_rfl
theorem st17_3_2 : astep Try.prog call (rg Try.f17 3) 2 fr h = pureS (afieldAt Try.prog 35 (fr.getD 11 .top) 0) fr 12 h := by kernel_rfl
theorem st17_3_3 : astep Try.prog call (rg Try.f17 3) 3 fr h = pureS (ldV Try.prog 33 (fr.getD 12 .top) h) fr 13 h := by kernel_rfl
theorem st17_3_4 : astep Try.prog call (rg Try.f17 3) 4 fr h = pureS (some (fr.getD 0 .top)) fr 14 h := by kernel_rfl
theorem st17_3_5 : astep Try.prog call (rg Try.f17 3) 5 fr h = pureS (anilCheck (fr.getD 14 .top)) fr 15 h := by kernel_rfl
theorem st17_3_6 : astep Try.prog call (rg Try.f17 3) 6 fr h = pureS (afieldAt Try.prog 35 (fr.getD 15 .top) 0) fr 16 h := by kernel_rfl
theorem st17_3_7 : astep Try.prog call (rg Try.f17 3) 7 fr h = pureS (ldV Try.prog 33 (fr.getD 16 .top) h) fr 17 h := by kernel_rfl
theorem st17_3_8 : astep Try.prog call (rg Try.f17 3) 8 fr h = pureS (lenV (alen Try.prog 33 (fr.getD 17 .top))) fr 18 h := by kernel_rfl
theorem st17_3_9 : astep Try.prog call (rg Try.f17 3) 9 fr h = pureS (abin Try.prog .sub 3 (.tmp 18) (.const (.int .i64 1)) (fr.getD 18 .top) (.int .i64 1)) fr 19 h := by kernel_rfl
theorem st17_3_10 : astep Try.prog call (rg Try.f17 3) 10 fr h = pureS (aindexAt Try.prog 33 (fr.getD 13 .top) (fr.getD 19 .top)) fr 20 h := by kernel_rfl
theorem st17_3_11 : astep Try.prog call (rg Try.f17 3) 11 fr h = pureS (afieldAt Try.prog 69 (fr.getD 20 .top) 1) fr 21 h := by kernel_rfl
theorem st17_3_12 : astep Try.prog call (rg Try.f17 3) 12 fr h = pureS (ldV Try.prog 9 (fr.getD 21 .top) h) fr 22 h := by kernel_rfl
theorem st17_3_13 : astep Try.prog call (rg Try.f17 3) 13 fr h = pureS (aindex Try.prog 9 (fr.getD 22 .top) (.int .i64 0)) fr 23 h := by kernel_rfl
theorem st17_3_14 : astep Try.prog call (rg Try.f17 3) 14 fr h = pureS (some (fr.getD 23 .top)) fr 2 h := by kernel_rfl
theorem st17_3_15 : astep Try.prog call (rg Try.f17 3) 15 fr h = pureS (some (.bool true)) fr 3 h := by kernel_rfl
end
-- SIMP17: reg17_0, st17_0_0, st17_0_1, reg17_1, st17_1_0, st17_1_1, st17_1_2, st17_1_3, st17_1_4, st17_1_5, reg17_2, st17_2_0, st17_2_1, reg17_3, st17_3_0, st17_3_1, st17_3_2, st17_3_3, st17_3_4, st17_3_5, st17_3_6, st17_3_7, st17_3_8, st17_3_9, st17_3_10, st17_3_11, st17_3_12, st17_3_13, st17_3_14, st17_3_15

/-! ### 19: (*conch/conchref37.Source).Left -/
noncomputable def lp19_3 : Code := (.seq (.seq (.region 3 (rg Try.f19 3) false) (.cond (.tmp 11) .skip (.exit 0))) (.seq (.block 1 (.region 5 (rg Try.f19 5) false)) (.region 4 (rg Try.f19 4) false)))
theorem cl19_3 (x0 x1 x2 x3 x4 x5 x6 x7 x8 x9 x10 x11 x12 x13 x14 x15 x16 x17 x18 x19 x20 x21 x22 x23 x24 x25 : AV) : aclear (HK 19) lp19_3 [x0, x1, x2, x3, x4, x5, x6, x7, x8, x9, x10, x11, x12, x13, x14, x15, x16, x17, x18, x19, x20, x21, x22, x23, x24, x25] = [x0, .top, x2, x3, x4, .top, .top, .top, .top, .top, .top, .top, .top, .top, .top, .top, .top, .top, .top, .top, .top, .top, .top, .top, .top, .top] := by kernel_rfl
noncomputable def cd19 : Code := (.seq (.region 0 (rg Try.f19 0) false) (.seq (.region 1 (rg Try.f19 1) false) (.seq (.seq (.region 2 (rg Try.f19 2) false) (.block 0 (.loop lp19_3))) (.seq (.region 6 (rg Try.f19 6) false) .ret))))
theorem ent19 (n : Nat) (a0 : AV) (h : AH) : X (n + 1) 19 [a0] h = fin1 (arun Try.prog (HK 19) (X n) n cd19 [a0, .tup [], .tup [], .tup [], .tup [], .tup [], .tup [], .tup [], .tup [], .tup [], .tup [], .tup [], .tup [], .tup [], .tup [], .tup [], .tup [], .tup [], .tup [], .tup [], .tup [], .tup [], .tup [], .tup [], .tup [], .tup []] h) 2 := by kernel_rfl
section
variable (K : Hint) (call : FuncId → List AV → AH → Option (AV × AH)) (lf : Nat) (fr : List AV) (h : AH)
theorem reg19_0 : arun Try.prog K call lf (.region 0 (rg Try.f19 0) false) fr h = regR (aops Try.prog call (rg Try.f19 0) [0] fr h) := by kernel_rfl
theorem st19_0_0 : astep Try.prog call (rg Try.f19 0) 0 fr h = pureS (some (.int .i64 0)) fr 2 h := by kernel_rfl
theorem reg19_1 : arun Try.prog K call lf (.region 1 (rg Try.f19 1) false) fr h = regR (aops Try.prog call (rg Try.f19 1) [0] fr h) := by kernel_rfl
theorem st19_1_0 : astep Try.prog call (rg Try.f19 1) 0 fr h = pureS (some (.int .i64 0)) fr 3 h := by kernel_rfl
theorem reg19_2 : arun Try.prog K call lf (.region 2 (rg Try.f19 2) false) fr h = regR (aops Try.prog call (rg Try.f19 2) [0] fr h) := by kernel_rfl
theorem st19_2_0 : astep Try.prog call (rg Try.f19 2) 0 fr h = pureS (some (.int .i64 0)) fr 4 h := by kernel_rfl
theorem reg19_3 : arun Try.prog K call lf (.region 3 (rg Try.f19 3) false) fr h = regR (aops Try.prog call (rg Try.f19 3) [0, 1, 2, 3, 4, 5, 6] fr h) := by kernel_rfl
theorem st19_3_0 : astep Try.prog call (rg Try.f19 3) 0 fr h = pureS (some (fr.getD 4 .top)) fr 5 h := by kernel_rfl
theorem st19_3_1 : astep Try.prog call (rg Try.f19 3) 1 fr h = pureS (some (fr.getD 0 .top)) fr 6 h := by kernel_rfl
theorem st19_3_2 : astep Try.prog call (rg Try.f19 3) 2 fr h = pureS (anilCheck (fr.getD 6 .top)) fr 7 h := by kernel_rfl
theorem st19_3_3 : astep Try.prog call (rg Try.f19 3) 3 fr h = pureS (afieldAt Try.prog 35 (fr.getD 7 .top) 0) fr 8 h := by kernel_rfl
theorem st19_3_4 : astep Try.prog call (rg Try.f19 3) 4 fr h = pureS (ldV Try.prog 33 (fr.getD 8 .top) h) fr 9 h := by kernel_rfl
theorem st19_3_5 : astep Try.prog call (rg Try.f19 3) 5 fr h = pureS (lenV (alen Try.prog 33 (fr.getD 9 .top))) fr 10 h := by kernel_rfl
theorem st19_3_6 : astep Try.prog call (rg Try.f19 3) 6 fr h = pureS (abin Try.prog .lss 3 (.tmp 5) (.tmp 10) (fr.getD 5 .top) (fr.getD 10 .top)) fr 11 h := by kernel_rfl
theorem reg19_5 : arun Try.prog K call lf (.region 5 (rg Try.f19 5) false) fr h = regR (aops Try.prog call (rg Try.f19 5) [0, 1, 2, 3, 4, 5, 6, 7, 8, 9, 10, 11] fr h) := by kernel_rfl
theorem st19_5_0 : astep Try.prog call (rg Try.f19 5) 0 fr h = pureS (some (fr.getD 3 .top)) fr 14 h := by kernel_rfl
theorem st19_5_1 : astep Try.prog call (rg Try.f19 5) 1 fr h = pureS (some (fr.getD 0 .top)) fr 15 h := by kernel_rfl
theorem st19_5_2 : astep Try.prog call (rg Try.f19 5) 2 fr h = pureS (anilCheck (fr.getD 15 .top)) fr 16 h := by kernel_rfl
theorem st19_5_3 : astep Try.prog call (rg Try.f19 5) 3 fr h = pureS (afieldAt Try.prog 35 (fr.getD 16 .top) 0) fr 17 h := by kernel_rfl
theorem st19_5_4 : astep Try.prog call (rg Try.f19 5) 4 fr h = pureS (ldV Try.prog 33 (fr.getD 17 .top) h) fr 18 h := by kernel_rfl
theorem st19_5_5 : astep Try.prog call (rg Try.f19 5) 5 fr h = pureS (some (fr.getD 4 .top)) fr 19 h := by kernel_rfl
theorem st19_5_6 : astep Try.prog call (rg Try.f19 5) 6 fr h = pureS (aindexAt Try.prog 33 (fr.getD 18 .top) (fr.getD 19 .top)) fr 20 h := by kernel_rfl
theorem st19_5_7 : astep Try.prog call (rg Try.f19 5) 7 fr h = pureS (afieldAt Try.prog 69 (fr.getD 20 .top) 1) fr 21 h := by kernel_rfl
theorem st19_5_8 : astep Try.prog call (rg Try.f19 5) 8 fr h = pureS (ldV Try.prog 9 (fr.getD 21 .top) h) fr 22 h := by kernel_rfl
theorem st19_5_9 : astep Try.prog call (rg Try.f19 5) 9 fr h = pureS (lenV (alen Try.prog 9 (fr.getD 22 .top))) fr 23 h := by kernel_rfl
theorem st19_5_10 : astep Try.prog call (rg Try.f19 5) 10 fr h = pureS (abin Try.prog .add 3 (.tmp 14) (.tmp 23) (fr.getD 14 .top) (fr.getD 23 .top)) fr 24 h := by kernel_rfl
theorem st19_5_11 : astep Try.prog call (rg Try.f19 5) 11 fr h = pureS (some (fr.getD 24 .top)) fr 3 h := by kernel_rfl
theorem reg19_4 : arun Try.prog K call lf (.region 4 (rg Try.f19 4) false) fr h = regR (aops Try.prog call (rg Try.f19 4) [0, 1, 2] fr h) := by kernel_rfl
theorem st19_4_0 : astep Try.prog call (rg Try.f19 4) 0 fr h = pureS (some (fr.getD 4 .top)) fr 12 h := by kernel_rfl
theorem st19_4_1 : astep Try.prog call (rg Try.f19 4) 1 fr h = pureS (abin Try.prog .add 3 (.tmp 12) (.const (.int .i64 1)) (fr.getD 12 .top) (.int .i64 1)) fr 13 h := by kernel_rfl
theorem st19_4_2 : astep Try.prog call (rg Try.f19 4) 2 fr h = pureS (some (fr.getD 13 .top)) fr 4 h := by kernel_rfl
theorem reg19_6 : arun Try.prog K call lf (.region 6 (rg Try.f19 6) false) fr h = regR (aops Try.prog call (rg Try.f19 6) [0, 1] fr h) := by kernel_rfl
theorem st19_6_0 : astep Try.prog call (rg Try.f19 6) 0 fr h = pureS (some (fr.getD 3 .top)) fr 25 h := by kernel_rfl
theorem st19_6_1 : astep Try.prog call (rg Try.f19 6) 1 fr h = pureS (some (fr.getD 25 .top)) fr 2 h := by kernel_rfl
end
-- SIMP19: reg19_0, st19_0_0, reg19_1, st19_1_0, reg19_2, st19_2_0, reg19_3, st19_3_0, st19_3_1, st19_3_2, st19_3_3, st19_3_4, st19_3_5, st19_3_6, reg19_5, st19_5_0, st19_5_1, st19_5_2, st19_5_3, st19_5_4, st19_5_5, st19_5_6, st19_5_7, st19_5_8, st19_5_9, st19_5_10, st19_5_11, reg19_4, st19_4_0, st19_4_1, st19_4_2, reg19_6, st19_6_0, st19_6_1

/-! ### 21: (*conch/conchref37.Source).Active -/
noncomputable def lp21_2 : Code := (.seq (.seq (.region 2 (rg Try.f21 2) false) (.cond (.tmp 12) .skip (.exit 0))) (.seq (.block 1 (.seq (.region 4 (rg Try.f21 4) false) (.cond (.tmp 24) (.seq (.region 5 (rg Try.f21 5) false) .ret) .skip))) (.region 3 (rg Try.f21 3) false)))
theorem cl21_2 (x0 x1 x2 x3 x4 x5 x6 x7 x8 x9 x10 x11 x12 x13 x14 x15 x16 x17 x18 x19 x20 x21 x22 x23 x24 : AV) : aclear (HK 21) lp21_2 [x0, x1, x2, x3, x4, x5, x6, x7, x8, x9, x10, x11, x12, x13, x14, x15, x16, x17, x18, x19, x20, x21, x22, x23, x24] = [x0, x1, .top, .top, x4, x5, .top, .top, .top, .top, .top, .top, .top, .top, .top, .top, .top, .top, .top, .top, .top, .top, .top, .top, .top] := by kernel_rfl
noncomputable def cd21 : Code := (.seq (.region 0 (rg Try.f21 0) false) (.seq (.seq (.region 1 (rg Try.f21 1) false) (.block 0 (.loop lp21_2))) (.seq (.region 6 (rg Try.f21 6) false) .ret)))
theorem ent21 (n : Nat) (a0 a1 : AV) (h : AH) : X (n + 1) 21 [a0, a1] h = fin1 (arun Try.prog (HK 21) (X n) n cd21 [a0, a1, .tup [], .tup [], .tup [], .tup [], .tup [], .tup [], .tup [], .tup [], .tup [], .tup [], .tup [], .tup [], .tup [], .tup [], .tup [], .tup [], .tup [], .tup [], .tup [], .tup [], .tup [], .tup [], .tup []] h) 4 := by kernel_rfl
section
variable (K : Hint) (call : FuncId → List AV → AH → Option (AV × AH)) (lf : Nat) (fr : List AV) (h : AH)
theorem reg21_0 : arun Try.prog K call lf (.region 0 (rg Try.f21 0) false) fr h = regR (aops Try.prog call (rg Try.f21 0) [0] fr h) := by kernel_rfl
theorem st21_0_0 : astep Try.prog call (rg Try.f21 0) 0 fr h = pureS (some (.bool false)) fr 4 h := by kernel_rfl
theorem reg21_1 : arun Try.prog K call lf (.region 1 (rg Try.f21 1) false) fr h = regR (aops Try.prog call (rg Try.f21 1) [0] fr h) := by kernel_rfl
theorem st21_1_0 : astep Try.prog call (rg Try.f21 1) 0 fr h = pureS (some (.int .i64 0)) fr 5 h := by kernel_rfl
theorem reg21_2 : arun Try.prog K call lf (.region 2 (rg Try.f21 2) false) fr h = regR (aops Try.prog call (rg Try.f21 2) [0, 1, 2, 3, 4, 5, 6] fr h) := by kernel_rfl
theorem st21_2_0 : astep Try.prog call (rg Try.f21 2) 0 fr h = pureS (some (fr.getD 5 .top)) fr 6 h := by kernel_rfl
theorem st21_2_1 : astep Try.prog call (rg Try.f21 2) 1 fr h = pureS (some (fr.getD 0 .top)) fr 7 h := by kernel_rfl
theorem st21_2_2 : astep Try.prog call (rg Try.f21 2) 2 fr h = pureS (anilCheck (fr.getD 7 .top)) fr 8 h := by kernel_rfl
theorem st21_2_3 : astep Try.prog call (rg Try.f21 2) 3 fr h = pureS (afieldAt Try.prog 35 (fr.getD 8 .top) 0) fr 9 h := by kernel_rfl
theorem st21_2_4 : astep Try.prog call (rg Try.f21 2) 4 fr h = pureS (ldV Try.prog 33 (fr.getD 9 .top) h) fr 10 h := by kernel_rfl
theorem st21_2_5 : astep Try.prog call (rg Try.f21 2) 5 fr h = pureS (lenV (alen Try.prog 33 (fr.getD 10 .top))) fr 11 h := by kernel_rfl
theorem st21_2_6 : astep Try.prog call (rg Try.f21 2) 6 fr h = pureS (abin Try.prog .lss 3 (.tmp 6) (.tmp 11) (fr.getD 6 .top) (fr.getD 11 .top)) fr 12 h := by kernel_rfl
theorem reg21_4 : arun Try.prog K call lf (.region 4 (rg Try.f21 4) false) fr h = regR (aops Try.prog call (rg Try.f21 4) [0, 1, 2, 3, 4, 5, 6, 7, 8, 9] fr h) := by kernel_rfl
theorem st21_4_0 : astep Try.prog call (rg Try.f21 4) 0 fr h = pureS (some (fr.getD 0 .top)) fr 15 h := by kernel_rfl
theorem st21_4_1 : astep Try.prog call (rg Try.f21 4) 1 fr h = pureS (anilCheck (fr.getD 15 .top)) fr 16 h := by kernel_rfl
theorem st21_4_2 : astep Try.prog call (rg Try.f21 4) 2 fr h = pureS (afieldAt Try.prog 35 (fr.getD 16 .top) 0) fr 17 h := by kernel_rfl
theorem st21_4_3 : astep Try.prog call (rg Try.f21 4) 3 fr h = pureS (ldV Try.prog 33 (fr.getD 17 .top) h) fr 18 h := by kernel_rfl
theorem st21_4_4 : astep Try.prog call (rg Try.f21 4) 4 fr h = pureS (some (fr.getD 5 .top)) fr 19 h := by kernel_rfl
theorem st21_4_5 : astep Try.prog call (rg Try.f21 4) 5 fr h = pureS (aindexAt Try.prog 33 (fr.getD 18 .top) (fr.getD 19 .top)) fr 20 h := by kernel_rfl
theorem st21_4_6 : astep Try.prog call (rg Try.f21 4) 6 fr h = pureS (afieldAt Try.prog 69 (fr.getD 20 .top) 0) fr 21 h := by kernel_rfl
theorem st21_4_7 : astep Try.prog call (rg Try.f21 4) 7 fr h = pureS (ldV Try.prog 9 (fr.getD 21 .top) h) fr 22 h := by kernel_rfl
theorem st21_4_8 : astep Try.prog call (rg Try.f21 4) 8 fr h = pureS (some (fr.getD 1 .top)) fr 23 h := by kernel_rfl
theorem st21_4_9 : astep Try.prog call (rg Try.f21 4) 9 fr h = pureS (abin Try.prog .eql 9 (.tmp 22) (.tmp 23) (fr.getD 22 .top) (fr.getD 23 .top)) fr 24 h := by kernel_rfl
theorem reg21_5 : arun Try.prog K call lf (.region 5 (rg Try.f21 5) false) fr h = regR (aops Try.prog call (rg Try.f21 5) [0] fr h) := by kernel_rfl
theorem st21_5_0 : astep Try.prog call (rg Try.f21 5) 0 fr h = pureS (some (.bool true)) fr 4 h := by kernel_rfl
theorem reg21_3 : arun Try.prog K call lf (.region 3 (rg Try.f21 3) false) fr h = regR (aops Try.prog call (rg Try.f21 3) [0, 1, 2] fr h) := by kernel_rfl
theorem st21_3_0 : astep Try.prog call (rg Try.f21 3) 0 fr h = pureS (some (fr.getD 5 .top)) fr 13 h := by kernel_rfl
theorem st21_3_1 : astep Try.prog call (rg Try.f21 3) 1 fr h = pureS (abin Try.prog .add 3 (.tmp 13) (.const (.int .i64 1)) (fr.getD 13 .top) (.int .i64 1)) fr 14 h := by kernel_rfl
theorem st21_3_2 : astep Try.prog call (rg Try.f21 3) 2 fr h = pureS (some (fr.getD 14 .top)) fr 5 h := by kernel_rfl
theorem reg21_6 : arun Try.prog K call lf (.region 6 (rg Try.f21 6) false) fr h = regR (aops Try.prog call (rg Try.f21 6) [0] fr h) := by kernel_rfl
theorem st21_6_0 : astep Try.prog call (rg Try.f21 6) 0 fr h = pureS (some (.bool false)) fr 4 h := by kernel_rfl
end
-- SIMP21: reg21_0, st21_0_0, reg21_1, st21_1_0, reg21_2, st21_2_0, st21_2_1, st21_2_2, st21_2_3, st21_2_4, st21_2_5, st21_2_6, reg21_4, st21_4_0, st21_4_1, st21_4_2, st21_4_3, st21_4_4, st21_4_5, st21_4_6, st21_4_7, st21_4_8, st21_4_9, reg21_5, st21_5_0, reg21_3, st21_3_0, st21_3_1, st21_3_2, reg21_6, st21_6_0

/-! ### 22: conch/conchref04.Same -/
noncomputable def lp22_4 : Code := (.seq (.seq (.region 4 (rg Try.f22 4) false) (.cond (.tmp 20) .skip (.exit 0))) (.seq (.block 1 (.seq (.region 6 (rg Try.f22 6) true) (.cond (.tmp 31) (.seq (.region 7 (rg Try.f22 7) false) .ret) .skip))) (.region 5 (rg Try.f22 5) false)))
theorem cl22_4 (x0 x1 x2 x3 x4 x5 x6 x7 x8 x9 x10 x11 x12 x13 x14 x15 x16 x17 x18 x19 x20 x21 x22 x23 x24 x25 x26 x27 x28 x29 x30 x31 : AV) : aclear (HK 22) lp22_4 [x0, x1, x2, x3, x4, x5, x6, x7, x8, x9, x10, x11, x12, x13, x14, x15, x16, x17, x18, x19, x20, x21, x22, x23, x24, x25, x26, x27, x28, x29, x30, x31] = [x0, x1, .top, .top, x4, x5, .top, .top, .top, .top, .top, .top, .top, .top, .top, .top, .top, .top, .top, .top, .top, .top, .top, .top, .top, .top, .top, .top, .top, .top, .top, .top] := by kernel_rfl
noncomputable def cd22 : Code := (.seq (.region 0 (rg Try.f22 0) false) (.seq (.seq (.region 1 (rg Try.f22 1) false) (.cond (.tmp 10) (.seq (.region 2 (rg Try.f22 2) false) .ret) .skip)) (.seq (.seq (.region 3 (rg Try.f22 3) false) (.block 0 (.loop lp22_4))) (.seq (.region 8 (rg Try.f22 8) false) .ret))))
theorem ent22 (n : Nat) (a0 a1 : AV) (h : AH) : X (n + 1) 22 [a0, a1] h = fin1 (arun Try.prog (HK 22) (X n) n cd22 [a0, a1, .tup [], .tup [], .tup [], .tup [], .tup [], .tup [], .tup [], .tup [], .tup [], .tup [], .tup [], .tup [], .tup [], .tup [], .tup [], .tup [], .tup [], .tup [], .tup [], .tup [], .tup [], .tup [], .tup [], .tup [], .tup [], .tup [], .tup [], .tup [], .tup [], .tup []] h) 4 := by kernel_rfl
section
variable (K : Hint) (call : FuncId → List AV → AH → Option (AV × AH)) (lf : Nat) (fr : List AV) (h : AH)
theorem reg22_0 : arun Try.prog K call lf (.region 0 (rg Try.f22 0) false) fr h = regR (aops Try.prog call (rg Try.f22 0) [0] fr h) := by kernel_rfl
theorem st22_0_0 : astep Try.prog call (rg Try.f22 0) 0 fr h = pureS (some (.bool false)) fr 4 h := by kernel_rfl
theorem reg22_1 : arun Try.prog K call lf (.region 1 (rg Try.f22 1) false) fr h = regR (aops Try.prog call (rg Try.f22 1) [0, 1, 2, 3, 4] fr h) := by kernel_rfl
theorem st22_1_0 : astep Try.prog call (rg Try.f22 1) 0 fr h = pureS (some (fr.getD 0 .top)) fr 6 h := by kernel_rfl
theorem st22_1_1 : astep Try.prog call (rg Try.f22 1) 1 fr h = pureS (lenV (alen Try.prog 40 (fr.getD 6 .top))) fr 7 h := by kernel_rfl
theorem st22_1_2 : astep Try.prog call (rg Try.f22 1) 2 fr h = pureS (some (fr.getD 1 .top)) fr 8 h := by kernel_rfl
theorem st22_1_3 : astep Try.prog call (rg Try.f22 1) 3 fr h = pureS (lenV (alen Try.prog 40 (fr.getD 8 .top))) fr 9 h := by kernel_rfl
theorem st22_1_4 : astep Try.prog call (rg Try.f22 1) 4 fr h = pureS (abin Try.prog .neq 3 (.tmp 7) (.tmp 9) (fr.getD 7 .top) (fr.getD 9 .top)) fr 10 h := by kernel_rfl
theorem reg22_2 : arun Try.prog K call lf (.region 2 (rg Try.f22 2) false) fr h = regR (aops Try.prog call (rg Try.f22 2) [0] fr h) := by kernel_rfl
theorem st22_2_0 : astep Try.prog call (rg Try.f22 2) 0 fr h = pureS (some (.bool false)) fr 4 h := by kernel_rfl
theorem reg22_3 : arun Try.prog K call lf (.region 3 (rg Try.f22 3) false) fr h = regR (aops Try.prog call (rg Try.f22 3) [0] fr h) := by kernel_rfl
theorem st22_3_0 : astep Try.prog call (rg Try.f22 3) 0 fr h = pureS (some (.int .i64 0)) fr 5 h := by kernel_rfl
theorem reg22_4 : arun Try.prog K call lf (.region 4 (rg Try.f22 4) false) fr h = regR (aops Try.prog call (rg Try.f22 4) [0, 1, 2, 3, 4, 5, 6, 7, 8, 9] fr h) := by kernel_rfl
theorem st22_4_0 : astep Try.prog call (rg Try.f22 4) 0 fr h = pureS (some (fr.getD 5 .top)) fr 11 h := by kernel_rfl
theorem st22_4_1 : astep Try.prog call (rg Try.f22 4) 1 fr h = pureS (some (fr.getD 0 .top)) fr 12 h := by kernel_rfl
theorem st22_4_2 : astep Try.prog call (rg Try.f22 4) 2 fr h = pureS (lenV (alen Try.prog 40 (fr.getD 12 .top))) fr 13 h := by kernel_rfl
theorem st22_4_3 : astep Try.prog call (rg Try.f22 4) 3 fr h = pureS (abin Try.prog .lss 3 (.tmp 11) (.tmp 13) (fr.getD 11 .top) (fr.getD 13 .top)) fr 14 h := by kernel_rfl
theorem st22_4_4 : astep Try.prog call (rg Try.f22 4) 4 fr h = pureS (some (fr.getD 14 .top)) fr 15 h := by kernel_rfl
theorem st22_4_5 : astep Try.prog call (rg Try.f22 4) 5 fr h = gdS (fr.getD 15 .top) true (some (fr.set 16 (.tup []), h)) (pureS (some (fr.getD 5 .top)) fr 16 h) := by kernel_rfl
theorem st22_4_6 : astep Try.prog call (rg Try.f22 4) 6 fr h = gdS (fr.getD 15 .top) true (some (fr.set 17 (.tup []), h)) (pureS (some (fr.getD 1 .top)) fr 17 h) := by kernel_rfl
theorem st22_4_7 : astep Try.prog call (rg Try.f22 4) 7 fr h = gdS (fr.getD 15 .top) true (some (fr.set 18 (.tup []), h)) (pureS (lenV (alen Try.prog 40 (fr.getD 17 .top))) fr 18 h) := by kernel_rfl
theorem st22_4_8 : astep Try.prog call (rg Try.f22 4) 8 fr h = gdS (fr.getD 15 .top) true (some (fr.set 19 (.tup []), h)) (pureS (abin Try.prog .lss 3 (.tmp 16) (.tmp 18) (fr.getD 16 .top) (fr.getD 18 .top)) fr 19 h) := by kernel_rfl
theorem st22_4_9 : astep Try.prog call (rg Try.f22 4) 9 fr h = pureS (pickV (fr.getD 15 .top) (fr.getD 19 .top) (.bool false)) fr 20 h := by kernel_rfl
theorem dok22_6 : drawOK Try.prog (befs (rg Try.f22 6).toList []) (rg Try.f22 6) = true := by kernel_rfl
theorem prs22_6 : pairsOK Try.prog (befs (rg Try.f22 6).toList []) (rg Try.f22 6) [] = true := by kernel_rfl
theorem rng22_6 : List.range (rg Try.f22 6).size = [0, 1, 2, 3, 4, 5, 6, 7, 8] := by kernel_rfl
theorem reg22_6 : arun Try.prog K call lf (.region 6 (rg Try.f22 6) true) fr h = regR (aops Try.prog call (rg Try.f22 6) [0, 1, 2, 3, 4, 5, 6, 7, 8] fr h) := (show _ = regR (adraw Try.prog call (rg Try.f22 6) fr h) by kernel_rfl).trans (congrArg regR ((adraw_plain dok22_6 prs22_6).trans (congrArg (fun l => aops Try.prog call (rg Try.f22 6) l fr h) rng22_6)))
theorem st22_6_0 : astep Try.prog call (rg Try.f22 6) 0 fr h = pureS (some (fr.getD 0 .top)) fr 23 h := by kernel_rfl
theorem st22_6_1 : astep Try.prog call (rg Try.f22 6) 1 fr h = pureS (some (fr.getD 5 .top)) fr 24 h := by kernel_rfl
theorem st22_6_2 : astep Try.prog call (rg Try.f22 6) 2 fr h = pureS (aindexAt Try.prog 40 (fr.getD 23 .top) (fr.getD 24 .top)) fr 25 h := by kernel_rfl
theorem st22_6_3 : astep Try.prog call (rg Try.f22 6) 3 fr h = pureS (ldV Try.prog 9 (fr.getD 25 .top) h) fr 26 h := by kernel_rfl
theorem st22_6_4 : astep Try.prog call (rg Try.f22 6) 4 fr h = pureS (some (fr.getD 1 .top)) fr 27 h := by kernel_rfl
theorem st22_6_5 : astep Try.prog call (rg Try.f22 6) 5 fr h = pureS (some (fr.getD 5 .top)) fr 28 h := by kernel_rfl
theorem st22_6_6 : astep Try.prog call (rg Try.f22 6) 6 fr h = pureS (aindexAt Try.prog 40 (fr.getD 27 .top) (fr.getD 28 .top)) fr 29 h := by kernel_rfl
theorem st22_6_7 : astep Try.prog call (rg Try.f22 6) 7 fr h = pureS (ldV Try.prog 9 (fr.getD 29 .top) h) fr 30 h := by kernel_rfl
theorem st22_6_8 : astep Try.prog call (rg Try.f22 6) 8 fr h = pureS (abin Try.prog .neq 9 (.tmp 26) (.tmp 30) (fr.getD 26 .top) (fr.getD 30 .top)) fr 31 h := by kernel_rfl
theorem reg22_7 : arun Try.prog K call lf (.region 7 (rg Try.f22 7) false) fr h = regR (aops Try.prog call (rg Try.f22 7) [0] fr h) := by kernel_rfl
theorem st22_7_0 : astep Try.prog call (rg Try.f22 7) 0 fr h = pureS (some (.bool false)) fr 4 h := by kernel_rfl
theorem reg22_5 : arun Try.prog K call lf (.region 5 (rg Try.f22 5) false) fr h = regR (aops Try.prog call (rg Try.f22 5) [0, 1, 2] fr h) := by kernel_rfl
theorem st22_5_0 : astep Try.prog call (rg Try.f22 5) 0 fr h = pureS (some (fr.getD 5 .top)) fr 21 h := by kernel_rfl
theorem st22_5_1 : astep Try.prog call (rg Try.f22 5) 1 fr h = pureS (abin Try.prog .add 3 (.tmp 21) (.const (.int .i64 1)) (fr.getD 21 .top) (.int .i64 1)) fr 22 h := by kernel_rfl
theorem st22_5_2 : astep Try.prog call (rg Try.f22 5) 2 fr h = pureS (some (fr.getD 22 .top)) fr 5 h := by kernel_rfl
theorem reg22_8 : arun Try.prog K call lf (.region 8 (rg Try.f22 8) false) fr h = regR (aops Try.prog call (rg Try.f22 8) [0] fr h) := by kernel_rfl
theorem st22_8_0 : astep Try.prog call (rg Try.f22 8) 0 fr h = pureS (some (.bool true)) fr 4 h := by kernel_rfl
end
-- SIMP22: reg22_0, st22_0_0, reg22_1, st22_1_0, st22_1_1, st22_1_2, st22_1_3, st22_1_4, reg22_2, st22_2_0, reg22_3, st22_3_0, reg22_4, st22_4_0, st22_4_1, st22_4_2, st22_4_3, st22_4_4, st22_4_5, st22_4_6, st22_4_7, st22_4_8, st22_4_9, reg22_6, st22_6_0, st22_6_1, st22_6_2, st22_6_3, st22_6_4, st22_6_5, st22_6_6, st22_6_7, st22_6_8, reg22_7, st22_7_0, reg22_5, st22_5_0, st22_5_1, st22_5_2, reg22_8, st22_8_0

/-! ### 23: (*conch/source.Source).Names -/
noncomputable def lp23_3 : Code := (.seq (.region 3 (rg Try.f23 3) false) (.seq (.cond (.tmp 8) .skip (.exit 0)) (.seq (.block 1 (.seq (.region 4 (rg Try.f23 4) false) (.region 5 (rg Try.f23 5) false))) (.region 6 (rg Try.f23 6) false))))
theorem cl23_3 (x0 x1 x2 x3 x4 x5 x6 x7 x8 x9 x10 x11 x12 x13 x14 x15 x16 x17 x18 x19 x20 x21 x22 : AV) : aclear (HK 23) lp23_3 [x0, x1, x2, x3, x4, x5, x6, x7, x8, x9, x10, x11, x12, x13, x14, x15, x16, x17, x18, x19, x20, x21, x22] = [x0, .top, x2, x3, .top, .top, x6, x7, .top, .top, .top, .top, .top, .top, .top, .top, .top, .top, .top, .top, .top, .top, .top] := by kernel_rfl
noncomputable def cd23 : Code := (.seq (.region 0 (rg Try.f23 0) false) (.seq (.region 1 (rg Try.f23 1) false) (.seq (.seq (.region 2 (rg Try.f23 2) false) (.block 0 (.loop lp23_3))) (.seq (.region 7 (rg Try.f23 7) false) .ret))))
theorem ent23 (n : Nat) (a0 : AV) (h : AH) : X (n + 1) 23 [a0] h = fin1 (arun Try.prog (HK 23) (X n) n cd23 [a0, .tup [], .tup [], .tup [], .tup [], .tup [], .tup [], .tup [], .tup [], .tup [], .tup [], .tup [], .tup [], .tup [], .tup [], .tup [], .tup [], .tup [], .tup [], .tup [], .tup [], .tup [], .tup []] h) 2 := by kernel_rfl
section
variable (K : Hint) (call : FuncId → List AV → AH → Option (AV × AH)) (lf : Nat) (fr : List AV) (h : AH)
theorem reg23_0 : arun Try.prog K call lf (.region 0 (rg Try.f23 0) false) fr h = regR (aops Try.prog call (rg Try.f23 0) [0] fr h) := by kernel_rfl
theorem st23_0_0 : astep Try.prog call (rg Try.f23 0) 0 fr h = pureS (some (.nilSl)) fr 2 h := by kernel_rfl
theorem reg23_1 : arun Try.prog K call lf (.region 1 (rg Try.f23 1) false) fr h = regR (aops Try.prog call (rg Try.f23 1) [0] fr h) := by kernel_rfl
theorem st23_1_0 : astep Try.prog call (rg Try.f23 1) 0 fr h = pureS (some (.nilSl)) fr 3 h := by kernel_rfl
theorem reg23_2 : arun Try.prog K call lf (.region 2 (rg Try.f23 2) false) fr h = regR (aops Try.prog call (rg Try.f23 2) [0, 1, 2] fr h) := by kernel_rfl
theorem st23_2_0 : astep Try.prog call (rg Try.f23 2) 0 fr h = pureS (some (fr.getD 0 .top)) fr 5 h := by kernel_rfl
theorem st23_2_1 : astep Try.prog call (rg Try.f23 2) 1 fr h = heapS (callV call (.fn (.func 18) [] []) [(fr.getD 5 .top)] h) fr 6 := by kernel_rfl
theorem st23_2_2 : astep Try.prog call (rg Try.f23 2) 2 fr h = pureS (some (.int .i64 0)) fr 7 h := by kernel_rfl
theorem reg23_3 : arun Try.prog K call lf (.region 3 (rg Try.f23 3) false) fr h = regR (aops Try.prog call (rg Try.f23 3) [0] fr h) := by kernel_rfl
theorem st23_3_0 : astep Try.prog call (rg Try.f23 3) 0 fr h = pureS (abin Try.prog .lss 3 (.tmp 7) (.tmp 6) (fr.getD 7 .top) (fr.getD 6 .top)) fr 8 h := by kernel_rfl
theorem reg23_4 : arun Try.prog K call lf (.region 4 (rg Try.f23 4) false) fr h = regR (aops Try.prog call (rg Try.f23 4) [0, 1] fr h) := by kernel_rfl
theorem st23_4_0 : astep Try.prog call (rg Try.f23 4) 0 fr h = pureS (some (fr.getD 7 .top)) fr 9 h := by kernel_rfl
theorem st23_4_1 : astep Try.prog call (rg Try.f23 4) 1 fr h = pureS (some (fr.getD 9 .top)) fr 4 h := by kernel_rfl
theorem reg23_5 : arun Try.prog K call lf (.region 5 (rg Try.f23 5) false) fr h = regR (aops Try.prog call (rg Try.f23 5) [0, 1, 2, 3, 4, 5, 6, 7, 8, 9, 10, 11] fr h) := by kernel_rfl
theorem st23_5_0 : astep Try.prog call (rg Try.f23 5) 0 fr h = pureS (some (fr.getD 3 .top)) fr 10 h := by kernel_rfl
theorem st23_5_1 : astep Try.prog call (rg Try.f23 5) 1 fr h = pureS (some (fr.getD 0 .top)) fr 11 h := by kernel_rfl
theorem st23_5_2 : astep Try.prog call (rg Try.f23 5) 2 fr h = pureS (anilCheck (fr.getD 11 .top)) fr 12 h := by kernel_rfl
theorem st23_5_3 : astep Try.prog call (rg Try.f23 5) 3 fr h = pureS (afieldAt Try.prog 64 (fr.getD 12 .top) 0) fr 13 h := by kernel_rfl
theorem st23_5_4 : astep Try.prog call (rg Try.f23 5) 4 fr h = pureS (ldV Try.prog 62 (fr.getD 13 .top) h) fr 14 h := by kernel_rfl
theorem st23_5_5 : astep Try.prog call (rg Try.f23 5) 5 fr h = pureS (some (fr.getD 4 .top)) fr 15 h := by kernel_rfl
theorem st23_5_6 : astep Try.prog call (rg Try.f23 5) 6 fr h = pureS (aindexAt Try.prog 62 (fr.getD 14 .top) (fr.getD 15 .top)) fr 16 h := by kernel_rfl
theorem st23_5_7 : astep Try.prog call (rg Try.f23 5) 7 fr h = pureS (afieldAt Try.prog 66 (fr.getD 16 .top) 0) fr 17 h := by kernel_rfl
theorem st23_5_8 : astep Try.prog call (rg Try.f23 5) 8 fr h = pureS (ldV Try.prog 9 (fr.getD 17 .top) h) fr 18 h := by kernel_rfl
theorem st23_5_9 : astep Try.prog call (rg Try.f23 5) 9 fr h = heapS (bslV Try.prog 40 1 [(0, (fr.getD 18 .top))] h) fr 19 := by kernel_rfl
theorem st23_5_10 : astep Try.prog call (rg Try.f23 5) 10 fr h = heapS (aappend Try.prog 40 40 (fr.getD 10 .top) (fr.getD 19 .top) h) fr 20 := by kernel_rfl
theorem st23_5_11 : astep Try.prog call (rg Try.f23 5) 11 fr h = pureS (some (fr.getD 20 .top)) fr 3 h := by kernel_rfl
theorem reg23_6 : arun Try.prog K call lf (.region 6 (rg Try.f23 6) false) fr h = regR (aops Try.prog call (rg Try.f23 6) [0, 1] fr h) := by kernel_rfl
theorem st23_6_0 : astep Try.prog call (rg Try.f23 6) 0 fr h = pureS (abin Try.prog .add 3 (.tmp 7) (.const (.int .i64 1)) (fr.getD 7 .top) (.int .i64 1)) fr 21 h := by kernel_rfl
theorem st23_6_1 : astep Try.prog call (rg Try.f23 6) 1 fr h = pureS (some (fr.getD 21 .top)) fr 7 h := by kernel_rfl
theorem reg23_7 : arun Try.prog K call lf (.region 7 (rg Try.f23 7) false) fr h = regR (aops Try.prog call (rg Try.f23 7) [0, 1] fr h) := by kernel_rfl
theorem st23_7_0 : astep Try.prog call (rg Try.f23 7) 0 fr h = pureS (some (fr.getD 3 .top)) fr 22 h := by kernel_rfl
theorem st23_7_1 : astep Try.prog call (rg Try.f23 7) 1 fr h = pureS (some (fr.getD 22 .top)) fr 2 h := by kernel_rfl
end
-- SIMP23: reg23_0, st23_0_0, reg23_1, st23_1_0, reg23_2, st23_2_0, st23_2_1, st23_2_2, reg23_3, st23_3_0, reg23_4, st23_4_0, st23_4_1, reg23_5, st23_5_0, st23_5_1, st23_5_2, st23_5_3, st23_5_4, st23_5_5, st23_5_6, st23_5_7, st23_5_8, st23_5_9, st23_5_10, st23_5_11, reg23_6, st23_6_0, st23_6_1, reg23_7, st23_7_0, st23_7_1

/-! ### 24: (*conch/conchref37.Source).Names -/
noncomputable def lp24_3 : Code := (.seq (.seq (.region 3 (rg Try.f24 3) false) (.cond (.tmp 11) .skip (.exit 0))) (.seq (.block 1 (.region 5 (rg Try.f24 5) false)) (.region 4 (rg Try.f24 4) false)))
theorem cl24_3 (x0 x1 x2 x3 x4 x5 x6 x7 x8 x9 x10 x11 x12 x13 x14 x15 x16 x17 x18 x19 x20 x21 x22 x23 x24 x25 : AV) : aclear (HK 24) lp24_3 [x0, x1, x2, x3, x4, x5, x6, x7, x8, x9, x10, x11, x12, x13, x14, x15, x16, x17, x18, x19, x20, x21, x22, x23, x24, x25] = [x0, .top, x2, x3, x4, .top, .top, .top, .top, .top, .top, .top, .top, .top, .top, .top, .top, .top, .top, .top, .top, .top, .top, .top, .top, .top] := by kernel_rfl
noncomputable def cd24 : Code := (.seq (.region 0 (rg Try.f24 0) false) (.seq (.region 1 (rg Try.f24 1) false) (.seq (.seq (.region 2 (rg Try.f24 2) false) (.block 0 (.loop lp24_3))) (.seq (.region 6 (rg Try.f24 6) false) .ret))))
theorem ent24 (n : Nat) (a0 : AV) (h : AH) : X (n + 1) 24 [a0] h = fin1 (arun Try.prog (HK 24) (X n) n cd24 [a0, .tup [], .tup [], .tup [], .tup [], .tup [], .tup [], .tup [], .tup [], .tup [], .tup [], .tup [], .tup [], .tup [], .tup [], .tup [], .tup [], .tup [], .tup [], .tup [], .tup [], .tup [], .tup [], .tup [], .tup [], .tup []] h) 2 := by kernel_rfl
section
variable (K : Hint) (call : FuncId → List AV → AH → Option (AV × AH)) (lf : Nat) (fr : List AV) (h : AH)
theorem reg24_0 : arun Try.prog K call lf (.region 0 (rg Try.f24 0) false) fr h = regR (aops Try.prog call (rg Try.f24 0) [0] fr h) := by kernel_rfl
theorem st24_0_0 : astep Try.prog call (rg Try.f24 0) 0 fr h = pureS (some (.nilSl)) fr 2 h := by kernel_rfl
theorem reg24_1 : arun Try.prog K call lf (.region 1 (rg Try.f24 1) false) fr h = regR (aops Try.prog call (rg Try.f24 1) [0] fr h) := by kernel_rfl
theorem st24_1_0 : astep Try.prog call (rg Try.f24 1) 0 fr h = pureS (some (.nilSl)) fr 3 h := by kernel_rfl
theorem reg24_2 : arun Try.prog K call lf (.region 2 (rg Try.f24 2) false) fr h = regR (aops Try.prog call (rg Try.f24 2) [0] fr h) := by kernel_rfl
theorem st24_2_0 : astep Try.prog call (rg Try.f24 2) 0 fr h = pureS (some (.int .i64 0)) fr 4 h := by kernel_rfl
theorem reg24_3 : arun Try.prog K call lf (.region 3 (rg Try.f24 3) false) fr h = regR (aops Try.prog call (rg Try.f24 3) [0, 1, 2, 3, 4, 5, 6] fr h) := by kernel_rfl
theorem st24_3_0 : astep Try.prog call (rg Try.f24 3) 0 fr h = pureS (some (fr.getD 4 .top)) fr 5 h := by kernel_rfl
theorem st24_3_1 : astep Try.prog call (rg Try.f24 3) 1 fr h = pureS (some (fr.getD 0 .top)) fr 6 h := by kernel_rfl
theorem st24_3_2 : astep Try.prog call (rg Try.f24 3) 2 fr h = pureS (anilCheck (fr.getD 6 .top)) fr 7 h := by kernel_rfl
theorem st24_3_3 : astep Try.prog call (rg Try.f24 3) 3 fr h = pureS (afieldAt Try.prog 35 (fr.getD 7 .top) 0) fr 8 h := by kernel_rfl
theorem st24_3_4 : astep Try.prog call (rg Try.f24 3) 4 fr h = pureS (ldV Try.prog 33 (fr.getD 8 .top) h) fr 9 h := by kernel_rfl
theorem st24_3_5 : astep Try.prog call (rg Try.f24 3) 5 fr h = pureS (lenV (alen Try.prog 33 (fr.getD 9 .top))) fr 10 h := by kernel_rfl
theorem st24_3_6 : astep Try.prog call (rg Try.f24 3) 6 fr h = pureS (abin Try.prog .lss 3 (.tmp 5) (.tmp 10) (fr.getD 5 .top) (fr.getD 10 .top)) fr 11 h := by kernel_rfl
theorem reg24_5 : arun Try.prog K call lf (.region 5 (rg Try.f24 5) false) fr h = regR (aops Try.prog call (rg Try.f24 5) [0, 1, 2, 3, 4, 5, 6, 7, 8, 9, 10, 11] fr h) := by kernel_rfl
theorem st24_5_0 : astep Try.prog call (rg Try.f24 5) 0 fr h = pureS (some (fr.getD 3 .top)) fr 14 h := by kernel_rfl
theorem st24_5_1 : astep Try.prog call (rg Try.f24 5) 1 fr h = pureS (some (fr.getD 0 .top)) fr 15 h := by kernel_rfl
theorem st24_5_2 : astep Try.prog call (rg Try.f24 5) 2 fr h = pureS (anilCheck (fr.getD 15 .top)) fr 16 h := by kernel_rfl
theorem st24_5_3 : astep Try.prog call (rg Try.f24 5) 3 fr h = pureS (afieldAt Try.prog 35 (fr.getD 16 .top) 0) fr 17 h := by kernel_rfl
theorem st24_5_4 : astep Try.prog call (rg Try.f24 5) 4 fr h = pureS (ldV Try.prog 33 (fr.getD 17 .top) h) fr 18 h := by kernel_rfl
theorem st24_5_5 : astep Try.prog call (rg Try.f24 5) 5 fr h = pureS (some (fr.getD 4 .top)) fr 19 h := by kernel_rfl
theorem st24_5_6 : astep Try.prog call (rg Try.f24 5) 6 fr h = pureS (aindexAt Try.prog 33 (fr.getD 18 .top) (fr.getD 19 .top)) fr 20 h := by kernel_rfl
theorem st24_5_7 : astep Try.prog call (rg Try.f24 5) 7 fr h = pureS (afieldAt Try.prog 69 (fr.getD 20 .top) 0) fr 21 h := by kernel_rfl
theorem st24_5_8 : astep Try.prog call (rg Try.f24 5) 8 fr h = pureS (ldV Try.prog 9 (fr.getD 21 .top) h) fr 22 h := by kernel_rfl
theorem st24_5_9 : astep Try.prog call (rg Try.f24 5) 9 fr h = heapS (bslV Try.prog 40 1 [(0, (fr.getD 22 .top))] h) fr 23 := by kernel_rfl
theorem st24_5_10 : astep Try.prog call (rg Try.f24 5) 10 fr h = heapS (aappend Try.prog 40 40 (fr.getD 14 .top) (fr.getD 23 .top) h) fr 24 := by kernel_rfl
theorem st24_5_11 : astep Try.prog call (rg Try.f24 5) 11 fr h = pureS (some (fr.getD 24 .top)) fr 3 h := by kernel_rfl
theorem reg24_4 : arun Try.prog K call lf (.region 4 (rg Try.f24 4) false) fr h = regR (aops Try.prog call (rg Try.f24 4) [0, 1, 2] fr h) := by kernel_rfl
theorem st24_4_0 : astep Try.prog call (rg Try.f24 4) 0 fr h = pureS (some (fr.getD 4 .top)) fr 12 h := by kernel_rfl
theorem st24_4_1 : astep Try.prog call (rg Try.f24 4) 1 fr h = pureS (abin Try.prog .add 3 (.tmp 12) (.const (.int .i64 1)) (fr.getD 12 .top) (.int .i64 1)) fr 13 h := by kernel_rfl
theorem st24_4_2 : astep Try.prog call (rg Try.f24 4) 2 fr h = pureS (some (fr.getD 13 .top)) fr 4 h := by kernel_rfl
theorem reg24_6 : arun Try.prog K call lf (.region 6 (rg Try.f24 6) false) fr h = regR (aops Try.prog call (rg Try.f24 6) [0, 1] fr h) := by kernel_rfl
theorem st24_6_0 : astep Try.prog call (rg Try.f24 6) 0 fr h = pureS (some (fr.getD 3 .top)) fr 25 h := by kernel_rfl
theorem st24_6_1 : astep Try.prog call (rg Try.f24 6) 1 fr h = pureS (some (fr.getD 25 .top)) fr 2 h := by kernel_rfl
end
-- SIMP24: reg24_0, st24_0_0, reg24_1, st24_1_0, reg24_2, st24_2_0, reg24_3, st24_3_0, st24_3_1, st24_3_2, st24_3_3, st24_3_4, st24_3_5, st24_3_6, reg24_5, st24_5_0, st24_5_1, st24_5_2, st24_5_3, st24_5_4, st24_5_5, st24_5_6, st24_5_7, st24_5_8, st24_5_9, st24_5_10, st24_5_11, reg24_4, st24_4_0, st24_4_1, st24_4_2, reg24_6, st24_6_0, st24_6_1

end Go.Proofs.Ytgnacecplaemlaa
