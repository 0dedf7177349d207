import Derived.Test.YtgnacecplaemlaaS0
namespace Go.Proofs.Ytgnacecplaemlaa
open AI
set_option linter.unusedVariables false
/-! ### 5: conch/conchlaw37.SourceNone -/
noncomputable def cd5 : Code := (.seq (.region 0 (rg Try.f5 0) false) (.seq (.seq (.region 1 (rg Try.f5 1) false) (.cond (.tmp 15) (.seq (.region 2 (rg Try.f5 2) false) .ret) .skip)) (.seq (.region 3 (rg Try.f5 3) false) (.seq (.region 4 (rg Try.f5 4) false) (.seq (.region 5 (rg Try.f5 5) false) .ret)))))
theorem ent5 (n : Nat) (a0 a1 : AV) (h : AH) : X (n + 1) 5 [a0, a1] h = fin1 (arun Try.prog (HK 5) (X n) n cd5 [a0, a1, .tup [], .tup [], .tup [], .tup [], .tup [], .tup [], .tup [], .tup [], .tup [], .tup [], .tup [], .tup [], .tup [], .tup [], .tup [], .tup [], .tup [], .tup [], .tup [], .tup [], .tup [], .tup [], .tup [], .tup [], .tup [], .tup [], .tup [], .tup [], .tup [], .tup [], .tup [], .tup [], .tup [], .tup [], .tup [], .tup [], .tup [], .tup [], .tup [], .tup [], .tup [], .tup [], .tup [], .tup [], .tup [], .tup [], .tup [], .tup [], .tup [], .tup [], .tup [], .tup [], .tup [], .tup [], .tup [], .tup [], .tup [], .tup []] h) 4 := by kernel_rfl
section
variable (K : Hint) (call : FuncId → List AV → AH → Option (AV × AH)) (lf : Nat) (fr : List AV) (h : AH)
theorem reg5_0 : arun Try.prog K call lf (.region 0 (rg Try.f5 0) false) fr h = regR (aops Try.prog call (rg Try.f5 0) [0] fr h) := by kernel_rfl
theorem st5_0_0 : astep Try.prog call (rg Try.f5 0) 0 fr h = pureS (some (.bool false)) fr 4 h := by kernel_rfl
theorem reg5_1 : arun Try.prog K call lf (.region 1 (rg Try.f5 1) false) fr h = regR (aops Try.prog call (rg Try.f5 1) [0, 1, 2, 3, 4, 5, 6, 7] fr h) := by kernel_rfl
theorem st5_1_0 : astep Try.prog call (rg Try.f5 1) 0 fr h = pureS (some (fr.getD 0 .top)) fr 8 h := by kernel_rfl
theorem st5_1_1 : astep Try.prog call (rg Try.f5 1) 1 fr h = pureS (lenV (alen Try.prog 9 (fr.getD 8 .top))) fr 9 h := by kernel_rfl
theorem st5_1_2 : astep Try.prog call (rg Try.f5 1) 2 fr h = pureS (abin Try.prog .gtr 3 (.tmp 9) (.const (.int .i64 1000)) (fr.getD 9 .top) (.int .i64 1000)) fr 10 h := by kernel_rfl
theorem st5_1_3 : astep Try.prog call (rg Try.f5 1) 3 fr h = pureS (some (fr.getD 10 .top)) fr 11 h := by kernel_rfl
theorem st5_1_4 : astep Try.prog call (rg Try.f5 1) 4 fr h = gdS (fr.getD 11 .top) false (some (fr.set 12 (.tup []), h)) (pureS (some (fr.getD 1 .top)) fr 12 h) := by kernel_rfl
theorem st5_1_5 : astep Try.prog call (rg Try.f5 1) 5 fr h = gdS (fr.getD 11 .top) false (some (fr.set 13 (.tup []), h)) (pureS (lenV (alen Try.prog 9 (fr.getD 12 .top))) fr 13 h) := by kernel_rfl
theorem st5_1_6 : astep Try.prog call (rg Try.f5 1) 6 fr h = gdS (fr.getD 11 .top) false (some (fr.set 14 (.tup []), h)) (pureS (abin Try.prog .gtr 3 (.tmp 13) (.const (.int .i64 1000)) (fr.getD 13 .top) (.int .i64 1000)) fr 14 h) := by kernel_rfl
theorem st5_1_7 : astep Try.prog call (rg Try.f5 1) 7 fr h = pureS (pickV (fr.getD 11 .top) (.bool true) (fr.getD 14 .top)) fr 15 h := by kernel_rfl
theorem reg5_2 : arun Try.prog K call lf (.region 2 (rg Try.f5 2) false) fr h = regR (aops Try.prog call (rg Try.f5 2) [0, 1] fr h) := by kernel_rfl
theorem st5_2_0 : astep Try.prog call (rg Try.f5 2) 0 fr h = heapS (callV call (.fn (.func 8) [] []) [] h) fr 16 := by kernel_rfl
theorem st5_2_1 : astep Try.prog call (rg Try.f5 2) 1 fr h = pureS (some (fr.getD 16 .top)) fr 4 h := by kernel_rfl
theorem reg5_3 : arun Try.prog K call lf (.region 3 (rg Try.f5 3) false) fr h = regR (aops Try.prog call (rg Try.f5 3) [0] fr h) := by kernel_rfl
theorem st5_3_0 : astep Try.prog call (rg Try.f5 3) 0 fr h = pureS (some (.nilp)) fr 5 h := by kernel_rfl
theorem reg5_4 : arun Try.prog K call lf (.region 4 (rg Try.f5 4) false) fr h = regR (aops Try.prog call (rg Try.f5 4) [0, 1, 2, 3, 4, 5, 6] fr h) := by kernel_rfl
theorem st5_4_0 : astep Try.prog call (rg Try.f5 4) 0 fr h = pureS (some (fr.getD 5 .top)) fr 18 h := by kernel_rfl
theorem st5_4_1 : astep Try.prog call (rg Try.f5 4) 1 fr h = heapS (callV call (.fn (.func 11) [] []) [(fr.getD 18 .top)] h) fr 19 := by kernel_rfl
theorem st5_4_2 : astep Try.prog call (rg Try.f5 4) 2 fr h = pureS (some (fr.getD 19 .top)) fr 17 h := by kernel_rfl
theorem st5_4_3 : astep Try.prog call (rg Try.f5 4) 3 fr h = pureS (extV (fr.getD 17 .top) 0) fr 20 h := by kernel_rfl
theorem st5_4_4 : astep Try.prog call (rg Try.f5 4) 4 fr h = pureS (extV (fr.getD 17 .top) 1) fr 21 h := by kernel_rfl
theorem st5_4_5 : astep Try.prog call (rg Try.f5 4) 5 fr h = pureS (some (fr.getD 20 .top)) fr 6 h := by kernel_rfl
theorem st5_4_6 : astep Try.prog call (rg Try.f5 4) 6 fr h = pureS (some (fr.getD 21 .top)) fr 7 h := by kernel_rfl
theorem reg5_5 : arun Try.prog K call lf (.region 5 (rg Try.f5 5) false) fr h = regR (aops Try.prog call (rg Try.f5 5) [0, 1, 2, 3, 4, 5, 6, 7, 8, 9, 10, 11, 12, 13, 14, 15, 16, 17, 18, 19, 20, 21, 22, 23, 24, 25, 26, 27, 28, 29, 30, 31, 32, 33, 34, 35, 36, 37, 38] fr h) := by kernel_rfl
theorem st5_5_0 : astep Try.prog call (rg Try.f5 5) 0 fr h = pureS (some (fr.getD 5 .top)) fr 22 h := by kernel_rfl
theorem st5_5_1 : astep Try.prog call (rg Try.f5 5) 1 fr h = pureS (some (fr.getD 0 .top)) fr 23 h := by kernel_rfl
theorem st5_5_2 : astep Try.prog call (rg Try.f5 5) 2 fr h = pureS (some (fr.getD 1 .top)) fr 24 h := by kernel_rfl
theorem st5_5_3 : astep Try.prog call (rg Try.f5 5) 3 fr h = heapS (callV call (.fn (.func 10) [] []) [(fr.getD 22 .top), (fr.getD 23 .top), (fr.getD 24 .top)] h) fr 25 := by kernel_rfl
theorem st5_5_4 : astep Try.prog call (rg Try.f5 5) 4 fr h = pureS (aun .not (fr.getD 25 .top)) fr 26 h := by kernel_rfl
theorem st5_5_5 : astep Try.prog call (rg Try.f5 5) 5 fr h = pureS (some (fr.getD 26 .top)) fr 27 h := by kernel_rfl
theorem st5_5_6 : astep Try.prog call (rg Try.f5 5) 6 fr h = gdS (fr.getD 27 .top) true (some (fr.set 28 (.tup []), h)) (pureS (some (fr.getD 5 .top)) fr 28 h) := by kernel_rfl
theorem st5_5_7 : astep Try.prog call (rg Try.f5 5) 7 fr h = gdS (fr.getD 27 .top) true (some (fr.set 29 (.tup []), h)) (pureS (some (fr.getD 0 .top)) fr 29 h) := by kernel_rfl
theorem st5_5_8 : astep Try.prog call (rg Try.f5 5) 8 fr h = gdS (fr.getD 27 .top) true (some (fr.set 30 (.tup []), h)) (heapS (callV call (.fn (.func 20) [] []) [(fr.getD 28 .top), (fr.getD 29 .top)] h) fr 30) := by kernel_rfl
theorem st5_5_9 : astep Try.prog call (rg Try.f5 5) 9 fr h = gdS (fr.getD 27 .top) true (some (fr.set 31 (.tup []), h)) (pureS (aun .not (fr.getD 30 .top)) fr 31 h) := by kernel_rfl
theorem st5_5_10 : astep Try.prog call (rg Try.f5 5) 10 fr h = pureS (pickV (fr.getD 27 .top) (fr.getD 31 .top) (.bool false)) fr 32 h := by kernel_rfl
theorem st5_5_11 : astep Try.prog call (rg Try.f5 5) 11 fr h = pureS (some (fr.getD 32 .top)) fr 33 h := by kernel_rfl
theorem st5_5_12 : astep Try.prog call (rg Try.f5 5) 12 fr h = gdS (fr.getD 33 .top) true (some (fr.set 34 (.tup []), h)) (pureS (some (fr.getD 7 .top)) fr 34 h) := by kernel_rfl
theorem st5_5_13 : astep Try.prog call (rg Try.f5 5) 13 fr h = gdS (fr.getD 33 .top) true (some (fr.set 35 (.tup []), h)) (pureS (aun .not (fr.getD 34 .top)) fr 35 h) := by kernel_rfl
theorem st5_5_14 : astep Try.prog call (rg Try.f5 5) 14 fr h = pureS (pickV (fr.getD 33 .top) (fr.getD 35 .top) (.bool false)) fr 36 h := by kernel_rfl
theorem st5_5_15 : astep Try.prog call (rg Try.f5 5) 15 fr h = pureS (some (fr.getD 36 .top)) fr 37 h := by kernel_rfl
theorem st5_5_16 : astep Try.prog call (rg Try.f5 5) 16 fr h = gdS (fr.getD 37 .top) true (some (fr.set 38 (.tup []), h)) (pureS (some (fr.getD 5 .top)) fr 38 h) := by kernel_rfl
theorem st5_5_17 : astep Try.prog call (rg Try.f5 5) 17 fr h = gdS (fr.getD 37 .top) true (some (fr.set 39 (.tup []), h)) (heapS (callV call (.fn (.func 12) [] []) [(fr.getD 38 .top)] h) fr 39) := by kernel_rfl
theorem st5_5_18 : astep Try.prog call (rg Try.f5 5) 18 fr h = gdS (fr.getD 37 .top) true (some (fr.set 40 (.tup []), h)) (pureS (aun .not (fr.getD 39 .top)) fr 40 h) := by kernel_rfl
theorem st5_5_19 : astep Try.prog call (rg Try.f5 5) 19 fr h = pureS (pickV (fr.getD 37 .top) (fr.getD 40 .top) (.bool false)) fr 41 h := by kernel_rfl
theorem st5_5_20 : astep Try.prog call (rg Try.f5 5) 20 fr h = pureS (some (fr.getD 41 .top)) fr 42 h := by kernel_rfl
theorem st5_5_21 : astep Try.prog call (rg Try.f5 5) 21 fr h = gdS (fr.getD 42 .top) true (some (fr.set 43 (.tup []), h)) (pureS (some (fr.getD 5 .top)) fr 43 h) := by kernel_rfl
theorem st5_5_22 : astep Try.prog call (rg Try.f5 5) 22 fr h = gdS (fr.getD 42 .top) true (some (fr.set 44 (.tup []), h)) (heapS (callV call (.fn (.func 18) [] []) [(fr.getD 43 .top)] h) fr 44) := by kernel_rfl
theorem st5_5_23 : astep Try.prog call (rg Try.f5 5) 23 fr h = gdS (fr.getD 42 .top) true (some (fr.set 45 (.tup []), h)) (pureS (some (fr.getD 5 .top)) fr 45 h) := by kernel_rfl
theorem st5_5_24 : astep Try.prog call (rg Try.f5 5) 24 fr h = gdS (fr.getD 42 .top) true (some (fr.set 46 (.tup []), h)) (heapS (callV call (.fn (.func 13) [] []) [(fr.getD 45 .top)] h) fr 46) := by kernel_rfl
theorem st5_5_25 : astep Try.prog call (rg Try.f5 5) 25 fr h = gdS (fr.getD 42 .top) true (some (fr.set 47 (.tup []), h)) (pureS (abin Try.prog .add 3 (.tmp 44) (.tmp 46) (fr.getD 44 .top) (fr.getD 46 .top)) fr 47 h) := by kernel_rfl
theorem st5_5_26 : astep Try.prog call (rg Try.f5 5) 26 fr h = gdS (fr.getD 42 .top) true (some (fr.set 48 (.tup []), h)) (pureS (some (fr.getD 5 .top)) fr 48 h) := by kernel_rfl
theorem st5_5_27 : astep Try.prog call (rg Try.f5 5) 27 fr h = gdS (fr.getD 42 .top) true (some (fr.set 49 (.tup []), h)) (heapS (callV call (.fn (.func 14) [] []) [(fr.getD 48 .top)] h) fr 49) := by kernel_rfl
theorem st5_5_28 : astep Try.prog call (rg Try.f5 5) 28 fr h = gdS (fr.getD 42 .top) true (some (fr.set 50 (.tup []), h)) (pureS (abin Try.prog .add 3 (.tmp 47) (.tmp 49) (fr.getD 47 .top) (fr.getD 49 .top)) fr 50 h) := by kernel_rfl
theorem st5_5_29 : astep Try.prog call (rg Try.f5 5) 29 fr h = gdS (fr.getD 42 .top) true (some (fr.set 51 (.tup []), h)) (pureS (some (fr.getD 5 .top)) fr 51 h) := by kernel_rfl
theorem st5_5_30 : astep Try.prog call (rg Try.f5 5) 30 fr h = gdS (fr.getD 42 .top) true (some (fr.set 52 (.tup []), h)) (heapS (callV call (.fn (.func 23) [] []) [(fr.getD 51 .top)] h) fr 52) := by kernel_rfl
theorem st5_5_31 : astep Try.prog call (rg Try.f5 5) 31 fr h = gdS (fr.getD 42 .top) true (some (fr.set 53 (.tup []), h)) (pureS (lenV (alen Try.prog 40 (fr.getD 52 .top))) fr 53 h) := by kernel_rfl
theorem st5_5_32 : astep Try.prog call (rg Try.f5 5) 32 fr h = gdS (fr.getD 42 .top) true (some (fr.set 54 (.tup []), h)) (pureS (abin Try.prog .add 3 (.tmp 50) (.tmp 53) (fr.getD 50 .top) (fr.getD 53 .top)) fr 54 h) := by kernel_rfl
theorem st5_5_33 : astep Try.prog call (rg Try.f5 5) 33 fr h = gdS (fr.getD 42 .top) true (some (fr.set 55 (.tup []), h)) (pureS (abin Try.prog .eql 3 (.tmp 54) (.const (.int .i64 0)) (fr.getD 54 .top) (.int .i64 0)) fr 55 h) := by kernel_rfl
theorem st5_5_34 : astep Try.prog call (rg Try.f5 5) 34 fr h = pureS (pickV (fr.getD 42 .top) (fr.getD 55 .top) (.bool false)) fr 56 h := by kernel_rfl
theorem st5_5_35 : astep Try.prog call (rg Try.f5 5) 35 fr h = pureS (some (fr.getD 56 .top)) fr 57 h := by kernel_rfl
theorem st5_5_36 : astep Try.prog call (rg Try.f5 5) 36 fr h = gdS (fr.getD 57 .top) true (some (fr.set 58 (.tup []), h)) (heapS (callV call (.fn (.func 8) [] []) [] h) fr 58) := by kernel_rfl
theorem st5_5_37 : astep Try.prog call (rg Try.f5 5) 37 fr h = pureS (pickV (fr.getD 57 .top) (fr.getD 58 .top) (.bool false)) fr 59 h := by kernel_rfl
theorem st5_5_38 : astep Try.prog call (rg Try.f5 5) 38 fr h = pureS (some (fr.getD 59 .top)) fr 4 h := by kernel_rfl
end
-- SIMP5: reg5_0, st5_0_0, reg5_1, st5_1_0, st5_1_1, st5_1_2, st5_1_3, st5_1_4, st5_1_5, st5_1_6, st5_1_7, reg5_2, st5_2_0, st5_2_1, reg5_3, st5_3_0, reg5_4, st5_4_0, st5_4_1, st5_4_2, st5_4_3, st5_4_4, st5_4_5, st5_4_6, reg5_5, st5_5_0, st5_5_1, st5_5_2, st5_5_3, st5_5_4, st5_5_5, st5_5_6, st5_5_7, st5_5_8, st5_5_9, st5_5_10, st5_5_11, st5_5_12, st5_5_13, st5_5_14, st5_5_15, st5_5_16, st5_5_17, st5_5_18, st5_5_19, st5_5_20, st5_5_21, st5_5_22, st5_5_23, st5_5_24, st5_5_25, st5_5_26, st5_5_27, st5_5_28, st5_5_29, st5_5_30, st5_5_31, st5_5_32, st5_5_33, st5_5_34, st5_5_35, st5_5_36, st5_5_37, st5_5_38

end Go.Proofs.Ytgnacecplaemlaa
