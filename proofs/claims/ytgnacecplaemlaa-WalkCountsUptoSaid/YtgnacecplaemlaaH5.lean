import Derived.Test.YtgnacecplaemlaaE23
namespace Go.Proofs.Ytgnacecplaemlaa
open AI
set_option linter.unusedVariables false
/-! ### 29: conch/walk.Deep -/
noncomputable def ra29_3 : Code := (.region 3 (rg Try.f29 3) false)
noncomputable def rb29_4 : Code := (.block 1 (.region 4 (rg Try.f29 4) true))
noncomputable def cd29 : Code := (.seq (.region 0 (rg Try.f29 0) false) (.seq (.region 1 (rg Try.f29 1) false) (.seq (.seq (.region 2 (rg Try.f29 2) false) (.block 0 (.rangeFunc (.tmp 6) #[7] ra29_3 rb29_4))) (.seq (.region 5 (rg Try.f29 5) false) .ret))))
theorem ent29 (n : Nat) (a0 : AV) (h : AH) : X (n + 1) (.func 29) [a0] h = nrm h (fin1 (arun Try.prog (HK 29) 29 (X n) n none cd29 [a0, .tup [], .tup [], .tup [], .tup [], .tup [], .tup [], .tup [], .tup [], .tup [], .tup [], .tup [], .tup [], .tup []] h) 2) := by kernel_rfl
section
variable (K : Hint) (fid : FuncId) (call : ACall) (lf : Nat) (rd : Option Nat) (fr : List AV) (h : AH)
theorem reg29_0 : arun Try.prog K fid call lf rd (.region 0 (rg Try.f29 0) false) fr h = regR (aops Try.prog call (rg Try.f29 0) [0, 1] fr h) := by kernel_rfl
theorem st29_0_0 : astep Try.prog call (rg Try.f29 0) 0 fr h = heapS (boxV (fr.getD 0 .top) h) fr 1 := by kernel_rfl
theorem st29_0_1 : astep Try.prog call (rg Try.f29 0) 1 fr h = pureS (some (.int .i64 0)) fr 2 h := by kernel_rfl
theorem reg29_1 : arun Try.prog K fid call lf rd (.region 1 (rg Try.f29 1) false) fr h = regR (aops Try.prog call (rg Try.f29 1) [0, 1] fr h) := by kernel_rfl
theorem st29_1_0 : astep Try.prog call (rg Try.f29 1) 0 fr h = heapS (newV Try.prog 3 h) fr 3 := by kernel_rfl
theorem st29_1_1 : astep Try.prog call (rg Try.f29 1) 1 fr h = heapN (stV Try.prog 3 (fr.getD 3 .top) (.int .i64 0) h) fr := by kernel_rfl
theorem reg29_2 : arun Try.prog K fid call lf rd (.region 2 (rg Try.f29 2) false) fr h = regR (aops Try.prog call (rg Try.f29 2) [0, 1] fr h) := by kernel_rfl
theorem st29_2_0 : astep Try.prog call (rg Try.f29 2) 0 fr h = pureS (ldV Try.prog 49 (fr.getD 1 .top) h) fr 5 h := by kernel_rfl
theorem st29_2_1 : astep Try.prog call (rg Try.f29 2) 1 fr h = heapS (callV call (.fn (.func 53) [] []) [(fr.getD 5 .top)] h) fr 6 := by kernel_rfl
theorem reg29_3 : arun Try.prog K fid call lf rd (.region 3 (rg Try.f29 3) false) fr h = regR (aops Try.prog call (rg Try.f29 3) [0, 1] fr h) := by kernel_rfl
theorem st29_3_0 : astep Try.prog call (rg Try.f29 3) 0 fr h = heapS (newV Try.prog 49 h) fr 4 := by kernel_rfl
theorem st29_3_1 : astep Try.prog call (rg Try.f29 3) 1 fr h = heapN (stV Try.prog 49 (fr.getD 4 .top) (fr.getD 7 .top) h) fr := by kernel_rfl
theorem reg29_4 : arun Try.prog (HK 29) fid call lf rd (.region 4 (rg Try.f29 4) true) fr h = regR (aopsS Try.prog call (rg Try.f29 4) [(0, true), (1, true), (2, true), (3, false), (4, false)] fr h) := by kernel_rfl
theorem st29_4_0 : astep Try.prog call (rg Try.f29 4) 0 fr h = pureS (ldV Try.prog 3 (fr.getD 3 .top) h) fr 8 h := by kernel_rfl
theorem st29_4_1 : astep Try.prog call (rg Try.f29 4) 1 fr h = pureS (ldV Try.prog 49 (fr.getD 4 .top) h) fr 9 h := by kernel_rfl
theorem st29_4_2 : astep Try.prog call (rg Try.f29 4) 2 fr h = heapS (callV call (.fn (.func 29) [] []) [(fr.getD 9 .top)] h) fr 10 := by kernel_rfl
theorem st29_4_3 : astep Try.prog call (rg Try.f29 4) 3 fr h = pureS (maxV [(fr.getD 8 .top), (fr.getD 10 .top)]) fr 11 h := by kernel_rfl
theorem st29_4_4 : astep Try.prog call (rg Try.f29 4) 4 fr h = heapN (stV Try.prog 3 (fr.getD 3 .top) (fr.getD 11 .top) h) fr := by kernel_rfl
theorem reg29_5 : arun Try.prog K fid call lf rd (.region 5 (rg Try.f29 5) false) fr h = regR (aops Try.prog call (rg Try.f29 5) [0, 1, 2] fr h) := by kernel_rfl
theorem st29_5_0 : astep Try.prog call (rg Try.f29 5) 0 fr h = pureS (ldV Try.prog 3 (fr.getD 3 .top) h) fr 12 h := by kernel_rfl
theorem st29_5_1 : astep Try.prog call (rg Try.f29 5) 1 fr h = pureS (abin Try.prog .add 3 (.tmp 12) (.const (.int .i64 1)) (fr.getD 12 .top) (.int .i64 1)) fr 13 h := by kernel_rfl
theorem st29_5_2 : astep Try.prog call (rg Try.f29 5) 2 fr h = pureS (some (fr.getD 13 .top)) fr 2 h := by kernel_rfl
end
-- SIMP29: reg29_0, st29_0_0, st29_0_1, reg29_1, st29_1_0, st29_1_1, reg29_2, st29_2_0, st29_2_1, reg29_3, st29_3_0, st29_3_1, reg29_4, st29_4_0, st29_4_1, st29_4_2, st29_4_3, st29_4_4, reg29_5, st29_5_0, st29_5_1, st29_5_2

/-! ### 30: conch/walk.Calls -/
noncomputable def ra30_3 : Code := (.region 3 (rg Try.f30 3) false)
noncomputable def rb30_4 : Code := (.block 1 (.seq (.seq (.region 4 (rg Try.f30 4) false) (.cond (.tmp 18) (.exit 1) .skip)) (.seq (.region 5 (rg Try.f30 5) false) (.seq (.region 6 (rg Try.f30 6) false) (.cond (.tmp 27) (.region 7 (rg Try.f30 7) false) .skip)))))
noncomputable def cd30 : Code := (.seq (.region 0 (rg Try.f30 0) false) (.seq (.region 1 (rg Try.f30 1) false) (.seq (.seq (.region 2 (rg Try.f30 2) false) (.block 0 (.rangeFunc (.tmp 8) #[9] ra30_3 rb30_4))) (.seq (.region 8 (rg Try.f30 8) false) .ret))))
theorem ent30 (n : Nat) (a0 : AV) (h : AH) : X (n + 1) (.func 30) [a0] h = nrm h (fin1 (arun Try.prog (HK 30) 30 (X n) n none cd30 [a0, .tup [], .tup [], .tup [], .tup [], .tup [], .tup [], .tup [], .tup [], .tup [], .tup [], .tup [], .tup [], .tup [], .tup [], .tup [], .tup [], .tup [], .tup [], .tup [], .tup [], .tup [], .tup [], .tup [], .tup [], .tup [], .tup [], .tup [], .tup [], .tup [], .tup [], .tup [], .tup []] h) 2) := by kernel_rfl
section
variable (K : Hint) (fid : FuncId) (call : ACall) (lf : Nat) (rd : Option Nat) (fr : List AV) (h : AH)
theorem reg30_0 : arun Try.prog K fid call lf rd (.region 0 (rg Try.f30 0) false) fr h = regR (aops Try.prog call (rg Try.f30 0) [0, 1] fr h) := by kernel_rfl
theorem st30_0_0 : astep Try.prog call (rg Try.f30 0) 0 fr h = heapS (boxV (fr.getD 0 .top) h) fr 1 := by kernel_rfl
theorem st30_0_1 : astep Try.prog call (rg Try.f30 0) 1 fr h = pureS (some (.nilSl)) fr 2 h := by kernel_rfl
theorem reg30_1 : arun Try.prog K fid call lf rd (.region 1 (rg Try.f30 1) false) fr h = regR (aops Try.prog call (rg Try.f30 1) [0] fr h) := by kernel_rfl
theorem st30_1_0 : astep Try.prog call (rg Try.f30 1) 0 fr h = heapS (newV Try.prog 40 h) fr 3 := by kernel_rfl
theorem reg30_2 : arun Try.prog K fid call lf rd (.region 2 (rg Try.f30 2) false) fr h = regR (aops Try.prog call (rg Try.f30 2) [0, 1] fr h) := by kernel_rfl
theorem st30_2_0 : astep Try.prog call (rg Try.f30 2) 0 fr h = pureS (ldV Try.prog 49 (fr.getD 1 .top) h) fr 7 h := by kernel_rfl
theorem st30_2_1 : astep Try.prog call (rg Try.f30 2) 1 fr h = heapS (callV call (.fn (.func 51) [] []) [(fr.getD 7 .top)] h) fr 8 := by kernel_rfl
theorem reg30_3 : arun Try.prog K fid call lf rd (.region 3 (rg Try.f30 3) false) fr h = regR (aops Try.prog call (rg Try.f30 3) [0, 1] fr h) := by kernel_rfl
theorem st30_3_0 : astep Try.prog call (rg Try.f30 3) 0 fr h = heapS (newV Try.prog 49 h) fr 4 := by kernel_rfl
theorem st30_3_1 : astep Try.prog call (rg Try.f30 3) 1 fr h = heapN (stV Try.prog 49 (fr.getD 4 .top) (fr.getD 9 .top) h) fr := by kernel_rfl
theorem reg30_4 : arun Try.prog K fid call lf rd (.region 4 (rg Try.f30 4) false) fr h = regR (aops Try.prog call (rg Try.f30 4) [0, 1, 2, 3, 4, 5, 6, 7, 8] fr h) := by kernel_rfl
theorem st30_4_0 : astep Try.prog call (rg Try.f30 4) 0 fr h = pureS (afieldAt Try.prog 49 (fr.getD 4 .top) 0) fr 10 h := by kernel_rfl
theorem st30_4_1 : astep Try.prog call (rg Try.f30 4) 1 fr h = pureS (ldV Try.prog 3 (fr.getD 10 .top) h) fr 11 h := by kernel_rfl
theorem st30_4_2 : astep Try.prog call (rg Try.f30 4) 2 fr h = pureS (abin Try.prog .neq 3 (.tmp 11) (.const (.int .i64 4)) (fr.getD 11 .top) (.int .i64 4)) fr 12 h := by kernel_rfl
theorem st30_4_3 : astep Try.prog call (rg Try.f30 4) 3 fr h = pureS (some (fr.getD 12 .top)) fr 13 h := by kernel_rfl
theorem st30_4_4 : astep Try.prog call (rg Try.f30 4) 4 fr h = gdS (fr.getD 13 .top) false (some (fr.set 14 (.tup []), h)) (pureS (afieldAt Try.prog 49 (fr.getD 4 .top) 6) fr 14 h) := by kernel_rfl
theorem st30_4_5 : astep Try.prog call (rg Try.f30 4) 5 fr h = gdS (fr.getD 13 .top) false (some (fr.set 15 (.tup []), h)) (pureS (ldV Try.prog 44 (fr.getD 14 .top) h) fr 15 h) := by kernel_rfl
theorem st30_4_6 : astep Try.prog call (rg Try.f30 4) 6 fr h = gdS (fr.getD 13 .top) false (some (fr.set 16 (.tup []), h)) (pureS (lenV (alen Try.prog 44 (fr.getD 15 .top))) fr 16 h) := by kernel_rfl
theorem st30_4_7 : astep Try.prog call (rg Try.f30 4) 7 fr h = gdS (fr.getD 13 .top) false (some (fr.set 17 (.tup []), h)) (pureS (abin Try.prog .eql 3 (.tmp 16) (.const (.int .i64 0)) (fr.getD 16 .top) (.int .i64 0)) fr 17 h) := by kernel_rfl
theorem st30_4_8 : astep Try.prog call (rg Try.f30 4) 8 fr h = pureS (pickV (fr.getD 13 .top) (.bool true) (fr.getD 17 .top)) fr 18 h := by kernel_rfl
theorem reg30_5 : arun Try.prog K fid call lf rd (.region 5 (rg Try.f30 5) false) fr h = regR (aops Try.prog call (rg Try.f30 5) [0, 1, 2, 3, 4, 5, 6, 7, 8, 9] fr h) := by kernel_rfl
theorem st30_5_0 : astep Try.prog call (rg Try.f30 5) 0 fr h = pureS (afieldAt Try.prog 49 (fr.getD 4 .top) 6) fr 20 h := by kernel_rfl
theorem st30_5_1 : astep Try.prog call (rg Try.f30 5) 1 fr h = pureS (ldV Try.prog 44 (fr.getD 20 .top) h) fr 21 h := by kernel_rfl
theorem st30_5_2 : astep Try.prog call (rg Try.f30 5) 2 fr h = pureS (aindexAt Try.prog 44 (fr.getD 21 .top) (.int .i64 0)) fr 22 h := by kernel_rfl
theorem st30_5_3 : astep Try.prog call (rg Try.f30 5) 3 fr h = pureS (ldV Try.prog 60 (fr.getD 22 .top) h) fr 23 h := by kernel_rfl
theorem st30_5_4 : astep Try.prog call (rg Try.f30 5) 4 fr h = heapS (callV call (.fn (.func 54) [] []) [(fr.getD 23 .top)] h) fr 24 := by kernel_rfl
theorem st30_5_5 : astep Try.prog call (rg Try.f30 5) 5 fr h = pureS (some (fr.getD 24 .top)) fr 19 h := by kernel_rfl
theorem st30_5_6 : astep Try.prog call (rg Try.f30 5) 6 fr h = pureS (extV (fr.getD 19 .top) 0) fr 25 h := by kernel_rfl
theorem st30_5_7 : astep Try.prog call (rg Try.f30 5) 7 fr h = pureS (extV (fr.getD 19 .top) 1) fr 26 h := by kernel_rfl
theorem st30_5_8 : astep Try.prog call (rg Try.f30 5) 8 fr h = pureS (some (fr.getD 25 .top)) fr 5 h := by kernel_rfl
theorem st30_5_9 : astep Try.prog call (rg Try.f30 5) 9 fr h = pureS (some (fr.getD 26 .top)) fr 6 h := by kernel_rfl
theorem reg30_6 : arun Try.prog K fid call lf rd (.region 6 (rg Try.f30 6) false) fr h = regR (aops Try.prog call (rg Try.f30 6) [0] fr h) := by kernel_rfl
theorem st30_6_0 : astep Try.prog call (rg Try.f30 6) 0 fr h = pureS (some (fr.getD 6 .top)) fr 27 h := by kernel_rfl
theorem reg30_7 : arun Try.prog K fid call lf rd (.region 7 (rg Try.f30 7) false) fr h = regR (aops Try.prog call (rg Try.f30 7) [0, 1, 2, 3, 4] fr h) := by kernel_rfl
theorem st30_7_0 : astep Try.prog call (rg Try.f30 7) 0 fr h = pureS (ldV Try.prog 40 (fr.getD 3 .top) h) fr 28 h := by kernel_rfl
theorem st30_7_1 : astep Try.prog call (rg Try.f30 7) 1 fr h = pureS (some (fr.getD 5 .top)) fr 29 h := by kernel_rfl
theorem st30_7_2 : astep Try.prog call (rg Try.f30 7) 2 fr h = heapS (bslV Try.prog 40 1 [(0, (fr.getD 29 .top))] h) fr 30 := by kernel_rfl
theorem st30_7_3 : astep Try.prog call (rg Try.f30 7) 3 fr h = heapS (aappend Try.prog 40 40 (fr.getD 28 .top) (fr.getD 30 .top) h) fr 31 := by kernel_rfl
theorem st30_7_4 : astep Try.prog call (rg Try.f30 7) 4 fr h = heapN (stV Try.prog 40 (fr.getD 3 .top) (fr.getD 31 .top) h) fr := by kernel_rfl
theorem reg30_8 : arun Try.prog K fid call lf rd (.region 8 (rg Try.f30 8) false) fr h = regR (aops Try.prog call (rg Try.f30 8) [0, 1] fr h) := by kernel_rfl
theorem st30_8_0 : astep Try.prog call (rg Try.f30 8) 0 fr h = pureS (ldV Try.prog 40 (fr.getD 3 .top) h) fr 32 h := by kernel_rfl
theorem st30_8_1 : astep Try.prog call (rg Try.f30 8) 1 fr h = pureS (some (fr.getD 32 .top)) fr 2 h := by kernel_rfl
end
-- SIMP30: reg30_0, st30_0_0, st30_0_1, reg30_1, st30_1_0, reg30_2, st30_2_0, st30_2_1, reg30_3, st30_3_0, st30_3_1, reg30_4, st30_4_0, st30_4_1, st30_4_2, st30_4_3, st30_4_4, st30_4_5, st30_4_6, st30_4_7, st30_4_8, reg30_5, st30_5_0, st30_5_1, st30_5_2, st30_5_3, st30_5_4, st30_5_5, st30_5_6, st30_5_7, st30_5_8, st30_5_9, reg30_6, st30_6_0, reg30_7, st30_7_0, st30_7_1, st30_7_2, st30_7_3, st30_7_4, reg30_8, st30_8_0, st30_8_1

/-! ### 54: conch/unquote.Plain -/
noncomputable def cd54 : Code := (.seq (.region 0 (rg Try.f54 0) false) (.seq (.seq (.region 1 (rg Try.f54 1) false) (.cond (.tmp 15) (.seq (.region 2 (rg Try.f54 2) false) .ret) .skip)) (.seq (.region 3 (rg Try.f54 3) false) .ret)))
theorem ent54 (n : Nat) (a0 : AV) (h : AH) : X (n + 1) (.func 54) [a0] h = nrm h (finN (arun Try.prog (HK 54) 54 (X n) n none cd54 [a0, .tup [], .tup [], .tup [], .tup [], .tup [], .tup [], .tup [], .tup [], .tup [], .tup [], .tup [], .tup [], .tup [], .tup [], .tup [], .tup [], .tup [], .tup [], .tup [], .tup []] h) [2, 3]) := by kernel_rfl
section
variable (K : Hint) (fid : FuncId) (call : ACall) (lf : Nat) (rd : Option Nat) (fr : List AV) (h : AH)
theorem reg54_0 : arun Try.prog K fid call lf rd (.region 0 (rg Try.f54 0) false) fr h = regR (aops Try.prog call (rg Try.f54 0) [0, 1, 2] fr h) := by kernel_rfl
theorem st54_0_0 : astep Try.prog call (rg Try.f54 0) 0 fr h = heapS (boxV (fr.getD 0 .top) h) fr 1 := by kernel_rfl
theorem st54_0_1 : astep Try.prog call (rg Try.f54 0) 1 fr h = pureS (some (.str [])) fr 2 h := by kernel_rfl
theorem st54_0_2 : astep Try.prog call (rg Try.f54 0) 2 fr h = pureS (some (.bool false)) fr 3 h := by kernel_rfl
theorem reg54_1 : arun Try.prog K fid call lf rd (.region 1 (rg Try.f54 1) false) fr h = regR (aops Try.prog call (rg Try.f54 1) [0, 1, 2, 3, 4, 5, 6, 7, 8, 9, 10, 11] fr h) := by kernel_rfl
theorem st54_1_0 : astep Try.prog call (rg Try.f54 1) 0 fr h = pureS (afieldAt Try.prog 60 (fr.getD 1 .top) 0) fr 4 h := by kernel_rfl
theorem st54_1_1 : astep Try.prog call (rg Try.f54 1) 1 fr h = pureS (ldV Try.prog 58 (fr.getD 4 .top) h) fr 5 h := by kernel_rfl
theorem st54_1_2 : astep Try.prog call (rg Try.f54 1) 2 fr h = pureS (lenV (alen Try.prog 58 (fr.getD 5 .top))) fr 6 h := by kernel_rfl
theorem st54_1_3 : astep Try.prog call (rg Try.f54 1) 3 fr h = pureS (abin Try.prog .eql 3 (.tmp 6) (.const (.int .i64 1)) (fr.getD 6 .top) (.int .i64 1)) fr 7 h := by kernel_rfl
theorem st54_1_4 : astep Try.prog call (rg Try.f54 1) 4 fr h = pureS (some (fr.getD 7 .top)) fr 8 h := by kernel_rfl
theorem st54_1_5 : astep Try.prog call (rg Try.f54 1) 5 fr h = gdS (fr.getD 8 .top) true (some (fr.set 9 (.tup []), h)) (pureS (afieldAt Try.prog 60 (fr.getD 1 .top) 0) fr 9 h) := by kernel_rfl
theorem st54_1_6 : astep Try.prog call (rg Try.f54 1) 6 fr h = gdS (fr.getD 8 .top) true (some (fr.set 10 (.tup []), h)) (pureS (ldV Try.prog 58 (fr.getD 9 .top) h) fr 10 h) := by kernel_rfl
theorem st54_1_7 : astep Try.prog call (rg Try.f54 1) 7 fr h = gdS (fr.getD 8 .top) true (some (fr.set 11 (.tup []), h)) (pureS (aindexAt Try.prog 58 (fr.getD 10 .top) (.int .i64 0)) fr 11 h) := by kernel_rfl
theorem st54_1_8 : astep Try.prog call (rg Try.f54 1) 8 fr h = gdS (fr.getD 8 .top) true (some (fr.set 12 (.tup []), h)) (pureS (afieldAt Try.prog 78 (fr.getD 11 .top) 0) fr 12 h) := by kernel_rfl
theorem st54_1_9 : astep Try.prog call (rg Try.f54 1) 9 fr h = gdS (fr.getD 8 .top) true (some (fr.set 13 (.tup []), h)) (pureS (ldV Try.prog 3 (fr.getD 12 .top) h) fr 13 h) := by kernel_rfl
theorem st54_1_10 : astep Try.prog call (rg Try.f54 1) 10 fr h = gdS (fr.getD 8 .top) true (some (fr.set 14 (.tup []), h)) (pureS (abin Try.prog .eql 3 (.tmp 13) (.const (.int .i64 1)) (fr.getD 13 .top) (.int .i64 1)) fr 14 h) := by kernel_rfl
theorem st54_1_11 : astep Try.prog call (rg Try.f54 1) 11 fr h = pureS (pickV (fr.getD 8 .top) (fr.getD 14 .top) (.bool false)) fr 15 h := by kernel_rfl
theorem reg54_2 : arun Try.prog K fid call lf rd (.region 2 (rg Try.f54 2) false) fr h = regR (aops Try.prog call (rg Try.f54 2) [0, 1, 2, 3, 4, 5, 6] fr h) := by kernel_rfl
theorem st54_2_0 : astep Try.prog call (rg Try.f54 2) 0 fr h = pureS (afieldAt Try.prog 60 (fr.getD 1 .top) 0) fr 16 h := by kernel_rfl
theorem st54_2_1 : astep Try.prog call (rg Try.f54 2) 1 fr h = pureS (ldV Try.prog 58 (fr.getD 16 .top) h) fr 17 h := by kernel_rfl
theorem st54_2_2 : astep Try.prog call (rg Try.f54 2) 2 fr h = pureS (aindexAt Try.prog 58 (fr.getD 17 .top) (.int .i64 0)) fr 18 h := by kernel_rfl
theorem st54_2_3 : astep Try.prog call (rg Try.f54 2) 3 fr h = pureS (afieldAt Try.prog 78 (fr.getD 18 .top) 1) fr 19 h := by kernel_rfl
theorem st54_2_4 : astep Try.prog call (rg Try.f54 2) 4 fr h = pureS (ldV Try.prog 9 (fr.getD 19 .top) h) fr 20 h := by kernel_rfl
theorem st54_2_5 : astep Try.prog call (rg Try.f54 2) 5 fr h = pureS (some (fr.getD 20 .top)) fr 2 h := by kernel_rfl
theorem st54_2_6 : astep Try.prog call (rg Try.f54 2) 6 fr h = pureS (some (.bool true)) fr 3 h := by kernel_rfl
theorem reg54_3 : arun Try.prog K fid call lf rd (.region 3 (rg Try.f54 3) false) fr h = regR (aops Try.prog call (rg Try.f54 3) [0, 1] fr h) := by kernel_rfl
theorem st54_3_0 : astep Try.prog call (rg Try.f54 3) 0 fr h = pureS (some (.str [])) fr 2 h := by kernel_rfl
theorem st54_3_1 : astep Try.prog call (rg Try.f54 3) 1 fr h = pureS (some (.bool false)) fr 3 h := by kernel_rfl
end
-- SIMP54: reg54_0, st54_0_0, st54_0_1, st54_0_2, reg54_1, st54_1_0, st54_1_1, st54_1_2, st54_1_3, st54_1_4, st54_1_5, st54_1_6, st54_1_7, st54_1_8, st54_1_9, st54_1_10, st54_1_11, reg54_2, st54_2_0, st54_2_1, st54_2_2, st54_2_3, st54_2_4, st54_2_5, st54_2_6, reg54_3, st54_3_0, st54_3_1

/-! ### 6: conch/conchlaw42.WalkCounts -/
noncomputable def cd6 : Code := (.seq (.region 0 (rg Try.f6 0) false) (.seq (.seq (.region 1 (rg Try.f6 1) false) (.cond (.tmp 6) (.seq (.region 2 (rg Try.f6 2) false) .ret) .skip)) (.seq (.region 3 (rg Try.f6 3) false) (.seq (.region 4 (rg Try.f6 4) false) .ret))))
theorem ent6 (n : Nat) (a0 : AV) (h : AH) : X (n + 1) (.func 6) [a0] h = nrm h (fin1 (arun Try.prog (HK 6) 6 (X n) n none cd6 [a0, .tup [], .tup [], .tup [], .tup [], .tup [], .tup [], .tup [], .tup [], .tup [], .tup [], .tup [], .tup [], .tup [], .tup [], .tup [], .tup [], .tup [], .tup [], .tup [], .tup [], .tup [], .tup [], .tup [], .tup [], .tup [], .tup [], .tup [], .tup [], .tup [], .tup [], .tup [], .tup [], .tup [], .tup [], .tup [], .tup [], .tup []] h) 2) := by kernel_rfl
section
variable (K : Hint) (fid : FuncId) (call : ACall) (lf : Nat) (rd : Option Nat) (fr : List AV) (h : AH)
theorem reg6_0 : arun Try.prog K fid call lf rd (.region 0 (rg Try.f6 0) false) fr h = regR (aops Try.prog call (rg Try.f6 0) [0, 1] fr h) := by kernel_rfl
theorem st6_0_0 : astep Try.prog call (rg Try.f6 0) 0 fr h = heapS (boxV (fr.getD 0 .top) h) fr 1 := by kernel_rfl
theorem st6_0_1 : astep Try.prog call (rg Try.f6 0) 1 fr h = pureS (some (.bool false)) fr 2 h := by kernel_rfl
theorem reg6_1 : arun Try.prog K fid call lf rd (.region 1 (rg Try.f6 1) false) fr h = regR (aops Try.prog call (rg Try.f6 1) [0, 1, 2] fr h) := by kernel_rfl
theorem st6_1_0 : astep Try.prog call (rg Try.f6 1) 0 fr h = pureS (ldV Try.prog 49 (fr.getD 1 .top) h) fr 4 h := by kernel_rfl
theorem st6_1_1 : astep Try.prog call (rg Try.f6 1) 1 fr h = heapS (callV call (.fn (.func 25) [] []) [(fr.getD 4 .top)] h) fr 5 := by kernel_rfl
theorem st6_1_2 : astep Try.prog call (rg Try.f6 1) 2 fr h = pureS (abin Try.prog .gtr 3 (.tmp 5) (.const (.int .i64 400)) (fr.getD 5 .top) (.int .i64 400)) fr 6 h := by kernel_rfl
theorem reg6_2 : arun Try.prog K fid call lf rd (.region 2 (rg Try.f6 2) false) fr h = regR (aops Try.prog call (rg Try.f6 2) [0, 1] fr h) := by kernel_rfl
theorem st6_2_0 : astep Try.prog call (rg Try.f6 2) 0 fr h = heapS (callV call (.fn (.func 26) [] []) [] h) fr 7 := by kernel_rfl
theorem st6_2_1 : astep Try.prog call (rg Try.f6 2) 1 fr h = pureS (some (fr.getD 7 .top)) fr 2 h := by kernel_rfl
theorem reg6_3 : arun Try.prog K fid call lf rd (.region 3 (rg Try.f6 3) false) fr h = regR (aops Try.prog call (rg Try.f6 3) [0, 1, 2] fr h) := by kernel_rfl
theorem st6_3_0 : astep Try.prog call (rg Try.f6 3) 0 fr h = pureS (ldV Try.prog 49 (fr.getD 1 .top) h) fr 8 h := by kernel_rfl
theorem st6_3_1 : astep Try.prog call (rg Try.f6 3) 1 fr h = heapS (callV call (.fn (.func 27) [] []) [(fr.getD 8 .top)] h) fr 9 := by kernel_rfl
theorem st6_3_2 : astep Try.prog call (rg Try.f6 3) 2 fr h = pureS (some (fr.getD 9 .top)) fr 3 h := by kernel_rfl
theorem reg6_4 : arun Try.prog K fid call lf rd (.region 4 (rg Try.f6 4) false) fr h = regR (aops Try.prog call (rg Try.f6 4) [0, 1, 2, 3, 4, 5, 6, 7, 8, 9, 10, 11, 12, 13, 14, 15, 16, 17, 18, 19, 20, 21, 22, 23, 24, 25, 26, 27, 28] fr h) := by kernel_rfl
theorem st6_4_0 : astep Try.prog call (rg Try.f6 4) 0 fr h = pureS (ldV Try.prog 49 (fr.getD 1 .top) h) fr 10 h := by kernel_rfl
theorem st6_4_1 : astep Try.prog call (rg Try.f6 4) 1 fr h = pureS (some (fr.getD 3 .top)) fr 11 h := by kernel_rfl
theorem st6_4_2 : astep Try.prog call (rg Try.f6 4) 2 fr h = pureS (abin Try.prog .add 3 (.tmp 11) (.const (.int .i64 5)) (fr.getD 11 .top) (.int .i64 5)) fr 12 h := by kernel_rfl
theorem st6_4_3 : astep Try.prog call (rg Try.f6 4) 3 fr h = heapS (callV call (.fn (.func 28) [] []) [(fr.getD 10 .top), (fr.getD 12 .top)] h) fr 13 := by kernel_rfl
theorem st6_4_4 : astep Try.prog call (rg Try.f6 4) 4 fr h = pureS (lenV (alen Try.prog 47 (fr.getD 13 .top))) fr 14 h := by kernel_rfl
theorem st6_4_5 : astep Try.prog call (rg Try.f6 4) 5 fr h = pureS (some (fr.getD 3 .top)) fr 15 h := by kernel_rfl
theorem st6_4_6 : astep Try.prog call (rg Try.f6 4) 6 fr h = pureS (abin Try.prog .eql 3 (.tmp 14) (.tmp 15) (fr.getD 14 .top) (fr.getD 15 .top)) fr 16 h := by kernel_rfl
theorem st6_4_7 : astep Try.prog call (rg Try.f6 4) 7 fr h = pureS (some (fr.getD 16 .top)) fr 17 h := by kernel_rfl
theorem st6_4_8 : astep Try.prog call (rg Try.f6 4) 8 fr h = gdS (fr.getD 17 .top) true (some (fr.set 18 (.tup []), h)) (pureS (ldV Try.prog 49 (fr.getD 1 .top) h) fr 18 h) := by kernel_rfl
theorem st6_4_9 : astep Try.prog call (rg Try.f6 4) 9 fr h = gdS (fr.getD 17 .top) true (some (fr.set 19 (.tup []), h)) (heapS (callV call (.fn (.func 29) [] []) [(fr.getD 18 .top)] h) fr 19) := by kernel_rfl
theorem st6_4_10 : astep Try.prog call (rg Try.f6 4) 10 fr h = gdS (fr.getD 17 .top) true (some (fr.set 20 (.tup []), h)) (pureS (some (fr.getD 3 .top)) fr 20 h) := by kernel_rfl
theorem st6_4_11 : astep Try.prog call (rg Try.f6 4) 11 fr h = gdS (fr.getD 17 .top) true (some (fr.set 21 (.tup []), h)) (pureS (abin Try.prog .leq 3 (.tmp 19) (.tmp 20) (fr.getD 19 .top) (fr.getD 20 .top)) fr 21 h) := by kernel_rfl
theorem st6_4_12 : astep Try.prog call (rg Try.f6 4) 12 fr h = pureS (pickV (fr.getD 17 .top) (fr.getD 21 .top) (.bool false)) fr 22 h := by kernel_rfl
theorem st6_4_13 : astep Try.prog call (rg Try.f6 4) 13 fr h = pureS (some (fr.getD 22 .top)) fr 23 h := by kernel_rfl
theorem st6_4_14 : astep Try.prog call (rg Try.f6 4) 14 fr h = gdS (fr.getD 23 .top) true (some (fr.set 24 (.tup []), h)) (pureS (ldV Try.prog 49 (fr.getD 1 .top) h) fr 24 h) := by kernel_rfl
theorem st6_4_15 : astep Try.prog call (rg Try.f6 4) 15 fr h = gdS (fr.getD 23 .top) true (some (fr.set 25 (.tup []), h)) (heapS (callV call (.fn (.func 29) [] []) [(fr.getD 24 .top)] h) fr 25) := by kernel_rfl
theorem st6_4_16 : astep Try.prog call (rg Try.f6 4) 16 fr h = gdS (fr.getD 23 .top) true (some (fr.set 26 (.tup []), h)) (pureS (abin Try.prog .geq 3 (.tmp 25) (.const (.int .i64 1)) (fr.getD 25 .top) (.int .i64 1)) fr 26 h) := by kernel_rfl
theorem st6_4_17 : astep Try.prog call (rg Try.f6 4) 17 fr h = pureS (pickV (fr.getD 23 .top) (fr.getD 26 .top) (.bool false)) fr 27 h := by kernel_rfl
theorem st6_4_18 : astep Try.prog call (rg Try.f6 4) 18 fr h = pureS (some (fr.getD 27 .top)) fr 28 h := by kernel_rfl
theorem st6_4_19 : astep Try.prog call (rg Try.f6 4) 19 fr h = gdS (fr.getD 28 .top) true (some (fr.set 29 (.tup []), h)) (pureS (ldV Try.prog 49 (fr.getD 1 .top) h) fr 29 h) := by kernel_rfl
theorem st6_4_20 : astep Try.prog call (rg Try.f6 4) 20 fr h = gdS (fr.getD 28 .top) true (some (fr.set 30 (.tup []), h)) (heapS (callV call (.fn (.func 30) [] []) [(fr.getD 29 .top)] h) fr 30) := by kernel_rfl
theorem st6_4_21 : astep Try.prog call (rg Try.f6 4) 21 fr h = gdS (fr.getD 28 .top) true (some (fr.set 31 (.tup []), h)) (pureS (lenV (alen Try.prog 40 (fr.getD 30 .top))) fr 31 h) := by kernel_rfl
theorem st6_4_22 : astep Try.prog call (rg Try.f6 4) 22 fr h = gdS (fr.getD 28 .top) true (some (fr.set 32 (.tup []), h)) (pureS (some (fr.getD 3 .top)) fr 32 h) := by kernel_rfl
theorem st6_4_23 : astep Try.prog call (rg Try.f6 4) 23 fr h = gdS (fr.getD 28 .top) true (some (fr.set 33 (.tup []), h)) (pureS (abin Try.prog .leq 3 (.tmp 31) (.tmp 32) (fr.getD 31 .top) (fr.getD 32 .top)) fr 33 h) := by kernel_rfl
theorem st6_4_24 : astep Try.prog call (rg Try.f6 4) 24 fr h = pureS (pickV (fr.getD 28 .top) (fr.getD 33 .top) (.bool false)) fr 34 h := by kernel_rfl
theorem st6_4_25 : astep Try.prog call (rg Try.f6 4) 25 fr h = pureS (some (fr.getD 34 .top)) fr 35 h := by kernel_rfl
theorem st6_4_26 : astep Try.prog call (rg Try.f6 4) 26 fr h = gdS (fr.getD 35 .top) true (some (fr.set 36 (.tup []), h)) (heapS (callV call (.fn (.func 26) [] []) [] h) fr 36) := by kernel_rfl
theorem st6_4_27 : astep Try.prog call (rg Try.f6 4) 27 fr h = pureS (pickV (fr.getD 35 .top) (fr.getD 36 .top) (.bool false)) fr 37 h := by kernel_rfl
theorem st6_4_28 : astep Try.prog call (rg Try.f6 4) 28 fr h = pureS (some (fr.getD 37 .top)) fr 2 h := by kernel_rfl
end
-- SIMP6: reg6_0, st6_0_0, st6_0_1, reg6_1, st6_1_0, st6_1_1, st6_1_2, reg6_2, st6_2_0, st6_2_1, reg6_3, st6_3_0, st6_3_1, st6_3_2, reg6_4, st6_4_0, st6_4_1, st6_4_2, st6_4_3, st6_4_4, st6_4_5, st6_4_6, st6_4_7, st6_4_8, st6_4_9, st6_4_10, st6_4_11, st6_4_12, st6_4_13, st6_4_14, st6_4_15, st6_4_16, st6_4_17, st6_4_18, st6_4_19, st6_4_20, st6_4_21, st6_4_22, st6_4_23, st6_4_24, st6_4_25, st6_4_26, st6_4_27, st6_4_28

end Go.Proofs.Ytgnacecplaemlaa
