import Derived.Test.YtgnacecplaemlaaS5
namespace Go.Proofs.Ytgnacecplaemlaa
open AI
set_option linter.unusedVariables false
/-! ### 9: conch/source.New -/
noncomputable def cd9 : Code := (.seq (.region 0 (rg Try.f9 0) false) (.seq (.region 1 (rg Try.f9 1) false) .ret))
theorem ent9 (n : Nat) (h : AH) : X (n + 1) 9 [] h = fin1 (arun Try.prog (HK 9) (X n) n cd9 [.tup [], .tup [], .tup []] h) 0 := by kernel_rfl
section
variable (K : Hint) (call : FuncId → List AV → AH → Option (AV × AH)) (lf : Nat) (fr : List AV) (h : AH)
theorem reg9_0 : arun Try.prog K call lf (.region 0 (rg Try.f9 0) false) fr h = regR (aops Try.prog call (rg Try.f9 0) [0] fr h) := by kernel_rfl
theorem st9_0_0 : astep Try.prog call (rg Try.f9 0) 0 fr h = pureS (some (.nilp)) fr 0 h := by kernel_rfl
theorem reg9_1 : arun Try.prog K call lf (.region 1 (rg Try.f9 1) false) fr h = regR (aops Try.prog call (rg Try.f9 1) [0, 1, 2] fr h) := by kernel_rfl
theorem st9_1_0 : astep Try.prog call (rg Try.f9 1) 0 fr h = pureS (abuild Try.prog 64 []) fr 1 h := by kernel_rfl
theorem st9_1_1 : astep Try.prog call (rg Try.f9 1) 1 fr h = heapS (boxV (fr.getD 1 .top) h) fr 2 := by kernel_rfl
theorem st9_1_2 : astep Try.prog call (rg Try.f9 1) 2 fr h = pureS (some (fr.getD 2 .top)) fr 0 h := by kernel_rfl
end
-- SIMP9: reg9_0, st9_0_0, reg9_1, st9_1_0, st9_1_1, st9_1_2

/-! ### 18: (*conch/source.Source).Deep -/
noncomputable def cd18 : Code := (.seq (.region 0 (rg Try.f18 0) false) (.seq (.seq (.region 1 (rg Try.f18 1) false) (.cond (.tmp 4) (.seq (.region 2 (rg Try.f18 2) false) .ret) .skip)) (.seq (.region 3 (rg Try.f18 3) false) .ret)))
theorem ent18 (n : Nat) (a0 : AV) (h : AH) : X (n + 1) 18 [a0] h = fin1 (arun Try.prog (HK 18) (X n) n cd18 [a0, .tup [], .tup [], .tup [], .tup [], .tup [], .tup [], .tup [], .tup [], .tup []] h) 2 := by kernel_rfl
section
variable (K : Hint) (call : FuncId → List AV → AH → Option (AV × AH)) (lf : Nat) (fr : List AV) (h : AH)
theorem reg18_0 : arun Try.prog K call lf (.region 0 (rg Try.f18 0) false) fr h = regR (aops Try.prog call (rg Try.f18 0) [0] fr h) := by kernel_rfl
theorem st18_0_0 : astep Try.prog call (rg Try.f18 0) 0 fr h = pureS (some (.int .i64 0)) fr 2 h := by kernel_rfl
theorem reg18_1 : arun Try.prog K call lf (.region 1 (rg Try.f18 1) false) fr h = regR (aops Try.prog call (rg Try.f18 1) [0, 1] fr h) := by kernel_rfl
theorem st18_1_0 : astep Try.prog call (rg Try.f18 1) 0 fr h = pureS (some (fr.getD 0 .top)) fr 3 h := by kernel_rfl
theorem st18_1_1 : astep Try.prog call (rg Try.f18 1) 1 fr h = pureS (abin Try.prog .eql 23 (.tmp 3) (.const (.pointer none)) (fr.getD 3 .top) (.nilp)) fr 4 h := by kernel_rfl
theorem reg18_2 : arun Try.prog K call lf (.region 2 (rg Try.f18 2) false) fr h = regR (aops Try.prog call (rg Try.f18 2) [0] fr h) := by kernel_rfl
theorem st18_2_0 : astep Try.prog call (rg Try.f18 2) 0 fr h = pureS (some (.int .i64 0)) fr 2 h := by kernel_rfl
theorem reg18_3 : arun Try.prog K call lf (.region 3 (rg Try.f18 3) false) fr h = regR (aops Try.prog call (rg Try.f18 3) [0, 1, 2, 3, 4, 5] fr h) := by kernel_rfl
theorem st18_3_0 : astep Try.prog call (rg Try.f18 3) 0 fr h = pureS (some (fr.getD 0 .top)) fr 5 h := by kernel_rfl
theorem st18_3_1 : astep Try.prog call (rg Try.f18 3) 1 fr h = pureS (anilCheck (fr.getD 5 .top)) fr 6 h := by kernel_rfl
theorem st18_3_2 : astep Try.prog call (rg Try.f18 3) 2 fr h = pureS (afieldAt Try.prog 64 (fr.getD 6 .top) 0) fr 7 h := by kernel_rfl
theorem st18_3_3 : astep Try.prog call (rg Try.f18 3) 3 fr h = pureS (ldV Try.prog 62 (fr.getD 7 .top) h) fr 8 h := by kernel_rfl
theorem st18_3_4 : astep Try.prog call (rg Try.f18 3) 4 fr h = pureS (lenV (alen Try.prog 62 (fr.getD 8 .top))) fr 9 h := by kernel_rfl
theorem st18_3_5 : astep Try.prog call (rg Try.f18 3) 5 fr h = pureS (some (fr.getD 9 .top)) fr 2 h := by kernel_rfl
end
-- SIMP18: reg18_0, st18_0_0, reg18_1, st18_1_0, st18_1_1, reg18_2, st18_2_0, reg18_3, st18_3_0, st18_3_1, st18_3_2, st18_3_3, st18_3_4, st18_3_5

/-! ### 10: (*conch/source.Source).Enter -/
noncomputable def cd10 : Code := (.seq (.region 0 (rg Try.f10 0) false) (.seq (.seq (.region 1 (rg Try.f10 1) false) (.cond (.tmp 26) (.seq (.region 2 (rg Try.f10 2) false) .ret) .skip)) (.seq (.region 3 (rg Try.f10 3) true) (.seq (.region 4 (rg Try.f10 4) false) .ret))))
theorem ent10 (n : Nat) (a0 a1 a2 : AV) (h : AH) : X (n + 1) 10 [a0, a1, a2] h = fin1 (arun Try.prog (HK 10) (X n) n cd10 [a0, a1, a2, .tup [], .tup [], .tup [], .tup [], .tup [], .tup [], .tup [], .tup [], .tup [], .tup [], .tup [], .tup [], .tup [], .tup [], .tup [], .tup [], .tup [], .tup [], .tup [], .tup [], .tup [], .tup [], .tup [], .tup [], .tup [], .tup [], .tup [], .tup [], .tup [], .tup [], .tup [], .tup [], .tup [], .tup [], .tup [], .tup [], .tup [], .tup [], .tup []] h) 6 := by kernel_rfl
section
variable (K : Hint) (call : FuncId → List AV → AH → Option (AV × AH)) (lf : Nat) (fr : List AV) (h : AH)
theorem reg10_0 : arun Try.prog K call lf (.region 0 (rg Try.f10 0) false) fr h = regR (aops Try.prog call (rg Try.f10 0) [0] fr h) := by kernel_rfl
theorem st10_0_0 : astep Try.prog call (rg Try.f10 0) 0 fr h = pureS (some (.bool false)) fr 6 h := by kernel_rfl
theorem reg10_1 : arun Try.prog K call lf (.region 1 (rg Try.f10 1) false) fr h = regR (aops Try.prog call (rg Try.f10 1) [0, 1, 2, 3, 4, 5, 6, 7, 8, 9, 10, 11, 12, 13, 14, 15, 16, 17, 18, 19] fr h) := by kernel_rfl
theorem st10_1_0 : astep Try.prog call (rg Try.f10 1) 0 fr h = pureS (some (fr.getD 0 .top)) fr 7 h := by kernel_rfl
theorem st10_1_1 : astep Try.prog call (rg Try.f10 1) 1 fr h = pureS (abin Try.prog .eql 23 (.tmp 7) (.const (.pointer none)) (fr.getD 7 .top) (.nilp)) fr 8 h := by kernel_rfl
theorem st10_1_2 : astep Try.prog call (rg Try.f10 1) 2 fr h = pureS (some (fr.getD 8 .top)) fr 9 h := by kernel_rfl
theorem st10_1_3 : astep Try.prog call (rg Try.f10 1) 3 fr h = gdS (fr.getD 9 .top) false (some (fr.set 10 (.tup []), h)) (pureS (some (fr.getD 0 .top)) fr 10 h) := by kernel_rfl
theorem st10_1_4 : astep Try.prog call (rg Try.f10 1) 4 fr h = gdS (fr.getD 9 .top) false (some (fr.set 11 (.tup []), h)) (pureS (some (fr.getD 1 .top)) fr 11 h) := by kernel_rfl
theorem st10_1_5 : astep Try.prog call (rg Try.f10 1) 5 fr h = gdS (fr.getD 9 .top) false (some (fr.set 12 (.tup []), h)) (heapS (callV call (.fn (.func 20) [] []) [(fr.getD 10 .top), (fr.getD 11 .top)] h) fr 12) := by kernel_rfl
theorem st10_1_6 : astep Try.prog call (rg Try.f10 1) 6 fr h = pureS (pickV (fr.getD 9 .top) (.bool true) (fr.getD 12 .top)) fr 13 h := by kernel_rfl
theorem st10_1_7 : astep Try.prog call (rg Try.f10 1) 7 fr h = pureS (some (fr.getD 13 .top)) fr 14 h := by kernel_rfl
theorem st10_1_8 : astep Try.prog call (rg Try.f10 1) 8 fr h = gdS (fr.getD 14 .top) false (some (fr.set 15 (.tup []), h)) (pureS (some (fr.getD 0 .top)) fr 15 h) := by kernel_rfl
theorem st10_1_9 : astep Try.prog call (rg Try.f10 1) 9 fr h = gdS (fr.getD 14 .top) false (some (fr.set 16 (.tup []), h)) (pureS (anilCheck (fr.getD 15 .top)) fr 16 h) := by kernel_rfl
theorem st10_1_10 : astep Try.prog call (rg Try.f10 1) 10 fr h = gdS (fr.getD 14 .top) false (some (fr.set 17 (.tup []), h)) (pureS (afieldAt Try.prog 64 (fr.getD 16 .top) 0) fr 17 h) := by kernel_rfl
theorem st10_1_11 : astep Try.prog call (rg Try.f10 1) 11 fr h = gdS (fr.getD 14 .top) false (some (fr.set 18 (.tup []), h)) (pureS (ldV Try.prog 62 (fr.getD 17 .top) h) fr 18 h) := by kernel_rfl
theorem st10_1_12 : astep Try.prog call (rg Try.f10 1) 12 fr h = gdS (fr.getD 14 .top) false (some (fr.set 19 (.tup []), h)) (pureS (lenV (alen Try.prog 62 (fr.getD 18 .top))) fr 19 h) := by kernel_rfl
theorem st10_1_13 : astep Try.prog call (rg Try.f10 1) 13 fr h = gdS (fr.getD 14 .top) false (some (fr.set 20 (.tup []), h)) (pureS (abin Try.prog .geq 3 (.tmp 19) (.const (.int .i64 40)) (fr.getD 19 .top) (.int .i64 40)) fr 20 h) := by kernel_rfl
theorem st10_1_14 : astep Try.prog call (rg Try.f10 1) 14 fr h = pureS (pickV (fr.getD 14 .top) (.bool true) (fr.getD 20 .top)) fr 21 h := by kernel_rfl
theorem st10_1_15 : astep Try.prog call (rg Try.f10 1) 15 fr h = pureS (some (fr.getD 21 .top)) fr 22 h := by kernel_rfl
theorem st10_1_16 : astep Try.prog call (rg Try.f10 1) 16 fr h = gdS (fr.getD 22 .top) false (some (fr.set 23 (.tup []), h)) (pureS (some (fr.getD 2 .top)) fr 23 h) := by kernel_rfl
theorem st10_1_17 : astep Try.prog call (rg Try.f10 1) 17 fr h = gdS (fr.getD 22 .top) false (some (fr.set 24 (.tup []), h)) (pureS (lenV (alen Try.prog 9 (fr.getD 23 .top))) fr 24 h) := by kernel_rfl
theorem st10_1_18 : astep Try.prog call (rg Try.f10 1) 18 fr h = gdS (fr.getD 22 .top) false (some (fr.set 25 (.tup []), h)) (pureS (abin Try.prog .gtr 3 (.tmp 24) (.const (.int .i64 200)) (fr.getD 24 .top) (.int .i64 200)) fr 25 h) := by kernel_rfl
theorem st10_1_19 : astep Try.prog call (rg Try.f10 1) 19 fr h = pureS (pickV (fr.getD 22 .top) (.bool true) (fr.getD 25 .top)) fr 26 h := by kernel_rfl
theorem reg10_2 : arun Try.prog K call lf (.region 2 (rg Try.f10 2) false) fr h = regR (aops Try.prog call (rg Try.f10 2) [0] fr h) := by kernel_rfl
theorem st10_2_0 : astep Try.prog call (rg Try.f10 2) 0 fr h = pureS (some (.bool false)) fr 6 h := by kernel_rfl
theorem dok10_3 : drawOK Try.prog (befs (rg Try.f10 3).toList []) (rg Try.f10 3) = true := by kernel_rfl
theorem prs10_3 : pairsOK Try.prog (befs (rg Try.f10 3).toList []) (rg Try.f10 3) [(4, 9), (4, 11)] = true := by kernel_rfl
theorem rng10_3 : List.range (rg Try.f10 3).size = [0, 1, 2, 3, 4, 5, 6, 7, 8, 9, 10, 11, 12, 13, 14, 15] := by kernel_rfl
theorem drw10_3 {r : List AV × AH} (h0 : aops Try.prog call (rg Try.f10 3) [0, 1, 2, 3, 4, 5, 6, 7, 8, 9, 10, 11, 12, 13, 14, 15] fr h = some r) (hq : ∀ p ∈ ([(4, 9), (4, 11)] : List (Nat × Nat)), PairOK Try.prog call (rg Try.f10 3) fr h p.1 p.2) : arun Try.prog K call lf (.region 3 (rg Try.f10 3) true) fr h = regR (some r) := (show _ = regR (adraw Try.prog call (rg Try.f10 3) fr h) by kernel_rfl).trans (congrArg regR (adraw_eval _ dok10_3 prs10_3 ((congrArg (fun l => aops Try.prog call (rg Try.f10 3) l fr h) rng10_3).trans h0) hq))
theorem li10_3_4 : loadI Try.prog (rg Try.f10 3) 4 fr h = ldV Try.prog 62 (fr.getD 30 .top) h := by kernel_rfl
theorem rng10_3_4 : List.range 4 = [0, 1, 2, 3] := by rfl
theorem rng10_3_9 : List.range 9 = [0, 1, 2, 3, 4, 5, 6, 7, 8] := by rfl
theorem rng10_3_10 : List.range 10 = [0, 1, 2, 3, 4, 5, 6, 7, 8, 9] := by rfl
theorem rng10_3_11 : List.range 11 = [0, 1, 2, 3, 4, 5, 6, 7, 8, 9, 10] := by rfl
theorem rng10_3_12 : List.range 12 = [0, 1, 2, 3, 4, 5, 6, 7, 8, 9, 10, 11] := by rfl
theorem st10_3_0 : astep Try.prog call (rg Try.f10 3) 0 fr h = pureS (some (fr.getD 0 .top)) fr 27 h := by kernel_rfl
theorem st10_3_1 : astep Try.prog call (rg Try.f10 3) 1 fr h = pureS (some (fr.getD 0 .top)) fr 28 h := by kernel_rfl
theorem st10_3_2 : astep Try.prog call (rg Try.f10 3) 2 fr h = pureS (anilCheck (fr.getD 28 .top)) fr 29 h := by kernel_rfl
theorem st10_3_3 : astep Try.prog call (rg Try.f10 3) 3 fr h = pureS (afieldAt Try.prog 64 (fr.getD 29 .top) 0) fr 30 h := by kernel_rfl
theorem st10_3_4 : astep Try.prog call (rg Try.f10 3) 4 fr h = pureS (ldV Try.prog 62 (fr.getD 30 .top) h) fr 31 h := by kernel_rfl
theorem st10_3_5 : astep Try.prog call (rg Try.f10 3) 5 fr h = pureS (some (fr.getD 1 .top)) fr 32 h := by kernel_rfl
theorem st10_3_6 : astep Try.prog call (rg Try.f10 3) 6 fr h = pureS (some (fr.getD 2 .top)) fr 33 h := by kernel_rfl
theorem st10_3_7 : astep Try.prog call (rg Try.f10 3) 7 fr h = pureS (abin Try.prog .add 9 (.tmp 33) (.const (.string { data := #[32] })) (fr.getD 33 .top) (.str [32])) fr 34 h := by kernel_rfl
theorem st10_3_8 : astep Try.prog call (rg Try.f10 3) 8 fr h = pureS (some (fr.getD 2 .top)) fr 35 h := by kernel_rfl
theorem st10_3_9 : astep Try.prog call (rg Try.f10 3) 9 fr h = heapS (callV call (.fn (.func 44) [] []) [(fr.getD 35 .top)] h) fr 36 := by kernel_rfl
theorem st10_3_10 : astep Try.prog call (rg Try.f10 3) 10 fr h = pureS (abuild Try.prog 66 [(0, (fr.getD 32 .top)), (1, (fr.getD 34 .top)), (2, (.int .i64 0)), (3, (fr.getD 36 .top))]) fr 37 h := by kernel_rfl
theorem st10_3_11 : astep Try.prog call (rg Try.f10 3) 11 fr h = heapS (bslV Try.prog 62 1 [(0, (fr.getD 37 .top))] h) fr 38 := by kernel_rfl
theorem st10_3_12 : astep Try.prog call (rg Try.f10 3) 12 fr h = heapS (aappend Try.prog 62 62 (fr.getD 31 .top) (fr.getD 38 .top) h) fr 39 := by kernel_rfl
theorem st10_3_13 : astep Try.prog call (rg Try.f10 3) 13 fr h = pureS (anilCheck (fr.getD 27 .top)) fr 40 h := by kernel_rfl
theorem st10_3_14 : astep Try.prog call (rg Try.f10 3) 14 fr h = pureS (afieldAt Try.prog 64 (fr.getD 40 .top) 0) fr 41 h := by kernel_rfl
theorem st10_3_15 : astep Try.prog call (rg Try.f10 3) 15 fr h = heapN (stV Try.prog 62 (fr.getD 41 .top) (fr.getD 39 .top) h) fr := by kernel_rfl
theorem reg10_4 : arun Try.prog K call lf (.region 4 (rg Try.f10 4) false) fr h = regR (aops Try.prog call (rg Try.f10 4) [0] fr h) := by kernel_rfl
theorem st10_4_0 : astep Try.prog call (rg Try.f10 4) 0 fr h = pureS (some (.bool true)) fr 6 h := by kernel_rfl
end
-- SIMP10: reg10_0, st10_0_0, reg10_1, st10_1_0, st10_1_1, st10_1_2, st10_1_3, st10_1_4, st10_1_5, st10_1_6, st10_1_7, st10_1_8, st10_1_9, st10_1_10, st10_1_11, st10_1_12, st10_1_13, st10_1_14, st10_1_15, st10_1_16, st10_1_17, st10_1_18, st10_1_19, reg10_2, st10_2_0, st10_3_0, st10_3_1, st10_3_2, st10_3_3, st10_3_4, st10_3_5, st10_3_6, st10_3_7, st10_3_8, st10_3_9, st10_3_10, st10_3_11, st10_3_12, st10_3_13, st10_3_14, st10_3_15, reg10_4, st10_4_0

/-! ### 11: (*conch/source.Source).Peek -/
noncomputable def cd11 : Code := (.seq (.region 0 (rg Try.f11 0) false) (.seq (.region 1 (rg Try.f11 1) false) (.seq (.seq (.region 2 (rg Try.f11 2) false) (.cond (.tmp 8) (.seq (.region 3 (rg Try.f11 3) false) .ret) .skip)) (.seq (.region 4 (rg Try.f11 4) true) .ret))))
theorem ent11 (n : Nat) (a0 : AV) (h : AH) : X (n + 1) 11 [a0] h = finN (arun Try.prog (HK 11) (X n) n cd11 [a0, .tup [], .tup [], .tup [], .tup [], .tup [], .tup [], .tup [], .tup [], .tup [], .tup [], .tup [], .tup [], .tup [], .tup [], .tup [], .tup [], .tup [], .tup [], .tup [], .tup [], .tup [], .tup [], .tup [], .tup [], .tup []] h) [2, 3] := by kernel_rfl
section
variable (K : Hint) (call : FuncId → List AV → AH → Option (AV × AH)) (lf : Nat) (fr : List AV) (h : AH)
theorem reg11_0 : arun Try.prog K call lf (.region 0 (rg Try.f11 0) false) fr h = regR (aops Try.prog call (rg Try.f11 0) [0, 1] fr h) := by kernel_rfl
theorem st11_0_0 : astep Try.prog call (rg Try.f11 0) 0 fr h = pureS (some (.int .u8 0)) fr 2 h := by kernel_rfl
theorem st11_0_1 : astep Try.prog call (rg Try.f11 0) 1 fr h = pureS (some (.bool false)) fr 3 h := by kernel_rfl
theorem reg11_1 : arun Try.prog K call lf (.region 1 (rg Try.f11 1) false) fr h = regR (aops Try.prog call (rg Try.f11 1) [0, 1, 2] fr h) := by kernel_rfl
theorem st11_1_0 : astep Try.prog call (rg Try.f11 1) 0 fr h = pureS (some (fr.getD 0 .top)) fr 5 h := by kernel_rfl
theorem st11_1_1 : astep Try.prog call (rg Try.f11 1) 1 fr h = heapS (callV call (.fn (.func 45) [] []) [(fr.getD 5 .top)] h) fr 6 := by kernel_rfl
theorem st11_1_2 : astep Try.prog call (rg Try.f11 1) 2 fr h = pureS (some (fr.getD 6 .top)) fr 4 h := by kernel_rfl
theorem reg11_2 : arun Try.prog K call lf (.region 2 (rg Try.f11 2) false) fr h = regR (aops Try.prog call (rg Try.f11 2) [0, 1] fr h) := by kernel_rfl
theorem st11_2_0 : astep Try.prog call (rg Try.f11 2) 0 fr h = pureS (some (fr.getD 4 .top)) fr 7 h := by kernel_rfl
theorem st11_2_1 : astep Try.prog call (rg Try.f11 2) 1 fr h = pureS (abin Try.prog .lss 3 (.tmp 7) (.const (.int .i64 0)) (fr.getD 7 .top) (.int .i64 0)) fr 8 h := by kernel_rfl
theorem reg11_3 : arun Try.prog K call lf (.region 3 (rg Try.f11 3) false) fr h = regR (aops Try.prog call (rg Try.f11 3) [0, 1] fr h) := by kernel_rfl
theorem st11_3_0 : astep Try.prog call (rg Try.f11 3) 0 fr h = pureS (some (.int .u8 0)) fr 2 h := by kernel_rfl
theorem st11_3_1 : astep Try.prog call (rg Try.f11 3) 1 fr h = pureS (some (.bool false)) fr 3 h := by kernel_rfl
theorem dok11_4 : drawOK Try.prog (befs (rg Try.f11 4).toList []) (rg Try.f11 4) = true := by kernel_rfl
theorem prs11_4 : pairsOK Try.prog (befs (rg Try.f11 4).toList []) (rg Try.f11 4) [] = true := by kernel_rfl
theorem rng11_4 : List.range (rg Try.f11 4).size = [0, 1, 2, 3, 4, 5, 6, 7, 8, 9, 10, 11, 12, 13, 14, 15, 16, 17, 18] := by kernel_rfl
theorem reg11_4 : arun Try.prog K call lf (.region 4 (rg Try.f11 4) true) fr h = regR (aops Try.prog call (rg Try.f11 4) [0, 1, 2, 3, 4, 5, 6, 7, 8, 9, 10, 11, 12, 13, 14, 15, 16, 17, 18] fr h) := (show _ = regR (adraw Try.prog call (rg Try.f11 4) fr h) by kernel_rfl).trans (congrArg regR ((adraw_plain dok11_4 prs11_4).trans (congrArg (fun l => aops Try.prog call (rg Try.f11 4) l fr h) rng11_4)))
theorem st11_4_0 : astep Try.prog call (rg Try.f11 4) 0 fr h = pureS (some (fr.getD 0 .top)) fr 9 h := by kernel_rfl
theorem st11_4_1 : astep Try.prog call (rg Try.f11 4) 1 fr h = pureS (anilCheck (fr.getD 9 .top)) fr 10 h := by kernel_rfl
theorem st11_4_2 : astep Try.prog call (rg Try.f11 4) 2 fr h = pureS (afieldAt Try.prog 64 (fr.getD 10 .top) 0) fr 11 h := by kernel_rfl
theorem st11_4_3 : astep Try.prog call (rg Try.f11 4) 3 fr h = pureS (ldV Try.prog 62 (fr.getD 11 .top) h) fr 12 h := by kernel_rfl
theorem st11_4_4 : astep Try.prog call (rg Try.f11 4) 4 fr h = pureS (some (fr.getD 4 .top)) fr 13 h := by kernel_rfl
theorem st11_4_5 : astep Try.prog call (rg Try.f11 4) 5 fr h = pureS (aindexAt Try.prog 62 (fr.getD 12 .top) (fr.getD 13 .top)) fr 14 h := by kernel_rfl
theorem st11_4_6 : astep Try.prog call (rg Try.f11 4) 6 fr h = pureS (afieldAt Try.prog 66 (fr.getD 14 .top) 1) fr 15 h := by kernel_rfl
theorem st11_4_7 : astep Try.prog call (rg Try.f11 4) 7 fr h = pureS (ldV Try.prog 9 (fr.getD 15 .top) h) fr 16 h := by kernel_rfl
theorem st11_4_8 : astep Try.prog call (rg Try.f11 4) 8 fr h = pureS (some (fr.getD 0 .top)) fr 17 h := by kernel_rfl
theorem st11_4_9 : astep Try.prog call (rg Try.f11 4) 9 fr h = pureS (anilCheck (fr.getD 17 .top)) fr 18 h := by kernel_rfl
theorem st11_4_10 : astep Try.prog call (rg Try.f11 4) 10 fr h = pureS (afieldAt Try.prog 64 (fr.getD 18 .top) 0) fr 19 h := by kernel_rfl
theorem st11_4_11 : astep Try.prog call (rg Try.f11 4) 11 fr h = pureS (ldV Try.prog 62 (fr.getD 19 .top) h) fr 20 h := by kernel_rfl
theorem st11_4_12 : astep Try.prog call (rg Try.f11 4) 12 fr h = pureS (some (fr.getD 4 .top)) fr 21 h := by kernel_rfl
theorem st11_4_13 : astep Try.prog call (rg Try.f11 4) 13 fr h = pureS (aindexAt Try.prog 62 (fr.getD 20 .top) (fr.getD 21 .top)) fr 22 h := by kernel_rfl
theorem st11_4_14 : astep Try.prog call (rg Try.f11 4) 14 fr h = pureS (afieldAt Try.prog 66 (fr.getD 22 .top) 2) fr 23 h := by kernel_rfl
theorem st11_4_15 : astep Try.prog call (rg Try.f11 4) 15 fr h = pureS (ldV Try.prog 3 (fr.getD 23 .top) h) fr 24 h := by kernel_rfl
theorem st11_4_16 : astep Try.prog call (rg Try.f11 4) 16 fr h = pureS (aindex Try.prog 9 (fr.getD 16 .top) (fr.getD 24 .top)) fr 25 h := by kernel_rfl
theorem st11_4_17 : astep Try.prog call (rg Try.f11 4) 17 fr h = pureS (some (fr.getD 25 .top)) fr 2 h := by kernel_rfl
theorem st11_4_18 : astep Try.prog call (rg Try.f11 4) 18 fr h = pureS (some (.bool true)) fr 3 h := by kernel_rfl
end
-- SIMP11: reg11_0, st11_0_0, st11_0_1, reg11_1, st11_1_0, st11_1_1, st11_1_2, reg11_2, st11_2_0, st11_2_1, reg11_3, st11_3_0, st11_3_1, reg11_4, st11_4_0, st11_4_1, st11_4_2, st11_4_3, st11_4_4, st11_4_5, st11_4_6, st11_4_7, st11_4_8, st11_4_9, st11_4_10, st11_4_11, st11_4_12, st11_4_13, st11_4_14, st11_4_15, st11_4_16, st11_4_17, st11_4_18

/-! ### 13: (*conch/source.Source).Left -/
noncomputable def lp13_3 : Code := (.seq (.region 3 (rg Try.f13 3) false) (.seq (.cond (.tmp 8) .skip (.exit 0)) (.seq (.block 1 (.seq (.region 4 (rg Try.f13 4) false) (.region 5 (rg Try.f13 5) true))) (.region 6 (rg Try.f13 6) false))))
theorem cl13_3 (x0 x1 x2 x3 x4 x5 x6 x7 x8 x9 x10 x11 x12 x13 x14 x15 x16 x17 x18 x19 x20 x21 x22 x23 x24 x25 x26 x27 x28 x29 x30 x31 : AV) : aclear (HK 13) lp13_3 [x0, x1, x2, x3, x4, x5, x6, x7, x8, x9, x10, x11, x12, x13, x14, x15, x16, x17, x18, x19, x20, x21, x22, x23, x24, x25, x26, x27, x28, x29, x30, x31] = [x0, .top, x2, x3, .top, .top, x6, x7, .top, .top, .top, .top, .top, .top, .top, .top, .top, .top, .top, .top, .top, .top, .top, .top, .top, .top, .top, .top, .top, .top, .top, .top] := by kernel_rfl
noncomputable def cd13 : Code := (.seq (.region 0 (rg Try.f13 0) false) (.seq (.region 1 (rg Try.f13 1) false) (.seq (.seq (.region 2 (rg Try.f13 2) false) (.block 0 (.loop lp13_3))) (.seq (.region 7 (rg Try.f13 7) false) .ret))))
theorem ent13 (n : Nat) (a0 : AV) (h : AH) : X (n + 1) 13 [a0] h = fin1 (arun Try.prog (HK 13) (X n) n cd13 [a0, .tup [], .tup [], .tup [], .tup [], .tup [], .tup [], .tup [], .tup [], .tup [], .tup [], .tup [], .tup [], .tup [], .tup [], .tup [], .tup [], .tup [], .tup [], .tup [], .tup [], .tup [], .tup [], .tup [], .tup [], .tup [], .tup [], .tup [], .tup [], .tup [], .tup [], .tup []] h) 2 := by kernel_rfl
section
variable (K : Hint) (call : FuncId → List AV → AH → Option (AV × AH)) (lf : Nat) (fr : List AV) (h : AH)
theorem reg13_0 : arun Try.prog K call lf (.region 0 (rg Try.f13 0) false) fr h = regR (aops Try.prog call (rg Try.f13 0) [0] fr h) := by kernel_rfl
theorem st13_0_0 : astep Try.prog call (rg Try.f13 0) 0 fr h = pureS (some (.int .i64 0)) fr 2 h := by kernel_rfl
theorem reg13_1 : arun Try.prog K call lf (.region 1 (rg Try.f13 1) false) fr h = regR (aops Try.prog call (rg Try.f13 1) [0] fr h) := by kernel_rfl
theorem st13_1_0 : astep Try.prog call (rg Try.f13 1) 0 fr h = pureS (some (.int .i64 0)) fr 3 h := by kernel_rfl
theorem reg13_2 : arun Try.prog K call lf (.region 2 (rg Try.f13 2) false) fr h = regR (aops Try.prog call (rg Try.f13 2) [0, 1, 2] fr h) := by kernel_rfl
theorem st13_2_0 : astep Try.prog call (rg Try.f13 2) 0 fr h = pureS (some (fr.getD 0 .top)) fr 5 h := by kernel_rfl
theorem st13_2_1 : astep Try.prog call (rg Try.f13 2) 1 fr h = heapS (callV call (.fn (.func 18) [] []) [(fr.getD 5 .top)] h) fr 6 := by kernel_rfl
theorem st13_2_2 : astep Try.prog call (rg Try.f13 2) 2 fr h = pureS (some (.int .i64 0)) fr 7 h := by kernel_rfl
theorem reg13_3 : arun Try.prog K call lf (.region 3 (rg Try.f13 3) false) fr h = regR (aops Try.prog call (rg Try.f13 3) [0] fr h) := by kernel_rfl
theorem st13_3_0 : astep Try.prog call (rg Try.f13 3) 0 fr h = pureS (abin Try.prog .lss 3 (.tmp 7) (.tmp 6) (fr.getD 7 .top) (fr.getD 6 .top)) fr 8 h := by kernel_rfl
theorem reg13_4 : arun Try.prog K call lf (.region 4 (rg Try.f13 4) false) fr h = regR (aops Try.prog call (rg Try.f13 4) [0, 1] fr h) := by kernel_rfl
theorem st13_4_0 : astep Try.prog call (rg Try.f13 4) 0 fr h = pureS (some (fr.getD 7 .top)) fr 9 h := by kernel_rfl
theorem st13_4_1 : astep Try.prog call (rg Try.f13 4) 1 fr h = pureS (some (fr.getD 9 .top)) fr 4 h := by kernel_rfl
theorem dok13_5 : drawOK Try.prog (befs (rg Try.f13 5).toList []) (rg Try.f13 5) = true := by kernel_rfl
theorem prs13_5 : pairsOK Try.prog (befs (rg Try.f13 5).toList []) (rg Try.f13 5) [] = true := by kernel_rfl
theorem rng13_5 : List.range (rg Try.f13 5).size = [0, 1, 2, 3, 4, 5, 6, 7, 8, 9, 10, 11, 12, 13, 14, 15, 16, 17, 18, 19, 20] := by kernel_rfl
theorem reg13_5 : arun Try.prog K call lf (.region 5 (rg Try.f13 5) true) fr h = regR (aops Try.prog call (rg Try.f13 5) [0, 1, 2, 3, 4, 5, 6, 7, 8, 9, 10, 11, 12, 13, 14, 15, 16, 17, 18, 19, 20] fr h) := (show _ = regR (adraw Try.prog call (rg Try.f13 5) fr h) by kernel_rfl).trans (congrArg regR ((adraw_plain dok13_5 prs13_5).trans (congrArg (fun l => aops Try.prog call (rg Try.f13 5) l fr h) rng13_5)))
theorem st13_5_0 : astep Try.prog call (rg Try.f13 5) 0 fr h = pureS (some (fr.getD 3 .top)) fr 10 h := by kernel_rfl
theorem st13_5_1 : astep Try.prog call (rg Try.f13 5) 1 fr h = pureS (some (fr.getD 0 .top)) fr 11 h := by kernel_rfl
theorem st13_5_2 : astep Try.prog call (rg Try.f13 5) 2 fr h = pureS (anilCheck (fr.getD 11 .top)) fr 12 h := by kernel_rfl
theorem st13_5_3 : astep Try.prog call (rg Try.f13 5) 3 fr h = pureS (afieldAt Try.prog 64 (fr.getD 12 .top) 0) fr 13 h := by kernel_rfl
theorem st13_5_4 : astep Try.prog call (rg Try.f13 5) 4 fr h = pureS (ldV Try.prog 62 (fr.getD 13 .top) h) fr 14 h := by kernel_rfl
theorem st13_5_5 : astep Try.prog call (rg Try.f13 5) 5 fr h = pureS (some (fr.getD 4 .top)) fr 15 h := by kernel_rfl
theorem st13_5_6 : astep Try.prog call (rg Try.f13 5) 6 fr h = pureS (aindexAt Try.prog 62 (fr.getD 14 .top) (fr.getD 15 .top)) fr 16 h := by kernel_rfl
theorem st13_5_7 : astep Try.prog call (rg Try.f13 5) 7 fr h = pureS (afieldAt Try.prog 66 (fr.getD 16 .top) 1) fr 17 h := by kernel_rfl
theorem st13_5_8 : astep Try.prog call (rg Try.f13 5) 8 fr h = pureS (ldV Try.prog 9 (fr.getD 17 .top) h) fr 18 h := by kernel_rfl
theorem st13_5_9 : astep Try.prog call (rg Try.f13 5) 9 fr h = pureS (lenV (alen Try.prog 9 (fr.getD 18 .top))) fr 19 h := by kernel_rfl
theorem st13_5_10 : astep Try.prog call (rg Try.f13 5) 10 fr h = pureS (some (fr.getD 0 .top)) fr 20 h := by kernel_rfl
theorem st13_5_11 : astep Try.prog call (rg Try.f13 5) 11 fr h = pureS (anilCheck (fr.getD 20 .top)) fr 21 h := by kernel_rfl
theorem st13_5_12 : astep Try.prog call (rg Try.f13 5) 12 fr h = pureS (afieldAt Try.prog 64 (fr.getD 21 .top) 0) fr 22 h := by kernel_rfl
theorem st13_5_13 : astep Try.prog call (rg Try.f13 5) 13 fr h = pureS (ldV Try.prog 62 (fr.getD 22 .top) h) fr 23 h := by kernel_rfl
theorem st13_5_14 : astep Try.prog call (rg Try.f13 5) 14 fr h = pureS (some (fr.getD 4 .top)) fr 24 h := by kernel_rfl
theorem st13_5_15 : astep Try.prog call (rg Try.f13 5) 15 fr h = pureS (aindexAt Try.prog 62 (fr.getD 23 .top) (fr.getD 24 .top)) fr 25 h := by kernel_rfl
theorem st13_5_16 : astep Try.prog call (rg Try.f13 5) 16 fr h = pureS (afieldAt Try.prog 66 (fr.getD 25 .top) 2) fr 26 h := by kernel_rfl
theorem st13_5_17 : astep Try.prog call (rg Try.f13 5) 17 fr h = pureS (ldV Try.prog 3 (fr.getD 26 .top) h) fr 27 h := by kernel_rfl
theorem st13_5_18 : astep Try.prog call (rg Try.f13 5) 18 fr h = pureS (abin Try.prog .sub 3 (.tmp 19) (.tmp 27) (fr.getD 19 .top) (fr.getD 27 .top)) fr 28 h := by kernel_rfl
theorem st13_5_19 : astep Try.prog call (rg Try.f13 5) 19 fr h = pureS (abin Try.prog .add 3 (.tmp 10) (.tmp 28) (fr.getD 10 .top) (fr.getD 28 .top)) fr 29 h := by kernel_rfl
theorem st13_5_20 : astep Try.prog call (rg Try.f13 5) 20 fr h = pureS (some (fr.getD 29 .top)) fr 3 h := by kernel_rfl
theorem reg13_6 : arun Try.prog K call lf (.region 6 (rg Try.f13 6) false) fr h = regR (aops Try.prog call (rg Try.f13 6) [0, 1] fr h) := by kernel_rfl
theorem st13_6_0 : astep Try.prog call (rg Try.f13 6) 0 fr h = pureS (abin Try.prog .add 3 (.tmp 7) (.const (.int .i64 1)) (fr.getD 7 .top) (.int .i64 1)) fr 30 h := by kernel_rfl
theorem st13_6_1 : astep Try.prog call (rg Try.f13 6) 1 fr h = pureS (some (fr.getD 30 .top)) fr 7 h := by kernel_rfl
theorem reg13_7 : arun Try.prog K call lf (.region 7 (rg Try.f13 7) false) fr h = regR (aops Try.prog call (rg Try.f13 7) [0, 1] fr h) := by kernel_rfl
theorem st13_7_0 : astep Try.prog call (rg Try.f13 7) 0 fr h = pureS (some (fr.getD 3 .top)) fr 31 h := by kernel_rfl
theorem st13_7_1 : astep Try.prog call (rg Try.f13 7) 1 fr h = pureS (some (fr.getD 31 .top)) fr 2 h := by kernel_rfl
end
-- SIMP13: reg13_0, st13_0_0, reg13_1, st13_1_0, reg13_2, st13_2_0, st13_2_1, st13_2_2, reg13_3, st13_3_0, reg13_4, st13_4_0, st13_4_1, reg13_5, st13_5_0, st13_5_1, st13_5_2, st13_5_3, st13_5_4, st13_5_5, st13_5_6, st13_5_7, st13_5_8, st13_5_9, st13_5_10, st13_5_11, st13_5_12, st13_5_13, st13_5_14, st13_5_15, st13_5_16, st13_5_17, st13_5_18, st13_5_19, st13_5_20, reg13_6, st13_6_0, st13_6_1, reg13_7, st13_7_0, st13_7_1

/-! ### 14: (*conch/source.Source).Count -/
noncomputable def cd14 : Code := (.seq (.region 0 (rg Try.f14 0) false) (.seq (.seq (.region 1 (rg Try.f14 1) false) (.cond (.tmp 4) (.seq (.region 2 (rg Try.f14 2) false) .ret) .skip)) (.seq (.region 3 (rg Try.f14 3) false) .ret)))
theorem ent14 (n : Nat) (a0 : AV) (h : AH) : X (n + 1) 14 [a0] h = fin1 (arun Try.prog (HK 14) (X n) n cd14 [a0, .tup [], .tup [], .tup [], .tup [], .tup [], .tup [], .tup [], .tup []] h) 2 := by kernel_rfl
section
variable (K : Hint) (call : FuncId → List AV → AH → Option (AV × AH)) (lf : Nat) (fr : List AV) (h : AH)
theorem reg14_0 : arun Try.prog K call lf (.region 0 (rg Try.f14 0) false) fr h = regR (aops Try.prog call (rg Try.f14 0) [0] fr h) := by kernel_rfl
theorem st14_0_0 : astep Try.prog call (rg Try.f14 0) 0 fr h = pureS (some (.int .i64 0)) fr 2 h := by kernel_rfl
theorem reg14_1 : arun Try.prog K call lf (.region 1 (rg Try.f14 1) false) fr h = regR (aops Try.prog call (rg Try.f14 1) [0, 1] fr h) := by kernel_rfl
theorem st14_1_0 : astep Try.prog call (rg Try.f14 1) 0 fr h = pureS (some (fr.getD 0 .top)) fr 3 h := by kernel_rfl
theorem st14_1_1 : astep Try.prog call (rg Try.f14 1) 1 fr h = pureS (abin Try.prog .eql 23 (.tmp 3) (.const (.pointer none)) (fr.getD 3 .top) (.nilp)) fr 4 h := by kernel_rfl
theorem reg14_2 : arun Try.prog K call lf (.region 2 (rg Try.f14 2) false) fr h = regR (aops Try.prog call (rg Try.f14 2) [0] fr h) := by kernel_rfl
theorem st14_2_0 : astep Try.prog call (rg Try.f14 2) 0 fr h = pureS (some (.int .i64 0)) fr 2 h := by kernel_rfl
theorem reg14_3 : arun Try.prog K call lf (.region 3 (rg Try.f14 3) false) fr h = regR (aops Try.prog call (rg Try.f14 3) [0, 1, 2, 3, 4] fr h) := by kernel_rfl
theorem st14_3_0 : astep Try.prog call (rg Try.f14 3) 0 fr h = pureS (some (fr.getD 0 .top)) fr 5 h := by kernel_rfl
theorem st14_3_1 : astep Try.prog call (rg Try.f14 3) 1 fr h = pureS (anilCheck (fr.getD 5 .top)) fr 6 h := by kernel_rfl
theorem st14_3_2 : astep Try.prog call (rg Try.f14 3) 2 fr h = pureS (afieldAt Try.prog 64 (fr.getD 6 .top) 1) fr 7 h := by kernel_rfl
theorem st14_3_3 : astep Try.prog call (rg Try.f14 3) 3 fr h = pureS (ldV Try.prog 3 (fr.getD 7 .top) h) fr 8 h := by kernel_rfl
theorem st14_3_4 : astep Try.prog call (rg Try.f14 3) 4 fr h = pureS (some (fr.getD 8 .top)) fr 2 h := by kernel_rfl
end
-- SIMP14: reg14_0, st14_0_0, reg14_1, st14_1_0, st14_1_1, reg14_2, st14_2_0, reg14_3, st14_3_0, st14_3_1, st14_3_2, st14_3_3, st14_3_4

/-! ### 45: (*conch/source.Source).top -/
noncomputable def cd45 : Code := (.seq (.region 0 (rg Try.f45 0) false) (.seq (.region 1 (rg Try.f45 1) false) .ret))
theorem ent45 (n : Nat) (a0 : AV) (h : AH) : X (n + 1) 45 [a0] h = fin1 (arun Try.prog (HK 45) (X n) n cd45 [a0, .tup [], .tup [], .tup [], .tup [], .tup []] h) 2 := by kernel_rfl
section
variable (K : Hint) (call : FuncId → List AV → AH → Option (AV × AH)) (lf : Nat) (fr : List AV) (h : AH)
theorem reg45_0 : arun Try.prog K call lf (.region 0 (rg Try.f45 0) false) fr h = regR (aops Try.prog call (rg Try.f45 0) [0] fr h) := by kernel_rfl
theorem st45_0_0 : astep Try.prog call (rg Try.f45 0) 0 fr h = pureS (some (.int .i64 0)) fr 2 h := by kernel_rfl
theorem reg45_1 : arun Try.prog K call lf (.region 1 (rg Try.f45 1) false) fr h = regR (aops Try.prog call (rg Try.f45 1) [0, 1, 2, 3] fr h) := by kernel_rfl
theorem st45_1_0 : astep Try.prog call (rg Try.f45 1) 0 fr h = pureS (some (fr.getD 0 .top)) fr 3 h := by kernel_rfl
theorem st45_1_1 : astep Try.prog call (rg Try.f45 1) 1 fr h = heapS (callV call (.fn (.func 18) [] []) [(fr.getD 3 .top)] h) fr 4 := by kernel_rfl
theorem st45_1_2 : astep Try.prog call (rg Try.f45 1) 2 fr h = pureS (abin Try.prog .sub 3 (.tmp 4) (.const (.int .i64 1)) (fr.getD 4 .top) (.int .i64 1)) fr 5 h := by kernel_rfl
theorem st45_1_3 : astep Try.prog call (rg Try.f45 1) 3 fr h = pureS (some (fr.getD 5 .top)) fr 2 h := by kernel_rfl
end
-- SIMP45: reg45_0, st45_0_0, reg45_1, st45_1_0, st45_1_1, st45_1_2, st45_1_3

/-! ### 12: (*conch/source.Source).Step -/
noncomputable def cd12 : Code := (.seq (.region 0 (rg Try.f12 0) false) (.seq (.region 1 (rg Try.f12 1) false) (.seq (.seq (.region 2 (rg Try.f12 2) false) (.cond (.tmp 9) (.seq (.region 3 (rg Try.f12 3) false) .ret) .skip)) (.seq (.region 4 (rg Try.f12 4) false) (.seq (.region 5 (rg Try.f12 5) false) (.seq (.region 6 (rg Try.f12 6) false) (.seq (.seq (.region 7 (rg Try.f12 7) true) (.cond (.tmp 39) (.seq (.region 8 (rg Try.f12 8) false) .ret) .skip)) (.seq (.region 9 (rg Try.f12 9) false) (.seq (.region 10 (rg Try.f12 10) false) (.seq (.region 11 (rg Try.f12 11) false) .ret))))))))))
theorem ent12 (n : Nat) (a0 : AV) (h : AH) : X (n + 1) 12 [a0] h = fin1 (arun Try.prog (HK 12) (X n) n cd12 [a0, .tup [], .tup [], .tup [], .tup [], .tup [], .tup [], .tup [], .tup [], .tup [], .tup [], .tup [], .tup [], .tup [], .tup [], .tup [], .tup [], .tup [], .tup [], .tup [], .tup [], .tup [], .tup [], .tup [], .tup [], .tup [], .tup [], .tup [], .tup [], .tup [], .tup [], .tup [], .tup [], .tup [], .tup [], .tup [], .tup [], .tup [], .tup [], .tup [], .tup [], .tup [], .tup [], .tup [], .tup [], .tup [], .tup [], .tup [], .tup [], .tup [], .tup [], .tup [], .tup [], .tup []] h) 2 := by kernel_rfl
section
variable (K : Hint) (call : FuncId → List AV → AH → Option (AV × AH)) (lf : Nat) (fr : List AV) (h : AH)
theorem reg12_0 : arun Try.prog K call lf (.region 0 (rg Try.f12 0) false) fr h = regR (aops Try.prog call (rg Try.f12 0) [0] fr h) := by kernel_rfl
theorem st12_0_0 : astep Try.prog call (rg Try.f12 0) 0 fr h = pureS (some (.bool false)) fr 2 h := by kernel_rfl
theorem reg12_1 : arun Try.prog K call lf (.region 1 (rg Try.f12 1) false) fr h = regR (aops Try.prog call (rg Try.f12 1) [0, 1, 2] fr h) := by kernel_rfl
theorem st12_1_0 : astep Try.prog call (rg Try.f12 1) 0 fr h = pureS (some (fr.getD 0 .top)) fr 6 h := by kernel_rfl
theorem st12_1_1 : astep Try.prog call (rg Try.f12 1) 1 fr h = heapS (callV call (.fn (.func 45) [] []) [(fr.getD 6 .top)] h) fr 7 := by kernel_rfl
theorem st12_1_2 : astep Try.prog call (rg Try.f12 1) 2 fr h = pureS (some (fr.getD 7 .top)) fr 3 h := by kernel_rfl
theorem reg12_2 : arun Try.prog K call lf (.region 2 (rg Try.f12 2) false) fr h = regR (aops Try.prog call (rg Try.f12 2) [0, 1] fr h) := by kernel_rfl
theorem st12_2_0 : astep Try.prog call (rg Try.f12 2) 0 fr h = pureS (some (fr.getD 3 .top)) fr 8 h := by kernel_rfl
theorem st12_2_1 : astep Try.prog call (rg Try.f12 2) 1 fr h = pureS (abin Try.prog .lss 3 (.tmp 8) (.const (.int .i64 0)) (fr.getD 8 .top) (.int .i64 0)) fr 9 h := by kernel_rfl
theorem reg12_3 : arun Try.prog K call lf (.region 3 (rg Try.f12 3) false) fr h = regR (aops Try.prog call (rg Try.f12 3) [0] fr h) := by kernel_rfl
theorem st12_3_0 : astep Try.prog call (rg Try.f12 3) 0 fr h = pureS (some (.bool false)) fr 2 h := by kernel_rfl
theorem reg12_4 : arun Try.prog K call lf (.region 4 (rg Try.f12 4) false) fr h = regR (aops Try.prog call (rg Try.f12 4) [0, 1, 2, 3, 4, 5, 6, 7] fr h) := by kernel_rfl
theorem st12_4_0 : astep Try.prog call (rg Try.f12 4) 0 fr h = pureS (some (fr.getD 0 .top)) fr 10 h := by kernel_rfl
theorem st12_4_1 : astep Try.prog call (rg Try.f12 4) 1 fr h = pureS (anilCheck (fr.getD 10 .top)) fr 11 h := by kernel_rfl
theorem st12_4_2 : astep Try.prog call (rg Try.f12 4) 2 fr h = pureS (afieldAt Try.prog 64 (fr.getD 11 .top) 1) fr 12 h := by kernel_rfl
theorem st12_4_3 : astep Try.prog call (rg Try.f12 4) 3 fr h = pureS (ldV Try.prog 3 (fr.getD 12 .top) h) fr 13 h := by kernel_rfl
theorem st12_4_4 : astep Try.prog call (rg Try.f12 4) 4 fr h = pureS (abin Try.prog .add 3 (.tmp 13) (.const (.int .i64 1)) (fr.getD 13 .top) (.int .i64 1)) fr 14 h := by kernel_rfl
theorem st12_4_5 : astep Try.prog call (rg Try.f12 4) 5 fr h = pureS (anilCheck (fr.getD 10 .top)) fr 15 h := by kernel_rfl
theorem st12_4_6 : astep Try.prog call (rg Try.f12 4) 6 fr h = pureS (afieldAt Try.prog 64 (fr.getD 15 .top) 1) fr 16 h := by kernel_rfl
theorem st12_4_7 : astep Try.prog call (rg Try.f12 4) 7 fr h = heapN (stV Try.prog 3 (fr.getD 16 .top) (fr.getD 14 .top) h) fr := by kernel_rfl
theorem reg12_5 : arun Try.prog K call lf (.region 5 (rg Try.f12 5) false) fr h = regR (aops Try.prog call (rg Try.f12 5) [0, 1, 2, 3, 4, 5, 6] fr h) := by kernel_rfl
theorem st12_5_0 : astep Try.prog call (rg Try.f12 5) 0 fr h = pureS (some (fr.getD 0 .top)) fr 17 h := by kernel_rfl
theorem st12_5_1 : astep Try.prog call (rg Try.f12 5) 1 fr h = pureS (anilCheck (fr.getD 17 .top)) fr 18 h := by kernel_rfl
theorem st12_5_2 : astep Try.prog call (rg Try.f12 5) 2 fr h = pureS (afieldAt Try.prog 64 (fr.getD 18 .top) 0) fr 19 h := by kernel_rfl
theorem st12_5_3 : astep Try.prog call (rg Try.f12 5) 3 fr h = pureS (ldV Try.prog 62 (fr.getD 19 .top) h) fr 20 h := by kernel_rfl
theorem st12_5_4 : astep Try.prog call (rg Try.f12 5) 4 fr h = pureS (some (fr.getD 3 .top)) fr 21 h := by kernel_rfl
theorem st12_5_5 : astep Try.prog call (rg Try.f12 5) 5 fr h = pureS (aindexAt Try.prog 62 (fr.getD 20 .top) (fr.getD 21 .top)) fr 22 h := by kernel_rfl
theorem st12_5_6 : astep Try.prog call (rg Try.f12 5) 6 fr h = pureS (some (fr.getD 22 .top)) fr 4 h := by kernel_rfl
theorem reg12_6 : arun Try.prog K call lf (.region 6 (rg Try.f12 6) false) fr h = regR (aops Try.prog call (rg Try.f12 6) [0, 1, 2, 3, 4, 5, 6, 7] fr h) := by kernel_rfl
theorem st12_6_0 : astep Try.prog call (rg Try.f12 6) 0 fr h = pureS (some (fr.getD 4 .top)) fr 23 h := by kernel_rfl
theorem st12_6_1 : astep Try.prog call (rg Try.f12 6) 1 fr h = pureS (anilCheck (fr.getD 23 .top)) fr 24 h := by kernel_rfl
theorem st12_6_2 : astep Try.prog call (rg Try.f12 6) 2 fr h = pureS (afieldAt Try.prog 66 (fr.getD 24 .top) 2) fr 25 h := by kernel_rfl
theorem st12_6_3 : astep Try.prog call (rg Try.f12 6) 3 fr h = pureS (ldV Try.prog 3 (fr.getD 25 .top) h) fr 26 h := by kernel_rfl
theorem st12_6_4 : astep Try.prog call (rg Try.f12 6) 4 fr h = pureS (abin Try.prog .add 3 (.tmp 26) (.const (.int .i64 1)) (fr.getD 26 .top) (.int .i64 1)) fr 27 h := by kernel_rfl
theorem st12_6_5 : astep Try.prog call (rg Try.f12 6) 5 fr h = pureS (anilCheck (fr.getD 23 .top)) fr 28 h := by kernel_rfl
theorem st12_6_6 : astep Try.prog call (rg Try.f12 6) 6 fr h = pureS (afieldAt Try.prog 66 (fr.getD 28 .top) 2) fr 29 h := by kernel_rfl
theorem st12_6_7 : astep Try.prog call (rg Try.f12 6) 7 fr h = heapN (stV Try.prog 3 (fr.getD 29 .top) (fr.getD 27 .top) h) fr := by kernel_rfl
theorem dok12_7 : drawOK Try.prog (befs (rg Try.f12 7).toList []) (rg Try.f12 7) = true := by kernel_rfl
theorem prs12_7 : pairsOK Try.prog (befs (rg Try.f12 7).toList []) (rg Try.f12 7) [] = true := by kernel_rfl
theorem rng12_7 : List.range (rg Try.f12 7).size = [0, 1, 2, 3, 4, 5, 6, 7, 8, 9] := by kernel_rfl
theorem reg12_7 : arun Try.prog K call lf (.region 7 (rg Try.f12 7) true) fr h = regR (aops Try.prog call (rg Try.f12 7) [0, 1, 2, 3, 4, 5, 6, 7, 8, 9] fr h) := (show _ = regR (adraw Try.prog call (rg Try.f12 7) fr h) by kernel_rfl).trans (congrArg regR ((adraw_plain dok12_7 prs12_7).trans (congrArg (fun l => aops Try.prog call (rg Try.f12 7) l fr h) rng12_7)))
theorem st12_7_0 : astep Try.prog call (rg Try.f12 7) 0 fr h = pureS (some (fr.getD 4 .top)) fr 30 h := by kernel_rfl
theorem st12_7_1 : astep Try.prog call (rg Try.f12 7) 1 fr h = pureS (anilCheck (fr.getD 30 .top)) fr 31 h := by kernel_rfl
theorem st12_7_2 : astep Try.prog call (rg Try.f12 7) 2 fr h = pureS (afieldAt Try.prog 66 (fr.getD 31 .top) 2) fr 32 h := by kernel_rfl
theorem st12_7_3 : astep Try.prog call (rg Try.f12 7) 3 fr h = pureS (ldV Try.prog 3 (fr.getD 32 .top) h) fr 33 h := by kernel_rfl
theorem st12_7_4 : astep Try.prog call (rg Try.f12 7) 4 fr h = pureS (some (fr.getD 4 .top)) fr 34 h := by kernel_rfl
theorem st12_7_5 : astep Try.prog call (rg Try.f12 7) 5 fr h = pureS (anilCheck (fr.getD 34 .top)) fr 35 h := by kernel_rfl
theorem st12_7_6 : astep Try.prog call (rg Try.f12 7) 6 fr h = pureS (afieldAt Try.prog 66 (fr.getD 35 .top) 1) fr 36 h := by kernel_rfl
theorem st12_7_7 : astep Try.prog call (rg Try.f12 7) 7 fr h = pureS (ldV Try.prog 9 (fr.getD 36 .top) h) fr 37 h := by kernel_rfl
theorem st12_7_8 : astep Try.prog call (rg Try.f12 7) 8 fr h = pureS (lenV (alen Try.prog 9 (fr.getD 37 .top))) fr 38 h := by kernel_rfl
theorem st12_7_9 : astep Try.prog call (rg Try.f12 7) 9 fr h = pureS (abin Try.prog .lss 3 (.tmp 33) (.tmp 38) (fr.getD 33 .top) (fr.getD 38 .top)) fr 39 h := by kernel_rfl
theorem reg12_8 : arun Try.prog K call lf (.region 8 (rg Try.f12 8) false) fr h = regR (aops Try.prog call (rg Try.f12 8) [0] fr h) := by kernel_rfl
theorem st12_8_0 : astep Try.prog call (rg Try.f12 8) 0 fr h = pureS (some (.bool false)) fr 2 h := by kernel_rfl
theorem reg12_9 : arun Try.prog K call lf (.region 9 (rg Try.f12 9) false) fr h = regR (aops Try.prog call (rg Try.f12 9) [0, 1, 2, 3, 4] fr h) := by kernel_rfl
theorem st12_9_0 : astep Try.prog call (rg Try.f12 9) 0 fr h = pureS (some (fr.getD 4 .top)) fr 40 h := by kernel_rfl
theorem st12_9_1 : astep Try.prog call (rg Try.f12 9) 1 fr h = pureS (anilCheck (fr.getD 40 .top)) fr 41 h := by kernel_rfl
theorem st12_9_2 : astep Try.prog call (rg Try.f12 9) 2 fr h = pureS (afieldAt Try.prog 66 (fr.getD 41 .top) 3) fr 42 h := by kernel_rfl
theorem st12_9_3 : astep Try.prog call (rg Try.f12 9) 3 fr h = pureS (ldV Try.prog 4 (fr.getD 42 .top) h) fr 43 h := by kernel_rfl
theorem st12_9_4 : astep Try.prog call (rg Try.f12 9) 4 fr h = pureS (some (fr.getD 43 .top)) fr 5 h := by kernel_rfl
theorem reg12_10 : arun Try.prog K call lf (.region 10 (rg Try.f12 10) false) fr h = regR (aops Try.prog call (rg Try.f12 10) [0, 1, 2, 3, 4, 5, 6, 7, 8, 9] fr h) := by kernel_rfl
theorem st12_10_0 : astep Try.prog call (rg Try.f12 10) 0 fr h = pureS (some (fr.getD 0 .top)) fr 44 h := by kernel_rfl
theorem st12_10_1 : astep Try.prog call (rg Try.f12 10) 1 fr h = pureS (some (fr.getD 0 .top)) fr 45 h := by kernel_rfl
theorem st12_10_2 : astep Try.prog call (rg Try.f12 10) 2 fr h = pureS (anilCheck (fr.getD 45 .top)) fr 46 h := by kernel_rfl
theorem st12_10_3 : astep Try.prog call (rg Try.f12 10) 3 fr h = pureS (afieldAt Try.prog 64 (fr.getD 46 .top) 0) fr 47 h := by kernel_rfl
theorem st12_10_4 : astep Try.prog call (rg Try.f12 10) 4 fr h = pureS (ldV Try.prog 62 (fr.getD 47 .top) h) fr 48 h := by kernel_rfl
theorem st12_10_5 : astep Try.prog call (rg Try.f12 10) 5 fr h = pureS (some (fr.getD 3 .top)) fr 49 h := by kernel_rfl
theorem st12_10_6 : astep Try.prog call (rg Try.f12 10) 6 fr h = pureS (aslice Try.prog 62 (fr.getD 48 .top) none (some (fr.getD 49 .top)) none) fr 50 h := by kernel_rfl
theorem st12_10_7 : astep Try.prog call (rg Try.f12 10) 7 fr h = pureS (anilCheck (fr.getD 44 .top)) fr 51 h := by kernel_rfl
theorem st12_10_8 : astep Try.prog call (rg Try.f12 10) 8 fr h = pureS (afieldAt Try.prog 64 (fr.getD 51 .top) 0) fr 52 h := by kernel_rfl
theorem st12_10_9 : astep Try.prog call (rg Try.f12 10) 9 fr h = heapN (stV Try.prog 62 (fr.getD 52 .top) (fr.getD 50 .top) h) fr := by kernel_rfl
theorem reg12_11 : arun Try.prog K call lf (.region 11 (rg Try.f12 11) false) fr h = regR (aops Try.prog call (rg Try.f12 11) [0, 1] fr h) := by kernel_rfl
theorem st12_11_0 : astep Try.prog call (rg Try.f12 11) 0 fr h = pureS (some (fr.getD 5 .top)) fr 53 h := by kernel_rfl
theorem st12_11_1 : astep Try.prog call (rg Try.f12 11) 1 fr h = pureS (some (fr.getD 53 .top)) fr 2 h := by kernel_rfl
end
-- SIMP12: reg12_0, st12_0_0, reg12_1, st12_1_0, st12_1_1, st12_1_2, reg12_2, st12_2_0, st12_2_1, reg12_3, st12_3_0, reg12_4, st12_4_0, st12_4_1, st12_4_2, st12_4_3, st12_4_4, st12_4_5, st12_4_6, st12_4_7, reg12_5, st12_5_0, st12_5_1, st12_5_2, st12_5_3, st12_5_4, st12_5_5, st12_5_6, reg12_6, st12_6_0, st12_6_1, st12_6_2, st12_6_3, st12_6_4, st12_6_5, st12_6_6, st12_6_7, reg12_7, st12_7_0, st12_7_1, st12_7_2, st12_7_3, st12_7_4, st12_7_5, st12_7_6, st12_7_7, st12_7_8, st12_7_9, reg12_8, st12_8_0, reg12_9, st12_9_0, st12_9_1, st12_9_2, st12_9_3, st12_9_4, reg12_10, st12_10_0, st12_10_1, st12_10_2, st12_10_3, st12_10_4, st12_10_5, st12_10_6, st12_10_7, st12_10_8, st12_10_9, reg12_11, st12_11_0, st12_11_1

/-! ### 20: (*conch/source.Source).Active -/
noncomputable def lp20_2 : Code := (.seq (.region 2 (rg Try.f20 2) false) (.seq (.cond (.tmp 10) .skip (.exit 0)) (.seq (.block 1 (.seq (.region 3 (rg Try.f20 3) false) (.seq (.region 4 (rg Try.f20 4) false) (.seq (.region 5 (rg Try.f20 5) false) (.cond (.tmp 28) (.seq (.region 6 (rg Try.f20 6) false) .ret) .skip))))) (.region 7 (rg Try.f20 7) false))))
theorem cl20_2 (x0 x1 x2 x3 x4 x5 x6 x7 x8 x9 x10 x11 x12 x13 x14 x15 x16 x17 x18 x19 x20 x21 x22 x23 x24 x25 x26 x27 x28 x29 : AV) : aclear (HK 20) lp20_2 [x0, x1, x2, x3, x4, x5, x6, x7, x8, x9, x10, x11, x12, x13, x14, x15, x16, x17, x18, x19, x20, x21, x22, x23, x24, x25, x26, x27, x28, x29] = [x0, x1, .top, .top, x4, .top, .top, .top, x8, x9, .top, .top, .top, .top, .top, .top, .top, .top, .top, .top, .top, .top, .top, .top, .top, .top, .top, .top, .top, .top] := by kernel_rfl
noncomputable def cd20 : Code := (.seq (.region 0 (rg Try.f20 0) false) (.seq (.seq (.region 1 (rg Try.f20 1) false) (.block 0 (.loop lp20_2))) (.seq (.region 8 (rg Try.f20 8) false) .ret)))
theorem ent20 (n : Nat) (a0 a1 : AV) (h : AH) : X (n + 1) 20 [a0, a1] h = fin1 (arun Try.prog (HK 20) (X n) n cd20 [a0, a1, .tup [], .tup [], .tup [], .tup [], .tup [], .tup [], .tup [], .tup [], .tup [], .tup [], .tup [], .tup [], .tup [], .tup [], .tup [], .tup [], .tup [], .tup [], .tup [], .tup [], .tup [], .tup [], .tup [], .tup [], .tup [], .tup [], .tup [], .tup []] h) 4 := by kernel_rfl
section
variable (K : Hint) (call : FuncId → List AV → AH → Option (AV × AH)) (lf : Nat) (fr : List AV) (h : AH)
theorem reg20_0 : arun Try.prog K call lf (.region 0 (rg Try.f20 0) false) fr h = regR (aops Try.prog call (rg Try.f20 0) [0] fr h) := by kernel_rfl
theorem st20_0_0 : astep Try.prog call (rg Try.f20 0) 0 fr h = pureS (some (.bool false)) fr 4 h := by kernel_rfl
theorem reg20_1 : arun Try.prog K call lf (.region 1 (rg Try.f20 1) false) fr h = regR (aops Try.prog call (rg Try.f20 1) [0, 1, 2] fr h) := by kernel_rfl
theorem st20_1_0 : astep Try.prog call (rg Try.f20 1) 0 fr h = pureS (some (fr.getD 0 .top)) fr 7 h := by kernel_rfl
theorem st20_1_1 : astep Try.prog call (rg Try.f20 1) 1 fr h = heapS (callV call (.fn (.func 18) [] []) [(fr.getD 7 .top)] h) fr 8 := by kernel_rfl
theorem st20_1_2 : astep Try.prog call (rg Try.f20 1) 2 fr h = pureS (some (.int .i64 0)) fr 9 h := by kernel_rfl
theorem reg20_2 : arun Try.prog K call lf (.region 2 (rg Try.f20 2) false) fr h = regR (aops Try.prog call (rg Try.f20 2) [0] fr h) := by kernel_rfl
theorem st20_2_0 : astep Try.prog call (rg Try.f20 2) 0 fr h = pureS (abin Try.prog .lss 3 (.tmp 9) (.tmp 8) (fr.getD 9 .top) (fr.getD 8 .top)) fr 10 h := by kernel_rfl
theorem reg20_3 : arun Try.prog K call lf (.region 3 (rg Try.f20 3) false) fr h = regR (aops Try.prog call (rg Try.f20 3) [0, 1] fr h) := by kernel_rfl
theorem st20_3_0 : astep Try.prog call (rg Try.f20 3) 0 fr h = pureS (some (fr.getD 9 .top)) fr 11 h := by kernel_rfl
theorem st20_3_1 : astep Try.prog call (rg Try.f20 3) 1 fr h = pureS (some (fr.getD 11 .top)) fr 5 h := by kernel_rfl
theorem reg20_4 : arun Try.prog K call lf (.region 4 (rg Try.f20 4) false) fr h = regR (aops Try.prog call (rg Try.f20 4) [0, 1, 2, 3, 4, 5, 6, 7, 8] fr h) := by kernel_rfl
theorem st20_4_0 : astep Try.prog call (rg Try.f20 4) 0 fr h = pureS (some (fr.getD 0 .top)) fr 12 h := by kernel_rfl
theorem st20_4_1 : astep Try.prog call (rg Try.f20 4) 1 fr h = pureS (anilCheck (fr.getD 12 .top)) fr 13 h := by kernel_rfl
theorem st20_4_2 : astep Try.prog call (rg Try.f20 4) 2 fr h = pureS (afieldAt Try.prog 64 (fr.getD 13 .top) 0) fr 14 h := by kernel_rfl
theorem st20_4_3 : astep Try.prog call (rg Try.f20 4) 3 fr h = pureS (ldV Try.prog 62 (fr.getD 14 .top) h) fr 15 h := by kernel_rfl
theorem st20_4_4 : astep Try.prog call (rg Try.f20 4) 4 fr h = pureS (some (fr.getD 5 .top)) fr 16 h := by kernel_rfl
theorem st20_4_5 : astep Try.prog call (rg Try.f20 4) 5 fr h = pureS (aindexAt Try.prog 62 (fr.getD 15 .top) (fr.getD 16 .top)) fr 17 h := by kernel_rfl
theorem st20_4_6 : astep Try.prog call (rg Try.f20 4) 6 fr h = pureS (ldV Try.prog 66 (fr.getD 17 .top) h) fr 18 h := by kernel_rfl
theorem st20_4_7 : astep Try.prog call (rg Try.f20 4) 7 fr h = heapS (newV Try.prog 66 h) fr 6 := by kernel_rfl
theorem st20_4_8 : astep Try.prog call (rg Try.f20 4) 8 fr h = heapN (stV Try.prog 66 (fr.getD 6 .top) (fr.getD 18 .top) h) fr := by kernel_rfl
theorem reg20_5 : arun Try.prog K call lf (.region 5 (rg Try.f20 5) false) fr h = regR (aops Try.prog call (rg Try.f20 5) [0, 1, 2, 3, 4, 5, 6, 7, 8, 9] fr h) := by kernel_rfl
theorem st20_5_0 : astep Try.prog call (rg Try.f20 5) 0 fr h = pureS (ldV Try.prog 66 (fr.getD 6 .top) h) fr 19 h := by kernel_rfl
theorem st20_5_1 : astep Try.prog call (rg Try.f20 5) 1 fr h = pureS (some (fr.getD 1 .top)) fr 20 h := by kernel_rfl
theorem st20_5_2 : astep Try.prog call (rg Try.f20 5) 2 fr h = pureS (afieldAt Try.prog 66 (fr.getD 6 .top) 1) fr 21 h := by kernel_rfl
theorem st20_5_3 : astep Try.prog call (rg Try.f20 5) 3 fr h = pureS (ldV Try.prog 9 (fr.getD 21 .top) h) fr 22 h := by kernel_rfl
theorem st20_5_4 : astep Try.prog call (rg Try.f20 5) 4 fr h = pureS (afieldAt Try.prog 66 (fr.getD 6 .top) 2) fr 23 h := by kernel_rfl
theorem st20_5_5 : astep Try.prog call (rg Try.f20 5) 5 fr h = pureS (ldV Try.prog 3 (fr.getD 23 .top) h) fr 24 h := by kernel_rfl
theorem st20_5_6 : astep Try.prog call (rg Try.f20 5) 6 fr h = pureS (afieldAt Try.prog 66 (fr.getD 6 .top) 3) fr 25 h := by kernel_rfl
theorem st20_5_7 : astep Try.prog call (rg Try.f20 5) 7 fr h = pureS (ldV Try.prog 4 (fr.getD 25 .top) h) fr 26 h := by kernel_rfl
theorem st20_5_8 : astep Try.prog call (rg Try.f20 5) 8 fr h = pureS (abuild Try.prog 66 [(0, (fr.getD 20 .top)), (1, (fr.getD 22 .top)), (2, (fr.getD 24 .top)), (3, (fr.getD 26 .top))]) fr 27 h := by kernel_rfl
theorem st20_5_9 : astep Try.prog call (rg Try.f20 5) 9 fr h = pureS (abin Try.prog .eql 66 (.tmp 19) (.tmp 27) (fr.getD 19 .top) (fr.getD 27 .top)) fr 28 h := by kernel_rfl
theorem reg20_6 : arun Try.prog K call lf (.region 6 (rg Try.f20 6) false) fr h = regR (aops Try.prog call (rg Try.f20 6) [0] fr h) := by kernel_rfl
theorem st20_6_0 : astep Try.prog call (rg Try.f20 6) 0 fr h = pureS (some (.bool true)) fr 4 h := by kernel_rfl
theorem reg20_7 : arun Try.prog K call lf (.region 7 (rg Try.f20 7) false) fr h = regR (aops Try.prog call (rg Try.f20 7) [0, 1] fr h) := by kernel_rfl
theorem st20_7_0 : astep Try.prog call (rg Try.f20 7) 0 fr h = pureS (abin Try.prog .add 3 (.tmp 9) (.const (.int .i64 1)) (fr.getD 9 .top) (.int .i64 1)) fr 29 h := by kernel_rfl
theorem st20_7_1 : astep Try.prog call (rg Try.f20 7) 1 fr h = pureS (some (fr.getD 29 .top)) fr 9 h := by kernel_rfl
theorem reg20_8 : arun Try.prog K call lf (.region 8 (rg Try.f20 8) false) fr h = regR (aops Try.prog call (rg Try.f20 8) [0] fr h) := by kernel_rfl
theorem st20_8_0 : astep Try.prog call (rg Try.f20 8) 0 fr h = pureS (some (.bool false)) fr 4 h := by kernel_rfl
end
-- SIMP20: reg20_0, st20_0_0, reg20_1, st20_1_0, st20_1_1, st20_1_2, reg20_2, st20_2_0, reg20_3, st20_3_0, st20_3_1, reg20_4, st20_4_0, st20_4_1, st20_4_2, st20_4_3, st20_4_4, st20_4_5, st20_4_6, st20_4_7, st20_4_8, reg20_5, st20_5_0, st20_5_1, st20_5_2, st20_5_3, st20_5_4, st20_5_5, st20_5_6, st20_5_7, st20_5_8, st20_5_9, reg20_6, st20_6_0, reg20_7, st20_7_0, st20_7_1, reg20_8, st20_8_0

/-! ### 44: conch/alias.Blank -/
noncomputable def cd44 : Code := (.seq (.region 0 (rg Try.f44 0) false) (.seq (.region 1 (rg Try.f44 1) false) .ret))
theorem ent44 (n : Nat) (a0 : AV) (h : AH) : X (n + 1) 44 [a0] h = fin1 (arun Try.prog (HK 44) (X n) n cd44 [a0, .tup [], .tup [], .tup [], .tup [], .tup [], .tup [], .tup [], .tup []] h) 2 := by kernel_rfl
section
variable (K : Hint) (call : FuncId → List AV → AH → Option (AV × AH)) (lf : Nat) (fr : List AV) (h : AH)
theorem reg44_0 : arun Try.prog K call lf (.region 0 (rg Try.f44 0) false) fr h = regR (aops Try.prog call (rg Try.f44 0) [0] fr h) := by kernel_rfl
theorem st44_0_0 : astep Try.prog call (rg Try.f44 0) 0 fr h = pureS (some (.bool false)) fr 2 h := by kernel_rfl
theorem reg44_1 : arun Try.prog K call lf (.region 1 (rg Try.f44 1) false) fr h = regR (aops Try.prog call (rg Try.f44 1) [0, 1, 2, 3, 4, 5, 6] fr h) := by kernel_rfl
theorem st44_1_0 : astep Try.prog call (rg Try.f44 1) 0 fr h = pureS (some (fr.getD 0 .top)) fr 3 h := by kernel_rfl
theorem st44_1_1 : astep Try.prog call (rg Try.f44 1) 1 fr h = heapS (callV call (.fn (.func 64) [] []) [(fr.getD 3 .top), (.str [32])] h) fr 4 := by kernel_rfl
theorem st44_1_2 : astep Try.prog call (rg Try.f44 1) 2 fr h = pureS (some (fr.getD 4 .top)) fr 5 h := by kernel_rfl
theorem st44_1_3 : astep Try.prog call (rg Try.f44 1) 3 fr h = gdS (fr.getD 5 .top) false (some (fr.set 6 (.tup []), h)) (pureS (some (fr.getD 0 .top)) fr 6 h) := by kernel_rfl
theorem st44_1_4 : astep Try.prog call (rg Try.f44 1) 4 fr h = gdS (fr.getD 5 .top) false (some (fr.set 7 (.tup []), h)) (heapS (callV call (.fn (.func 64) [] []) [(fr.getD 6 .top), (.str [9])] h) fr 7) := by kernel_rfl
theorem st44_1_5 : astep Try.prog call (rg Try.f44 1) 5 fr h = pureS (pickV (fr.getD 5 .top) (.bool true) (fr.getD 7 .top)) fr 8 h := by kernel_rfl
theorem st44_1_6 : astep Try.prog call (rg Try.f44 1) 6 fr h = pureS (some (fr.getD 8 .top)) fr 2 h := by kernel_rfl
end
-- SIMP44: reg44_0, st44_0_0, reg44_1, st44_1_0, st44_1_1, st44_1_2, st44_1_3, st44_1_4, st44_1_5, st44_1_6

/-! ### 64: strings.HasSuffix -/
noncomputable def cd64 : Code := (.seq (.region 0 (rg Try.f64 0) false) (.seq (.region 1 (rg Try.f64 1) false) .ret))
theorem ent64 (n : Nat) (a0 a1 : AV) (h : AH) : X (n + 1) 64 [a0, a1] h = fin1 (arun Try.prog (HK 64) (X n) n cd64 [a0, a1, .tup [], .tup [], .tup [], .tup [], .tup [], .tup []] h) 4 := by kernel_rfl
section
variable (K : Hint) (call : FuncId → List AV → AH → Option (AV × AH)) (lf : Nat) (fr : List AV) (h : AH)
theorem reg64_0 : arun Try.prog K call lf (.region 0 (rg Try.f64 0) false) fr h = regR (aops Try.prog call (rg Try.f64 0) [0] fr h) := by kernel_rfl
theorem st64_0_0 : astep Try.prog call (rg Try.f64 0) 0 fr h = pureS (some (.bool false)) fr 4 h := by kernel_rfl
theorem reg64_1 : arun Try.prog K call lf (.region 1 (rg Try.f64 1) false) fr h = regR (aops Try.prog call (rg Try.f64 1) [0, 1, 2, 3] fr h) := by kernel_rfl
theorem st64_1_0 : astep Try.prog call (rg Try.f64 1) 0 fr h = pureS (some (fr.getD 0 .top)) fr 5 h := by kernel_rfl
theorem st64_1_1 : astep Try.prog call (rg Try.f64 1) 1 fr h = pureS (some (fr.getD 1 .top)) fr 6 h := by kernel_rfl
theorem st64_1_2 : astep Try.prog call (rg Try.f64 1) 2 fr h = heapS (callV call (.fn (.func 81) [] []) [(fr.getD 5 .top), (fr.getD 6 .top)] h) fr 7 := by kernel_rfl
theorem st64_1_3 : astep Try.prog call (rg Try.f64 1) 3 fr h = pureS (some (fr.getD 7 .top)) fr 4 h := by kernel_rfl
end
-- SIMP64: reg64_0, st64_0_0, reg64_1, st64_1_0, st64_1_1, st64_1_2, st64_1_3

/-! ### 81: internal/stringslite.HasSuffix -/
noncomputable def cd81 : Code := (.seq (.region 0 (rg Try.f81 0) false) (.seq (.region 1 (rg Try.f81 1) false) .ret))
theorem ent81 (n : Nat) (a0 a1 : AV) (h : AH) : X (n + 1) 81 [a0, a1] h = fin1 (arun Try.prog (HK 81) (X n) n cd81 [a0, a1, .tup [], .tup [], .tup [], .tup [], .tup [], .tup [], .tup [], .tup [], .tup [], .tup [], .tup [], .tup [], .tup [], .tup [], .tup [], .tup [], .tup [], .tup [], .tup []] h) 4 := by kernel_rfl
section
variable (K : Hint) (call : FuncId → List AV → AH → Option (AV × AH)) (lf : Nat) (fr : List AV) (h : AH)
theorem reg81_0 : arun Try.prog K call lf (.region 0 (rg Try.f81 0) false) fr h = regR (aops Try.prog call (rg Try.f81 0) [0] fr h) := by kernel_rfl
theorem st81_0_0 : astep Try.prog call (rg Try.f81 0) 0 fr h = pureS (some (.bool false)) fr 4 h := by kernel_rfl
theorem reg81_1 : arun Try.prog K call lf (.region 1 (rg Try.f81 1) false) fr h = regR (aops Try.prog call (rg Try.f81 1) [0, 1, 2, 3, 4, 5, 6, 7, 8, 9, 10, 11, 12, 13, 14, 15, 16] fr h) := by kernel_rfl
theorem st81_1_0 : astep Try.prog call (rg Try.f81 1) 0 fr h = pureS (some (fr.getD 0 .top)) fr 5 h := by kernel_rfl
theorem st81_1_1 : astep Try.prog call (rg Try.f81 1) 1 fr h = pureS (lenV (alen Try.prog 9 (fr.getD 5 .top))) fr 6 h := by kernel_rfl
theorem st81_1_2 : astep Try.prog call (rg Try.f81 1) 2 fr h = pureS (some (fr.getD 1 .top)) fr 7 h := by kernel_rfl
theorem st81_1_3 : astep Try.prog call (rg Try.f81 1) 3 fr h = pureS (lenV (alen Try.prog 9 (fr.getD 7 .top))) fr 8 h := by kernel_rfl
theorem st81_1_4 : astep Try.prog call (rg Try.f81 1) 4 fr h = pureS (abin Try.prog .geq 3 (.tmp 6) (.tmp 8) (fr.getD 6 .top) (fr.getD 8 .top)) fr 9 h := by kernel_rfl
theorem st81_1_5 : astep Try.prog call (rg Try.f81 1) 5 fr h = pureS (some (fr.getD 9 .top)) fr 10 h := by kernel_rfl
theorem st81_1_6 : astep Try.prog call (rg Try.f81 1) 6 fr h = gdS (fr.getD 10 .top) true (some (fr.set 11 (.tup []), h)) (pureS (some (fr.getD 0 .top)) fr 11 h) := by kernel_rfl
theorem st81_1_7 : astep Try.prog call (rg Try.f81 1) 7 fr h = gdS (fr.getD 10 .top) true (some (fr.set 12 (.tup []), h)) (pureS (some (fr.getD 0 .top)) fr 12 h) := by kernel_rfl
theorem st81_1_8 : astep Try.prog call (rg Try.f81 1) 8 fr h = gdS (fr.getD 10 .top) true (some (fr.set 13 (.tup []), h)) (pureS (lenV (alen Try.prog 9 (fr.getD 12 .top))) fr 13 h) := by kernel_rfl
theorem st81_1_9 : astep Try.prog call (rg Try.f81 1) 9 fr h = gdS (fr.getD 10 .top) true (some (fr.set 14 (.tup []), h)) (pureS (some (fr.getD 1 .top)) fr 14 h) := by kernel_rfl
theorem st81_1_10 : astep Try.prog call (rg Try.f81 1) 10 fr h = gdS (fr.getD 10 .top) true (some (fr.set 15 (.tup []), h)) (pureS (lenV (alen Try.prog 9 (fr.getD 14 .top))) fr 15 h) := by kernel_rfl
theorem st81_1_11 : astep Try.prog call (rg Try.f81 1) 11 fr h = gdS (fr.getD 10 .top) true (some (fr.set 16 (.tup []), h)) (pureS (abin Try.prog .sub 3 (.tmp 13) (.tmp 15) (fr.getD 13 .top) (fr.getD 15 .top)) fr 16 h) := by kernel_rfl
theorem st81_1_12 : astep Try.prog call (rg Try.f81 1) 12 fr h = gdS (fr.getD 10 .top) true (some (fr.set 17 (.tup []), h)) (pureS (aslice Try.prog 9 (fr.getD 11 .top) (some (fr.getD 16 .top)) none none) fr 17 h) := by kernel_rfl
theorem st81_1_13 : astep Try.prog call (rg Try.f81 1) 13 fr h = gdS (fr.getD 10 .top) true (some (fr.set 18 (.tup []), h)) (pureS (some (fr.getD 1 .top)) fr 18 h) := by kernel_rfl
theorem st81_1_14 : astep Try.prog call (rg Try.f81 1) 14 fr h = gdS (fr.getD 10 .top) true (some (fr.set 19 (.tup []), h)) (pureS (abin Try.prog .eql 9 (.tmp 17) (.tmp 18) (fr.getD 17 .top) (fr.getD 18 .top)) fr 19 h) := by kernel_rfl
theorem st81_1_15 : astep Try.prog call (rg Try.f81 1) 15 fr h = pureS (pickV (fr.getD 10 .top) (fr.getD 19 .top) (.bool false)) fr 20 h := by kernel_rfl
theorem st81_1_16 : astep Try.prog call (rg Try.f81 1) 16 fr h = pureS (some (fr.getD 20 .top)) fr 4 h := by kernel_rfl
end
-- SIMP81: reg81_0, st81_0_0, reg81_1, st81_1_0, st81_1_1, st81_1_2, st81_1_3, st81_1_4, st81_1_5, st81_1_6, st81_1_7, st81_1_8, st81_1_9, st81_1_10, st81_1_11, st81_1_12, st81_1_13, st81_1_14, st81_1_15, st81_1_16

end Go.Proofs.Ytgnacecplaemlaa
