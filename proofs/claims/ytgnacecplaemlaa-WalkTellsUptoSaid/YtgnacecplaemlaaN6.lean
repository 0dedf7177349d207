/-
  Part 6 of 9 of the proof of WalkTells: what follows.
-/
import Derived.Test.YtgnacecplaemlaaN5
namespace Go.Proofs.Ytgnacecplaemlaa
open AI Try
set_option linter.unusedVariables false
/-! ### 58: conch/conchref42.words -/
noncomputable def lp58_3 : Code := (.seq (.seq (.region 3 (rg f58 3) false) (.cond (.tmp 17) .skip (.exit 0))) (.seq (.block 1 (.region 5 (rg f58 5) false)) (.region 4 (rg f58 4) false)))
def C58_3 (x1 x3 x4 : AV) : List AV := [.top,x1,.top,x3,x4,.top,.top,.top,.top,.top,.top,.top,.top,.top,.top,.top,.top,.top,.top,.top,.top,.top,.top,.top,.top,.top,.top,.top,.top,.top,.top,.top,.top,.top,.top,.top,.top,.top,.top,.top,.top,.top,.top,.top,.top]
theorem cl58_3 (x0 x1 x2 x3 x4 x5 x6 x7 x8 x9 x10 x11 x12 x13 x14 x15 x16 x17 x18 x19 x20 x21 x22 x23 x24 x25 x26 x27 x28 x29 x30 x31 x32 x33 x34 x35 x36 x37 x38 x39 x40 x41 x42 x43 x44 : AV) : aclear (HK 58) lp58_3 [x0,x1,x2,x3,x4,x5,x6,x7,x8,x9,x10,x11,x12,x13,x14,x15,x16,x17,x18,x19,x20,x21,x22,x23,x24,x25,x26,x27,x28,x29,x30,x31,x32,x33,x34,x35,x36,x37,x38,x39,x40,x41,x42,x43,x44] = C58_3 x1 x3 x4 := by kernel_rfl
noncomputable def lp58_7 : Code := (.seq (.seq (.region 7 (rg f58 7) false) (.cond (.tmp 33) .skip (.exit 2))) (.seq (.block 3 (.region 9 (rg f58 9) false)) (.region 8 (rg f58 8) false)))
def C58_7 (x1 x3 x5 : AV) : List AV := [.top,x1,.top,x3,.top,x5,.top,.top,.top,.top,.top,.top,.top,.top,.top,.top,.top,.top,.top,.top,.top,.top,.top,.top,.top,.top,.top,.top,.top,.top,.top,.top,.top,.top,.top,.top,.top,.top,.top,.top,.top,.top,.top,.top,.top]
theorem cl58_7 (x0 x1 x2 x3 x4 x5 x6 x7 x8 x9 x10 x11 x12 x13 x14 x15 x16 x17 x18 x19 x20 x21 x22 x23 x24 x25 x26 x27 x28 x29 x30 x31 x32 x33 x34 x35 x36 x37 x38 x39 x40 x41 x42 x43 x44 : AV) : aclear (HK 58) lp58_7 [x0,x1,x2,x3,x4,x5,x6,x7,x8,x9,x10,x11,x12,x13,x14,x15,x16,x17,x18,x19,x20,x21,x22,x23,x24,x25,x26,x27,x28,x29,x30,x31,x32,x33,x34,x35,x36,x37,x38,x39,x40,x41,x42,x43,x44] = C58_7 x1 x3 x5 := by kernel_rfl
noncomputable def cd58 : Code := (.seq (.region 0 (rg f58 0) false) (.seq (.region 1 (rg f58 1) true) (.seq (.seq (.region 2 (rg f58 2) false) (.block 0 (.loop lp58_3))) (.seq (.seq (.region 6 (rg f58 6) false) (.block 2 (.loop lp58_7))) (.seq (.region 10 (rg f58 10) false) .ret)))))
theorem ent58 (n : Nat) (a0 : AV) (h : AH) : X (n + 1) (.func 58) [a0] h = nrm h (fin1 (arun prog (HK 58) 58 (X n) n none cd58 [a0,.tup [],.tup [],.tup [],.tup [],.tup [],.tup [],.tup [],.tup [],.tup [],.tup [],.tup [],.tup [],.tup [],.tup [],.tup [],.tup [],.tup [],.tup [],.tup [],.tup [],.tup [],.tup [],.tup [],.tup [],.tup [],.tup [],.tup [],.tup [],.tup [],.tup [],.tup [],.tup [],.tup [],.tup [],.tup [],.tup [],.tup [],.tup [],.tup [],.tup [],.tup [],.tup [],.tup [],.tup []] h) 2) := by kernel_rfl
section
variable (K : Hint) (fid : FuncId) (call : ACall) (lf : Nat) (rd : Option Nat) (fr : List AV) (h : AH)
theorem dok58_1 : drawOK prog (befs (rg f58 1).toList []) (rg f58 1) = true := by kernel_rfl
theorem prs58_1 : pairsOK prog (befs (rg f58 1).toList []) (rg f58 1) [(2,0),(5,0),(5,3)] = true := by kernel_rfl
theorem rng58_1 : List.range (rg f58 1).size = [0,1,2,3,4,5,6,7] := by kernel_rfl
theorem drw58_1 {r : List AV × AH} (h0 : aops prog call (rg f58 1) [0,1,2,3,4,5,6,7] fr h = some r) (hq : ∀ p ∈ ([(2,0),(5,0),(5,3)] : List (Nat × Nat)),PairOK prog call (rg f58 1) fr h p.1 p.2) : arun prog (HK 58) fid call lf rd (.region 1 (rg f58 1) true) fr h = regR (some r) := (show _ = regR (adraw prog call (rg f58 1) fr h) by kernel_rfl).trans (congrArg regR (adraw_eval _ dok58_1 prs58_1 ((congrArg (fun l => aops prog call (rg f58 1) l fr h) rng58_1).trans h0) hq))
theorem li58_1_2 : loadI prog (rg f58 1) 2 fr h = ldV prog 44 (fr.getD 7 .top) h := by kernel_rfl
theorem li58_1_5 : loadI prog (rg f58 1) 5 fr h = ldV prog 44 (fr.getD 10 .top) h := by kernel_rfl
theorem rng58_1_0 : List.range 0 = [] := by rfl
theorem rng58_1_1 : List.range 1 = [0] := by rfl
theorem rng58_1_2 : List.range 2 = [0,1] := by rfl
theorem rng58_1_3 : List.range 3 = [0,1,2] := by rfl
theorem rng58_1_4 : List.range 4 = [0,1,2,3] := by rfl
theorem rng58_1_5 : List.range 5 = [0,1,2,3,4] := by rfl
end
theorem R58 (K : Hint) (i : FuncId) (c : ACall) (n : Nat) (d : Option Nat) (f : List AV) (h : AH) :
 arun prog K i c n d (.region 0 (rg f58 0) false) f h = regR (aops prog c (rg f58 0) [0,1] f h) ∧
 arun prog K i c n d (.region 2 (rg f58 2) false) f h = regR (aops prog c (rg f58 2) [0] f h) ∧
 arun prog K i c n d (.region 3 (rg f58 3) false) f h = regR (aops prog c (rg f58 3) [0,1,2,3,4] f h) ∧
 arun prog K i c n d (.region 5 (rg f58 5) false) f h = regR (aops prog c (rg f58 5) [0,1,2,3,4,5,6,7,8,9] f h) ∧
 arun prog K i c n d (.region 4 (rg f58 4) false) f h = regR (aops prog c (rg f58 4) [0,1,2] f h) ∧
 arun prog K i c n d (.region 6 (rg f58 6) false) f h = regR (aops prog c (rg f58 6) [0] f h) ∧
 arun prog K i c n d (.region 7 (rg f58 7) false) f h = regR (aops prog c (rg f58 7) [0,1,2,3,4] f h) ∧
 arun prog K i c n d (.region 9 (rg f58 9) false) f h = regR (aops prog c (rg f58 9) [0,1,2,3,4,5,6,7,8] f h) ∧
 arun prog K i c n d (.region 8 (rg f58 8) false) f h = regR (aops prog c (rg f58 8) [0,1,2] f h) ∧
 arun prog K i c n d (.region 10 (rg f58 10) false) f h = regR (aops prog c (rg f58 10) [0,1] f h) := by
  repeat' apply And.intro
  all_goals kernel_rfl
theorem S58 (c : ACall) (f : List AV) (h : AH) :
 astep prog c (rg f58 0) 0 f h = heapS (boxV (f.getD 0 .top) h) f 1 ∧
 astep prog c (rg f58 0) 1 f h = pureS (some (.nilSl)) f 2 h ∧
 astep prog c (rg f58 1) 0 f h = heapS (bslV prog 44 0 [] h) f 6 ∧
 astep prog c (rg f58 1) 1 f h = pureS (afieldAt prog 49 (f.getD 1 .top) 5) f 7 h ∧
 astep prog c (rg f58 1) 2 f h = pureS (ldV prog 44 (f.getD 7 .top) h) f 8 h ∧
 astep prog c (rg f58 1) 3 f h = heapS (aappend prog 44 44 (f.getD 6 .top) (f.getD 8 .top) h) f 9 ∧
 astep prog c (rg f58 1) 4 f h = pureS (afieldAt prog 49 (f.getD 1 .top) 6) f 10 h ∧
 astep prog c (rg f58 1) 5 f h = pureS (ldV prog 44 (f.getD 10 .top) h) f 11 h ∧
 astep prog c (rg f58 1) 6 f h = heapS (aappend prog 44 44 (f.getD 9 .top) (f.getD 11 .top) h) f 12 ∧
 astep prog c (rg f58 1) 7 f h = pureS (some (f.getD 12 .top)) f 3 h ∧
 astep prog c (rg f58 2) 0 f h = pureS (some (.int .i64 0)) f 4 h ∧
 astep prog c (rg f58 3) 0 f h = pureS (some (f.getD 4 .top)) f 13 h ∧
 astep prog c (rg f58 3) 1 f h = pureS (afieldAt prog 49 (f.getD 1 .top) 7) f 14 h ∧
 astep prog c (rg f58 3) 2 f h = pureS (ldV prog 45 (f.getD 14 .top) h) f 15 h ∧
 astep prog c (rg f58 3) 3 f h = pureS (lenV (alen prog 45 (f.getD 15 .top))) f 16 h ∧
 astep prog c (rg f58 3) 4 f h = pureS (abin prog .lss 3 (.tmp 13) (.tmp 16) (f.getD 13 .top) (f.getD 16 .top)) f 17 h ∧
 astep prog c (rg f58 5) 0 f h = pureS (some (f.getD 3 .top)) f 20 h ∧
 astep prog c (rg f58 5) 1 f h = pureS (afieldAt prog 49 (f.getD 1 .top) 7) f 21 h ∧
 astep prog c (rg f58 5) 2 f h = pureS (ldV prog 45 (f.getD 21 .top) h) f 22 h ∧
 astep prog c (rg f58 5) 3 f h = pureS (some (f.getD 4 .top)) f 23 h ∧
 astep prog c (rg f58 5) 4 f h = pureS (aindexAt prog 45 (f.getD 22 .top) (f.getD 23 .top)) f 24 h ∧
 astep prog c (rg f58 5) 5 f h = pureS (afieldAt prog 73 (f.getD 24 .top) 2) f 25 h ∧
 astep prog c (rg f58 5) 6 f h = pureS (ldV prog 60 (f.getD 25 .top) h) f 26 h ∧
 astep prog c (rg f58 5) 7 f h = heapS (bslV prog 44 1 [(0,(f.getD 26 .top))] h) f 27 ∧
 astep prog c (rg f58 5) 8 f h = heapS (aappend prog 44 44 (f.getD 20 .top) (f.getD 27 .top) h) f 28 ∧
 astep prog c (rg f58 5) 9 f h = pureS (some (f.getD 28 .top)) f 3 h ∧
 astep prog c (rg f58 4) 0 f h = pureS (some (f.getD 4 .top)) f 18 h ∧
 astep prog c (rg f58 4) 1 f h = pureS (abin prog .add 3 (.tmp 18) (.const (.int .i64 1)) (f.getD 18 .top) (.int .i64 1)) f 19 h ∧
 astep prog c (rg f58 4) 2 f h = pureS (some (f.getD 19 .top)) f 4 h ∧
 astep prog c (rg f58 6) 0 f h = pureS (some (.int .i64 0)) f 5 h ∧
 astep prog c (rg f58 7) 0 f h = pureS (some (f.getD 5 .top)) f 29 h ∧
 astep prog c (rg f58 7) 1 f h = pureS (afieldAt prog 49 (f.getD 1 .top) 8) f 30 h ∧
 astep prog c (rg f58 7) 2 f h = pureS (ldV prog 46 (f.getD 30 .top) h) f 31 h ∧
 astep prog c (rg f58 7) 3 f h = pureS (lenV (alen prog 46 (f.getD 31 .top))) f 32 h ∧
 astep prog c (rg f58 7) 4 f h = pureS (abin prog .lss 3 (.tmp 29) (.tmp 32) (f.getD 29 .top) (f.getD 32 .top)) f 33 h ∧
 astep prog c (rg f58 9) 0 f h = pureS (some (f.getD 3 .top)) f 36 h ∧
 astep prog c (rg f58 9) 1 f h = pureS (afieldAt prog 49 (f.getD 1 .top) 8) f 37 h ∧
 astep prog c (rg f58 9) 2 f h = pureS (ldV prog 46 (f.getD 37 .top) h) f 38 h ∧
 astep prog c (rg f58 9) 3 f h = pureS (some (f.getD 5 .top)) f 39 h ∧
 astep prog c (rg f58 9) 4 f h = pureS (aindexAt prog 46 (f.getD 38 .top) (f.getD 39 .top)) f 40 h ∧
 astep prog c (rg f58 9) 5 f h = pureS (afieldAt prog 76 (f.getD 40 .top) 0) f 41 h ∧
 astep prog c (rg f58 9) 6 f h = pureS (ldV prog 44 (f.getD 41 .top) h) f 42 h ∧
 astep prog c (rg f58 9) 7 f h = heapS (aappend prog 44 44 (f.getD 36 .top) (f.getD 42 .top) h) f 43 ∧
 astep prog c (rg f58 9) 8 f h = pureS (some (f.getD 43 .top)) f 3 h ∧
 astep prog c (rg f58 8) 0 f h = pureS (some (f.getD 5 .top)) f 34 h ∧
 astep prog c (rg f58 8) 1 f h = pureS (abin prog .add 3 (.tmp 34) (.const (.int .i64 1)) (f.getD 34 .top) (.int .i64 1)) f 35 h ∧
 astep prog c (rg f58 8) 2 f h = pureS (some (f.getD 35 .top)) f 5 h ∧
 astep prog c (rg f58 10) 0 f h = pureS (some (f.getD 3 .top)) f 44 h ∧
 astep prog c (rg f58 10) 1 f h = pureS (some (f.getD 44 .top)) f 2 h := by
  repeat' apply And.intro
  all_goals kernel_rfl

end Go.Proofs.Ytgnacecplaemlaa
namespace Go.Proofs.Ytgnacecplaemlaa
open AI Try
set_option linter.unusedVariables false
/-! ### 59: conch/conchref27.Plain -/
noncomputable def cd59 : Code := (.seq (.region 0 (rg f59 0) false) (.seq (.seq (.region 1 (rg f59 1) false) (.cond (.tmp 15) (.seq (.region 2 (rg f59 2) false) .ret) .skip)) (.seq (.region 3 (rg f59 3) false) .ret)))
theorem ent59 (n : Nat) (a0 : AV) (h : AH) : X (n + 1) (.func 59) [a0] h = nrm h (finN (arun prog (HK 59) 59 (X n) n none cd59 [a0,.tup [],.tup [],.tup [],.tup [],.tup [],.tup [],.tup [],.tup [],.tup [],.tup [],.tup [],.tup [],.tup [],.tup [],.tup [],.tup [],.tup [],.tup [],.tup [],.tup []] h) [2,3]) := by kernel_rfl
section
variable (K : Hint) (fid : FuncId) (call : ACall) (lf : Nat) (rd : Option Nat) (fr : List AV) (h : AH)
end
theorem R59 (K : Hint) (i : FuncId) (c : ACall) (n : Nat) (d : Option Nat) (f : List AV) (h : AH) :
 arun prog K i c n d (.region 0 (rg f59 0) false) f h = regR (aops prog c (rg f59 0) [0,1,2] f h) ∧
 arun prog K i c n d (.region 1 (rg f59 1) false) f h = regR (aops prog c (rg f59 1) [0,1,2,3,4,5,6,7,8,9,10,11] f h) ∧
 arun prog K i c n d (.region 2 (rg f59 2) false) f h = regR (aops prog c (rg f59 2) [0,1] f h) ∧
 arun prog K i c n d (.region 3 (rg f59 3) false) f h = regR (aops prog c (rg f59 3) [0,1,2,3,4,5,6] f h) := by
  repeat' apply And.intro
  all_goals kernel_rfl
theorem S59 (c : ACall) (f : List AV) (h : AH) :
 astep prog c (rg f59 0) 0 f h = heapS (boxV (f.getD 0 .top) h) f 1 ∧
 astep prog c (rg f59 0) 1 f h = pureS (some (.str [])) f 2 h ∧
 astep prog c (rg f59 0) 2 f h = pureS (some (.bool false)) f 3 h ∧
 astep prog c (rg f59 1) 0 f h = pureS (afieldAt prog 60 (f.getD 1 .top) 0) f 4 h ∧
 astep prog c (rg f59 1) 1 f h = pureS (ldV prog 58 (f.getD 4 .top) h) f 5 h ∧
 astep prog c (rg f59 1) 2 f h = pureS (lenV (alen prog 58 (f.getD 5 .top))) f 6 h ∧
 astep prog c (rg f59 1) 3 f h = pureS (abin prog .neq 3 (.tmp 6) (.const (.int .i64 1)) (f.getD 6 .top) (.int .i64 1)) f 7 h ∧
 astep prog c (rg f59 1) 4 f h = pureS (some (f.getD 7 .top)) f 8 h ∧
 astep prog c (rg f59 1) 5 f h = gdS (f.getD 8 .top) false (some (f.set 9 (.tup []),h)) (pureS (afieldAt prog 60 (f.getD 1 .top) 0) f 9 h) ∧
 astep prog c (rg f59 1) 6 f h = gdS (f.getD 8 .top) false (some (f.set 10 (.tup []),h)) (pureS (ldV prog 58 (f.getD 9 .top) h) f 10 h) ∧
 astep prog c (rg f59 1) 7 f h = gdS (f.getD 8 .top) false (some (f.set 11 (.tup []),h)) (pureS (aindexAt prog 58 (f.getD 10 .top) (.int .i64 0)) f 11 h) ∧
 astep prog c (rg f59 1) 8 f h = gdS (f.getD 8 .top) false (some (f.set 12 (.tup []),h)) (pureS (afieldAt prog 78 (f.getD 11 .top) 0) f 12 h) ∧
 astep prog c (rg f59 1) 9 f h = gdS (f.getD 8 .top) false (some (f.set 13 (.tup []),h)) (pureS (ldV prog 3 (f.getD 12 .top) h) f 13 h) ∧
 astep prog c (rg f59 1) 10 f h = gdS (f.getD 8 .top) false (some (f.set 14 (.tup []),h)) (pureS (abin prog .neq 3 (.tmp 13) (.const (.int .i64 1)) (f.getD 13 .top) (.int .i64 1)) f 14 h) ∧
 astep prog c (rg f59 1) 11 f h = pureS (pickV (f.getD 8 .top) (.bool true) (f.getD 14 .top)) f 15 h ∧
 astep prog c (rg f59 2) 0 f h = pureS (some (.str [])) f 2 h ∧
 astep prog c (rg f59 2) 1 f h = pureS (some (.bool false)) f 3 h ∧
 astep prog c (rg f59 3) 0 f h = pureS (afieldAt prog 60 (f.getD 1 .top) 0) f 16 h ∧
 astep prog c (rg f59 3) 1 f h = pureS (ldV prog 58 (f.getD 16 .top) h) f 17 h ∧
 astep prog c (rg f59 3) 2 f h = pureS (aindexAt prog 58 (f.getD 17 .top) (.int .i64 0)) f 18 h ∧
 astep prog c (rg f59 3) 3 f h = pureS (afieldAt prog 78 (f.getD 18 .top) 1) f 19 h ∧
 astep prog c (rg f59 3) 4 f h = pureS (ldV prog 9 (f.getD 19 .top) h) f 20 h ∧
 astep prog c (rg f59 3) 5 f h = pureS (some (f.getD 20 .top)) f 2 h ∧
 astep prog c (rg f59 3) 6 f h = pureS (some (.bool true)) f 3 h := by
  repeat' apply And.intro
  all_goals kernel_rfl

end Go.Proofs.Ytgnacecplaemlaa
namespace Go.Proofs.Ytgnacecplaemlaa
open AI Try
set_option linter.unusedVariables false
/-! ### 25: conch/conchlaw32.Much -/
noncomputable def lp25_3 : Code := (.seq (.seq (.region 3 (rg f25 3) false) (.cond (.tmp 35) .skip (.exit 0))) (.seq (.block 1 (.region 5 (rg f25 5) true)) (.region 4 (rg f25 4) false)))
def C25_3 (x1 x3 x4 : AV) : List AV := [.top,x1,.top,x3,x4,.top,.top,.top,.top,.top,.top,.top,.top,.top,.top,.top,.top,.top,.top,.top,.top,.top,.top,.top,.top,.top,.top,.top,.top,.top,.top,.top,.top,.top,.top,.top,.top,.top,.top,.top,.top,.top,.top,.top,.top,.top,.top,.top,.top,.top,.top,.top,.top,.top,.top,.top,.top,.top,.top,.top,.top,.top,.top,.top,.top,.top,.top,.top,.top,.top,.top,.top,.top,.top,.top,.top,.top,.top,.top,.top,.top,.top,.top,.top,.top,.top,.top,.top,.top,.top,.top,.top,.top,.top,.top,.top]
theorem cl25_3 (x0 x1 x2 x3 x4 x5 x6 x7 x8 x9 x10 x11 x12 x13 x14 x15 x16 x17 x18 x19 x20 x21 x22 x23 x24 x25 x26 x27 x28 x29 x30 x31 x32 x33 x34 x35 x36 x37 x38 x39 x40 x41 x42 x43 x44 x45 x46 x47 x48 x49 x50 x51 x52 x53 x54 x55 x56 x57 x58 x59 x60 x61 x62 x63 x64 x65 x66 x67 x68 x69 x70 x71 x72 x73 x74 x75 x76 x77 x78 x79 x80 x81 x82 x83 x84 x85 x86 x87 x88 x89 x90 x91 x92 x93 x94 x95 : AV) : aclear (HK 25) lp25_3 [x0,x1,x2,x3,x4,x5,x6,x7,x8,x9,x10,x11,x12,x13,x14,x15,x16,x17,x18,x19,x20,x21,x22,x23,x24,x25,x26,x27,x28,x29,x30,x31,x32,x33,x34,x35,x36,x37,x38,x39,x40,x41,x42,x43,x44,x45,x46,x47,x48,x49,x50,x51,x52,x53,x54,x55,x56,x57,x58,x59,x60,x61,x62,x63,x64,x65,x66,x67,x68,x69,x70,x71,x72,x73,x74,x75,x76,x77,x78,x79,x80,x81,x82,x83,x84,x85,x86,x87,x88,x89,x90,x91,x92,x93,x94,x95] = C25_3 x1 x3 x4 := by kernel_rfl
noncomputable def lp25_7 : Code := (.seq (.seq (.region 7 (rg f25 7) false) (.cond (.tmp 74) .skip (.exit 2))) (.seq (.block 3 (.region 9 (rg f25 9) true)) (.region 8 (rg f25 8) false)))
def C25_7 (x1 x3 x5 : AV) : List AV := [.top,x1,.top,x3,.top,x5,.top,.top,.top,.top,.top,.top,.top,.top,.top,.top,.top,.top,.top,.top,.top,.top,.top,.top,.top,.top,.top,.top,.top,.top,.top,.top,.top,.top,.top,.top,.top,.top,.top,.top,.top,.top,.top,.top,.top,.top,.top,.top,.top,.top,.top,.top,.top,.top,.top,.top,.top,.top,.top,.top,.top,.top,.top,.top,.top,.top,.top,.top,.top,.top,.top,.top,.top,.top,.top,.top,.top,.top,.top,.top,.top,.top,.top,.top,.top,.top,.top,.top,.top,.top,.top,.top,.top,.top,.top,.top]
theorem cl25_7 (x0 x1 x2 x3 x4 x5 x6 x7 x8 x9 x10 x11 x12 x13 x14 x15 x16 x17 x18 x19 x20 x21 x22 x23 x24 x25 x26 x27 x28 x29 x30 x31 x32 x33 x34 x35 x36 x37 x38 x39 x40 x41 x42 x43 x44 x45 x46 x47 x48 x49 x50 x51 x52 x53 x54 x55 x56 x57 x58 x59 x60 x61 x62 x63 x64 x65 x66 x67 x68 x69 x70 x71 x72 x73 x74 x75 x76 x77 x78 x79 x80 x81 x82 x83 x84 x85 x86 x87 x88 x89 x90 x91 x92 x93 x94 x95 : AV) : aclear (HK 25) lp25_7 [x0,x1,x2,x3,x4,x5,x6,x7,x8,x9,x10,x11,x12,x13,x14,x15,x16,x17,x18,x19,x20,x21,x22,x23,x24,x25,x26,x27,x28,x29,x30,x31,x32,x33,x34,x35,x36,x37,x38,x39,x40,x41,x42,x43,x44,x45,x46,x47,x48,x49,x50,x51,x52,x53,x54,x55,x56,x57,x58,x59,x60,x61,x62,x63,x64,x65,x66,x67,x68,x69,x70,x71,x72,x73,x74,x75,x76,x77,x78,x79,x80,x81,x82,x83,x84,x85,x86,x87,x88,x89,x90,x91,x92,x93,x94,x95] = C25_7 x1 x3 x5 := by kernel_rfl
noncomputable def cd25 : Code := (.seq (.region 0 (rg f25 0) false) (.seq (.region 1 (rg f25 1) true) (.seq (.seq (.region 2 (rg f25 2) false) (.block 0 (.loop lp25_3))) (.seq (.seq (.region 6 (rg f25 6) false) (.block 2 (.loop lp25_7))) (.seq (.region 10 (rg f25 10) false) .ret)))))
theorem ent25 (n : Nat) (a0 : AV) (h : AH) : X (n + 1) (.func 25) [a0] h = nrm h (fin1 (arun prog (HK 25) 25 (X n) n none cd25 [a0,.tup [],.tup [],.tup [],.tup [],.tup [],.tup [],.tup [],.tup [],.tup [],.tup [],.tup [],.tup [],.tup [],.tup [],.tup [],.tup [],.tup [],.tup [],.tup [],.tup [],.tup [],.tup [],.tup [],.tup [],.tup [],.tup [],.tup [],.tup [],.tup [],.tup [],.tup [],.tup [],.tup [],.tup [],.tup [],.tup [],.tup [],.tup [],.tup [],.tup [],.tup [],.tup [],.tup [],.tup [],.tup [],.tup [],.tup [],.tup [],.tup [],.tup [],.tup [],.tup [],.tup [],.tup [],.tup [],.tup [],.tup [],.tup [],.tup [],.tup [],.tup [],.tup [],.tup [],.tup [],.tup [],.tup [],.tup [],.tup [],.tup [],.tup [],.tup [],.tup [],.tup [],.tup [],.tup [],.tup [],.tup [],.tup [],.tup [],.tup [],.tup [],.tup [],.tup [],.tup [],.tup [],.tup [],.tup [],.tup [],.tup [],.tup [],.tup [],.tup [],.tup [],.tup [],.tup []] h) 2) := by kernel_rfl
section
variable (K : Hint) (fid : FuncId) (call : ACall) (lf : Nat) (rd : Option Nat) (fr : List AV) (h : AH)
end
theorem R25 (K : Hint) (i : FuncId) (c : ACall) (n : Nat) (d : Option Nat) (f : List AV) (h : AH) :
 arun prog K i c n d (.region 0 (rg f25 0) false) f h = regR (aops prog c (rg f25 0) [0,1] f h) ∧
 arun prog K i c n d (.region 2 (rg f25 2) false) f h = regR (aops prog c (rg f25 2) [0] f h) ∧
 arun prog K i c n d (.region 3 (rg f25 3) false) f h = regR (aops prog c (rg f25 3) [0,1,2,3,4,5,6,7,8] f h) ∧
 arun prog K i c n d (.region 4 (rg f25 4) false) f h = regR (aops prog c (rg f25 4) [0,1,2] f h) ∧
 arun prog K i c n d (.region 6 (rg f25 6) false) f h = regR (aops prog c (rg f25 6) [0] f h) ∧
 arun prog K i c n d (.region 7 (rg f25 7) false) f h = regR (aops prog c (rg f25 7) [0,1,2,3,4,5,6,7,8] f h) ∧
 arun prog K i c n d (.region 8 (rg f25 8) false) f h = regR (aops prog c (rg f25 8) [0,1,2] f h) ∧
 arun prog K i c n d (.region 10 (rg f25 10) false) f h = regR (aops prog c (rg f25 10) [0,1] f h) := by
  repeat' apply And.intro
  all_goals kernel_rfl
theorem D25 (i : FuncId) (c : ACall) (n : Nat) (d : Option Nat) (f : List AV) (h : AH) :
 arun prog (HK 25) i c n d (.region 1 (rg f25 1) true) f h = regR (aopsS prog c (rg f25 1) [(0,false),(1,true),(2,true),(3,true),(4,true),(5,true),(6,true),(7,true),(8,true),(9,true),(10,true),(11,true),(12,true),(13,true),(14,true),(15,true),(16,true),(17,true),(18,true),(19,true),(20,false),(21,false)] f h) ∧
 arun prog (HK 25) i c n d (.region 5 (rg f25 5) true) f h = regR (aopsS prog c (rg f25 5) [(0,false),(1,false),(2,false),(3,true),(4,true),(5,true),(6,true),(7,true),(8,true),(9,true),(10,true),(11,true),(12,true),(13,true),(14,true),(15,true),(16,true),(17,true),(18,true),(19,true),(20,true),(21,true),(22,true),(23,true),(24,true),(25,true),(26,true),(27,false),(28,false)] f h) ∧
 arun prog (HK 25) i c n d (.region 9 (rg f25 9) true) f h = regR (aopsS prog c (rg f25 9) [(0,false),(1,false),(2,false),(3,false),(4,false),(5,false),(6,false),(7,false),(8,true),(9,true),(10,true),(11,true),(12,true),(13,true),(14,true),(15,false),(16,false),(17,false),(18,false)] f h) := by
  repeat' apply And.intro
  all_goals kernel_rfl
theorem S25 (c : ACall) (f : List AV) (h : AH) :
 astep prog c (rg f25 0) 0 f h = heapS (boxV (f.getD 0 .top) h) f 1 ∧
 astep prog c (rg f25 0) 1 f h = pureS (some (.int .i64 0)) f 2 h ∧
 astep prog c (rg f25 1) 0 f h = pureS (afieldAt prog 49 (f.getD 1 .top) 1) f 6 h ∧
 astep prog c (rg f25 1) 1 f h = pureS (ldV prog 9 (f.getD 6 .top) h) f 7 h ∧
 astep prog c (rg f25 1) 2 f h = pureS (lenV (alen prog 9 (f.getD 7 .top))) f 8 h ∧
 astep prog c (rg f25 1) 3 f h = pureS (abin prog .quo 3 (.tmp 8) (.const (.int .i64 10)) (f.getD 8 .top) (.int .i64 10)) f 9 h ∧
 astep prog c (rg f25 1) 4 f h = pureS (abin prog .add 3 (.const (.int .i64 1)) (.tmp 9) (.int .i64 1) (f.getD 9 .top)) f 10 h ∧
 astep prog c (rg f25 1) 5 f h = pureS (afieldAt prog 49 (f.getD 1 .top) 4) f 11 h ∧
 astep prog c (rg f25 1) 6 f h = pureS (ldV prog 43 (f.getD 11 .top) h) f 12 h ∧
 astep prog c (rg f25 1) 7 f h = pureS (lenV (alen prog 43 (f.getD 12 .top))) f 13 h ∧
 astep prog c (rg f25 1) 8 f h = pureS (abin prog .add 3 (.tmp 10) (.tmp 13) (f.getD 10 .top) (f.getD 13 .top)) f 14 h ∧
 astep prog c (rg f25 1) 9 f h = pureS (afieldAt prog 49 (f.getD 1 .top) 5) f 15 h ∧
 astep prog c (rg f25 1) 10 f h = pureS (ldV prog 44 (f.getD 15 .top) h) f 16 h ∧
 astep prog c (rg f25 1) 11 f h = heapS (callV c (.fn (.func 46) [] []) [(f.getD 16 .top)] h) f 17 ∧
 astep prog c (rg f25 1) 12 f h = pureS (abin prog .add 3 (.tmp 14) (.tmp 17) (f.getD 14 .top) (f.getD 17 .top)) f 18 h ∧
 astep prog c (rg f25 1) 13 f h = pureS (afieldAt prog 49 (f.getD 1 .top) 6) f 19 h ∧
 astep prog c (rg f25 1) 14 f h = pureS (ldV prog 44 (f.getD 19 .top) h) f 20 h ∧
 astep prog c (rg f25 1) 15 f h = heapS (callV c (.fn (.func 46) [] []) [(f.getD 20 .top)] h) f 21 ∧
 astep prog c (rg f25 1) 16 f h = pureS (abin prog .add 3 (.tmp 18) (.tmp 21) (f.getD 18 .top) (f.getD 21 .top)) f 22 h ∧
 astep prog c (rg f25 1) 17 f h = pureS (afieldAt prog 49 (f.getD 1 .top) 9) f 23 h ∧
 astep prog c (rg f25 1) 18 f h = pureS (ldV prog 47 (f.getD 23 .top) h) f 24 h ∧
 astep prog c (rg f25 1) 19 f h = heapS (callV c (.fn (.func 47) [] []) [(f.getD 24 .top)] h) f 25 ∧
 astep prog c (rg f25 1) 20 f h = pureS (abin prog .add 3 (.tmp 22) (.tmp 25) (f.getD 22 .top) (f.getD 25 .top)) f 26 h ∧
 astep prog c (rg f25 1) 21 f h = pureS (some (f.getD 26 .top)) f 3 h ∧
 astep prog c (rg f25 2) 0 f h = pureS (some (.int .i64 0)) f 4 h ∧
 astep prog c (rg f25 3) 0 f h = pureS (some (f.getD 4 .top)) f 27 h ∧
 astep prog c (rg f25 3) 1 f h = pureS (afieldAt prog 49 (f.getD 1 .top) 7) f 28 h ∧
 astep prog c (rg f25 3) 2 f h = pureS (ldV prog 45 (f.getD 28 .top) h) f 29 h ∧
 astep prog c (rg f25 3) 3 f h = pureS (lenV (alen prog 45 (f.getD 29 .top))) f 30 h ∧
 astep prog c (rg f25 3) 4 f h = pureS (abin prog .lss 3 (.tmp 27) (.tmp 30) (f.getD 27 .top) (f.getD 30 .top)) f 31 h ∧
 astep prog c (rg f25 3) 5 f h = pureS (some (f.getD 31 .top)) f 32 h ∧
 astep prog c (rg f25 3) 6 f h = gdS (f.getD 32 .top) true (some (f.set 33 (.tup []),h)) (pureS (some (f.getD 3 .top)) f 33 h) ∧
 astep prog c (rg f25 3) 7 f h = gdS (f.getD 32 .top) true (some (f.set 34 (.tup []),h)) (pureS (abin prog .leq 3 (.tmp 33) (.const (.int .i64 1000)) (f.getD 33 .top) (.int .i64 1000)) f 34 h) ∧
 astep prog c (rg f25 3) 8 f h = pureS (pickV (f.getD 32 .top) (f.getD 34 .top) (.bool false)) f 35 h ∧
 astep prog c (rg f25 5) 0 f h = pureS (some (f.getD 3 .top)) f 38 h ∧
 astep prog c (rg f25 5) 1 f h = pureS (abin prog .add 3 (.tmp 38) (.const (.int .i64 1)) (f.getD 38 .top) (.int .i64 1)) f 39 h ∧
 astep prog c (rg f25 5) 2 f h = pureS (afieldAt prog 49 (f.getD 1 .top) 7) f 40 h ∧
 astep prog c (rg f25 5) 3 f h = pureS (ldV prog 45 (f.getD 40 .top) h) f 41 h ∧
 astep prog c (rg f25 5) 4 f h = pureS (some (f.getD 4 .top)) f 42 h ∧
 astep prog c (rg f25 5) 5 f h = pureS (aindexAt prog 45 (f.getD 41 .top) (f.getD 42 .top)) f 43 h ∧
 astep prog c (rg f25 5) 6 f h = pureS (afieldAt prog 73 (f.getD 43 .top) 0) f 44 h ∧
 astep prog c (rg f25 5) 7 f h = pureS (ldV prog 9 (f.getD 44 .top) h) f 45 h ∧
 astep prog c (rg f25 5) 8 f h = pureS (lenV (alen prog 9 (f.getD 45 .top))) f 46 h ∧
 astep prog c (rg f25 5) 9 f h = pureS (abin prog .quo 3 (.tmp 46) (.const (.int .i64 10)) (f.getD 46 .top) (.int .i64 10)) f 47 h ∧
 astep prog c (rg f25 5) 10 f h = pureS (abin prog .add 3 (.tmp 39) (.tmp 47) (f.getD 39 .top) (f.getD 47 .top)) f 48 h ∧
 astep prog c (rg f25 5) 11 f h = pureS (afieldAt prog 49 (f.getD 1 .top) 7) f 49 h ∧
 astep prog c (rg f25 5) 12 f h = pureS (ldV prog 45 (f.getD 49 .top) h) f 50 h ∧
 astep prog c (rg f25 5) 13 f h = pureS (some (f.getD 4 .top)) f 51 h ∧
 astep prog c (rg f25 5) 14 f h = pureS (aindexAt prog 45 (f.getD 50 .top) (f.getD 51 .top)) f 52 h ∧
 astep prog c (rg f25 5) 15 f h = pureS (afieldAt prog 73 (f.getD 52 .top) 3) f 53 h ∧
 astep prog c (rg f25 5) 16 f h = pureS (ldV prog 9 (f.getD 53 .top) h) f 54 h ∧
 astep prog c (rg f25 5) 17 f h = pureS (lenV (alen prog 9 (f.getD 54 .top))) f 55 h ∧
 astep prog c (rg f25 5) 18 f h = pureS (abin prog .quo 3 (.tmp 55) (.const (.int .i64 10)) (f.getD 55 .top) (.int .i64 10)) f 56 h ∧
 astep prog c (rg f25 5) 19 f h = pureS (abin prog .add 3 (.tmp 48) (.tmp 56) (f.getD 48 .top) (f.getD 56 .top)) f 57 h ∧
 astep prog c (rg f25 5) 20 f h = pureS (afieldAt prog 49 (f.getD 1 .top) 7) f 58 h ∧
 astep prog c (rg f25 5) 21 f h = pureS (ldV prog 45 (f.getD 58 .top) h) f 59 h ∧
 astep prog c (rg f25 5) 22 f h = pureS (some (f.getD 4 .top)) f 60 h ∧
 astep prog c (rg f25 5) 23 f h = pureS (aindexAt prog 45 (f.getD 59 .top) (f.getD 60 .top)) f 61 h ∧
 astep prog c (rg f25 5) 24 f h = pureS (afieldAt prog 73 (f.getD 61 .top) 2) f 62 h ∧
 astep prog c (rg f25 5) 25 f h = pureS (ldV prog 60 (f.getD 62 .top) h) f 63 h ∧
 astep prog c (rg f25 5) 26 f h = heapS (callV c (.fn (.func 48) [] []) [(f.getD 63 .top)] h) f 64 ∧
 astep prog c (rg f25 5) 27 f h = pureS (abin prog .add 3 (.tmp 57) (.tmp 64) (f.getD 57 .top) (f.getD 64 .top)) f 65 h ∧
 astep prog c (rg f25 5) 28 f h = pureS (some (f.getD 65 .top)) f 3 h ∧
 astep prog c (rg f25 4) 0 f h = pureS (some (f.getD 4 .top)) f 36 h ∧
 astep prog c (rg f25 4) 1 f h = pureS (abin prog .add 3 (.tmp 36) (.const (.int .i64 1)) (f.getD 36 .top) (.int .i64 1)) f 37 h ∧
 astep prog c (rg f25 4) 2 f h = pureS (some (f.getD 37 .top)) f 4 h ∧
 astep prog c (rg f25 6) 0 f h = pureS (some (.int .i64 0)) f 5 h ∧
 astep prog c (rg f25 7) 0 f h = pureS (some (f.getD 5 .top)) f 66 h ∧
 astep prog c (rg f25 7) 1 f h = pureS (afieldAt prog 49 (f.getD 1 .top) 8) f 67 h ∧
 astep prog c (rg f25 7) 2 f h = pureS (ldV prog 46 (f.getD 67 .top) h) f 68 h ∧
 astep prog c (rg f25 7) 3 f h = pureS (lenV (alen prog 46 (f.getD 68 .top))) f 69 h ∧
 astep prog c (rg f25 7) 4 f h = pureS (abin prog .lss 3 (.tmp 66) (.tmp 69) (f.getD 66 .top) (f.getD 69 .top)) f 70 h ∧
 astep prog c (rg f25 7) 5 f h = pureS (some (f.getD 70 .top)) f 71 h ∧
 astep prog c (rg f25 7) 6 f h = gdS (f.getD 71 .top) true (some (f.set 72 (.tup []),h)) (pureS (some (f.getD 3 .top)) f 72 h) ∧
 astep prog c (rg f25 7) 7 f h = gdS (f.getD 71 .top) true (some (f.set 73 (.tup []),h)) (pureS (abin prog .leq 3 (.tmp 72) (.const (.int .i64 1000)) (f.getD 72 .top) (.int .i64 1000)) f 73 h) ∧
 astep prog c (rg f25 7) 8 f h = pureS (pickV (f.getD 71 .top) (f.getD 73 .top) (.bool false)) f 74 h ∧
 astep prog c (rg f25 9) 0 f h = pureS (some (f.getD 3 .top)) f 77 h ∧
 astep prog c (rg f25 9) 1 f h = pureS (abin prog .add 3 (.tmp 77) (.const (.int .i64 1)) (f.getD 77 .top) (.int .i64 1)) f 78 h ∧
 astep prog c (rg f25 9) 2 f h = pureS (afieldAt prog 49 (f.getD 1 .top) 8) f 79 h ∧
 astep prog c (rg f25 9) 3 f h = pureS (ldV prog 46 (f.getD 79 .top) h) f 80 h ∧
 astep prog c (rg f25 9) 4 f h = pureS (some (f.getD 5 .top)) f 81 h ∧
 astep prog c (rg f25 9) 5 f h = pureS (aindexAt prog 46 (f.getD 80 .top) (f.getD 81 .top)) f 82 h ∧
 astep prog c (rg f25 9) 6 f h = pureS (afieldAt prog 76 (f.getD 82 .top) 0) f 83 h ∧
 astep prog c (rg f25 9) 7 f h = pureS (ldV prog 44 (f.getD 83 .top) h) f 84 h ∧
 astep prog c (rg f25 9) 8 f h = heapS (callV c (.fn (.func 46) [] []) [(f.getD 84 .top)] h) f 85 ∧
 astep prog c (rg f25 9) 9 f h = pureS (abin prog .add 3 (.tmp 78) (.tmp 85) (f.getD 78 .top) (f.getD 85 .top)) f 86 h ∧
 astep prog c (rg f25 9) 10 f h = pureS (afieldAt prog 49 (f.getD 1 .top) 8) f 87 h ∧
 astep prog c (rg f25 9) 11 f h = pureS (ldV prog 46 (f.getD 87 .top) h) f 88 h ∧
 astep prog c (rg f25 9) 12 f h = pureS (some (f.getD 5 .top)) f 89 h ∧
 astep prog c (rg f25 9) 13 f h = pureS (aindexAt prog 46 (f.getD 88 .top) (f.getD 89 .top)) f 90 h ∧
 astep prog c (rg f25 9) 14 f h = pureS (afieldAt prog 76 (f.getD 90 .top) 1) f 91 h ∧
 astep prog c (rg f25 9) 15 f h = pureS (ldV prog 49 (f.getD 91 .top) h) f 92 h ∧
 astep prog c (rg f25 9) 16 f h = heapS (callV c (.fn (.func 25) [] []) [(f.getD 92 .top)] h) f 93 ∧
 astep prog c (rg f25 9) 17 f h = pureS (abin prog .add 3 (.tmp 86) (.tmp 93) (f.getD 86 .top) (f.getD 93 .top)) f 94 h ∧
 astep prog c (rg f25 9) 18 f h = pureS (some (f.getD 94 .top)) f 3 h ∧
 astep prog c (rg f25 8) 0 f h = pureS (some (f.getD 5 .top)) f 75 h ∧
 astep prog c (rg f25 8) 1 f h = pureS (abin prog .add 3 (.tmp 75) (.const (.int .i64 1)) (f.getD 75 .top) (.int .i64 1)) f 76 h ∧
 astep prog c (rg f25 8) 2 f h = pureS (some (f.getD 76 .top)) f 5 h ∧
 astep prog c (rg f25 10) 0 f h = pureS (some (f.getD 3 .top)) f 95 h ∧
 astep prog c (rg f25 10) 1 f h = pureS (some (f.getD 95 .top)) f 2 h := by
  repeat' apply And.intro
  all_goals kernel_rfl

end Go.Proofs.Ytgnacecplaemlaa
namespace Go.Proofs.Ytgnacecplaemlaa
open AI Try
set_option linter.unusedVariables false
/-! ### 28: conch/conchlaw42.nodes -/
noncomputable def cd28 : Code := (.seq (.region 0 (rg f28 0) false) (.seq (.region 1 (rg f28 1) false) (.seq (.seq (.region 2 (rg f28 2) false) (.cond (.tmp 8) (.seq (.region 3 (rg f28 3) false) .ret) .skip)) (.seq (.region 4 (rg f28 4) false) (.seq (.seq (.region 5 (rg f28 5) false) (.cond (.tmp 12) (.seq (.region 6 (rg f28 6) false) .ret) .skip)) (.seq (.region 7 (rg f28 7) false) (.seq (.region 8 (rg f28 8) false) .ret)))))))
theorem ent28 (n : Nat) (a0 a1 : AV) (h : AH) : X (n + 1) (.func 28) [a0,a1] h = nrm h (fin1 (arun prog (HK 28) 28 (X n) n none cd28 [a0,a1,.tup [],.tup [],.tup [],.tup [],.tup [],.tup [],.tup [],.tup [],.tup [],.tup [],.tup [],.tup [],.tup [],.tup [],.tup []] h) 4) := by kernel_rfl
section
variable (K : Hint) (fid : FuncId) (call : ACall) (lf : Nat) (rd : Option Nat) (fr : List AV) (h : AH)
end
theorem R28 (K : Hint) (i : FuncId) (c : ACall) (n : Nat) (d : Option Nat) (f : List AV) (h : AH) :
 arun prog K i c n d (.region 0 (rg f28 0) false) f h = regR (aops prog c (rg f28 0) [0,1,2] f h) ∧
 arun prog K i c n d (.region 1 (rg f28 1) false) f h = regR (aops prog c (rg f28 1) [0] f h) ∧
 arun prog K i c n d (.region 2 (rg f28 2) false) f h = regR (aops prog c (rg f28 2) [0,1] f h) ∧
 arun prog K i c n d (.region 3 (rg f28 3) false) f h = regR (aops prog c (rg f28 3) [0] f h) ∧
 arun prog K i c n d (.region 4 (rg f28 4) false) f h = regR (aops prog c (rg f28 4) [0,1,2] f h) ∧
 arun prog K i c n d (.region 5 (rg f28 5) false) f h = regR (aops prog c (rg f28 5) [0,1] f h) ∧
 arun prog K i c n d (.region 6 (rg f28 6) false) f h = regR (aops prog c (rg f28 6) [0] f h) ∧
 arun prog K i c n d (.region 7 (rg f28 7) false) f h = regR (aops prog c (rg f28 7) [0,1,2] f h) ∧
 arun prog K i c n d (.region 8 (rg f28 8) false) f h = regR (aops prog c (rg f28 8) [0,1] f h) := by
  repeat' apply And.intro
  all_goals kernel_rfl
theorem S28 (c : ACall) (f : List AV) (h : AH) :
 astep prog c (rg f28 0) 0 f h = heapS (boxV (f.getD 0 .top) h) f 2 ∧
 astep prog c (rg f28 0) 1 f h = heapS (boxV (f.getD 1 .top) h) f 3 ∧
 astep prog c (rg f28 0) 2 f h = pureS (some (.nilSl)) f 4 h ∧
 astep prog c (rg f28 1) 0 f h = heapS (newV prog 47 h) f 5 ∧
 astep prog c (rg f28 2) 0 f h = pureS (ldV prog 3 (f.getD 3 .top) h) f 7 h ∧
 astep prog c (rg f28 2) 1 f h = pureS (abin prog .leq 3 (.tmp 7) (.const (.int .i64 0)) (f.getD 7 .top) (.int .i64 0)) f 8 h ∧
 astep prog c (rg f28 3) 0 f h = pureS (some (.nilSl)) f 4 h ∧
 astep prog c (rg f28 4) 0 f h = pureS (ldV prog 49 (f.getD 2 .top) h) f 9 h ∧
 astep prog c (rg f28 4) 1 f h = heapS (callV c (.fn (.func 51) [] []) [(f.getD 9 .top)] h) f 10 ∧
 astep prog c (rg f28 4) 2 f h = pureS (some (f.getD 10 .top)) f 6 h ∧
 astep prog c (rg f28 5) 0 f h = pureS (some (f.getD 6 .top)) f 11 h ∧
 astep prog c (rg f28 5) 1 f h = pureS (abin prog .eql 80 (.tmp 11) (.const .nilFunc) (f.getD 11 .top) (.nilFn)) f 12 h ∧
 astep prog c (rg f28 6) 0 f h = pureS (some (.nilSl)) f 4 h ∧
 astep prog c (rg f28 7) 0 f h = pureS (some (f.getD 6 .top)) f 13 h ∧
 astep prog c (rg f28 7) 1 f h = pureS (some (.fn (.func 52) [] [(f.getD 5 .top),(f.getD 3 .top)])) f 14 h ∧
 astep prog c (rg f28 7) 2 f h = heapS (callV c (f.getD 13 .top) [(f.getD 14 .top)] h) f 15 ∧
 astep prog c (rg f28 8) 0 f h = pureS (ldV prog 47 (f.getD 5 .top) h) f 16 h ∧
 astep prog c (rg f28 8) 1 f h = pureS (some (f.getD 16 .top)) f 4 h := by
  repeat' apply And.intro
  all_goals kernel_rfl

end Go.Proofs.Ytgnacecplaemlaa
namespace Go.Proofs.Ytgnacecplaemlaa
open AI Try
set_option linter.unusedVariables false
/-! ### 29: conch/walk.Deep -/
noncomputable def ra29_3 : Code := (.region 3 (rg f29 3) false)
noncomputable def rb29_4 : Code := (.block 1 (.region 4 (rg f29 4) true))
noncomputable def cd29 : Code := (.seq (.region 0 (rg f29 0) false) (.seq (.region 1 (rg f29 1) false) (.seq (.seq (.region 2 (rg f29 2) false) (.block 0 (.rangeFunc (.tmp 6) #[7] ra29_3 rb29_4))) (.seq (.region 5 (rg f29 5) false) .ret))))
theorem ent29 (n : Nat) (a0 : AV) (h : AH) : X (n + 1) (.func 29) [a0] h = nrm h (fin1 (arun prog (HK 29) 29 (X n) n none cd29 [a0,.tup [],.tup [],.tup [],.tup [],.tup [],.tup [],.tup [],.tup [],.tup [],.tup [],.tup [],.tup [],.tup []] h) 2) := by kernel_rfl
section
variable (K : Hint) (fid : FuncId) (call : ACall) (lf : Nat) (rd : Option Nat) (fr : List AV) (h : AH)
end
theorem R29 (K : Hint) (i : FuncId) (c : ACall) (n : Nat) (d : Option Nat) (f : List AV) (h : AH) :
 arun prog K i c n d (.region 0 (rg f29 0) false) f h = regR (aops prog c (rg f29 0) [0,1] f h) ∧
 arun prog K i c n d (.region 1 (rg f29 1) false) f h = regR (aops prog c (rg f29 1) [0,1] f h) ∧
 arun prog K i c n d (.region 2 (rg f29 2) false) f h = regR (aops prog c (rg f29 2) [0,1] f h) ∧
 arun prog K i c n d (.region 3 (rg f29 3) false) f h = regR (aops prog c (rg f29 3) [0,1] f h) ∧
 arun prog K i c n d (.region 5 (rg f29 5) false) f h = regR (aops prog c (rg f29 5) [0,1,2] f h) := by
  repeat' apply And.intro
  all_goals kernel_rfl
theorem D29 (i : FuncId) (c : ACall) (n : Nat) (d : Option Nat) (f : List AV) (h : AH) :
 arun prog (HK 29) i c n d (.region 4 (rg f29 4) true) f h = regR (aopsS prog c (rg f29 4) [(0,true),(1,true),(2,true),(3,false),(4,false)] f h) := by
  repeat' apply And.intro
  all_goals kernel_rfl
theorem S29 (c : ACall) (f : List AV) (h : AH) :
 astep prog c (rg f29 0) 0 f h = heapS (boxV (f.getD 0 .top) h) f 1 ∧
 astep prog c (rg f29 0) 1 f h = pureS (some (.int .i64 0)) f 2 h ∧
 astep prog c (rg f29 1) 0 f h = heapS (newV prog 3 h) f 3 ∧
 astep prog c (rg f29 1) 1 f h = heapN (stV prog 3 (f.getD 3 .top) (.int .i64 0) h) f ∧
 astep prog c (rg f29 2) 0 f h = pureS (ldV prog 49 (f.getD 1 .top) h) f 5 h ∧
 astep prog c (rg f29 2) 1 f h = heapS (callV c (.fn (.func 53) [] []) [(f.getD 5 .top)] h) f 6 ∧
 astep prog c (rg f29 3) 0 f h = heapS (newV prog 49 h) f 4 ∧
 astep prog c (rg f29 3) 1 f h = heapN (stV prog 49 (f.getD 4 .top) (f.getD 7 .top) h) f ∧
 astep prog c (rg f29 4) 0 f h = pureS (ldV prog 3 (f.getD 3 .top) h) f 8 h ∧
 astep prog c (rg f29 4) 1 f h = pureS (ldV prog 49 (f.getD 4 .top) h) f 9 h ∧
 astep prog c (rg f29 4) 2 f h = heapS (callV c (.fn (.func 29) [] []) [(f.getD 9 .top)] h) f 10 ∧
 astep prog c (rg f29 4) 3 f h = pureS (maxV [(f.getD 8 .top),(f.getD 10 .top)]) f 11 h ∧
 astep prog c (rg f29 4) 4 f h = heapN (stV prog 3 (f.getD 3 .top) (f.getD 11 .top) h) f ∧
 astep prog c (rg f29 5) 0 f h = pureS (ldV prog 3 (f.getD 3 .top) h) f 12 h ∧
 astep prog c (rg f29 5) 1 f h = pureS (abin prog .add 3 (.tmp 12) (.const (.int .i64 1)) (f.getD 12 .top) (.int .i64 1)) f 13 h ∧
 astep prog c (rg f29 5) 2 f h = pureS (some (f.getD 13 .top)) f 2 h := by
  repeat' apply And.intro
  all_goals kernel_rfl

end Go.Proofs.Ytgnacecplaemlaa
namespace Go.Proofs.Ytgnacecplaemlaa
open AI Try
set_option linter.unusedVariables false
/-! ### 30: conch/walk.Calls -/
noncomputable def ra30_3 : Code := (.region 3 (rg f30 3) false)
noncomputable def rb30_4 : Code := (.block 1 (.seq (.seq (.region 4 (rg f30 4) false) (.cond (.tmp 18) (.exit 1) .skip)) (.seq (.region 5 (rg f30 5) false) (.seq (.region 6 (rg f30 6) false) (.cond (.tmp 27) (.region 7 (rg f30 7) false) .skip)))))
noncomputable def cd30 : Code := (.seq (.region 0 (rg f30 0) false) (.seq (.region 1 (rg f30 1) false) (.seq (.seq (.region 2 (rg f30 2) false) (.block 0 (.rangeFunc (.tmp 8) #[9] ra30_3 rb30_4))) (.seq (.region 8 (rg f30 8) false) .ret))))
theorem ent30 (n : Nat) (a0 : AV) (h : AH) : X (n + 1) (.func 30) [a0] h = nrm h (fin1 (arun prog (HK 30) 30 (X n) n none cd30 [a0,.tup [],.tup [],.tup [],.tup [],.tup [],.tup [],.tup [],.tup [],.tup [],.tup [],.tup [],.tup [],.tup [],.tup [],.tup [],.tup [],.tup [],.tup [],.tup [],.tup [],.tup [],.tup [],.tup [],.tup [],.tup [],.tup [],.tup [],.tup [],.tup [],.tup [],.tup [],.tup []] h) 2) := by kernel_rfl
section
variable (K : Hint) (fid : FuncId) (call : ACall) (lf : Nat) (rd : Option Nat) (fr : List AV) (h : AH)
end
theorem R30 (K : Hint) (i : FuncId) (c : ACall) (n : Nat) (d : Option Nat) (f : List AV) (h : AH) :
 arun prog K i c n d (.region 0 (rg f30 0) false) f h = regR (aops prog c (rg f30 0) [0,1] f h) ∧
 arun prog K i c n d (.region 1 (rg f30 1) false) f h = regR (aops prog c (rg f30 1) [0] f h) ∧
 arun prog K i c n d (.region 2 (rg f30 2) false) f h = regR (aops prog c (rg f30 2) [0,1] f h) ∧
 arun prog K i c n d (.region 3 (rg f30 3) false) f h = regR (aops prog c (rg f30 3) [0,1] f h) ∧
 arun prog K i c n d (.region 4 (rg f30 4) false) f h = regR (aops prog c (rg f30 4) [0,1,2,3,4,5,6,7,8] f h) ∧
 arun prog K i c n d (.region 5 (rg f30 5) false) f h = regR (aops prog c (rg f30 5) [0,1,2,3,4,5,6,7,8,9] f h) ∧
 arun prog K i c n d (.region 6 (rg f30 6) false) f h = regR (aops prog c (rg f30 6) [0] f h) ∧
 arun prog K i c n d (.region 7 (rg f30 7) false) f h = regR (aops prog c (rg f30 7) [0,1,2,3,4] f h) ∧
 arun prog K i c n d (.region 8 (rg f30 8) false) f h = regR (aops prog c (rg f30 8) [0,1] f h) := by
  repeat' apply And.intro
  all_goals kernel_rfl
theorem S30 (c : ACall) (f : List AV) (h : AH) :
 astep prog c (rg f30 0) 0 f h = heapS (boxV (f.getD 0 .top) h) f 1 ∧
 astep prog c (rg f30 0) 1 f h = pureS (some (.nilSl)) f 2 h ∧
 astep prog c (rg f30 1) 0 f h = heapS (newV prog 40 h) f 3 ∧
 astep prog c (rg f30 2) 0 f h = pureS (ldV prog 49 (f.getD 1 .top) h) f 7 h ∧
 astep prog c (rg f30 2) 1 f h = heapS (callV c (.fn (.func 51) [] []) [(f.getD 7 .top)] h) f 8 ∧
 astep prog c (rg f30 3) 0 f h = heapS (newV prog 49 h) f 4 ∧
 astep prog c (rg f30 3) 1 f h = heapN (stV prog 49 (f.getD 4 .top) (f.getD 9 .top) h) f ∧
 astep prog c (rg f30 4) 0 f h = pureS (afieldAt prog 49 (f.getD 4 .top) 0) f 10 h ∧
 astep prog c (rg f30 4) 1 f h = pureS (ldV prog 3 (f.getD 10 .top) h) f 11 h ∧
 astep prog c (rg f30 4) 2 f h = pureS (abin prog .neq 3 (.tmp 11) (.const (.int .i64 4)) (f.getD 11 .top) (.int .i64 4)) f 12 h ∧
 astep prog c (rg f30 4) 3 f h = pureS (some (f.getD 12 .top)) f 13 h ∧
 astep prog c (rg f30 4) 4 f h = gdS (f.getD 13 .top) false (some (f.set 14 (.tup []),h)) (pureS (afieldAt prog 49 (f.getD 4 .top) 6) f 14 h) ∧
 astep prog c (rg f30 4) 5 f h = gdS (f.getD 13 .top) false (some (f.set 15 (.tup []),h)) (pureS (ldV prog 44 (f.getD 14 .top) h) f 15 h) ∧
 astep prog c (rg f30 4) 6 f h = gdS (f.getD 13 .top) false (some (f.set 16 (.tup []),h)) (pureS (lenV (alen prog 44 (f.getD 15 .top))) f 16 h) ∧
 astep prog c (rg f30 4) 7 f h = gdS (f.getD 13 .top) false (some (f.set 17 (.tup []),h)) (pureS (abin prog .eql 3 (.tmp 16) (.const (.int .i64 0)) (f.getD 16 .top) (.int .i64 0)) f 17 h) ∧
 astep prog c (rg f30 4) 8 f h = pureS (pickV (f.getD 13 .top) (.bool true) (f.getD 17 .top)) f 18 h ∧
 astep prog c (rg f30 5) 0 f h = pureS (afieldAt prog 49 (f.getD 4 .top) 6) f 20 h ∧
 astep prog c (rg f30 5) 1 f h = pureS (ldV prog 44 (f.getD 20 .top) h) f 21 h ∧
 astep prog c (rg f30 5) 2 f h = pureS (aindexAt prog 44 (f.getD 21 .top) (.int .i64 0)) f 22 h ∧
 astep prog c (rg f30 5) 3 f h = pureS (ldV prog 60 (f.getD 22 .top) h) f 23 h ∧
 astep prog c (rg f30 5) 4 f h = heapS (callV c (.fn (.func 54) [] []) [(f.getD 23 .top)] h) f 24 ∧
 astep prog c (rg f30 5) 5 f h = pureS (some (f.getD 24 .top)) f 19 h ∧
 astep prog c (rg f30 5) 6 f h = pureS (extV (f.getD 19 .top) 0) f 25 h ∧
 astep prog c (rg f30 5) 7 f h = pureS (extV (f.getD 19 .top) 1) f 26 h ∧
 astep prog c (rg f30 5) 8 f h = pureS (some (f.getD 25 .top)) f 5 h ∧
 astep prog c (rg f30 5) 9 f h = pureS (some (f.getD 26 .top)) f 6 h ∧
 astep prog c (rg f30 6) 0 f h = pureS (some (f.getD 6 .top)) f 27 h ∧
 astep prog c (rg f30 7) 0 f h = pureS (ldV prog 40 (f.getD 3 .top) h) f 28 h ∧
 astep prog c (rg f30 7) 1 f h = pureS (some (f.getD 5 .top)) f 29 h ∧
 astep prog c (rg f30 7) 2 f h = heapS (bslV prog 40 1 [(0,(f.getD 29 .top))] h) f 30 ∧
 astep prog c (rg f30 7) 3 f h = heapS (aappend prog 40 40 (f.getD 28 .top) (f.getD 30 .top) h) f 31 ∧
 astep prog c (rg f30 7) 4 f h = heapN (stV prog 40 (f.getD 3 .top) (f.getD 31 .top) h) f ∧
 astep prog c (rg f30 8) 0 f h = pureS (ldV prog 40 (f.getD 3 .top) h) f 32 h ∧
 astep prog c (rg f30 8) 1 f h = pureS (some (f.getD 32 .top)) f 2 h := by
  repeat' apply And.intro
  all_goals kernel_rfl

end Go.Proofs.Ytgnacecplaemlaa
namespace Go.Proofs.Ytgnacecplaemlaa
open AI Try
set_option linter.unusedVariables false
/-! ### 46: conch/conchlaw32.words -/
noncomputable def lp46_3 : Code := (.seq (.seq (.region 3 (rg f46 3) false) (.cond (.tmp 14) .skip (.exit 0))) (.seq (.block 1 (.region 5 (rg f46 5) false)) (.region 4 (rg f46 4) false)))
def C46_3 (x0 x3 x4 : AV) : List AV := [x0,.top,.top,x3,x4,.top,.top,.top,.top,.top,.top,.top,.top,.top,.top,.top,.top,.top,.top,.top,.top,.top,.top,.top,.top]
theorem cl46_3 (x0 x1 x2 x3 x4 x5 x6 x7 x8 x9 x10 x11 x12 x13 x14 x15 x16 x17 x18 x19 x20 x21 x22 x23 x24 : AV) : aclear (HK 46) lp46_3 [x0,x1,x2,x3,x4,x5,x6,x7,x8,x9,x10,x11,x12,x13,x14,x15,x16,x17,x18,x19,x20,x21,x22,x23,x24] = C46_3 x0 x3 x4 := by kernel_rfl
noncomputable def cd46 : Code := (.seq (.region 0 (rg f46 0) false) (.seq (.region 1 (rg f46 1) false) (.seq (.seq (.region 2 (rg f46 2) false) (.block 0 (.loop lp46_3))) (.seq (.region 6 (rg f46 6) false) .ret))))
theorem ent46 (n : Nat) (a0 : AV) (h : AH) : X (n + 1) (.func 46) [a0] h = nrm h (fin1 (arun prog (HK 46) 46 (X n) n none cd46 [a0,.tup [],.tup [],.tup [],.tup [],.tup [],.tup [],.tup [],.tup [],.tup [],.tup [],.tup [],.tup [],.tup [],.tup [],.tup [],.tup [],.tup [],.tup [],.tup [],.tup [],.tup [],.tup [],.tup [],.tup []] h) 2) := by kernel_rfl
section
variable (K : Hint) (fid : FuncId) (call : ACall) (lf : Nat) (rd : Option Nat) (fr : List AV) (h : AH)
end
theorem R46 (K : Hint) (i : FuncId) (c : ACall) (n : Nat) (d : Option Nat) (f : List AV) (h : AH) :
 arun prog K i c n d (.region 0 (rg f46 0) false) f h = regR (aops prog c (rg f46 0) [0] f h) ∧
 arun prog K i c n d (.region 1 (rg f46 1) false) f h = regR (aops prog c (rg f46 1) [0,1,2] f h) ∧
 arun prog K i c n d (.region 2 (rg f46 2) false) f h = regR (aops prog c (rg f46 2) [0] f h) ∧
 arun prog K i c n d (.region 3 (rg f46 3) false) f h = regR (aops prog c (rg f46 3) [0,1,2,3,4,5,6,7] f h) ∧
 arun prog K i c n d (.region 5 (rg f46 5) false) f h = regR (aops prog c (rg f46 5) [0,1,2,3,4,5,6,7] f h) ∧
 arun prog K i c n d (.region 4 (rg f46 4) false) f h = regR (aops prog c (rg f46 4) [0,1,2] f h) ∧
 arun prog K i c n d (.region 6 (rg f46 6) false) f h = regR (aops prog c (rg f46 6) [0,1] f h) := by
  repeat' apply And.intro
  all_goals kernel_rfl
theorem S46 (c : ACall) (f : List AV) (h : AH) :
 astep prog c (rg f46 0) 0 f h = pureS (some (.int .i64 0)) f 2 h ∧
 astep prog c (rg f46 1) 0 f h = pureS (some (f.getD 0 .top)) f 5 h ∧
 astep prog c (rg f46 1) 1 f h = pureS (lenV (alen prog 44 (f.getD 5 .top))) f 6 h ∧
 astep prog c (rg f46 1) 2 f h = pureS (some (f.getD 6 .top)) f 3 h ∧
 astep prog c (rg f46 2) 0 f h = pureS (some (.int .i64 0)) f 4 h ∧
 astep prog c (rg f46 3) 0 f h = pureS (some (f.getD 4 .top)) f 7 h ∧
 astep prog c (rg f46 3) 1 f h = pureS (some (f.getD 0 .top)) f 8 h ∧
 astep prog c (rg f46 3) 2 f h = pureS (lenV (alen prog 44 (f.getD 8 .top))) f 9 h ∧
 astep prog c (rg f46 3) 3 f h = pureS (abin prog .lss 3 (.tmp 7) (.tmp 9) (f.getD 7 .top) (f.getD 9 .top)) f 10 h ∧
 astep prog c (rg f46 3) 4 f h = pureS (some (f.getD 10 .top)) f 11 h ∧
 astep prog c (rg f46 3) 5 f h = gdS (f.getD 11 .top) true (some (f.set 12 (.tup []),h)) (pureS (some (f.getD 3 .top)) f 12 h) ∧
 astep prog c (rg f46 3) 6 f h = gdS (f.getD 11 .top) true (some (f.set 13 (.tup []),h)) (pureS (abin prog .leq 3 (.tmp 12) (.const (.int .i64 1000)) (f.getD 12 .top) (.int .i64 1000)) f 13 h) ∧
 astep prog c (rg f46 3) 7 f h = pureS (pickV (f.getD 11 .top) (f.getD 13 .top) (.bool false)) f 14 h ∧
 astep prog c (rg f46 5) 0 f h = pureS (some (f.getD 3 .top)) f 17 h ∧
 astep prog c (rg f46 5) 1 f h = pureS (some (f.getD 0 .top)) f 18 h ∧
 astep prog c (rg f46 5) 2 f h = pureS (some (f.getD 4 .top)) f 19 h ∧
 astep prog c (rg f46 5) 3 f h = pureS (aindexAt prog 44 (f.getD 18 .top) (f.getD 19 .top)) f 20 h ∧
 astep prog c (rg f46 5) 4 f h = pureS (ldV prog 60 (f.getD 20 .top) h) f 21 h ∧
 astep prog c (rg f46 5) 5 f h = heapS (callV c (.fn (.func 48) [] []) [(f.getD 21 .top)] h) f 22 ∧
 astep prog c (rg f46 5) 6 f h = pureS (abin prog .add 3 (.tmp 17) (.tmp 22) (f.getD 17 .top) (f.getD 22 .top)) f 23 h ∧
 astep prog c (rg f46 5) 7 f h = pureS (some (f.getD 23 .top)) f 3 h ∧
 astep prog c (rg f46 4) 0 f h = pureS (some (f.getD 4 .top)) f 15 h ∧
 astep prog c (rg f46 4) 1 f h = pureS (abin prog .add 3 (.tmp 15) (.const (.int .i64 1)) (f.getD 15 .top) (.int .i64 1)) f 16 h ∧
 astep prog c (rg f46 4) 2 f h = pureS (some (f.getD 16 .top)) f 4 h ∧
 astep prog c (rg f46 6) 0 f h = pureS (some (f.getD 3 .top)) f 24 h ∧
 astep prog c (rg f46 6) 1 f h = pureS (some (f.getD 24 .top)) f 2 h := by
  repeat' apply And.intro
  all_goals kernel_rfl

end Go.Proofs.Ytgnacecplaemlaa
namespace Go.Proofs.Ytgnacecplaemlaa
open AI Try
set_option linter.unusedVariables false
/-! ### 47: conch/conchlaw32.MuchAll -/
noncomputable def lp47_3 : Code := (.seq (.seq (.region 3 (rg f47 3) false) (.cond (.tmp 14) .skip (.exit 0))) (.seq (.block 1 (.region 5 (rg f47 5) false)) (.region 4 (rg f47 4) false)))
def C47_3 (x0 x3 x4 : AV) : List AV := [x0,.top,.top,x3,x4,.top,.top,.top,.top,.top,.top,.top,.top,.top,.top,.top,.top,.top,.top,.top,.top,.top,.top,.top,.top]
theorem cl47_3 (x0 x1 x2 x3 x4 x5 x6 x7 x8 x9 x10 x11 x12 x13 x14 x15 x16 x17 x18 x19 x20 x21 x22 x23 x24 : AV) : aclear (HK 47) lp47_3 [x0,x1,x2,x3,x4,x5,x6,x7,x8,x9,x10,x11,x12,x13,x14,x15,x16,x17,x18,x19,x20,x21,x22,x23,x24] = C47_3 x0 x3 x4 := by kernel_rfl
noncomputable def cd47 : Code := (.seq (.region 0 (rg f47 0) false) (.seq (.region 1 (rg f47 1) false) (.seq (.seq (.region 2 (rg f47 2) false) (.block 0 (.loop lp47_3))) (.seq (.region 6 (rg f47 6) false) .ret))))
theorem ent47 (n : Nat) (a0 : AV) (h : AH) : X (n + 1) (.func 47) [a0] h = nrm h (fin1 (arun prog (HK 47) 47 (X n) n none cd47 [a0,.tup [],.tup [],.tup [],.tup [],.tup [],.tup [],.tup [],.tup [],.tup [],.tup [],.tup [],.tup [],.tup [],.tup [],.tup [],.tup [],.tup [],.tup [],.tup [],.tup [],.tup [],.tup [],.tup [],.tup []] h) 2) := by kernel_rfl
section
variable (K : Hint) (fid : FuncId) (call : ACall) (lf : Nat) (rd : Option Nat) (fr : List AV) (h : AH)
end
theorem R47 (K : Hint) (i : FuncId) (c : ACall) (n : Nat) (d : Option Nat) (f : List AV) (h : AH) :
 arun prog K i c n d (.region 0 (rg f47 0) false) f h = regR (aops prog c (rg f47 0) [0] f h) ∧
 arun prog K i c n d (.region 1 (rg f47 1) false) f h = regR (aops prog c (rg f47 1) [0,1,2] f h) ∧
 arun prog K i c n d (.region 2 (rg f47 2) false) f h = regR (aops prog c (rg f47 2) [0] f h) ∧
 arun prog K i c n d (.region 3 (rg f47 3) false) f h = regR (aops prog c (rg f47 3) [0,1,2,3,4,5,6,7] f h) ∧
 arun prog K i c n d (.region 5 (rg f47 5) false) f h = regR (aops prog c (rg f47 5) [0,1,2,3,4,5,6,7] f h) ∧
 arun prog K i c n d (.region 4 (rg f47 4) false) f h = regR (aops prog c (rg f47 4) [0,1,2] f h) ∧
 arun prog K i c n d (.region 6 (rg f47 6) false) f h = regR (aops prog c (rg f47 6) [0,1] f h) := by
  repeat' apply And.intro
  all_goals kernel_rfl
theorem S47 (c : ACall) (f : List AV) (h : AH) :
 astep prog c (rg f47 0) 0 f h = pureS (some (.int .i64 0)) f 2 h ∧
 astep prog c (rg f47 1) 0 f h = pureS (some (f.getD 0 .top)) f 5 h ∧
 astep prog c (rg f47 1) 1 f h = pureS (lenV (alen prog 47 (f.getD 5 .top))) f 6 h ∧
 astep prog c (rg f47 1) 2 f h = pureS (some (f.getD 6 .top)) f 3 h ∧
 astep prog c (rg f47 2) 0 f h = pureS (some (.int .i64 0)) f 4 h ∧
 astep prog c (rg f47 3) 0 f h = pureS (some (f.getD 4 .top)) f 7 h ∧
 astep prog c (rg f47 3) 1 f h = pureS (some (f.getD 0 .top)) f 8 h ∧
 astep prog c (rg f47 3) 2 f h = pureS (lenV (alen prog 47 (f.getD 8 .top))) f 9 h ∧
 astep prog c (rg f47 3) 3 f h = pureS (abin prog .lss 3 (.tmp 7) (.tmp 9) (f.getD 7 .top) (f.getD 9 .top)) f 10 h ∧
 astep prog c (rg f47 3) 4 f h = pureS (some (f.getD 10 .top)) f 11 h ∧
 astep prog c (rg f47 3) 5 f h = gdS (f.getD 11 .top) true (some (f.set 12 (.tup []),h)) (pureS (some (f.getD 3 .top)) f 12 h) ∧
 astep prog c (rg f47 3) 6 f h = gdS (f.getD 11 .top) true (some (f.set 13 (.tup []),h)) (pureS (abin prog .leq 3 (.tmp 12) (.const (.int .i64 1000)) (f.getD 12 .top) (.int .i64 1000)) f 13 h) ∧
 astep prog c (rg f47 3) 7 f h = pureS (pickV (f.getD 11 .top) (f.getD 13 .top) (.bool false)) f 14 h ∧
 astep prog c (rg f47 5) 0 f h = pureS (some (f.getD 3 .top)) f 17 h ∧
 astep prog c (rg f47 5) 1 f h = pureS (some (f.getD 0 .top)) f 18 h ∧
 astep prog c (rg f47 5) 2 f h = pureS (some (f.getD 4 .top)) f 19 h ∧
 astep prog c (rg f47 5) 3 f h = pureS (aindexAt prog 47 (f.getD 18 .top) (f.getD 19 .top)) f 20 h ∧
 astep prog c (rg f47 5) 4 f h = pureS (ldV prog 49 (f.getD 20 .top) h) f 21 h ∧
 astep prog c (rg f47 5) 5 f h = heapS (callV c (.fn (.func 25) [] []) [(f.getD 21 .top)] h) f 22 ∧
 astep prog c (rg f47 5) 6 f h = pureS (abin prog .add 3 (.tmp 17) (.tmp 22) (f.getD 17 .top) (f.getD 22 .top)) f 23 h ∧
 astep prog c (rg f47 5) 7 f h = pureS (some (f.getD 23 .top)) f 3 h ∧
 astep prog c (rg f47 4) 0 f h = pureS (some (f.getD 4 .top)) f 15 h ∧
 astep prog c (rg f47 4) 1 f h = pureS (abin prog .add 3 (.tmp 15) (.const (.int .i64 1)) (f.getD 15 .top) (.int .i64 1)) f 16 h ∧
 astep prog c (rg f47 4) 2 f h = pureS (some (f.getD 16 .top)) f 4 h ∧
 astep prog c (rg f47 6) 0 f h = pureS (some (f.getD 3 .top)) f 24 h ∧
 astep prog c (rg f47 6) 1 f h = pureS (some (f.getD 24 .top)) f 2 h := by
  repeat' apply And.intro
  all_goals kernel_rfl

end Go.Proofs.Ytgnacecplaemlaa
namespace Go.Proofs.Ytgnacecplaemlaa
open AI Try
set_option linter.unusedVariables false
/-! ### 48: conch/conchlaw32.MuchWord -/
noncomputable def lp48_4 : Code := (.seq (.seq (.region 4 (rg f48 4) false) (.cond (.tmp 19) .skip (.exit 0))) (.seq (.block 1 (.region 6 (rg f48 6) false)) (.region 5 (rg f48 5) false)))
def C48_4 (x3 x4 x5 : AV) : List AV := [.top,.top,.top,x3,x4,x5,.top,.top,.top,.top,.top,.top,.top,.top,.top,.top,.top,.top,.top,.top,.top,.top,.top,.top,.top,.top,.top,.top,.top,.top]
theorem cl48_4 (x0 x1 x2 x3 x4 x5 x6 x7 x8 x9 x10 x11 x12 x13 x14 x15 x16 x17 x18 x19 x20 x21 x22 x23 x24 x25 x26 x27 x28 x29 : AV) : aclear (HK 48) lp48_4 [x0,x1,x2,x3,x4,x5,x6,x7,x8,x9,x10,x11,x12,x13,x14,x15,x16,x17,x18,x19,x20,x21,x22,x23,x24,x25,x26,x27,x28,x29] = C48_4 x3 x4 x5 := by kernel_rfl
noncomputable def cd48 : Code := (.seq (.region 0 (rg f48 0) false) (.seq (.region 1 (rg f48 1) false) (.seq (.region 2 (rg f48 2) false) (.seq (.seq (.region 3 (rg f48 3) false) (.block 0 (.loop lp48_4))) (.seq (.region 7 (rg f48 7) false) .ret)))))
theorem ent48 (n : Nat) (a0 : AV) (h : AH) : X (n + 1) (.func 48) [a0] h = nrm h (fin1 (arun prog (HK 48) 48 (X n) n none cd48 [a0,.tup [],.tup [],.tup [],.tup [],.tup [],.tup [],.tup [],.tup [],.tup [],.tup [],.tup [],.tup [],.tup [],.tup [],.tup [],.tup [],.tup [],.tup [],.tup [],.tup [],.tup [],.tup [],.tup [],.tup [],.tup [],.tup [],.tup [],.tup [],.tup []] h) 2) := by kernel_rfl
section
variable (K : Hint) (fid : FuncId) (call : ACall) (lf : Nat) (rd : Option Nat) (fr : List AV) (h : AH)
end
theorem R48 (K : Hint) (i : FuncId) (c : ACall) (n : Nat) (d : Option Nat) (f : List AV) (h : AH) :
 arun prog K i c n d (.region 0 (rg f48 0) false) f h = regR (aops prog c (rg f48 0) [0,1] f h) ∧
 arun prog K i c n d (.region 1 (rg f48 1) false) f h = regR (aops prog c (rg f48 1) [0,1,2,3] f h) ∧
 arun prog K i c n d (.region 2 (rg f48 2) false) f h = regR (aops prog c (rg f48 2) [0,1,2,3] f h) ∧
 arun prog K i c n d (.region 3 (rg f48 3) false) f h = regR (aops prog c (rg f48 3) [0] f h) ∧
 arun prog K i c n d (.region 4 (rg f48 4) false) f h = regR (aops prog c (rg f48 4) [0,1,2,3,4,5,6,7] f h) ∧
 arun prog K i c n d (.region 6 (rg f48 6) false) f h = regR (aops prog c (rg f48 6) [0,1,2,3,4,5,6,7] f h) ∧
 arun prog K i c n d (.region 5 (rg f48 5) false) f h = regR (aops prog c (rg f48 5) [0,1,2] f h) ∧
 arun prog K i c n d (.region 7 (rg f48 7) false) f h = regR (aops prog c (rg f48 7) [0,1] f h) := by
  repeat' apply And.intro
  all_goals kernel_rfl
theorem S48 (c : ACall) (f : List AV) (h : AH) :
 astep prog c (rg f48 0) 0 f h = heapS (boxV (f.getD 0 .top) h) f 1 ∧
 astep prog c (rg f48 0) 1 f h = pureS (some (.int .i64 0)) f 2 h ∧
 astep prog c (rg f48 1) 0 f h = pureS (afieldAt prog 60 (f.getD 1 .top) 0) f 6 h ∧
 astep prog c (rg f48 1) 1 f h = pureS (ldV prog 58 (f.getD 6 .top) h) f 7 h ∧
 astep prog c (rg f48 1) 2 f h = heapS (callV c (.fn (.func 65) [] []) [(f.getD 7 .top)] h) f 8 ∧
 astep prog c (rg f48 1) 3 f h = pureS (some (f.getD 8 .top)) f 3 h ∧
 astep prog c (rg f48 2) 0 f h = pureS (afieldAt prog 60 (f.getD 1 .top) 0) f 9 h ∧
 astep prog c (rg f48 2) 1 f h = pureS (ldV prog 58 (f.getD 9 .top) h) f 10 h ∧
 astep prog c (rg f48 2) 2 f h = heapS (callV c (.fn (.func 66) [] []) [(f.getD 10 .top)] h) f 11 ∧
 astep prog c (rg f48 2) 3 f h = pureS (some (f.getD 11 .top)) f 4 h ∧
 astep prog c (rg f48 3) 0 f h = pureS (some (.int .i64 0)) f 5 h ∧
 astep prog c (rg f48 4) 0 f h = pureS (some (f.getD 5 .top)) f 12 h ∧
 astep prog c (rg f48 4) 1 f h = pureS (some (f.getD 4 .top)) f 13 h ∧
 astep prog c (rg f48 4) 2 f h = pureS (lenV (alen prog 89 (f.getD 13 .top))) f 14 h ∧
 astep prog c (rg f48 4) 3 f h = pureS (abin prog .lss 3 (.tmp 12) (.tmp 14) (f.getD 12 .top) (f.getD 14 .top)) f 15 h ∧
 astep prog c (rg f48 4) 4 f h = pureS (some (f.getD 15 .top)) f 16 h ∧
 astep prog c (rg f48 4) 5 f h = gdS (f.getD 16 .top) true (some (f.set 17 (.tup []),h)) (pureS (some (f.getD 3 .top)) f 17 h) ∧
 astep prog c (rg f48 4) 6 f h = gdS (f.getD 16 .top) true (some (f.set 18 (.tup []),h)) (pureS (abin prog .leq 3 (.tmp 17) (.const (.int .i64 1000)) (f.getD 17 .top) (.int .i64 1000)) f 18 h) ∧
 astep prog c (rg f48 4) 7 f h = pureS (pickV (f.getD 16 .top) (f.getD 18 .top) (.bool false)) f 19 h ∧
 astep prog c (rg f48 6) 0 f h = pureS (some (f.getD 3 .top)) f 22 h ∧
 astep prog c (rg f48 6) 1 f h = pureS (some (f.getD 4 .top)) f 23 h ∧
 astep prog c (rg f48 6) 2 f h = pureS (some (f.getD 5 .top)) f 24 h ∧
 astep prog c (rg f48 6) 3 f h = pureS (aindexAt prog 89 (f.getD 23 .top) (f.getD 24 .top)) f 25 h ∧
 astep prog c (rg f48 6) 4 f h = pureS (ldV prog 47 (f.getD 25 .top) h) f 26 h ∧
 astep prog c (rg f48 6) 5 f h = heapS (callV c (.fn (.func 47) [] []) [(f.getD 26 .top)] h) f 27 ∧
 astep prog c (rg f48 6) 6 f h = pureS (abin prog .add 3 (.tmp 22) (.tmp 27) (f.getD 22 .top) (f.getD 27 .top)) f 28 h ∧
 astep prog c (rg f48 6) 7 f h = pureS (some (f.getD 28 .top)) f 3 h ∧
 astep prog c (rg f48 5) 0 f h = pureS (some (f.getD 5 .top)) f 20 h ∧
 astep prog c (rg f48 5) 1 f h = pureS (abin prog .add 3 (.tmp 20) (.const (.int .i64 1)) (f.getD 20 .top) (.int .i64 1)) f 21 h ∧
 astep prog c (rg f48 5) 2 f h = pureS (some (f.getD 21 .top)) f 5 h ∧
 astep prog c (rg f48 7) 0 f h = pureS (some (f.getD 3 .top)) f 29 h ∧
 astep prog c (rg f48 7) 1 f h = pureS (some (f.getD 29 .top)) f 2 h := by
  repeat' apply And.intro
  all_goals kernel_rfl

end Go.Proofs.Ytgnacecplaemlaa
namespace Go.Proofs.Ytgnacecplaemlaa
open AI Try
set_option linter.unusedVariables false
/-! ### 51: conch/walk.All -/
noncomputable def cd51 : Code := (.seq (.region 0 (rg f51 0) false) (.seq (.region 1 (rg f51 1) false) .ret))
theorem ent51 (n : Nat) (a0 : AV) (h : AH) : X (n + 1) (.func 51) [a0] h = (fin1 (arun prog (HK 51) 51 (X n) n none cd51 [a0,.tup [],.tup [],.tup []] h) 2) := by kernel_rfl
section
variable (K : Hint) (fid : FuncId) (call : ACall) (lf : Nat) (rd : Option Nat) (fr : List AV) (h : AH)
end
theorem R51 (K : Hint) (i : FuncId) (c : ACall) (n : Nat) (d : Option Nat) (f : List AV) (h : AH) :
 arun prog K i c n d (.region 0 (rg f51 0) false) f h = regR (aops prog c (rg f51 0) [0,1] f h) ∧
 arun prog K i c n d (.region 1 (rg f51 1) false) f h = regR (aops prog c (rg f51 1) [0,1] f h) := by
  repeat' apply And.intro
  all_goals kernel_rfl
theorem S51 (c : ACall) (f : List AV) (h : AH) :
 astep prog c (rg f51 0) 0 f h = heapS (boxV (f.getD 0 .top) h) f 1 ∧
 astep prog c (rg f51 0) 1 f h = pureS (some (.nilFn)) f 2 h ∧
 astep prog c (rg f51 1) 0 f h = pureS (some (.fn (.func 68) [] [(f.getD 1 .top)])) f 3 h ∧
 astep prog c (rg f51 1) 1 f h = pureS (some (f.getD 3 .top)) f 2 h := by
  repeat' apply And.intro
  all_goals kernel_rfl

end Go.Proofs.Ytgnacecplaemlaa
namespace Go.Proofs.Ytgnacecplaemlaa
open AI Try
set_option linter.unusedVariables false
/-! ### 52: conch/conchlaw42.nodes$1 -/
noncomputable def cd52 : Code := (.seq (.region 0 (rg f52 0) false) (.seq (.region 1 (rg f52 1) true) (.seq (.region 2 (rg f52 2) false) .ret)))
theorem ent52 (n : Nat) (a0 a1 a2 : AV) (h : AH) : X (n + 1) (.func 52) [a0,a1,a2] h = (fin1 (arun prog (HK 52) 52 (X n) n none cd52 [a0,a1,a2,.tup [],.tup [],.tup [],.tup [],.tup [],.tup [],.tup [],.tup [],.tup [],.tup [],.tup [],.tup []] h) 4) := by kernel_rfl
section
variable (K : Hint) (fid : FuncId) (call : ACall) (lf : Nat) (rd : Option Nat) (fr : List AV) (h : AH)
theorem dok52_1 : drawOK prog (befs (rg f52 1).toList []) (rg f52 1) = false := by kernel_rfl
theorem prs52_1 : pairsOK prog (befs (rg f52 1).toList []) (rg f52 1) [(0,3),(1,3)] = true := by kernel_rfl
theorem rng52_1 : List.range (rg f52 1).size = [0,1,2,3,4,5,6,7] := by kernel_rfl
theorem flo52_1 : floatOK prog (befs (rg f52 1).toList []) (rg f52 1) ((rg f52 1).size - 1) = true := by kernel_rfl
theorem fls52_1 : floatsOK (befs (rg f52 1).toList []) (rg f52 1) ((rg f52 1).size - 1) [6] = true := by kernel_rfl
theorem siz52_1 : (rg f52 1).size - 1 = 7 := by kernel_rfl
theorem drw52_1 {r : List AV × AH} (h0 : aops prog call (rg f52 1) [0,1,2,3,4,5,6,7] fr h = some r) (hq : ∀ p ∈ ([(0,3),(1,3)] : List (Nat × Nat)),PairOK prog call (rg f52 1) fr h p.1 p.2) (ha : ∀ i ∈ ([6] : List Nat),ApartAt prog call (rg f52 1) fr h ((rg f52 1).size - 1) i) : arun prog (HK 52) fid call lf rd (.region 1 (rg f52 1) true) fr h = regR (some r) := (show _ = regR (adraw prog call (rg f52 1) fr h) by kernel_rfl).trans (congrArg regR (adraw_float _ _ dok52_1 flo52_1 prs52_1 fls52_1 ((congrArg (fun l => aops prog call (rg f52 1) l fr h) rng52_1).trans h0) hq (by simp) ha))
theorem li52_1_0 : loadI prog (rg f52 1) 0 fr h = ldV prog 47 (fr.getD 1 .top) h := by kernel_rfl
theorem li52_1_1 : loadI prog (rg f52 1) 1 fr h = ldV prog 49 (fr.getD 3 .top) h := by kernel_rfl
theorem rng52_1_0 : List.range 0 = [] := by rfl
theorem rng52_1_1 : List.range 1 = [0] := by rfl
theorem rng52_1_3 : List.range 3 = [0,1,2] := by rfl
theorem rng52_1_4 : List.range 4 = [0,1,2,3] := by rfl
theorem rng52_1_6 : List.range 6 = [0,1,2,3,4,5] := by rfl
theorem rng52_1_7 : List.range 7 = [0,1,2,3,4,5,6] := by rfl
end
theorem R52 (K : Hint) (i : FuncId) (c : ACall) (n : Nat) (d : Option Nat) (f : List AV) (h : AH) :
 arun prog K i c n d (.region 0 (rg f52 0) false) f h = regR (aops prog c (rg f52 0) [0,1] f h) ∧
 arun prog K i c n d (.region 2 (rg f52 2) false) f h = regR (aops prog c (rg f52 2) [0,1,2,3,4] f h) := by
  repeat' apply And.intro
  all_goals kernel_rfl
theorem S52 (c : ACall) (f : List AV) (h : AH) :
 astep prog c (rg f52 0) 0 f h = heapS (boxV (f.getD 0 .top) h) f 3 ∧
 astep prog c (rg f52 0) 1 f h = pureS (some (.bool false)) f 4 h ∧
 astep prog c (rg f52 1) 0 f h = pureS (ldV prog 47 (f.getD 1 .top) h) f 5 h ∧
 astep prog c (rg f52 1) 1 f h = pureS (ldV prog 49 (f.getD 3 .top) h) f 6 h ∧
 astep prog c (rg f52 1) 2 f h = pureS (lenV (alen prog 47 (f.getD 5 .top))) f 7 h ∧
 astep prog c (rg f52 1) 3 f h = heapS (bslV prog 47 1 [(0,(.agg [.int .i64 0,.str [],.bool false,.bool false,.nilSl,.nilSl,.nilSl,.nilSl,.nilSl,.nilSl]))] h) f 8 ∧
 astep prog c (rg f52 1) 4 f h = heapS (aappend prog 47 47 (f.getD 5 .top) (f.getD 8 .top) h) f 9 ∧
 astep prog c (rg f52 1) 5 f h = pureS (aindexAt prog 47 (f.getD 9 .top) (f.getD 7 .top)) f 10 h ∧
 astep prog c (rg f52 1) 6 f h = heapN (stV prog 49 (f.getD 10 .top) (f.getD 6 .top) h) f ∧
 astep prog c (rg f52 1) 7 f h = heapN (stV prog 47 (f.getD 1 .top) (f.getD 9 .top) h) f ∧
 astep prog c (rg f52 2) 0 f h = pureS (ldV prog 47 (f.getD 1 .top) h) f 11 h ∧
 astep prog c (rg f52 2) 1 f h = pureS (lenV (alen prog 47 (f.getD 11 .top))) f 12 h ∧
 astep prog c (rg f52 2) 2 f h = pureS (ldV prog 3 (f.getD 2 .top) h) f 13 h ∧
 astep prog c (rg f52 2) 3 f h = pureS (abin prog .lss 3 (.tmp 12) (.tmp 13) (f.getD 12 .top) (f.getD 13 .top)) f 14 h ∧
 astep prog c (rg f52 2) 4 f h = pureS (some (f.getD 14 .top)) f 4 h := by
  repeat' apply And.intro
  all_goals kernel_rfl

end Go.Proofs.Ytgnacecplaemlaa
namespace Go.Proofs.Ytgnacecplaemlaa
open AI Try
set_option linter.unusedVariables false
/-! ### 53: conch/walk.below -/
noncomputable def cd53 : Code := (.seq (.region 0 (rg f53 0) false) (.seq (.region 1 (rg f53 1) false) .ret))
theorem ent53 (n : Nat) (a0 : AV) (h : AH) : X (n + 1) (.func 53) [a0] h = (fin1 (arun prog (HK 53) 53 (X n) n none cd53 [a0,.tup [],.tup [],.tup []] h) 2) := by kernel_rfl
section
variable (K : Hint) (fid : FuncId) (call : ACall) (lf : Nat) (rd : Option Nat) (fr : List AV) (h : AH)
end
theorem R53 (K : Hint) (i : FuncId) (c : ACall) (n : Nat) (d : Option Nat) (f : List AV) (h : AH) :
 arun prog K i c n d (.region 0 (rg f53 0) false) f h = regR (aops prog c (rg f53 0) [0,1] f h) ∧
 arun prog K i c n d (.region 1 (rg f53 1) false) f h = regR (aops prog c (rg f53 1) [0,1] f h) := by
  repeat' apply And.intro
  all_goals kernel_rfl
theorem S53 (c : ACall) (f : List AV) (h : AH) :
 astep prog c (rg f53 0) 0 f h = heapS (boxV (f.getD 0 .top) h) f 1 ∧
 astep prog c (rg f53 0) 1 f h = pureS (some (.nilFn)) f 2 h ∧
 astep prog c (rg f53 1) 0 f h = pureS (some (.fn (.func 69) [] [(f.getD 1 .top)])) f 3 h ∧
 astep prog c (rg f53 1) 1 f h = pureS (some (f.getD 3 .top)) f 2 h := by
  repeat' apply And.intro
  all_goals kernel_rfl

end Go.Proofs.Ytgnacecplaemlaa
namespace Go.Proofs.Ytgnacecplaemlaa
open AI Try
set_option linter.unusedVariables false
/-! ### 54: conch/unquote.Plain -/
noncomputable def cd54 : Code := (.seq (.region 0 (rg f54 0) false) (.seq (.seq (.region 1 (rg f54 1) false) (.cond (.tmp 15) (.seq (.region 2 (rg f54 2) false) .ret) .skip)) (.seq (.region 3 (rg f54 3) false) .ret)))
theorem ent54 (n : Nat) (a0 : AV) (h : AH) : X (n + 1) (.func 54) [a0] h = nrm h (finN (arun prog (HK 54) 54 (X n) n none cd54 [a0,.tup [],.tup [],.tup [],.tup [],.tup [],.tup [],.tup [],.tup [],.tup [],.tup [],.tup [],.tup [],.tup [],.tup [],.tup [],.tup [],.tup [],.tup [],.tup [],.tup []] h) [2,3]) := by kernel_rfl
section
variable (K : Hint) (fid : FuncId) (call : ACall) (lf : Nat) (rd : Option Nat) (fr : List AV) (h : AH)
end
theorem R54 (K : Hint) (i : FuncId) (c : ACall) (n : Nat) (d : Option Nat) (f : List AV) (h : AH) :
 arun prog K i c n d (.region 0 (rg f54 0) false) f h = regR (aops prog c (rg f54 0) [0,1,2] f h) ∧
 arun prog K i c n d (.region 1 (rg f54 1) false) f h = regR (aops prog c (rg f54 1) [0,1,2,3,4,5,6,7,8,9,10,11] f h) ∧
 arun prog K i c n d (.region 2 (rg f54 2) false) f h = regR (aops prog c (rg f54 2) [0,1,2,3,4,5,6] f h) ∧
 arun prog K i c n d (.region 3 (rg f54 3) false) f h = regR (aops prog c (rg f54 3) [0,1] f h) := by
  repeat' apply And.intro
  all_goals kernel_rfl
theorem S54 (c : ACall) (f : List AV) (h : AH) :
 astep prog c (rg f54 0) 0 f h = heapS (boxV (f.getD 0 .top) h) f 1 ∧
 astep prog c (rg f54 0) 1 f h = pureS (some (.str [])) f 2 h ∧
 astep prog c (rg f54 0) 2 f h = pureS (some (.bool false)) f 3 h ∧
 astep prog c (rg f54 1) 0 f h = pureS (afieldAt prog 60 (f.getD 1 .top) 0) f 4 h ∧
 astep prog c (rg f54 1) 1 f h = pureS (ldV prog 58 (f.getD 4 .top) h) f 5 h ∧
 astep prog c (rg f54 1) 2 f h = pureS (lenV (alen prog 58 (f.getD 5 .top))) f 6 h ∧
 astep prog c (rg f54 1) 3 f h = pureS (abin prog .eql 3 (.tmp 6) (.const (.int .i64 1)) (f.getD 6 .top) (.int .i64 1)) f 7 h ∧
 astep prog c (rg f54 1) 4 f h = pureS (some (f.getD 7 .top)) f 8 h ∧
 astep prog c (rg f54 1) 5 f h = gdS (f.getD 8 .top) true (some (f.set 9 (.tup []),h)) (pureS (afieldAt prog 60 (f.getD 1 .top) 0) f 9 h) ∧
 astep prog c (rg f54 1) 6 f h = gdS (f.getD 8 .top) true (some (f.set 10 (.tup []),h)) (pureS (ldV prog 58 (f.getD 9 .top) h) f 10 h) ∧
 astep prog c (rg f54 1) 7 f h = gdS (f.getD 8 .top) true (some (f.set 11 (.tup []),h)) (pureS (aindexAt prog 58 (f.getD 10 .top) (.int .i64 0)) f 11 h) ∧
 astep prog c (rg f54 1) 8 f h = gdS (f.getD 8 .top) true (some (f.set 12 (.tup []),h)) (pureS (afieldAt prog 78 (f.getD 11 .top) 0) f 12 h) ∧
 astep prog c (rg f54 1) 9 f h = gdS (f.getD 8 .top) true (some (f.set 13 (.tup []),h)) (pureS (ldV prog 3 (f.getD 12 .top) h) f 13 h) ∧
 astep prog c (rg f54 1) 10 f h = gdS (f.getD 8 .top) true (some (f.set 14 (.tup []),h)) (pureS (abin prog .eql 3 (.tmp 13) (.const (.int .i64 1)) (f.getD 13 .top) (.int .i64 1)) f 14 h) ∧
 astep prog c (rg f54 1) 11 f h = pureS (pickV (f.getD 8 .top) (f.getD 14 .top) (.bool false)) f 15 h ∧
 astep prog c (rg f54 2) 0 f h = pureS (afieldAt prog 60 (f.getD 1 .top) 0) f 16 h ∧
 astep prog c (rg f54 2) 1 f h = pureS (ldV prog 58 (f.getD 16 .top) h) f 17 h ∧
 astep prog c (rg f54 2) 2 f h = pureS (aindexAt prog 58 (f.getD 17 .top) (.int .i64 0)) f 18 h ∧
 astep prog c (rg f54 2) 3 f h = pureS (afieldAt prog 78 (f.getD 18 .top) 1) f 19 h ∧
 astep prog c (rg f54 2) 4 f h = pureS (ldV prog 9 (f.getD 19 .top) h) f 20 h ∧
 astep prog c (rg f54 2) 5 f h = pureS (some (f.getD 20 .top)) f 2 h ∧
 astep prog c (rg f54 2) 6 f h = pureS (some (.bool true)) f 3 h ∧
 astep prog c (rg f54 3) 0 f h = pureS (some (.str [])) f 2 h ∧
 astep prog c (rg f54 3) 1 f h = pureS (some (.bool false)) f 3 h := by
  repeat' apply And.intro
  all_goals kernel_rfl

end Go.Proofs.Ytgnacecplaemlaa
namespace Go.Proofs.Ytgnacecplaemlaa
open AI Try
set_option linter.unusedVariables false
/-! ### 57: conch/walk.own -/
noncomputable def lp57_3 : Code := (.seq (.region 3 (rg f57 3) false) (.seq (.cond (.tmp 18) .skip (.exit 0)) (.seq (.block 1 (.seq (.region 4 (rg f57 4) false) (.region 5 (rg f57 5) false))) (.region 6 (rg f57 6) false))))
def C57_3 (x1 x3 x15 x16 x17 : AV) : List AV := [.top,x1,.top,x3,.top,.top,.top,.top,.top,.top,.top,.top,.top,.top,.top,x15,x16,x17,.top,.top,.top,.top,.top,.top,.top,.top,.top,.top,.top,.top,.top,.top,.top,.top,.top,.top,.top,.top,.top,.top]
theorem cl57_3 (x0 x1 x2 x3 x4 x5 x6 x7 x8 x9 x10 x11 x12 x13 x14 x15 x16 x17 x18 x19 x20 x21 x22 x23 x24 x25 x26 x27 x28 x29 x30 x31 x32 x33 x34 x35 x36 x37 x38 x39 : AV) : aclear (HK 57) lp57_3 [x0,x1,x2,x3,x4,x5,x6,x7,x8,x9,x10,x11,x12,x13,x14,x15,x16,x17,x18,x19,x20,x21,x22,x23,x24,x25,x26,x27,x28,x29,x30,x31,x32,x33,x34,x35,x36,x37,x38,x39] = C57_3 x1 x3 x15 x16 x17 := by kernel_rfl
noncomputable def lp57_8 : Code := (.seq (.region 8 (rg f57 8) false) (.seq (.cond (.tmp 31) .skip (.exit 2)) (.seq (.block 3 (.seq (.region 9 (rg f57 9) false) (.region 10 (rg f57 10) false))) (.region 11 (rg f57 11) false))))
def C57_8 (x3 x28 x29 x30 : AV) : List AV := [.top,.top,.top,x3,.top,.top,.top,.top,.top,.top,.top,.top,.top,.top,.top,.top,.top,.top,.top,.top,.top,.top,.top,.top,.top,.top,.top,.top,x28,x29,x30,.top,.top,.top,.top,.top,.top,.top,.top,.top]
theorem cl57_8 (x0 x1 x2 x3 x4 x5 x6 x7 x8 x9 x10 x11 x12 x13 x14 x15 x16 x17 x18 x19 x20 x21 x22 x23 x24 x25 x26 x27 x28 x29 x30 x31 x32 x33 x34 x35 x36 x37 x38 x39 : AV) : aclear (HK 57) lp57_8 [x0,x1,x2,x3,x4,x5,x6,x7,x8,x9,x10,x11,x12,x13,x14,x15,x16,x17,x18,x19,x20,x21,x22,x23,x24,x25,x26,x27,x28,x29,x30,x31,x32,x33,x34,x35,x36,x37,x38,x39] = C57_8 x3 x28 x29 x30 := by kernel_rfl
noncomputable def cd57 : Code := (.seq (.region 0 (rg f57 0) false) (.seq (.region 1 (rg f57 1) false) (.seq (.seq (.region 2 (rg f57 2) false) (.block 0 (.loop lp57_3))) (.seq (.seq (.region 7 (rg f57 7) false) (.block 2 (.loop lp57_8))) (.seq (.region 12 (rg f57 12) false) .ret)))))
theorem ent57 (n : Nat) (a0 : AV) (h : AH) : X (n + 1) (.func 57) [a0] h = nrm h (fin1 (arun prog (HK 57) 57 (X n) n none cd57 [a0,.tup [],.tup [],.tup [],.tup [],.tup [],.tup [],.tup [],.tup [],.tup [],.tup [],.tup [],.tup [],.tup [],.tup [],.tup [],.tup [],.tup [],.tup [],.tup [],.tup [],.tup [],.tup [],.tup [],.tup [],.tup [],.tup [],.tup [],.tup [],.tup [],.tup [],.tup [],.tup [],.tup [],.tup [],.tup [],.tup [],.tup [],.tup [],.tup []] h) 2) := by kernel_rfl
section
variable (K : Hint) (fid : FuncId) (call : ACall) (lf : Nat) (rd : Option Nat) (fr : List AV) (h : AH)
end
theorem R57 (K : Hint) (i : FuncId) (c : ACall) (n : Nat) (d : Option Nat) (f : List AV) (h : AH) :
 arun prog K i c n d (.region 0 (rg f57 0) false) f h = regR (aops prog c (rg f57 0) [0,1] f h) ∧
 arun prog K i c n d (.region 1 (rg f57 1) false) f h = regR (aops prog c (rg f57 1) [0,1,2,3,4,5,6] f h) ∧
 arun prog K i c n d (.region 2 (rg f57 2) false) f h = regR (aops prog c (rg f57 2) [0,1,2,3] f h) ∧
 arun prog K i c n d (.region 3 (rg f57 3) false) f h = regR (aops prog c (rg f57 3) [0] f h) ∧
 arun prog K i c n d (.region 4 (rg f57 4) false) f h = regR (aops prog c (rg f57 4) [0,1,2,3] f h) ∧
 arun prog K i c n d (.region 5 (rg f57 5) false) f h = regR (aops prog c (rg f57 5) [0,1,2,3,4,5] f h) ∧
 arun prog K i c n d (.region 6 (rg f57 6) false) f h = regR (aops prog c (rg f57 6) [0,1] f h) ∧
 arun prog K i c n d (.region 7 (rg f57 7) false) f h = regR (aops prog c (rg f57 7) [0,1,2,3] f h) ∧
 arun prog K i c n d (.region 8 (rg f57 8) false) f h = regR (aops prog c (rg f57 8) [0] f h) ∧
 arun prog K i c n d (.region 9 (rg f57 9) false) f h = regR (aops prog c (rg f57 9) [0,1,2,3] f h) ∧
 arun prog K i c n d (.region 10 (rg f57 10) false) f h = regR (aops prog c (rg f57 10) [0,1,2,3,4] f h) ∧
 arun prog K i c n d (.region 11 (rg f57 11) false) f h = regR (aops prog c (rg f57 11) [0,1] f h) ∧
 arun prog K i c n d (.region 12 (rg f57 12) false) f h = regR (aops prog c (rg f57 12) [0,1] f h) := by
  repeat' apply And.intro
  all_goals kernel_rfl
theorem S57 (c : ACall) (f : List AV) (h : AH) :
 astep prog c (rg f57 0) 0 f h = heapS (boxV (f.getD 0 .top) h) f 1 ∧
 astep prog c (rg f57 0) 1 f h = pureS (some (.nilSl)) f 2 h ∧
 astep prog c (rg f57 1) 0 f h = pureS (afieldAt prog 49 (f.getD 1 .top) 5) f 8 h ∧
 astep prog c (rg f57 1) 1 f h = pureS (ldV prog 44 (f.getD 8 .top) h) f 9 h ∧
 astep prog c (rg f57 1) 2 f h = pureS (afieldAt prog 49 (f.getD 1 .top) 6) f 10 h ∧
 astep prog c (rg f57 1) 3 f h = pureS (ldV prog 44 (f.getD 10 .top) h) f 11 h ∧
 astep prog c (rg f57 1) 4 f h = heapS (bslV prog 104 2 [(0,(f.getD 9 .top)),(1,(f.getD 11 .top))] h) f 12 ∧
 astep prog c (rg f57 1) 5 f h = heapS (callV c (.fn (.func 74) [] []) [(f.getD 12 .top)] h) f 13 ∧
 astep prog c (rg f57 1) 6 f h = pureS (some (f.getD 13 .top)) f 3 h ∧
 astep prog c (rg f57 2) 0 f h = pureS (afieldAt prog 49 (f.getD 1 .top) 7) f 14 h ∧
 astep prog c (rg f57 2) 1 f h = pureS (ldV prog 45 (f.getD 14 .top) h) f 15 h ∧
 astep prog c (rg f57 2) 2 f h = pureS (lenV (alen prog 45 (f.getD 15 .top))) f 16 h ∧
 astep prog c (rg f57 2) 3 f h = pureS (some (.int .i64 0)) f 17 h ∧
 astep prog c (rg f57 3) 0 f h = pureS (abin prog .lss 3 (.tmp 17) (.tmp 16) (f.getD 17 .top) (f.getD 16 .top)) f 18 h ∧
 astep prog c (rg f57 4) 0 f h = pureS (aindexAt prog 45 (f.getD 15 .top) (f.getD 17 .top)) f 19 h ∧
 astep prog c (rg f57 4) 1 f h = pureS (ldV prog 73 (f.getD 19 .top) h) f 20 h ∧
 astep prog c (rg f57 4) 2 f h = heapS (newV prog 73 h) f 5 ∧
 astep prog c (rg f57 4) 3 f h = heapN (stV prog 73 (f.getD 5 .top) (f.getD 20 .top) h) f ∧
 astep prog c (rg f57 5) 0 f h = pureS (some (f.getD 3 .top)) f 21 h ∧
 astep prog c (rg f57 5) 1 f h = pureS (afieldAt prog 73 (f.getD 5 .top) 2) f 22 h ∧
 astep prog c (rg f57 5) 2 f h = pureS (ldV prog 60 (f.getD 22 .top) h) f 23 h ∧
 astep prog c (rg f57 5) 3 f h = heapS (bslV prog 44 1 [(0,(f.getD 23 .top))] h) f 24 ∧
 astep prog c (rg f57 5) 4 f h = heapS (aappend prog 44 44 (f.getD 21 .top) (f.getD 24 .top) h) f 25 ∧
 astep prog c (rg f57 5) 5 f h = pureS (some (f.getD 25 .top)) f 3 h ∧
 astep prog c (rg f57 6) 0 f h = pureS (abin prog .add 3 (.tmp 17) (.const (.int .i64 1)) (f.getD 17 .top) (.int .i64 1)) f 26 h ∧
 astep prog c (rg f57 6) 1 f h = pureS (some (f.getD 26 .top)) f 17 h ∧
 astep prog c (rg f57 7) 0 f h = pureS (afieldAt prog 49 (f.getD 1 .top) 8) f 27 h ∧
 astep prog c (rg f57 7) 1 f h = pureS (ldV prog 46 (f.getD 27 .top) h) f 28 h ∧
 astep prog c (rg f57 7) 2 f h = pureS (lenV (alen prog 46 (f.getD 28 .top))) f 29 h ∧
 astep prog c (rg f57 7) 3 f h = pureS (some (.int .i64 0)) f 30 h ∧
 astep prog c (rg f57 8) 0 f h = pureS (abin prog .lss 3 (.tmp 30) (.tmp 29) (f.getD 30 .top) (f.getD 29 .top)) f 31 h ∧
 astep prog c (rg f57 9) 0 f h = pureS (aindexAt prog 46 (f.getD 28 .top) (f.getD 30 .top)) f 32 h ∧
 astep prog c (rg f57 9) 1 f h = pureS (ldV prog 76 (f.getD 32 .top) h) f 33 h ∧
 astep prog c (rg f57 9) 2 f h = heapS (newV prog 76 h) f 7 ∧
 astep prog c (rg f57 9) 3 f h = heapN (stV prog 76 (f.getD 7 .top) (f.getD 33 .top) h) f ∧
 astep prog c (rg f57 10) 0 f h = pureS (some (f.getD 3 .top)) f 34 h ∧
 astep prog c (rg f57 10) 1 f h = pureS (afieldAt prog 76 (f.getD 7 .top) 0) f 35 h ∧
 astep prog c (rg f57 10) 2 f h = pureS (ldV prog 44 (f.getD 35 .top) h) f 36 h ∧
 astep prog c (rg f57 10) 3 f h = heapS (aappend prog 44 44 (f.getD 34 .top) (f.getD 36 .top) h) f 37 ∧
 astep prog c (rg f57 10) 4 f h = pureS (some (f.getD 37 .top)) f 3 h ∧
 astep prog c (rg f57 11) 0 f h = pureS (abin prog .add 3 (.tmp 30) (.const (.int .i64 1)) (f.getD 30 .top) (.int .i64 1)) f 38 h ∧
 astep prog c (rg f57 11) 1 f h = pureS (some (f.getD 38 .top)) f 30 h ∧
 astep prog c (rg f57 12) 0 f h = pureS (some (f.getD 3 .top)) f 39 h ∧
 astep prog c (rg f57 12) 1 f h = pureS (some (f.getD 39 .top)) f 2 h := by
  repeat' apply And.intro
  all_goals kernel_rfl

end Go.Proofs.Ytgnacecplaemlaa
namespace Go.Proofs.Ytgnacecplaemlaa
open AI Try
set_option linter.unusedVariables false
/-! ### 65: conch/conchlaw24.Much -/
noncomputable def lp65_3 : Code := (.seq (.seq (.region 3 (rg f65 3) false) (.cond (.tmp 14) .skip (.exit 0))) (.seq (.block 1 (.region 5 (rg f65 5) true)) (.region 4 (rg f65 4) false)))
def C65_3 (x0 x3 x4 : AV) : List AV := [x0,.top,.top,x3,x4,.top,.top,.top,.top,.top,.top,.top,.top,.top,.top,.top,.top,.top,.top,.top,.top,.top,.top,.top,.top,.top,.top,.top,.top,.top,.top,.top,.top,.top,.top,.top,.top,.top,.top,.top,.top,.top,.top,.top,.top,.top,.top,.top,.top]
theorem cl65_3 (x0 x1 x2 x3 x4 x5 x6 x7 x8 x9 x10 x11 x12 x13 x14 x15 x16 x17 x18 x19 x20 x21 x22 x23 x24 x25 x26 x27 x28 x29 x30 x31 x32 x33 x34 x35 x36 x37 x38 x39 x40 x41 x42 x43 x44 x45 x46 x47 x48 : AV) : aclear (HK 65) lp65_3 [x0,x1,x2,x3,x4,x5,x6,x7,x8,x9,x10,x11,x12,x13,x14,x15,x16,x17,x18,x19,x20,x21,x22,x23,x24,x25,x26,x27,x28,x29,x30,x31,x32,x33,x34,x35,x36,x37,x38,x39,x40,x41,x42,x43,x44,x45,x46,x47,x48] = C65_3 x0 x3 x4 := by kernel_rfl
noncomputable def cd65 : Code := (.seq (.region 0 (rg f65 0) false) (.seq (.region 1 (rg f65 1) false) (.seq (.seq (.region 2 (rg f65 2) false) (.block 0 (.loop lp65_3))) (.seq (.region 6 (rg f65 6) false) .ret))))
theorem ent65 (n : Nat) (a0 : AV) (h : AH) : X (n + 1) (.func 65) [a0] h = nrm h (fin1 (arun prog (HK 65) 65 (X n) n none cd65 [a0,.tup [],.tup [],.tup [],.tup [],.tup [],.tup [],.tup [],.tup [],.tup [],.tup [],.tup [],.tup [],.tup [],.tup [],.tup [],.tup [],.tup [],.tup [],.tup [],.tup [],.tup [],.tup [],.tup [],.tup [],.tup [],.tup [],.tup [],.tup [],.tup [],.tup [],.tup [],.tup [],.tup [],.tup [],.tup [],.tup [],.tup [],.tup [],.tup [],.tup [],.tup [],.tup [],.tup [],.tup [],.tup [],.tup [],.tup [],.tup []] h) 2) := by kernel_rfl
section
variable (K : Hint) (fid : FuncId) (call : ACall) (lf : Nat) (rd : Option Nat) (fr : List AV) (h : AH)
end
theorem R65 (K : Hint) (i : FuncId) (c : ACall) (n : Nat) (d : Option Nat) (f : List AV) (h : AH) :
 arun prog K i c n d (.region 0 (rg f65 0) false) f h = regR (aops prog c (rg f65 0) [0] f h) ∧
 arun prog K i c n d (.region 1 (rg f65 1) false) f h = regR (aops prog c (rg f65 1) [0,1,2] f h) ∧
 arun prog K i c n d (.region 2 (rg f65 2) false) f h = regR (aops prog c (rg f65 2) [0] f h) ∧
 arun prog K i c n d (.region 3 (rg f65 3) false) f h = regR (aops prog c (rg f65 3) [0,1,2,3,4,5,6,7] f h) ∧
 arun prog K i c n d (.region 4 (rg f65 4) false) f h = regR (aops prog c (rg f65 4) [0,1,2] f h) ∧
 arun prog K i c n d (.region 6 (rg f65 6) false) f h = regR (aops prog c (rg f65 6) [0,1] f h) := by
  repeat' apply And.intro
  all_goals kernel_rfl
theorem D65 (i : FuncId) (c : ACall) (n : Nat) (d : Option Nat) (f : List AV) (h : AH) :
 arun prog (HK 65) i c n d (.region 5 (rg f65 5) true) f h = regR (aopsS prog c (rg f65 5) [(0,false),(1,false),(2,false),(3,false),(4,false),(5,true),(6,true),(7,true),(8,true),(9,true),(10,true),(11,true),(12,true),(13,true),(14,true),(15,true),(16,true),(17,true),(18,true),(19,true),(20,true),(21,true),(22,true),(23,true),(24,true),(25,true),(26,true),(27,true),(28,true),(29,true),(30,false),(31,false)] f h) := by
  repeat' apply And.intro
  all_goals kernel_rfl
theorem S65 (c : ACall) (f : List AV) (h : AH) :
 astep prog c (rg f65 0) 0 f h = pureS (some (.int .i64 0)) f 2 h ∧
 astep prog c (rg f65 1) 0 f h = pureS (some (f.getD 0 .top)) f 5 h ∧
 astep prog c (rg f65 1) 1 f h = pureS (lenV (alen prog 58 (f.getD 5 .top))) f 6 h ∧
 astep prog c (rg f65 1) 2 f h = pureS (some (f.getD 6 .top)) f 3 h ∧
 astep prog c (rg f65 2) 0 f h = pureS (some (.int .i64 0)) f 4 h ∧
 astep prog c (rg f65 3) 0 f h = pureS (some (f.getD 4 .top)) f 7 h ∧
 astep prog c (rg f65 3) 1 f h = pureS (some (f.getD 0 .top)) f 8 h ∧
 astep prog c (rg f65 3) 2 f h = pureS (lenV (alen prog 58 (f.getD 8 .top))) f 9 h ∧
 astep prog c (rg f65 3) 3 f h = pureS (abin prog .lss 3 (.tmp 7) (.tmp 9) (f.getD 7 .top) (f.getD 9 .top)) f 10 h ∧
 astep prog c (rg f65 3) 4 f h = pureS (some (f.getD 10 .top)) f 11 h ∧
 astep prog c (rg f65 3) 5 f h = gdS (f.getD 11 .top) true (some (f.set 12 (.tup []),h)) (pureS (some (f.getD 3 .top)) f 12 h) ∧
 astep prog c (rg f65 3) 6 f h = gdS (f.getD 11 .top) true (some (f.set 13 (.tup []),h)) (pureS (abin prog .leq 3 (.tmp 12) (.const (.int .i64 1000)) (f.getD 12 .top) (.int .i64 1000)) f 13 h) ∧
 astep prog c (rg f65 3) 7 f h = pureS (pickV (f.getD 11 .top) (f.getD 13 .top) (.bool false)) f 14 h ∧
 astep prog c (rg f65 5) 0 f h = pureS (some (f.getD 3 .top)) f 17 h ∧
 astep prog c (rg f65 5) 1 f h = pureS (some (f.getD 0 .top)) f 18 h ∧
 astep prog c (rg f65 5) 2 f h = pureS (some (f.getD 4 .top)) f 19 h ∧
 astep prog c (rg f65 5) 3 f h = pureS (aindexAt prog 58 (f.getD 18 .top) (f.getD 19 .top)) f 20 h ∧
 astep prog c (rg f65 5) 4 f h = pureS (afieldAt prog 78 (f.getD 20 .top) 1) f 21 h ∧
 astep prog c (rg f65 5) 5 f h = pureS (ldV prog 9 (f.getD 21 .top) h) f 22 h ∧
 astep prog c (rg f65 5) 6 f h = pureS (lenV (alen prog 9 (f.getD 22 .top))) f 23 h ∧
 astep prog c (rg f65 5) 7 f h = pureS (abin prog .quo 3 (.tmp 23) (.const (.int .i64 10)) (f.getD 23 .top) (.int .i64 10)) f 24 h ∧
 astep prog c (rg f65 5) 8 f h = pureS (abin prog .add 3 (.tmp 17) (.tmp 24) (f.getD 17 .top) (f.getD 24 .top)) f 25 h ∧
 astep prog c (rg f65 5) 9 f h = pureS (some (f.getD 0 .top)) f 26 h ∧
 astep prog c (rg f65 5) 10 f h = pureS (some (f.getD 4 .top)) f 27 h ∧
 astep prog c (rg f65 5) 11 f h = pureS (aindexAt prog 58 (f.getD 26 .top) (f.getD 27 .top)) f 28 h ∧
 astep prog c (rg f65 5) 12 f h = pureS (afieldAt prog 78 (f.getD 28 .top) 2) f 29 h ∧
 astep prog c (rg f65 5) 13 f h = pureS (ldV prog 9 (f.getD 29 .top) h) f 30 h ∧
 astep prog c (rg f65 5) 14 f h = pureS (lenV (alen prog 9 (f.getD 30 .top))) f 31 h ∧
 astep prog c (rg f65 5) 15 f h = pureS (abin prog .quo 3 (.tmp 31) (.const (.int .i64 10)) (f.getD 31 .top) (.int .i64 10)) f 32 h ∧
 astep prog c (rg f65 5) 16 f h = pureS (abin prog .add 3 (.tmp 25) (.tmp 32) (f.getD 25 .top) (f.getD 32 .top)) f 33 h ∧
 astep prog c (rg f65 5) 17 f h = pureS (some (f.getD 0 .top)) f 34 h ∧
 astep prog c (rg f65 5) 18 f h = pureS (some (f.getD 4 .top)) f 35 h ∧
 astep prog c (rg f65 5) 19 f h = pureS (aindexAt prog 58 (f.getD 34 .top) (f.getD 35 .top)) f 36 h ∧
 astep prog c (rg f65 5) 20 f h = pureS (afieldAt prog 78 (f.getD 36 .top) 4) f 37 h ∧
 astep prog c (rg f65 5) 21 f h = pureS (ldV prog 47 (f.getD 37 .top) h) f 38 h ∧
 astep prog c (rg f65 5) 22 f h = pureS (lenV (alen prog 47 (f.getD 38 .top))) f 39 h ∧
 astep prog c (rg f65 5) 23 f h = pureS (abin prog .add 3 (.tmp 33) (.tmp 39) (f.getD 33 .top) (f.getD 39 .top)) f 40 h ∧
 astep prog c (rg f65 5) 24 f h = pureS (some (f.getD 0 .top)) f 41 h ∧
 astep prog c (rg f65 5) 25 f h = pureS (some (f.getD 4 .top)) f 42 h ∧
 astep prog c (rg f65 5) 26 f h = pureS (aindexAt prog 58 (f.getD 41 .top) (f.getD 42 .top)) f 43 h ∧
 astep prog c (rg f65 5) 27 f h = pureS (afieldAt prog 78 (f.getD 43 .top) 3) f 44 h ∧
 astep prog c (rg f65 5) 28 f h = pureS (ldV prog 58 (f.getD 44 .top) h) f 45 h ∧
 astep prog c (rg f65 5) 29 f h = heapS (callV c (.fn (.func 65) [] []) [(f.getD 45 .top)] h) f 46 ∧
 astep prog c (rg f65 5) 30 f h = pureS (abin prog .add 3 (.tmp 40) (.tmp 46) (f.getD 40 .top) (f.getD 46 .top)) f 47 h ∧
 astep prog c (rg f65 5) 31 f h = pureS (some (f.getD 47 .top)) f 3 h ∧
 astep prog c (rg f65 4) 0 f h = pureS (some (f.getD 4 .top)) f 15 h ∧
 astep prog c (rg f65 4) 1 f h = pureS (abin prog .add 3 (.tmp 15) (.const (.int .i64 1)) (f.getD 15 .top) (.int .i64 1)) f 16 h ∧
 astep prog c (rg f65 4) 2 f h = pureS (some (f.getD 16 .top)) f 4 h ∧
 astep prog c (rg f65 6) 0 f h = pureS (some (f.getD 3 .top)) f 48 h ∧
 astep prog c (rg f65 6) 1 f h = pureS (some (f.getD 48 .top)) f 2 h := by
  repeat' apply And.intro
  all_goals kernel_rfl

end Go.Proofs.Ytgnacecplaemlaa
namespace Go.Proofs.Ytgnacecplaemlaa
open AI Try
set_option linter.unusedVariables false
/-! ### 66: conch/conchlaw32.cmds -/
noncomputable def lp66_3 : Code := (.seq (.seq (.region 3 (rg f66 3) false) (.cond (.tmp 12) .skip (.exit 0))) (.seq (.block 1 (.seq (.seq (.region 5 (rg f66 5) false) (.cond (.tmp 21) (.region 6 (rg f66 6) false) .skip)) (.region 7 (rg f66 7) false))) (.region 4 (rg f66 4) false)))
def C66_3 (x0 x3 x4 : AV) : List AV := [x0,.top,.top,x3,x4,.top,.top,.top,.top,.top,.top,.top,.top,.top,.top,.top,.top,.top,.top,.top,.top,.top,.top,.top,.top,.top,.top,.top,.top,.top,.top,.top,.top,.top,.top,.top,.top,.top,.top]
theorem cl66_3 (x0 x1 x2 x3 x4 x5 x6 x7 x8 x9 x10 x11 x12 x13 x14 x15 x16 x17 x18 x19 x20 x21 x22 x23 x24 x25 x26 x27 x28 x29 x30 x31 x32 x33 x34 x35 x36 x37 x38 : AV) : aclear (HK 66) lp66_3 [x0,x1,x2,x3,x4,x5,x6,x7,x8,x9,x10,x11,x12,x13,x14,x15,x16,x17,x18,x19,x20,x21,x22,x23,x24,x25,x26,x27,x28,x29,x30,x31,x32,x33,x34,x35,x36,x37,x38] = C66_3 x0 x3 x4 := by kernel_rfl
noncomputable def cd66 : Code := (.seq (.region 0 (rg f66 0) false) (.seq (.region 1 (rg f66 1) false) (.seq (.seq (.region 2 (rg f66 2) false) (.block 0 (.loop lp66_3))) (.seq (.region 8 (rg f66 8) false) .ret))))
theorem ent66 (n : Nat) (a0 : AV) (h : AH) : X (n + 1) (.func 66) [a0] h = nrm h (fin1 (arun prog (HK 66) 66 (X n) n none cd66 [a0,.tup [],.tup [],.tup [],.tup [],.tup [],.tup [],.tup [],.tup [],.tup [],.tup [],.tup [],.tup [],.tup [],.tup [],.tup [],.tup [],.tup [],.tup [],.tup [],.tup [],.tup [],.tup [],.tup [],.tup [],.tup [],.tup [],.tup [],.tup [],.tup [],.tup [],.tup [],.tup [],.tup [],.tup [],.tup [],.tup [],.tup [],.tup []] h) 2) := by kernel_rfl
section
variable (K : Hint) (fid : FuncId) (call : ACall) (lf : Nat) (rd : Option Nat) (fr : List AV) (h : AH)
end
theorem R66 (K : Hint) (i : FuncId) (c : ACall) (n : Nat) (d : Option Nat) (f : List AV) (h : AH) :
 arun prog K i c n d (.region 0 (rg f66 0) false) f h = regR (aops prog c (rg f66 0) [0] f h) ∧
 arun prog K i c n d (.region 1 (rg f66 1) false) f h = regR (aops prog c (rg f66 1) [0] f h) ∧
 arun prog K i c n d (.region 2 (rg f66 2) false) f h = regR (aops prog c (rg f66 2) [0] f h) ∧
 arun prog K i c n d (.region 3 (rg f66 3) false) f h = regR (aops prog c (rg f66 3) [0,1,2,3,4,5,6,7] f h) ∧
 arun prog K i c n d (.region 5 (rg f66 5) false) f h = regR (aops prog c (rg f66 5) [0,1,2,3,4,5,6] f h) ∧
 arun prog K i c n d (.region 6 (rg f66 6) false) f h = regR (aops prog c (rg f66 6) [0,1,2,3,4,5,6,7,8] f h) ∧
 arun prog K i c n d (.region 7 (rg f66 7) false) f h = regR (aops prog c (rg f66 7) [0,1,2,3,4,5,6,7,8] f h) ∧
 arun prog K i c n d (.region 4 (rg f66 4) false) f h = regR (aops prog c (rg f66 4) [0,1,2] f h) ∧
 arun prog K i c n d (.region 8 (rg f66 8) false) f h = regR (aops prog c (rg f66 8) [0,1] f h) := by
  repeat' apply And.intro
  all_goals kernel_rfl
theorem S66 (c : ACall) (f : List AV) (h : AH) :
 astep prog c (rg f66 0) 0 f h = pureS (some (.nilSl)) f 2 h ∧
 astep prog c (rg f66 1) 0 f h = pureS (some (.nilSl)) f 3 h ∧
 astep prog c (rg f66 2) 0 f h = pureS (some (.int .i64 0)) f 4 h ∧
 astep prog c (rg f66 3) 0 f h = pureS (some (f.getD 4 .top)) f 5 h ∧
 astep prog c (rg f66 3) 1 f h = pureS (some (f.getD 0 .top)) f 6 h ∧
 astep prog c (rg f66 3) 2 f h = pureS (lenV (alen prog 58 (f.getD 6 .top))) f 7 h ∧
 astep prog c (rg f66 3) 3 f h = pureS (abin prog .lss 3 (.tmp 5) (.tmp 7) (f.getD 5 .top) (f.getD 7 .top)) f 8 h ∧
 astep prog c (rg f66 3) 4 f h = pureS (some (f.getD 8 .top)) f 9 h ∧
 astep prog c (rg f66 3) 5 f h = gdS (f.getD 9 .top) true (some (f.set 10 (.tup []),h)) (pureS (some (f.getD 4 .top)) f 10 h) ∧
 astep prog c (rg f66 3) 6 f h = gdS (f.getD 9 .top) true (some (f.set 11 (.tup []),h)) (pureS (abin prog .lss 3 (.tmp 10) (.const (.int .i64 1000)) (f.getD 10 .top) (.int .i64 1000)) f 11 h) ∧
 astep prog c (rg f66 3) 7 f h = pureS (pickV (f.getD 9 .top) (f.getD 11 .top) (.bool false)) f 12 h ∧
 astep prog c (rg f66 5) 0 f h = pureS (some (f.getD 0 .top)) f 15 h ∧
 astep prog c (rg f66 5) 1 f h = pureS (some (f.getD 4 .top)) f 16 h ∧
 astep prog c (rg f66 5) 2 f h = pureS (aindexAt prog 58 (f.getD 15 .top) (f.getD 16 .top)) f 17 h ∧
 astep prog c (rg f66 5) 3 f h = pureS (afieldAt prog 78 (f.getD 17 .top) 4) f 18 h ∧
 astep prog c (rg f66 5) 4 f h = pureS (ldV prog 47 (f.getD 18 .top) h) f 19 h ∧
 astep prog c (rg f66 5) 5 f h = pureS (lenV (alen prog 47 (f.getD 19 .top))) f 20 h ∧
 astep prog c (rg f66 5) 6 f h = pureS (abin prog .gtr 3 (.tmp 20) (.const (.int .i64 0)) (f.getD 20 .top) (.int .i64 0)) f 21 h ∧
 astep prog c (rg f66 6) 0 f h = pureS (some (f.getD 3 .top)) f 22 h ∧
 astep prog c (rg f66 6) 1 f h = pureS (some (f.getD 0 .top)) f 23 h ∧
 astep prog c (rg f66 6) 2 f h = pureS (some (f.getD 4 .top)) f 24 h ∧
 astep prog c (rg f66 6) 3 f h = pureS (aindexAt prog 58 (f.getD 23 .top) (f.getD 24 .top)) f 25 h ∧
 astep prog c (rg f66 6) 4 f h = pureS (afieldAt prog 78 (f.getD 25 .top) 4) f 26 h ∧
 astep prog c (rg f66 6) 5 f h = pureS (ldV prog 47 (f.getD 26 .top) h) f 27 h ∧
 astep prog c (rg f66 6) 6 f h = heapS (bslV prog 89 1 [(0,(f.getD 27 .top))] h) f 28 ∧
 astep prog c (rg f66 6) 7 f h = heapS (aappend prog 89 89 (f.getD 22 .top) (f.getD 28 .top) h) f 29 ∧
 astep prog c (rg f66 6) 8 f h = pureS (some (f.getD 29 .top)) f 3 h ∧
 astep prog c (rg f66 7) 0 f h = pureS (some (f.getD 3 .top)) f 30 h ∧
 astep prog c (rg f66 7) 1 f h = pureS (some (f.getD 0 .top)) f 31 h ∧
 astep prog c (rg f66 7) 2 f h = pureS (some (f.getD 4 .top)) f 32 h ∧
 astep prog c (rg f66 7) 3 f h = pureS (aindexAt prog 58 (f.getD 31 .top) (f.getD 32 .top)) f 33 h ∧
 astep prog c (rg f66 7) 4 f h = pureS (afieldAt prog 78 (f.getD 33 .top) 3) f 34 h ∧
 astep prog c (rg f66 7) 5 f h = pureS (ldV prog 58 (f.getD 34 .top) h) f 35 h ∧
 astep prog c (rg f66 7) 6 f h = heapS (callV c (.fn (.func 66) [] []) [(f.getD 35 .top)] h) f 36 ∧
 astep prog c (rg f66 7) 7 f h = heapS (aappend prog 89 89 (f.getD 30 .top) (f.getD 36 .top) h) f 37 ∧
 astep prog c (rg f66 7) 8 f h = pureS (some (f.getD 37 .top)) f 3 h ∧
 astep prog c (rg f66 4) 0 f h = pureS (some (f.getD 4 .top)) f 13 h ∧
 astep prog c (rg f66 4) 1 f h = pureS (abin prog .add 3 (.tmp 13) (.const (.int .i64 1)) (f.getD 13 .top) (.int .i64 1)) f 14 h ∧
 astep prog c (rg f66 4) 2 f h = pureS (some (f.getD 14 .top)) f 4 h ∧
 astep prog c (rg f66 8) 0 f h = pureS (some (f.getD 3 .top)) f 38 h ∧
 astep prog c (rg f66 8) 1 f h = pureS (some (f.getD 38 .top)) f 2 h := by
  repeat' apply And.intro
  all_goals kernel_rfl

end Go.Proofs.Ytgnacecplaemlaa
namespace Go.Proofs.Ytgnacecplaemlaa
open AI Try
set_option linter.unusedVariables false
/-! ### 67: conch/conchref24.Cmds -/
noncomputable def lp67_3 : Code := (.seq (.seq (.region 3 (rg f67 3) false) (.cond (.tmp 8) .skip (.exit 0))) (.seq (.block 1 (.seq (.seq (.region 5 (rg f67 5) false) (.cond (.tmp 16) (.region 6 (rg f67 6) false) .skip)) (.region 7 (rg f67 7) false))) (.region 4 (rg f67 4) false)))
def C67_3 (x0 x3 x4 : AV) : List AV := [x0,.top,.top,x3,x4,.top,.top,.top,.top,.top,.top,.top,.top,.top,.top,.top,.top,.top,.top,.top,.top,.top,.top,.top,.top,.top,.top,.top,.top,.top,.top,.top,.top,.top]
theorem cl67_3 (x0 x1 x2 x3 x4 x5 x6 x7 x8 x9 x10 x11 x12 x13 x14 x15 x16 x17 x18 x19 x20 x21 x22 x23 x24 x25 x26 x27 x28 x29 x30 x31 x32 x33 : AV) : aclear (HK 67) lp67_3 [x0,x1,x2,x3,x4,x5,x6,x7,x8,x9,x10,x11,x12,x13,x14,x15,x16,x17,x18,x19,x20,x21,x22,x23,x24,x25,x26,x27,x28,x29,x30,x31,x32,x33] = C67_3 x0 x3 x4 := by kernel_rfl
noncomputable def cd67 : Code := (.seq (.region 0 (rg f67 0) false) (.seq (.region 1 (rg f67 1) false) (.seq (.seq (.region 2 (rg f67 2) false) (.block 0 (.loop lp67_3))) (.seq (.region 8 (rg f67 8) false) .ret))))
theorem ent67 (n : Nat) (a0 : AV) (h : AH) : X (n + 1) (.func 67) [a0] h = nrm h (fin1 (arun prog (HK 67) 67 (X n) n none cd67 [a0,.tup [],.tup [],.tup [],.tup [],.tup [],.tup [],.tup [],.tup [],.tup [],.tup [],.tup [],.tup [],.tup [],.tup [],.tup [],.tup [],.tup [],.tup [],.tup [],.tup [],.tup [],.tup [],.tup [],.tup [],.tup [],.tup [],.tup [],.tup [],.tup [],.tup [],.tup [],.tup [],.tup []] h) 2) := by kernel_rfl
section
variable (K : Hint) (fid : FuncId) (call : ACall) (lf : Nat) (rd : Option Nat) (fr : List AV) (h : AH)
end
theorem R67 (K : Hint) (i : FuncId) (c : ACall) (n : Nat) (d : Option Nat) (f : List AV) (h : AH) :
 arun prog K i c n d (.region 0 (rg f67 0) false) f h = regR (aops prog c (rg f67 0) [0] f h) ∧
 arun prog K i c n d (.region 1 (rg f67 1) false) f h = regR (aops prog c (rg f67 1) [0] f h) ∧
 arun prog K i c n d (.region 2 (rg f67 2) false) f h = regR (aops prog c (rg f67 2) [0] f h) ∧
 arun prog K i c n d (.region 3 (rg f67 3) false) f h = regR (aops prog c (rg f67 3) [0,1,2,3] f h) ∧
 arun prog K i c n d (.region 5 (rg f67 5) false) f h = regR (aops prog c (rg f67 5) [0,1,2,3,4,5] f h) ∧
 arun prog K i c n d (.region 6 (rg f67 6) false) f h = regR (aops prog c (rg f67 6) [0,1,2,3,4,5,6,7,8] f h) ∧
 arun prog K i c n d (.region 7 (rg f67 7) false) f h = regR (aops prog c (rg f67 7) [0,1,2,3,4,5,6,7,8] f h) ∧
 arun prog K i c n d (.region 4 (rg f67 4) false) f h = regR (aops prog c (rg f67 4) [0,1,2] f h) ∧
 arun prog K i c n d (.region 8 (rg f67 8) false) f h = regR (aops prog c (rg f67 8) [0,1] f h) := by
  repeat' apply And.intro
  all_goals kernel_rfl
theorem S67 (c : ACall) (f : List AV) (h : AH) :
 astep prog c (rg f67 0) 0 f h = pureS (some (.nilSl)) f 2 h ∧
 astep prog c (rg f67 1) 0 f h = pureS (some (.nilSl)) f 3 h ∧
 astep prog c (rg f67 2) 0 f h = pureS (some (.int .i64 0)) f 4 h ∧
 astep prog c (rg f67 3) 0 f h = pureS (some (f.getD 4 .top)) f 5 h ∧
 astep prog c (rg f67 3) 1 f h = pureS (some (f.getD 0 .top)) f 6 h ∧
 astep prog c (rg f67 3) 2 f h = pureS (lenV (alen prog 58 (f.getD 6 .top))) f 7 h ∧
 astep prog c (rg f67 3) 3 f h = pureS (abin prog .lss 3 (.tmp 5) (.tmp 7) (f.getD 5 .top) (f.getD 7 .top)) f 8 h ∧
 astep prog c (rg f67 5) 0 f h = pureS (some (f.getD 0 .top)) f 11 h ∧
 astep prog c (rg f67 5) 1 f h = pureS (some (f.getD 4 .top)) f 12 h ∧
 astep prog c (rg f67 5) 2 f h = pureS (aindexAt prog 58 (f.getD 11 .top) (f.getD 12 .top)) f 13 h ∧
 astep prog c (rg f67 5) 3 f h = pureS (afieldAt prog 78 (f.getD 13 .top) 0) f 14 h ∧
 astep prog c (rg f67 5) 4 f h = pureS (ldV prog 3 (f.getD 14 .top) h) f 15 h ∧
 astep prog c (rg f67 5) 5 f h = pureS (abin prog .eql 3 (.tmp 15) (.const (.int .i64 6)) (f.getD 15 .top) (.int .i64 6)) f 16 h ∧
 astep prog c (rg f67 6) 0 f h = pureS (some (f.getD 3 .top)) f 17 h ∧
 astep prog c (rg f67 6) 1 f h = pureS (some (f.getD 0 .top)) f 18 h ∧
 astep prog c (rg f67 6) 2 f h = pureS (some (f.getD 4 .top)) f 19 h ∧
 astep prog c (rg f67 6) 3 f h = pureS (aindexAt prog 58 (f.getD 18 .top) (f.getD 19 .top)) f 20 h ∧
 astep prog c (rg f67 6) 4 f h = pureS (afieldAt prog 78 (f.getD 20 .top) 4) f 21 h ∧
 astep prog c (rg f67 6) 5 f h = pureS (ldV prog 47 (f.getD 21 .top) h) f 22 h ∧
 astep prog c (rg f67 6) 6 f h = heapS (bslV prog 89 1 [(0,(f.getD 22 .top))] h) f 23 ∧
 astep prog c (rg f67 6) 7 f h = heapS (aappend prog 89 89 (f.getD 17 .top) (f.getD 23 .top) h) f 24 ∧
 astep prog c (rg f67 6) 8 f h = pureS (some (f.getD 24 .top)) f 3 h ∧
 astep prog c (rg f67 7) 0 f h = pureS (some (f.getD 3 .top)) f 25 h ∧
 astep prog c (rg f67 7) 1 f h = pureS (some (f.getD 0 .top)) f 26 h ∧
 astep prog c (rg f67 7) 2 f h = pureS (some (f.getD 4 .top)) f 27 h ∧
 astep prog c (rg f67 7) 3 f h = pureS (aindexAt prog 58 (f.getD 26 .top) (f.getD 27 .top)) f 28 h ∧
 astep prog c (rg f67 7) 4 f h = pureS (afieldAt prog 78 (f.getD 28 .top) 3) f 29 h ∧
 astep prog c (rg f67 7) 5 f h = pureS (ldV prog 58 (f.getD 29 .top) h) f 30 h ∧
 astep prog c (rg f67 7) 6 f h = heapS (callV c (.fn (.func 67) [] []) [(f.getD 30 .top)] h) f 31 ∧
 astep prog c (rg f67 7) 7 f h = heapS (aappend prog 89 89 (f.getD 25 .top) (f.getD 31 .top) h) f 32 ∧
 astep prog c (rg f67 7) 8 f h = pureS (some (f.getD 32 .top)) f 3 h ∧
 astep prog c (rg f67 4) 0 f h = pureS (some (f.getD 4 .top)) f 9 h ∧
 astep prog c (rg f67 4) 1 f h = pureS (abin prog .add 3 (.tmp 9) (.const (.int .i64 1)) (f.getD 9 .top) (.int .i64 1)) f 10 h ∧
 astep prog c (rg f67 4) 2 f h = pureS (some (f.getD 10 .top)) f 4 h ∧
 astep prog c (rg f67 8) 0 f h = pureS (some (f.getD 3 .top)) f 33 h ∧
 astep prog c (rg f67 8) 1 f h = pureS (some (f.getD 33 .top)) f 2 h := by
  repeat' apply And.intro
  all_goals kernel_rfl

end Go.Proofs.Ytgnacecplaemlaa
namespace Go.Proofs.Ytgnacecplaemlaa
open AI Try
set_option linter.unusedVariables false
/-! ### 68: conch/walk.All$1 -/
noncomputable def ra68_3 : Code := (.region 3 (rg f68 3) false)
noncomputable def ra68_5 : Code := (.region 5 (rg f68 5) false)
noncomputable def rb68_6 : Code := (.block 3 (.seq (.region 6 (rg f68 6) false) (.cond (.tmp 18) .ret .skip)))
noncomputable def rb68_4 : Code := (.block 1 (.seq (.region 4 (rg f68 4) false) (.block 2 (.rangeFunc (.tmp 13) #[14] ra68_5 rb68_6))))
noncomputable def cd68 : Code := (.seq (.region 0 (rg f68 0) false) (.seq (.seq (.region 1 (rg f68 1) false) (.cond (.tmp 8) .ret .skip)) (.seq (.region 2 (rg f68 2) false) (.block 0 (.rangeFunc (.tmp 10) #[11] ra68_3 rb68_4)))))
theorem ent68 (n : Nat) (a0 a1 : AV) (h : AH) : X (n + 1) (.func 68) [a0,a1] h = (fin0 (arun prog (HK 68) 68 (X n) n none cd68 [a0,a1,.tup [],.tup [],.tup [],.tup [],.tup [],.tup [],.tup [],.tup [],.tup [],.tup [],.tup [],.tup [],.tup [],.tup [],.tup [],.tup [],.tup []] h) ) := by kernel_rfl
section
variable (K : Hint) (fid : FuncId) (call : ACall) (lf : Nat) (rd : Option Nat) (fr : List AV) (h : AH)
end
theorem R68 (K : Hint) (i : FuncId) (c : ACall) (n : Nat) (d : Option Nat) (f : List AV) (h : AH) :
 arun prog K i c n d (.region 0 (rg f68 0) false) f h = regR (aops prog c (rg f68 0) [0] f h) ∧
 arun prog K i c n d (.region 1 (rg f68 1) false) f h = regR (aops prog c (rg f68 1) [0,1,2,3] f h) ∧
 arun prog K i c n d (.region 2 (rg f68 2) false) f h = regR (aops prog c (rg f68 2) [0,1] f h) ∧
 arun prog K i c n d (.region 3 (rg f68 3) false) f h = regR (aops prog c (rg f68 3) [0,1] f h) ∧
 arun prog K i c n d (.region 4 (rg f68 4) false) f h = regR (aops prog c (rg f68 4) [0,1] f h) ∧
 arun prog K i c n d (.region 5 (rg f68 5) false) f h = regR (aops prog c (rg f68 5) [0,1] f h) ∧
 arun prog K i c n d (.region 6 (rg f68 6) false) f h = regR (aops prog c (rg f68 6) [0,1,2,3] f h) := by
  repeat' apply And.intro
  all_goals kernel_rfl
theorem S68 (c : ACall) (f : List AV) (h : AH) :
 astep prog c (rg f68 0) 0 f h = heapS (boxV (f.getD 0 .top) h) f 2 ∧
 astep prog c (rg f68 1) 0 f h = pureS (ldV prog 53 (f.getD 2 .top) h) f 5 h ∧
 astep prog c (rg f68 1) 1 f h = pureS (ldV prog 49 (f.getD 1 .top) h) f 6 h ∧
 astep prog c (rg f68 1) 2 f h = heapS (callV c (f.getD 5 .top) [(f.getD 6 .top)] h) f 7 ∧
 astep prog c (rg f68 1) 3 f h = pureS (aun .not (f.getD 7 .top)) f 8 h ∧
 astep prog c (rg f68 2) 0 f h = pureS (ldV prog 49 (f.getD 1 .top) h) f 9 h ∧
 astep prog c (rg f68 2) 1 f h = heapS (callV c (.fn (.func 53) [] []) [(f.getD 9 .top)] h) f 10 ∧
 astep prog c (rg f68 3) 0 f h = heapS (newV prog 49 h) f 3 ∧
 astep prog c (rg f68 3) 1 f h = heapN (stV prog 49 (f.getD 3 .top) (f.getD 11 .top) h) f ∧
 astep prog c (rg f68 4) 0 f h = pureS (ldV prog 49 (f.getD 3 .top) h) f 12 h ∧
 astep prog c (rg f68 4) 1 f h = heapS (callV c (.fn (.func 51) [] []) [(f.getD 12 .top)] h) f 13 ∧
 astep prog c (rg f68 5) 0 f h = heapS (newV prog 49 h) f 4 ∧
 astep prog c (rg f68 5) 1 f h = heapN (stV prog 49 (f.getD 4 .top) (f.getD 14 .top) h) f ∧
 astep prog c (rg f68 6) 0 f h = pureS (ldV prog 53 (f.getD 2 .top) h) f 15 h ∧
 astep prog c (rg f68 6) 1 f h = pureS (ldV prog 49 (f.getD 4 .top) h) f 16 h ∧
 astep prog c (rg f68 6) 2 f h = heapS (callV c (f.getD 15 .top) [(f.getD 16 .top)] h) f 17 ∧
 astep prog c (rg f68 6) 3 f h = pureS (aun .not (f.getD 17 .top)) f 18 h := by
  repeat' apply And.intro
  all_goals kernel_rfl

end Go.Proofs.Ytgnacecplaemlaa
namespace Go.Proofs.Ytgnacecplaemlaa
open AI Try
set_option linter.unusedVariables false
/-! ### 69: conch/walk.below$1 -/
noncomputable def lp69_7 : Code := (.seq (.region 7 (rg f69 7) false) (.seq (.cond (.tmp 30) .skip (.exit 4)) (.seq (.block 5 (.seq (.region 8 (rg f69 8) false) (.seq (.region 9 (rg f69 9) false) (.cond (.tmp 36) .ret .skip)))) (.region 10 (rg f69 10) false))))
def C69_7 (x0 x1 x14 x15 x16 x21 x22 x23 x27 x28 x29 : AV) : List AV := [x0,x1,.top,.top,.top,.top,.top,.top,.top,.top,.top,.top,.top,.top,x14,x15,x16,.top,.top,.top,.top,x21,x22,x23,.top,.top,.top,x27,x28,x29,.top,.top,.top,.top,.top,.top,.top,.top,.top,.top,.top,.top,.top,.top,.top,.top,.top,.top,.top,.top,.top,.top,.top,.top,.top,.top,.top,.top,.top,.top,.top,.top,.top,.top,.top]
theorem cl69_7 (x0 x1 x2 x3 x4 x5 x6 x7 x8 x9 x10 x11 x12 x13 x14 x15 x16 x17 x18 x19 x20 x21 x22 x23 x24 x25 x26 x27 x28 x29 x30 x31 x32 x33 x34 x35 x36 x37 x38 x39 x40 x41 x42 x43 x44 x45 x46 x47 x48 x49 x50 x51 x52 x53 x54 x55 x56 x57 x58 x59 x60 x61 x62 x63 x64 : AV) : aclear (HK 69) lp69_7 [x0,x1,x2,x3,x4,x5,x6,x7,x8,x9,x10,x11,x12,x13,x14,x15,x16,x17,x18,x19,x20,x21,x22,x23,x24,x25,x26,x27,x28,x29,x30,x31,x32,x33,x34,x35,x36,x37,x38,x39,x40,x41,x42,x43,x44,x45,x46,x47,x48,x49,x50,x51,x52,x53,x54,x55,x56,x57,x58,x59,x60,x61,x62,x63,x64] = C69_7 x0 x1 x14 x15 x16 x21 x22 x23 x27 x28 x29 := by kernel_rfl
noncomputable def lp69_4 : Code := (.seq (.region 4 (rg f69 4) false) (.seq (.cond (.tmp 24) .skip (.exit 2)) (.seq (.block 3 (.seq (.region 5 (rg f69 5) false) (.seq (.region 6 (rg f69 6) false) (.block 4 (.loop lp69_7))))) (.region 11 (rg f69 11) false))))
def C69_4 (x0 x1 x14 x15 x16 x21 x22 x23 : AV) : List AV := [x0,x1,.top,.top,.top,.top,.top,.top,.top,.top,.top,.top,.top,.top,x14,x15,x16,.top,.top,.top,.top,x21,x22,x23,.top,.top,.top,.top,.top,.top,.top,.top,.top,.top,.top,.top,.top,.top,.top,.top,.top,.top,.top,.top,.top,.top,.top,.top,.top,.top,.top,.top,.top,.top,.top,.top,.top,.top,.top,.top,.top,.top,.top,.top,.top]
theorem cl69_4 (x0 x1 x2 x3 x4 x5 x6 x7 x8 x9 x10 x11 x12 x13 x14 x15 x16 x17 x18 x19 x20 x21 x22 x23 x24 x25 x26 x27 x28 x29 x30 x31 x32 x33 x34 x35 x36 x37 x38 x39 x40 x41 x42 x43 x44 x45 x46 x47 x48 x49 x50 x51 x52 x53 x54 x55 x56 x57 x58 x59 x60 x61 x62 x63 x64 : AV) : aclear (HK 69) lp69_4 [x0,x1,x2,x3,x4,x5,x6,x7,x8,x9,x10,x11,x12,x13,x14,x15,x16,x17,x18,x19,x20,x21,x22,x23,x24,x25,x26,x27,x28,x29,x30,x31,x32,x33,x34,x35,x36,x37,x38,x39,x40,x41,x42,x43,x44,x45,x46,x47,x48,x49,x50,x51,x52,x53,x54,x55,x56,x57,x58,x59,x60,x61,x62,x63,x64] = C69_4 x0 x1 x14 x15 x16 x21 x22 x23 := by kernel_rfl
noncomputable def lp69_1 : Code := (.seq (.region 1 (rg f69 1) false) (.seq (.cond (.tmp 17) .skip (.exit 0)) (.seq (.block 1 (.seq (.region 2 (rg f69 2) false) (.seq (.region 3 (rg f69 3) false) (.block 2 (.loop lp69_4))))) (.region 12 (rg f69 12) false))))
def C69_1 (x0 x1 x14 x15 x16 : AV) : List AV := [x0,x1,.top,.top,.top,.top,.top,.top,.top,.top,.top,.top,.top,.top,x14,x15,x16,.top,.top,.top,.top,.top,.top,.top,.top,.top,.top,.top,.top,.top,.top,.top,.top,.top,.top,.top,.top,.top,.top,.top,.top,.top,.top,.top,.top,.top,.top,.top,.top,.top,.top,.top,.top,.top,.top,.top,.top,.top,.top,.top,.top,.top,.top,.top,.top]
theorem cl69_1 (x0 x1 x2 x3 x4 x5 x6 x7 x8 x9 x10 x11 x12 x13 x14 x15 x16 x17 x18 x19 x20 x21 x22 x23 x24 x25 x26 x27 x28 x29 x30 x31 x32 x33 x34 x35 x36 x37 x38 x39 x40 x41 x42 x43 x44 x45 x46 x47 x48 x49 x50 x51 x52 x53 x54 x55 x56 x57 x58 x59 x60 x61 x62 x63 x64 : AV) : aclear (HK 69) lp69_1 [x0,x1,x2,x3,x4,x5,x6,x7,x8,x9,x10,x11,x12,x13,x14,x15,x16,x17,x18,x19,x20,x21,x22,x23,x24,x25,x26,x27,x28,x29,x30,x31,x32,x33,x34,x35,x36,x37,x38,x39,x40,x41,x42,x43,x44,x45,x46,x47,x48,x49,x50,x51,x52,x53,x54,x55,x56,x57,x58,x59,x60,x61,x62,x63,x64] = C69_1 x0 x1 x14 x15 x16 := by kernel_rfl
noncomputable def lp69_14 : Code := (.seq (.region 14 (rg f69 14) false) (.seq (.cond (.tmp 44) .skip (.exit 6)) (.seq (.block 7 (.seq (.region 15 (rg f69 15) false) (.seq (.region 16 (rg f69 16) false) (.cond (.tmp 51) .ret .skip)))) (.region 17 (rg f69 17) false))))
def C69_14 (x0 x1 x41 x42 x43 : AV) : List AV := [x0,x1,.top,.top,.top,.top,.top,.top,.top,.top,.top,.top,.top,.top,.top,.top,.top,.top,.top,.top,.top,.top,.top,.top,.top,.top,.top,.top,.top,.top,.top,.top,.top,.top,.top,.top,.top,.top,.top,.top,.top,x41,x42,x43,.top,.top,.top,.top,.top,.top,.top,.top,.top,.top,.top,.top,.top,.top,.top,.top,.top,.top,.top,.top,.top]
theorem cl69_14 (x0 x1 x2 x3 x4 x5 x6 x7 x8 x9 x10 x11 x12 x13 x14 x15 x16 x17 x18 x19 x20 x21 x22 x23 x24 x25 x26 x27 x28 x29 x30 x31 x32 x33 x34 x35 x36 x37 x38 x39 x40 x41 x42 x43 x44 x45 x46 x47 x48 x49 x50 x51 x52 x53 x54 x55 x56 x57 x58 x59 x60 x61 x62 x63 x64 : AV) : aclear (HK 69) lp69_14 [x0,x1,x2,x3,x4,x5,x6,x7,x8,x9,x10,x11,x12,x13,x14,x15,x16,x17,x18,x19,x20,x21,x22,x23,x24,x25,x26,x27,x28,x29,x30,x31,x32,x33,x34,x35,x36,x37,x38,x39,x40,x41,x42,x43,x44,x45,x46,x47,x48,x49,x50,x51,x52,x53,x54,x55,x56,x57,x58,x59,x60,x61,x62,x63,x64] = C69_14 x0 x1 x41 x42 x43 := by kernel_rfl
noncomputable def lp69_19 : Code := (.seq (.region 19 (rg f69 19) false) (.seq (.cond (.tmp 57) .skip (.exit 8)) (.seq (.block 9 (.seq (.region 20 (rg f69 20) false) (.seq (.region 21 (rg f69 21) false) (.cond (.tmp 63) .ret .skip)))) (.region 22 (rg f69 22) false))))
def C69_19 (x0 x54 x55 x56 : AV) : List AV := [x0,.top,.top,.top,.top,.top,.top,.top,.top,.top,.top,.top,.top,.top,.top,.top,.top,.top,.top,.top,.top,.top,.top,.top,.top,.top,.top,.top,.top,.top,.top,.top,.top,.top,.top,.top,.top,.top,.top,.top,.top,.top,.top,.top,.top,.top,.top,.top,.top,.top,.top,.top,.top,.top,x54,x55,x56,.top,.top,.top,.top,.top,.top,.top,.top]
theorem cl69_19 (x0 x1 x2 x3 x4 x5 x6 x7 x8 x9 x10 x11 x12 x13 x14 x15 x16 x17 x18 x19 x20 x21 x22 x23 x24 x25 x26 x27 x28 x29 x30 x31 x32 x33 x34 x35 x36 x37 x38 x39 x40 x41 x42 x43 x44 x45 x46 x47 x48 x49 x50 x51 x52 x53 x54 x55 x56 x57 x58 x59 x60 x61 x62 x63 x64 : AV) : aclear (HK 69) lp69_19 [x0,x1,x2,x3,x4,x5,x6,x7,x8,x9,x10,x11,x12,x13,x14,x15,x16,x17,x18,x19,x20,x21,x22,x23,x24,x25,x26,x27,x28,x29,x30,x31,x32,x33,x34,x35,x36,x37,x38,x39,x40,x41,x42,x43,x44,x45,x46,x47,x48,x49,x50,x51,x52,x53,x54,x55,x56,x57,x58,x59,x60,x61,x62,x63,x64] = C69_19 x0 x54 x55 x56 := by kernel_rfl
noncomputable def cd69 : Code := (.seq (.seq (.region 0 (rg f69 0) false) (.block 0 (.loop lp69_1))) (.seq (.seq (.region 13 (rg f69 13) false) (.block 6 (.loop lp69_14))) (.seq (.region 18 (rg f69 18) false) (.block 8 (.loop lp69_19)))))
theorem ent69 (n : Nat) (a0 a1 : AV) (h : AH) : X (n + 1) (.func 69) [a0,a1] h = (fin0 (arun prog (HK 69) 69 (X n) n none cd69 [a0,a1,.tup [],.tup [],.tup [],.tup [],.tup [],.tup [],.tup [],.tup [],.tup [],.tup [],.tup [],.tup [],.tup [],.tup [],.tup [],.tup [],.tup [],.tup [],.tup [],.tup [],.tup [],.tup [],.tup [],.tup [],.tup [],.tup [],.tup [],.tup [],.tup [],.tup [],.tup [],.tup [],.tup [],.tup [],.tup [],.tup [],.tup [],.tup [],.tup [],.tup [],.tup [],.tup [],.tup [],.tup [],.tup [],.tup [],.tup [],.tup [],.tup [],.tup [],.tup [],.tup [],.tup [],.tup [],.tup [],.tup [],.tup [],.tup [],.tup [],.tup [],.tup [],.tup [],.tup []] h) ) := by kernel_rfl
section
variable (K : Hint) (fid : FuncId) (call : ACall) (lf : Nat) (rd : Option Nat) (fr : List AV) (h : AH)
end
theorem R69 (K : Hint) (i : FuncId) (c : ACall) (n : Nat) (d : Option Nat) (f : List AV) (h : AH) :
 arun prog K i c n d (.region 0 (rg f69 0) false) f h = regR (aops prog c (rg f69 0) [0,1,2,3] f h) ∧
 arun prog K i c n d (.region 1 (rg f69 1) false) f h = regR (aops prog c (rg f69 1) [0] f h) ∧
 arun prog K i c n d (.region 2 (rg f69 2) false) f h = regR (aops prog c (rg f69 2) [0,1,2,3] f h) ∧
 arun prog K i c n d (.region 3 (rg f69 3) false) f h = regR (aops prog c (rg f69 3) [0,1,2,3] f h) ∧
 arun prog K i c n d (.region 4 (rg f69 4) false) f h = regR (aops prog c (rg f69 4) [0] f h) ∧
 arun prog K i c n d (.region 5 (rg f69 5) false) f h = regR (aops prog c (rg f69 5) [0,1,2] f h) ∧
 arun prog K i c n d (.region 6 (rg f69 6) false) f h = regR (aops prog c (rg f69 6) [0,1,2] f h) ∧
 arun prog K i c n d (.region 7 (rg f69 7) false) f h = regR (aops prog c (rg f69 7) [0] f h) ∧
 arun prog K i c n d (.region 8 (rg f69 8) false) f h = regR (aops prog c (rg f69 8) [0,1,2,3] f h) ∧
 arun prog K i c n d (.region 9 (rg f69 9) false) f h = regR (aops prog c (rg f69 9) [0,1,2,3] f h) ∧
 arun prog K i c n d (.region 10 (rg f69 10) false) f h = regR (aops prog c (rg f69 10) [0,1] f h) ∧
 arun prog K i c n d (.region 11 (rg f69 11) false) f h = regR (aops prog c (rg f69 11) [0,1] f h) ∧
 arun prog K i c n d (.region 12 (rg f69 12) false) f h = regR (aops prog c (rg f69 12) [0,1] f h) ∧
 arun prog K i c n d (.region 13 (rg f69 13) false) f h = regR (aops prog c (rg f69 13) [0,1,2,3] f h) ∧
 arun prog K i c n d (.region 14 (rg f69 14) false) f h = regR (aops prog c (rg f69 14) [0] f h) ∧
 arun prog K i c n d (.region 15 (rg f69 15) false) f h = regR (aops prog c (rg f69 15) [0,1,2,3] f h) ∧
 arun prog K i c n d (.region 16 (rg f69 16) false) f h = regR (aops prog c (rg f69 16) [0,1,2,3,4] f h) ∧
 arun prog K i c n d (.region 17 (rg f69 17) false) f h = regR (aops prog c (rg f69 17) [0,1] f h) ∧
 arun prog K i c n d (.region 18 (rg f69 18) false) f h = regR (aops prog c (rg f69 18) [0,1,2,3] f h) ∧
 arun prog K i c n d (.region 19 (rg f69 19) false) f h = regR (aops prog c (rg f69 19) [0] f h) ∧
 arun prog K i c n d (.region 20 (rg f69 20) false) f h = regR (aops prog c (rg f69 20) [0,1,2,3] f h) ∧
 arun prog K i c n d (.region 21 (rg f69 21) false) f h = regR (aops prog c (rg f69 21) [0,1,2,3] f h) ∧
 arun prog K i c n d (.region 22 (rg f69 22) false) f h = regR (aops prog c (rg f69 22) [0,1] f h) := by
  repeat' apply And.intro
  all_goals kernel_rfl
theorem S69 (c : ACall) (f : List AV) (h : AH) :
 astep prog c (rg f69 0) 0 f h = pureS (ldV prog 49 (f.getD 1 .top) h) f 13 h ∧
 astep prog c (rg f69 0) 1 f h = heapS (callV c (.fn (.func 57) [] []) [(f.getD 13 .top)] h) f 14 ∧
 astep prog c (rg f69 0) 2 f h = pureS (lenV (alen prog 44 (f.getD 14 .top))) f 15 h ∧
 astep prog c (rg f69 0) 3 f h = pureS (some (.int .i64 0)) f 16 h ∧
 astep prog c (rg f69 1) 0 f h = pureS (abin prog .lss 3 (.tmp 16) (.tmp 15) (f.getD 16 .top) (f.getD 15 .top)) f 17 h ∧
 astep prog c (rg f69 2) 0 f h = pureS (aindexAt prog 44 (f.getD 14 .top) (f.getD 16 .top)) f 18 h ∧
 astep prog c (rg f69 2) 1 f h = pureS (ldV prog 60 (f.getD 18 .top) h) f 19 h ∧
 astep prog c (rg f69 2) 2 f h = heapS (newV prog 60 h) f 4 ∧
 astep prog c (rg f69 2) 3 f h = heapN (stV prog 60 (f.getD 4 .top) (f.getD 19 .top) h) f ∧
 astep prog c (rg f69 3) 0 f h = pureS (ldV prog 60 (f.getD 4 .top) h) f 20 h ∧
 astep prog c (rg f69 3) 1 f h = heapS (callV c (.fn (.func 70) [] []) [(f.getD 20 .top)] h) f 21 ∧
 astep prog c (rg f69 3) 2 f h = pureS (lenV (alen prog 89 (f.getD 21 .top))) f 22 h ∧
 astep prog c (rg f69 3) 3 f h = pureS (some (.int .i64 0)) f 23 h ∧
 astep prog c (rg f69 4) 0 f h = pureS (abin prog .lss 3 (.tmp 23) (.tmp 22) (f.getD 23 .top) (f.getD 22 .top)) f 24 h ∧
 astep prog c (rg f69 5) 0 f h = pureS (aindexAt prog 89 (f.getD 21 .top) (f.getD 23 .top)) f 25 h ∧
 astep prog c (rg f69 5) 1 f h = pureS (ldV prog 47 (f.getD 25 .top) h) f 26 h ∧
 astep prog c (rg f69 5) 2 f h = pureS (some (f.getD 26 .top)) f 6 h ∧
 astep prog c (rg f69 6) 0 f h = pureS (some (f.getD 6 .top)) f 27 h ∧
 astep prog c (rg f69 6) 1 f h = pureS (lenV (alen prog 47 (f.getD 27 .top))) f 28 h ∧
 astep prog c (rg f69 6) 2 f h = pureS (some (.int .i64 0)) f 29 h ∧
 astep prog c (rg f69 7) 0 f h = pureS (abin prog .lss 3 (.tmp 29) (.tmp 28) (f.getD 29 .top) (f.getD 28 .top)) f 30 h ∧
 astep prog c (rg f69 8) 0 f h = pureS (aindexAt prog 47 (f.getD 27 .top) (f.getD 29 .top)) f 31 h ∧
 astep prog c (rg f69 8) 1 f h = pureS (ldV prog 49 (f.getD 31 .top) h) f 32 h ∧
 astep prog c (rg f69 8) 2 f h = heapS (newV prog 49 h) f 8 ∧
 astep prog c (rg f69 8) 3 f h = heapN (stV prog 49 (f.getD 8 .top) (f.getD 32 .top) h) f ∧
 astep prog c (rg f69 9) 0 f h = pureS (some (f.getD 0 .top)) f 33 h ∧
 astep prog c (rg f69 9) 1 f h = pureS (ldV prog 49 (f.getD 8 .top) h) f 34 h ∧
 astep prog c (rg f69 9) 2 f h = heapS (callV c (f.getD 33 .top) [(f.getD 34 .top)] h) f 35 ∧
 astep prog c (rg f69 9) 3 f h = pureS (aun .not (f.getD 35 .top)) f 36 h ∧
 astep prog c (rg f69 10) 0 f h = pureS (abin prog .add 3 (.tmp 29) (.const (.int .i64 1)) (f.getD 29 .top) (.int .i64 1)) f 37 h ∧
 astep prog c (rg f69 10) 1 f h = pureS (some (f.getD 37 .top)) f 29 h ∧
 astep prog c (rg f69 11) 0 f h = pureS (abin prog .add 3 (.tmp 23) (.const (.int .i64 1)) (f.getD 23 .top) (.int .i64 1)) f 38 h ∧
 astep prog c (rg f69 11) 1 f h = pureS (some (f.getD 38 .top)) f 23 h ∧
 astep prog c (rg f69 12) 0 f h = pureS (abin prog .add 3 (.tmp 16) (.const (.int .i64 1)) (f.getD 16 .top) (.int .i64 1)) f 39 h ∧
 astep prog c (rg f69 12) 1 f h = pureS (some (f.getD 39 .top)) f 16 h ∧
 astep prog c (rg f69 13) 0 f h = pureS (afieldAt prog 49 (f.getD 1 .top) 8) f 40 h ∧
 astep prog c (rg f69 13) 1 f h = pureS (ldV prog 46 (f.getD 40 .top) h) f 41 h ∧
 astep prog c (rg f69 13) 2 f h = pureS (lenV (alen prog 46 (f.getD 41 .top))) f 42 h ∧
 astep prog c (rg f69 13) 3 f h = pureS (some (.int .i64 0)) f 43 h ∧
 astep prog c (rg f69 14) 0 f h = pureS (abin prog .lss 3 (.tmp 43) (.tmp 42) (f.getD 43 .top) (f.getD 42 .top)) f 44 h ∧
 astep prog c (rg f69 15) 0 f h = pureS (aindexAt prog 46 (f.getD 41 .top) (f.getD 43 .top)) f 45 h ∧
 astep prog c (rg f69 15) 1 f h = pureS (ldV prog 76 (f.getD 45 .top) h) f 46 h ∧
 astep prog c (rg f69 15) 2 f h = heapS (newV prog 76 h) f 10 ∧
 astep prog c (rg f69 15) 3 f h = heapN (stV prog 76 (f.getD 10 .top) (f.getD 46 .top) h) f ∧
 astep prog c (rg f69 16) 0 f h = pureS (some (f.getD 0 .top)) f 47 h ∧
 astep prog c (rg f69 16) 1 f h = pureS (afieldAt prog 76 (f.getD 10 .top) 1) f 48 h ∧
 astep prog c (rg f69 16) 2 f h = pureS (ldV prog 49 (f.getD 48 .top) h) f 49 h ∧
 astep prog c (rg f69 16) 3 f h = heapS (callV c (f.getD 47 .top) [(f.getD 49 .top)] h) f 50 ∧
 astep prog c (rg f69 16) 4 f h = pureS (aun .not (f.getD 50 .top)) f 51 h ∧
 astep prog c (rg f69 17) 0 f h = pureS (abin prog .add 3 (.tmp 43) (.const (.int .i64 1)) (f.getD 43 .top) (.int .i64 1)) f 52 h ∧
 astep prog c (rg f69 17) 1 f h = pureS (some (f.getD 52 .top)) f 43 h ∧
 astep prog c (rg f69 18) 0 f h = pureS (afieldAt prog 49 (f.getD 1 .top) 9) f 53 h ∧
 astep prog c (rg f69 18) 1 f h = pureS (ldV prog 47 (f.getD 53 .top) h) f 54 h ∧
 astep prog c (rg f69 18) 2 f h = pureS (lenV (alen prog 47 (f.getD 54 .top))) f 55 h ∧
 astep prog c (rg f69 18) 3 f h = pureS (some (.int .i64 0)) f 56 h ∧
 astep prog c (rg f69 19) 0 f h = pureS (abin prog .lss 3 (.tmp 56) (.tmp 55) (f.getD 56 .top) (f.getD 55 .top)) f 57 h ∧
 astep prog c (rg f69 20) 0 f h = pureS (aindexAt prog 47 (f.getD 54 .top) (f.getD 56 .top)) f 58 h ∧
 astep prog c (rg f69 20) 1 f h = pureS (ldV prog 49 (f.getD 58 .top) h) f 59 h ∧
 astep prog c (rg f69 20) 2 f h = heapS (newV prog 49 h) f 12 ∧
 astep prog c (rg f69 20) 3 f h = heapN (stV prog 49 (f.getD 12 .top) (f.getD 59 .top) h) f ∧
 astep prog c (rg f69 21) 0 f h = pureS (some (f.getD 0 .top)) f 60 h ∧
 astep prog c (rg f69 21) 1 f h = pureS (ldV prog 49 (f.getD 12 .top) h) f 61 h ∧
 astep prog c (rg f69 21) 2 f h = heapS (callV c (f.getD 60 .top) [(f.getD 61 .top)] h) f 62 ∧
 astep prog c (rg f69 21) 3 f h = pureS (aun .not (f.getD 62 .top)) f 63 h ∧
 astep prog c (rg f69 22) 0 f h = pureS (abin prog .add 3 (.tmp 56) (.const (.int .i64 1)) (f.getD 56 .top) (.int .i64 1)) f 64 h ∧
 astep prog c (rg f69 22) 1 f h = pureS (some (f.getD 64 .top)) f 56 h := by
  repeat' apply And.intro
  all_goals kernel_rfl

end Go.Proofs.Ytgnacecplaemlaa
namespace Go.Proofs.Ytgnacecplaemlaa
open AI Try
set_option linter.unusedVariables false
/-! ### 70: conch/part.Cmds -/
noncomputable def cd70 : Code := (.seq (.region 0 (rg f70 0) false) (.seq (.region 1 (rg f70 1) false) (.seq (.region 2 (rg f70 2) false) (.seq (.region 3 (rg f70 3) false) .ret))))
theorem ent70 (n : Nat) (a0 : AV) (h : AH) : X (n + 1) (.func 70) [a0] h = nrm h (fin1 (arun prog (HK 70) 70 (X n) n none cd70 [a0,.tup [],.tup [],.tup [],.tup [],.tup [],.tup [],.tup [],.tup []] h) 2) := by kernel_rfl
section
variable (K : Hint) (fid : FuncId) (call : ACall) (lf : Nat) (rd : Option Nat) (fr : List AV) (h : AH)
end
theorem R70 (K : Hint) (i : FuncId) (c : ACall) (n : Nat) (d : Option Nat) (f : List AV) (h : AH) :
 arun prog K i c n d (.region 0 (rg f70 0) false) f h = regR (aops prog c (rg f70 0) [0,1] f h) ∧
 arun prog K i c n d (.region 1 (rg f70 1) false) f h = regR (aops prog c (rg f70 1) [0] f h) ∧
 arun prog K i c n d (.region 2 (rg f70 2) false) f h = regR (aops prog c (rg f70 2) [0,1,2,3] f h) ∧
 arun prog K i c n d (.region 3 (rg f70 3) false) f h = regR (aops prog c (rg f70 3) [0,1] f h) := by
  repeat' apply And.intro
  all_goals kernel_rfl
theorem S70 (c : ACall) (f : List AV) (h : AH) :
 astep prog c (rg f70 0) 0 f h = heapS (boxV (f.getD 0 .top) h) f 1 ∧
 astep prog c (rg f70 0) 1 f h = pureS (some (.nilSl)) f 2 h ∧
 astep prog c (rg f70 1) 0 f h = heapS (newV prog 89 h) f 3 ∧
 astep prog c (rg f70 2) 0 f h = pureS (afieldAt prog 60 (f.getD 1 .top) 0) f 4 h ∧
 astep prog c (rg f70 2) 1 f h = pureS (ldV prog 58 (f.getD 4 .top) h) f 5 h ∧
 astep prog c (rg f70 2) 2 f h = pureS (some (.fn (.func 83) [] [(f.getD 3 .top)])) f 6 h ∧
 astep prog c (rg f70 2) 3 f h = heapS (callV c (.fn (.func 82) [] []) [(f.getD 5 .top),(f.getD 6 .top)] h) f 7 ∧
 astep prog c (rg f70 3) 0 f h = pureS (ldV prog 89 (f.getD 3 .top) h) f 8 h ∧
 astep prog c (rg f70 3) 1 f h = pureS (some (f.getD 8 .top)) f 2 h := by
  repeat' apply And.intro
  all_goals kernel_rfl

end Go.Proofs.Ytgnacecplaemlaa
namespace Go.Proofs.Ytgnacecplaemlaa
open AI Try
set_option linter.unusedVariables false
/-! ### 74: slices.Concat[[]conch/api.Word,conch/api.Word] -/
noncomputable def lp74_3 : Code := (.seq (.region 3 (rg f74 3) false) (.seq (.cond (.tmp 12) .skip (.exit 0)) (.seq (.block 1 (.seq (.region 4 (rg f74 4) false) (.seq (.region 5 (rg f74 5) false) (.seq (.region 6 (rg f74 6) false) (.cond (.tmp 20) (.region 7 (rg f74 7) false) .skip))))) (.region 8 (rg f74 8) false))))
def C74_3 (x0 x3 x9 x10 x11 : AV) : List AV := [x0,.top,.top,x3,.top,.top,.top,.top,.top,x9,x10,x11,.top,.top,.top,.top,.top,.top,.top,.top,.top,.top,.top,.top,.top,.top,.top,.top,.top,.top,.top,.top,.top,.top,.top,.top]
theorem cl74_3 (x0 x1 x2 x3 x4 x5 x6 x7 x8 x9 x10 x11 x12 x13 x14 x15 x16 x17 x18 x19 x20 x21 x22 x23 x24 x25 x26 x27 x28 x29 x30 x31 x32 x33 x34 x35 : AV) : aclear (HK 74) lp74_3 [x0,x1,x2,x3,x4,x5,x6,x7,x8,x9,x10,x11,x12,x13,x14,x15,x16,x17,x18,x19,x20,x21,x22,x23,x24,x25,x26,x27,x28,x29,x30,x31,x32,x33,x34,x35] = C74_3 x0 x3 x9 x10 x11 := by kernel_rfl
noncomputable def lp74_11 : Code := (.seq (.region 11 (rg f74 11) false) (.seq (.cond (.tmp 28) .skip (.exit 2)) (.seq (.block 3 (.seq (.region 12 (rg f74 12) false) (.region 13 (rg f74 13) false))) (.region 14 (rg f74 14) false))))
def C74_11 (x6 x25 x26 x27 : AV) : List AV := [.top,.top,.top,.top,.top,.top,x6,.top,.top,.top,.top,.top,.top,.top,.top,.top,.top,.top,.top,.top,.top,.top,.top,.top,.top,x25,x26,x27,.top,.top,.top,.top,.top,.top,.top,.top]
theorem cl74_11 (x0 x1 x2 x3 x4 x5 x6 x7 x8 x9 x10 x11 x12 x13 x14 x15 x16 x17 x18 x19 x20 x21 x22 x23 x24 x25 x26 x27 x28 x29 x30 x31 x32 x33 x34 x35 : AV) : aclear (HK 74) lp74_11 [x0,x1,x2,x3,x4,x5,x6,x7,x8,x9,x10,x11,x12,x13,x14,x15,x16,x17,x18,x19,x20,x21,x22,x23,x24,x25,x26,x27,x28,x29,x30,x31,x32,x33,x34,x35] = C74_11 x6 x25 x26 x27 := by kernel_rfl
noncomputable def cd74 : Code := (.seq (.region 0 (rg f74 0) false) (.seq (.region 1 (rg f74 1) false) (.seq (.seq (.region 2 (rg f74 2) false) (.block 0 (.loop lp74_3))) (.seq (.region 9 (rg f74 9) false) (.seq (.seq (.region 10 (rg f74 10) false) (.block 2 (.loop lp74_11))) (.seq (.region 15 (rg f74 15) false) .ret))))))
theorem ent74 (n : Nat) (a0 : AV) (h : AH) : X (n + 1) (.func 74) [a0] h = nrm h (fin1 (arun prog (HK 74) 74 (X n) n none cd74 [a0,.tup [],.tup [],.tup [],.tup [],.tup [],.tup [],.tup [],.tup [],.tup [],.tup [],.tup [],.tup [],.tup [],.tup [],.tup [],.tup [],.tup [],.tup [],.tup [],.tup [],.tup [],.tup [],.tup [],.tup [],.tup [],.tup [],.tup [],.tup [],.tup [],.tup [],.tup [],.tup [],.tup [],.tup [],.tup []] h) 2) := by kernel_rfl
section
variable (K : Hint) (fid : FuncId) (call : ACall) (lf : Nat) (rd : Option Nat) (fr : List AV) (h : AH)
-- NO LEMMA: region 7 op 0: ('app','makeInterface',['9',('app','const',[('app','string',[('struct',{'data': ('arr',['10
-- NO LEMMA: region 7 op 1: ('app','panic',[('app','tmp',['21'])])
end
theorem R74 (K : Hint) (i : FuncId) (c : ACall) (n : Nat) (d : Option Nat) (f : List AV) (h : AH) :
 arun prog K i c n d (.region 0 (rg f74 0) false) f h = regR (aops prog c (rg f74 0) [0] f h) ∧
 arun prog K i c n d (.region 1 (rg f74 1) false) f h = regR (aops prog c (rg f74 1) [0] f h) ∧
 arun prog K i c n d (.region 2 (rg f74 2) false) f h = regR (aops prog c (rg f74 2) [0,1,2] f h) ∧
 arun prog K i c n d (.region 3 (rg f74 3) false) f h = regR (aops prog c (rg f74 3) [0] f h) ∧
 arun prog K i c n d (.region 4 (rg f74 4) false) f h = regR (aops prog c (rg f74 4) [0,1,2] f h) ∧
 arun prog K i c n d (.region 5 (rg f74 5) false) f h = regR (aops prog c (rg f74 5) [0,1,2,3,4] f h) ∧
 arun prog K i c n d (.region 6 (rg f74 6) false) f h = regR (aops prog c (rg f74 6) [0,1] f h) ∧
 arun prog K i c n d (.region 7 (rg f74 7) false) f h = regR (aops prog c (rg f74 7) [0,1] f h) ∧
 arun prog K i c n d (.region 8 (rg f74 8) false) f h = regR (aops prog c (rg f74 8) [0,1] f h) ∧
 arun prog K i c n d (.region 9 (rg f74 9) false) f h = regR (aops prog c (rg f74 9) [0,1,2] f h) ∧
 arun prog K i c n d (.region 10 (rg f74 10) false) f h = regR (aops prog c (rg f74 10) [0,1,2] f h) ∧
 arun prog K i c n d (.region 11 (rg f74 11) false) f h = regR (aops prog c (rg f74 11) [0] f h) ∧
 arun prog K i c n d (.region 12 (rg f74 12) false) f h = regR (aops prog c (rg f74 12) [0,1,2] f h) ∧
 arun prog K i c n d (.region 13 (rg f74 13) false) f h = regR (aops prog c (rg f74 13) [0,1,2,3] f h) ∧
 arun prog K i c n d (.region 14 (rg f74 14) false) f h = regR (aops prog c (rg f74 14) [0,1] f h) ∧
 arun prog K i c n d (.region 15 (rg f74 15) false) f h = regR (aops prog c (rg f74 15) [0,1] f h) := by
  repeat' apply And.intro
  all_goals kernel_rfl
theorem S74 (c : ACall) (f : List AV) (h : AH) :
 astep prog c (rg f74 0) 0 f h = pureS (some (.nilSl)) f 2 h ∧
 astep prog c (rg f74 1) 0 f h = pureS (some (.int .i64 0)) f 3 h ∧
 astep prog c (rg f74 2) 0 f h = pureS (some (f.getD 0 .top)) f 9 h ∧
 astep prog c (rg f74 2) 1 f h = pureS (lenV (alen prog 104 (f.getD 9 .top))) f 10 h ∧
 astep prog c (rg f74 2) 2 f h = pureS (some (.int .i64 0)) f 11 h ∧
 astep prog c (rg f74 3) 0 f h = pureS (abin prog .lss 3 (.tmp 11) (.tmp 10) (f.getD 11 .top) (f.getD 10 .top)) f 12 h ∧
 astep prog c (rg f74 4) 0 f h = pureS (aindexAt prog 104 (f.getD 9 .top) (f.getD 11 .top)) f 13 h ∧
 astep prog c (rg f74 4) 1 f h = pureS (ldV prog 44 (f.getD 13 .top) h) f 14 h ∧
 astep prog c (rg f74 4) 2 f h = pureS (some (f.getD 14 .top)) f 5 h ∧
 astep prog c (rg f74 5) 0 f h = pureS (some (f.getD 3 .top)) f 15 h ∧
 astep prog c (rg f74 5) 1 f h = pureS (some (f.getD 5 .top)) f 16 h ∧
 astep prog c (rg f74 5) 2 f h = pureS (lenV (alen prog 44 (f.getD 16 .top))) f 17 h ∧
 astep prog c (rg f74 5) 3 f h = pureS (abin prog .add 3 (.tmp 15) (.tmp 17) (f.getD 15 .top) (f.getD 17 .top)) f 18 h ∧
 astep prog c (rg f74 5) 4 f h = pureS (some (f.getD 18 .top)) f 3 h ∧
 astep prog c (rg f74 6) 0 f h = pureS (some (f.getD 3 .top)) f 19 h ∧
 astep prog c (rg f74 6) 1 f h = pureS (abin prog .lss 3 (.tmp 19) (.const (.int .i64 0)) (f.getD 19 .top) (.int .i64 0)) f 20 h ∧
 astep prog c (rg f74 8) 0 f h = pureS (abin prog .add 3 (.tmp 11) (.const (.int .i64 1)) (f.getD 11 .top) (.int .i64 1)) f 22 h ∧
 astep prog c (rg f74 8) 1 f h = pureS (some (f.getD 22 .top)) f 11 h ∧
 astep prog c (rg f74 9) 0 f h = pureS (some (f.getD 3 .top)) f 23 h ∧
 astep prog c (rg f74 9) 1 f h = heapS (callV c (.fn (.func 85) [] []) [(.nilSl),(f.getD 23 .top)] h) f 24 ∧
 astep prog c (rg f74 9) 2 f h = pureS (some (f.getD 24 .top)) f 6 h ∧
 astep prog c (rg f74 10) 0 f h = pureS (some (f.getD 0 .top)) f 25 h ∧
 astep prog c (rg f74 10) 1 f h = pureS (lenV (alen prog 104 (f.getD 25 .top))) f 26 h ∧
 astep prog c (rg f74 10) 2 f h = pureS (some (.int .i64 0)) f 27 h ∧
 astep prog c (rg f74 11) 0 f h = pureS (abin prog .lss 3 (.tmp 27) (.tmp 26) (f.getD 27 .top) (f.getD 26 .top)) f 28 h ∧
 astep prog c (rg f74 12) 0 f h = pureS (aindexAt prog 104 (f.getD 25 .top) (f.getD 27 .top)) f 29 h ∧
 astep prog c (rg f74 12) 1 f h = pureS (ldV prog 44 (f.getD 29 .top) h) f 30 h ∧
 astep prog c (rg f74 12) 2 f h = pureS (some (f.getD 30 .top)) f 8 h ∧
 astep prog c (rg f74 13) 0 f h = pureS (some (f.getD 6 .top)) f 31 h ∧
 astep prog c (rg f74 13) 1 f h = pureS (some (f.getD 8 .top)) f 32 h ∧
 astep prog c (rg f74 13) 2 f h = heapS (aappend prog 44 44 (f.getD 31 .top) (f.getD 32 .top) h) f 33 ∧
 astep prog c (rg f74 13) 3 f h = pureS (some (f.getD 33 .top)) f 6 h ∧
 astep prog c (rg f74 14) 0 f h = pureS (abin prog .add 3 (.tmp 27) (.const (.int .i64 1)) (f.getD 27 .top) (.int .i64 1)) f 34 h ∧
 astep prog c (rg f74 14) 1 f h = pureS (some (f.getD 34 .top)) f 27 h ∧
 astep prog c (rg f74 15) 0 f h = pureS (some (f.getD 6 .top)) f 35 h ∧
 astep prog c (rg f74 15) 1 f h = pureS (some (f.getD 35 .top)) f 2 h := by
  repeat' apply And.intro
  all_goals kernel_rfl

end Go.Proofs.Ytgnacecplaemlaa
namespace Go.Proofs.Ytgnacecplaemlaa
open AI Try
set_option linter.unusedVariables false
/-! ### 82: conch/part.each -/
noncomputable def lp82_1 : Code := (.seq (.region 1 (rg f82 1) false) (.seq (.cond (.tmp 9) .skip (.exit 0)) (.seq (.block 1 (.seq (.region 2 (rg f82 2) false) (.seq (.region 3 (rg f82 3) false) (.region 4 (rg f82 4) false)))) (.region 5 (rg f82 5) false))))
def C82_1 (x1 x6 x7 x8 : AV) : List AV := [.top,x1,.top,.top,.top,.top,x6,x7,x8,.top,.top,.top,.top,.top,.top,.top,.top,.top,.top,.top]
theorem cl82_1 (x0 x1 x2 x3 x4 x5 x6 x7 x8 x9 x10 x11 x12 x13 x14 x15 x16 x17 x18 x19 : AV) : aclear (HK 82) lp82_1 [x0,x1,x2,x3,x4,x5,x6,x7,x8,x9,x10,x11,x12,x13,x14,x15,x16,x17,x18,x19] = C82_1 x1 x6 x7 x8 := by kernel_rfl
noncomputable def cd82 : Code := (.seq (.region 0 (rg f82 0) false) (.block 0 (.loop lp82_1)))
theorem ent82 (n : Nat) (a0 a1 : AV) (h : AH) : X (n + 1) (.func 82) [a0,a1] h = (fin0 (arun prog (HK 82) 82 (X n) n none cd82 [a0,a1,.tup [],.tup [],.tup [],.tup [],.tup [],.tup [],.tup [],.tup [],.tup [],.tup [],.tup [],.tup [],.tup [],.tup [],.tup [],.tup [],.tup [],.tup []] h) ) := by kernel_rfl
section
variable (K : Hint) (fid : FuncId) (call : ACall) (lf : Nat) (rd : Option Nat) (fr : List AV) (h : AH)
end
theorem R82 (K : Hint) (i : FuncId) (c : ACall) (n : Nat) (d : Option Nat) (f : List AV) (h : AH) :
 arun prog K i c n d (.region 0 (rg f82 0) false) f h = regR (aops prog c (rg f82 0) [0,1,2] f h) ∧
 arun prog K i c n d (.region 1 (rg f82 1) false) f h = regR (aops prog c (rg f82 1) [0] f h) ∧
 arun prog K i c n d (.region 2 (rg f82 2) false) f h = regR (aops prog c (rg f82 2) [0,1,2,3] f h) ∧
 arun prog K i c n d (.region 3 (rg f82 3) false) f h = regR (aops prog c (rg f82 3) [0,1,2] f h) ∧
 arun prog K i c n d (.region 4 (rg f82 4) false) f h = regR (aops prog c (rg f82 4) [0,1,2,3] f h) ∧
 arun prog K i c n d (.region 5 (rg f82 5) false) f h = regR (aops prog c (rg f82 5) [0,1] f h) := by
  repeat' apply And.intro
  all_goals kernel_rfl
theorem S82 (c : ACall) (f : List AV) (h : AH) :
 astep prog c (rg f82 0) 0 f h = pureS (some (f.getD 0 .top)) f 6 h ∧
 astep prog c (rg f82 0) 1 f h = pureS (lenV (alen prog 58 (f.getD 6 .top))) f 7 h ∧
 astep prog c (rg f82 0) 2 f h = pureS (some (.int .i64 0)) f 8 h ∧
 astep prog c (rg f82 1) 0 f h = pureS (abin prog .lss 3 (.tmp 8) (.tmp 7) (f.getD 8 .top) (f.getD 7 .top)) f 9 h ∧
 astep prog c (rg f82 2) 0 f h = pureS (aindexAt prog 58 (f.getD 6 .top) (f.getD 8 .top)) f 10 h ∧
 astep prog c (rg f82 2) 1 f h = pureS (ldV prog 78 (f.getD 10 .top) h) f 11 h ∧
 astep prog c (rg f82 2) 2 f h = heapS (newV prog 78 h) f 5 ∧
 astep prog c (rg f82 2) 3 f h = heapN (stV prog 78 (f.getD 5 .top) (f.getD 11 .top) h) f ∧
 astep prog c (rg f82 3) 0 f h = pureS (some (f.getD 1 .top)) f 12 h ∧
 astep prog c (rg f82 3) 1 f h = pureS (ldV prog 78 (f.getD 5 .top) h) f 13 h ∧
 astep prog c (rg f82 3) 2 f h = heapS (callV c (f.getD 12 .top) [(f.getD 13 .top)] h) f 14 ∧
 astep prog c (rg f82 4) 0 f h = pureS (afieldAt prog 78 (f.getD 5 .top) 3) f 15 h ∧
 astep prog c (rg f82 4) 1 f h = pureS (ldV prog 58 (f.getD 15 .top) h) f 16 h ∧
 astep prog c (rg f82 4) 2 f h = pureS (some (f.getD 1 .top)) f 17 h ∧
 astep prog c (rg f82 4) 3 f h = heapS (callV c (.fn (.func 82) [] []) [(f.getD 16 .top),(f.getD 17 .top)] h) f 18 ∧
 astep prog c (rg f82 5) 0 f h = pureS (abin prog .add 3 (.tmp 8) (.const (.int .i64 1)) (f.getD 8 .top) (.int .i64 1)) f 19 h ∧
 astep prog c (rg f82 5) 1 f h = pureS (some (f.getD 19 .top)) f 8 h := by
  repeat' apply And.intro
  all_goals kernel_rfl

end Go.Proofs.Ytgnacecplaemlaa
namespace Go.Proofs.Ytgnacecplaemlaa
open AI Try
set_option linter.unusedVariables false
/-! ### 83: conch/part.Cmds$1 -/
noncomputable def cd83 : Code := (.seq (.region 0 (rg f83 0) false) (.seq (.region 1 (rg f83 1) false) (.cond (.tmp 5) (.region 2 (rg f83 2) false) .skip)))
theorem ent83 (n : Nat) (a0 a1 : AV) (h : AH) : X (n + 1) (.func 83) [a0,a1] h = (fin0 (arun prog (HK 83) 83 (X n) n none cd83 [a0,a1,.tup [],.tup [],.tup [],.tup [],.tup [],.tup [],.tup [],.tup [],.tup []] h) ) := by kernel_rfl
section
variable (K : Hint) (fid : FuncId) (call : ACall) (lf : Nat) (rd : Option Nat) (fr : List AV) (h : AH)
end
theorem R83 (K : Hint) (i : FuncId) (c : ACall) (n : Nat) (d : Option Nat) (f : List AV) (h : AH) :
 arun prog K i c n d (.region 0 (rg f83 0) false) f h = regR (aops prog c (rg f83 0) [0] f h) ∧
 arun prog K i c n d (.region 1 (rg f83 1) false) f h = regR (aops prog c (rg f83 1) [0,1,2] f h) ∧
 arun prog K i c n d (.region 2 (rg f83 2) false) f h = regR (aops prog c (rg f83 2) [0,1,2,3,4,5] f h) := by
  repeat' apply And.intro
  all_goals kernel_rfl
theorem S83 (c : ACall) (f : List AV) (h : AH) :
 astep prog c (rg f83 0) 0 f h = heapS (boxV (f.getD 0 .top) h) f 2 ∧
 astep prog c (rg f83 1) 0 f h = pureS (afieldAt prog 78 (f.getD 2 .top) 0) f 3 h ∧
 astep prog c (rg f83 1) 1 f h = pureS (ldV prog 3 (f.getD 3 .top) h) f 4 h ∧
 astep prog c (rg f83 1) 2 f h = pureS (abin prog .eql 3 (.tmp 4) (.const (.int .i64 6)) (f.getD 4 .top) (.int .i64 6)) f 5 h ∧
 astep prog c (rg f83 2) 0 f h = pureS (ldV prog 89 (f.getD 1 .top) h) f 6 h ∧
 astep prog c (rg f83 2) 1 f h = pureS (afieldAt prog 78 (f.getD 2 .top) 4) f 7 h ∧
 astep prog c (rg f83 2) 2 f h = pureS (ldV prog 47 (f.getD 7 .top) h) f 8 h ∧
 astep prog c (rg f83 2) 3 f h = heapS (bslV prog 89 1 [(0,(f.getD 8 .top))] h) f 9 ∧
 astep prog c (rg f83 2) 4 f h = heapS (aappend prog 89 89 (f.getD 6 .top) (f.getD 9 .top) h) f 10 ∧
 astep prog c (rg f83 2) 5 f h = heapN (stV prog 89 (f.getD 1 .top) (f.getD 10 .top) h) f := by
  repeat' apply And.intro
  all_goals kernel_rfl

end Go.Proofs.Ytgnacecplaemlaa
namespace Go.Proofs.Ytgnacecplaemlaa
open AI Try
set_option linter.unusedVariables false
/-! ### 85: slices.Grow[[]conch/api.Word,conch/api.Word] -/
noncomputable def cd85 : Code := (.seq (.region 0 (rg f85 0) false) (.seq (.seq (.region 1 (rg f85 1) false) (.cond (.tmp 6) (.region 2 (rg f85 2) false) .skip)) (.seq (.seq (.region 3 (rg f85 3) false) (.seq (.region 4 (rg f85 4) false) (.cond (.tmp 16) (.region 5 (rg f85 5) false) .skip))) (.seq (.region 6 (rg f85 6) false) .ret))))
theorem ent85 (n : Nat) (a0 a1 : AV) (h : AH) : X (n + 1) (.func 85) [a0,a1] h = nrm h (fin1 (arun prog (HK 85) 85 (X n) n none cd85 [a0,a1,.tup [],.tup [],.tup [],.tup [],.tup [],.tup [],.tup [],.tup [],.tup [],.tup [],.tup [],.tup [],.tup [],.tup [],.tup [],.tup [],.tup [],.tup [],.tup [],.tup [],.tup [],.tup [],.tup [],.tup [],.tup []] h) 4) := by kernel_rfl
section
variable (K : Hint) (fid : FuncId) (call : ACall) (lf : Nat) (rd : Option Nat) (fr : List AV) (h : AH)
-- NO LEMMA: region 2 op 0: ('app','makeInterface',['9',('app','const',[('app','string',[('struct',{'data': ('arr',['99
-- NO LEMMA: region 2 op 1: ('app','panic',[('app','tmp',['7'])])
end
theorem R85 (K : Hint) (i : FuncId) (c : ACall) (n : Nat) (d : Option Nat) (f : List AV) (h : AH) :
 arun prog K i c n d (.region 0 (rg f85 0) false) f h = regR (aops prog c (rg f85 0) [0] f h) ∧
 arun prog K i c n d (.region 1 (rg f85 1) false) f h = regR (aops prog c (rg f85 1) [0,1] f h) ∧
 arun prog K i c n d (.region 2 (rg f85 2) false) f h = regR (aops prog c (rg f85 2) [0,1] f h) ∧
 arun prog K i c n d (.region 3 (rg f85 3) false) f h = regR (aops prog c (rg f85 3) [0,1,2,3,4,5,6,7] f h) ∧
 arun prog K i c n d (.region 4 (rg f85 4) false) f h = regR (aops prog c (rg f85 4) [0,1] f h) ∧
 arun prog K i c n d (.region 5 (rg f85 5) false) f h = regR (aops prog c (rg f85 5) [0,1,2,3,4,5,6,7,8,9] f h) ∧
 arun prog K i c n d (.region 6 (rg f85 6) false) f h = regR (aops prog c (rg f85 6) [0,1] f h) := by
  repeat' apply And.intro
  all_goals kernel_rfl
theorem S85 (c : ACall) (f : List AV) (h : AH) :
 astep prog c (rg f85 0) 0 f h = pureS (some (.nilSl)) f 4 h ∧
 astep prog c (rg f85 1) 0 f h = pureS (some (f.getD 1 .top)) f 5 h ∧
 astep prog c (rg f85 1) 1 f h = pureS (abin prog .lss 3 (.tmp 5) (.const (.int .i64 0)) (f.getD 5 .top) (.int .i64 0)) f 6 h ∧
 astep prog c (rg f85 3) 0 f h = pureS (some (f.getD 1 .top)) f 8 h ∧
 astep prog c (rg f85 3) 1 f h = pureS (some (f.getD 0 .top)) f 9 h ∧
 astep prog c (rg f85 3) 2 f h = pureS (lenV (acap prog 44 (f.getD 9 .top))) f 10 h ∧
 astep prog c (rg f85 3) 3 f h = pureS (some (f.getD 0 .top)) f 11 h ∧
 astep prog c (rg f85 3) 4 f h = pureS (lenV (alen prog 44 (f.getD 11 .top))) f 12 h ∧
 astep prog c (rg f85 3) 5 f h = pureS (abin prog .sub 3 (.tmp 10) (.tmp 12) (f.getD 10 .top) (f.getD 12 .top)) f 13 h ∧
 astep prog c (rg f85 3) 6 f h = pureS (abin prog .sub 3 (.tmp 8) (.tmp 13) (f.getD 8 .top) (f.getD 13 .top)) f 14 h ∧
 astep prog c (rg f85 3) 7 f h = pureS (some (f.getD 14 .top)) f 1 h ∧
 astep prog c (rg f85 4) 0 f h = pureS (some (f.getD 1 .top)) f 15 h ∧
 astep prog c (rg f85 4) 1 f h = pureS (abin prog .gtr 3 (.tmp 15) (.const (.int .i64 0)) (f.getD 15 .top) (.int .i64 0)) f 16 h ∧
 astep prog c (rg f85 5) 0 f h = pureS (some (f.getD 0 .top)) f 17 h ∧
 astep prog c (rg f85 5) 1 f h = pureS (some (f.getD 0 .top)) f 18 h ∧
 astep prog c (rg f85 5) 2 f h = pureS (lenV (acap prog 44 (f.getD 18 .top))) f 19 h ∧
 astep prog c (rg f85 5) 3 f h = pureS (aslice prog 44 (f.getD 17 .top) none (some (f.getD 19 .top)) none) f 20 h ∧
 astep prog c (rg f85 5) 4 f h = pureS (some (f.getD 1 .top)) f 21 h ∧
 astep prog c (rg f85 5) 5 f h = heapS (aappend prog 44 3 (f.getD 20 .top) (f.getD 21 .top) h) f 22 ∧
 astep prog c (rg f85 5) 6 f h = pureS (some (f.getD 0 .top)) f 23 h ∧
 astep prog c (rg f85 5) 7 f h = pureS (lenV (alen prog 44 (f.getD 23 .top))) f 24 h ∧
 astep prog c (rg f85 5) 8 f h = pureS (aslice prog 44 (f.getD 22 .top) none (some (f.getD 24 .top)) none) f 25 h ∧
 astep prog c (rg f85 5) 9 f h = pureS (some (f.getD 25 .top)) f 0 h ∧
 astep prog c (rg f85 6) 0 f h = pureS (some (f.getD 0 .top)) f 26 h ∧
 astep prog c (rg f85 6) 1 f h = pureS (some (f.getD 26 .top)) f 4 h := by
  repeat' apply And.intro
  all_goals kernel_rfl

end Go.Proofs.Ytgnacecplaemlaa
