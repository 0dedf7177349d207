/-
  Part 5 of 9 of the proof of WalkTells: what follows.
-/
import Derived.Test.YtgnacecplaemlaaN4
namespace Go.Proofs.Ytgnacecplaemlaa
open AI Try
set_option linter.unusedVariables false
/-! ### 7: conch/conchlaw42.WalkTells -/
noncomputable def lp7_12 : Code := (.seq (.seq (.region 12 (rg f7 12) false) (.cond (.tmp 67) .skip (.exit 0))) (.seq (.block 1 (.seq (.region 14 (rg f7 14) true) (.cond (.tmp 81) (.seq (.region 15 (rg f7 15) false) .ret) .skip))) (.region 13 (rg f7 13) false)))
def C7_12 (x2 x8 x9 x10 : AV) : List AV := [.top,.top,x2,.top,.top,.top,.top,.top,x8,x9,x10,.top,.top,.top,.top,.top,.top,.top,.top,.top,.top,.top,.top,.top,.top,.top,.top,.top,.top,.top,.top,.top,.top,.top,.top,.top,.top,.top,.top,.top,.top,.top,.top,.top,.top,.top,.top,.top,.top,.top,.top,.top,.top,.top,.top,.top,.top,.top,.top,.top,.top,.top,.top,.top,.top,.top,.top,.top,.top,.top,.top,.top,.top,.top,.top,.top,.top,.top,.top,.top,.top,.top,.top,.top,.top,.top,.top,.top,.top,.top,.top,.top,.top,.top,.top,.top,.top,.top,.top,.top,.top,.top,.top,.top,.top,.top,.top,.top,.top,.top,.top,.top,.top,.top,.top,.top,.top,.top]
theorem cl7_12 (x0 x1 x2 x3 x4 x5 x6 x7 x8 x9 x10 x11 x12 x13 x14 x15 x16 x17 x18 x19 x20 x21 x22 x23 x24 x25 x26 x27 x28 x29 x30 x31 x32 x33 x34 x35 x36 x37 x38 x39 x40 x41 x42 x43 x44 x45 x46 x47 x48 x49 x50 x51 x52 x53 x54 x55 x56 x57 x58 x59 x60 x61 x62 x63 x64 x65 x66 x67 x68 x69 x70 x71 x72 x73 x74 x75 x76 x77 x78 x79 x80 x81 x82 x83 x84 x85 x86 x87 x88 x89 x90 x91 x92 x93 x94 x95 x96 x97 x98 x99 x100 x101 x102 x103 x104 x105 x106 x107 x108 x109 x110 x111 x112 x113 x114 x115 x116 x117 : AV) : aclear (HK 7) lp7_12 [x0,x1,x2,x3,x4,x5,x6,x7,x8,x9,x10,x11,x12,x13,x14,x15,x16,x17,x18,x19,x20,x21,x22,x23,x24,x25,x26,x27,x28,x29,x30,x31,x32,x33,x34,x35,x36,x37,x38,x39,x40,x41,x42,x43,x44,x45,x46,x47,x48,x49,x50,x51,x52,x53,x54,x55,x56,x57,x58,x59,x60,x61,x62,x63,x64,x65,x66,x67,x68,x69,x70,x71,x72,x73,x74,x75,x76,x77,x78,x79,x80,x81,x82,x83,x84,x85,x86,x87,x88,x89,x90,x91,x92,x93,x94,x95,x96,x97,x98,x99,x100,x101,x102,x103,x104,x105,x106,x107,x108,x109,x110,x111,x112,x113,x114,x115,x116,x117] = C7_12 x2 x8 x9 x10 := by kernel_rfl
noncomputable def cd7 : Code := (.seq (.region 0 (rg f7 0) false) (.seq (.seq (.region 1 (rg f7 1) false) (.cond (.tmp 13) (.seq (.region 2 (rg f7 2) false) .ret) .skip)) (.seq (.region 3 (rg f7 3) false) (.seq (.region 4 (rg f7 4) false) (.seq (.region 5 (rg f7 5) false) (.seq (.seq (.region 6 (rg f7 6) false) (.cond (.tmp 48) (.seq (.region 7 (rg f7 7) false) .ret) .skip)) (.seq (.region 8 (rg f7 8) true) (.seq (.seq (.region 9 (rg f7 9) false) (.cond (.tmp 57) (.seq (.region 10 (rg f7 10) false) .ret) .skip)) (.seq (.seq (.region 11 (rg f7 11) false) (.block 0 (.loop lp7_12))) (.seq (.region 16 (rg f7 16) true) .ret))))))))))
theorem ent7 (n : Nat) (a0 a1 : AV) (h : AH) : X (n + 1) (.func 7) [a0,a1] h = nrm h (fin1 (arun prog (HK 7) 7 (X n) n none cd7 [a0,a1,.tup [],.tup [],.tup [],.tup [],.tup [],.tup [],.tup [],.tup [],.tup [],.tup [],.tup [],.tup [],.tup [],.tup [],.tup [],.tup [],.tup [],.tup [],.tup [],.tup [],.tup [],.tup [],.tup [],.tup [],.tup [],.tup [],.tup [],.tup [],.tup [],.tup [],.tup [],.tup [],.tup [],.tup [],.tup [],.tup [],.tup [],.tup [],.tup [],.tup [],.tup [],.tup [],.tup [],.tup [],.tup [],.tup [],.tup [],.tup [],.tup [],.tup [],.tup [],.tup [],.tup [],.tup [],.tup [],.tup [],.tup [],.tup [],.tup [],.tup [],.tup [],.tup [],.tup [],.tup [],.tup [],.tup [],.tup [],.tup [],.tup [],.tup [],.tup [],.tup [],.tup [],.tup [],.tup [],.tup [],.tup [],.tup [],.tup [],.tup [],.tup [],.tup [],.tup [],.tup [],.tup [],.tup [],.tup [],.tup [],.tup [],.tup [],.tup [],.tup [],.tup [],.tup [],.tup [],.tup [],.tup [],.tup [],.tup [],.tup [],.tup [],.tup [],.tup [],.tup [],.tup [],.tup [],.tup [],.tup [],.tup [],.tup [],.tup [],.tup [],.tup [],.tup [],.tup [],.tup []] h) 4) := by kernel_rfl
section
variable (K : Hint) (fid : FuncId) (call : ACall) (lf : Nat) (rd : Option Nat) (fr : List AV) (h : AH)
theorem dok7_8 : drawOK prog (befs (rg f7 8).toList []) (rg f7 8) = true := by kernel_rfl
theorem prs7_8 : pairsOK prog (befs (rg f7 8).toList []) (rg f7 8) [(2,1)] = true := by kernel_rfl
theorem rng7_8 : List.range (rg f7 8).size = [0,1,2,3,4,5] := by kernel_rfl
theorem drw7_8 {r : List AV × AH} (h0 : aops prog call (rg f7 8) [0,1,2,3,4,5] fr h = some r) (hq : ∀ p ∈ ([(2,1)] : List (Nat × Nat)),PairOK prog call (rg f7 8) fr h p.1 p.2) : arun prog (HK 7) fid call lf rd (.region 8 (rg f7 8) true) fr h = regR (some r) := (show _ = regR (adraw prog call (rg f7 8) fr h) by kernel_rfl).trans (congrArg regR (adraw_eval _ dok7_8 prs7_8 ((congrArg (fun l => aops prog call (rg f7 8) l fr h) rng7_8).trans h0) hq))
theorem li7_8_2 : loadI prog (rg f7 8) 2 fr h = ldV prog 49 (fr.getD 2 .top) h := by kernel_rfl
theorem rng7_8_1 : List.range 1 = [0] := by rfl
theorem rng7_8_2 : List.range 2 = [0,1] := by rfl
theorem dok7_16 : drawOK prog (befs (rg f7 16).toList []) (rg f7 16) = true := by kernel_rfl
theorem prs7_16 : pairsOK prog (befs (rg f7 16).toList []) (rg f7 16) [(2,1),(8,7),(15,14),(22,21),(29,28)] = true := by kernel_rfl
theorem rng7_16 : List.range (rg f7 16).size = [0,1,2,3,4,5,6,7,8,9,10,11,12,13,14,15,16,17,18,19,20,21,22,23,24,25,26,27,28,29,30,31,32,33,34,35,36] := by kernel_rfl
theorem drw7_16 {r : List AV × AH} (h0 : aops prog call (rg f7 16) [0,1,2,3,4,5,6,7,8,9,10,11,12,13,14,15,16,17,18,19,20,21,22,23,24,25,26,27,28,29,30,31,32,33,34,35,36] fr h = some r) (hq : ∀ p ∈ ([(2,1),(8,7),(15,14),(22,21),(29,28)] : List (Nat × Nat)),PairOK prog call (rg f7 16) fr h p.1 p.2) : arun prog (HK 7) fid call lf rd (.region 16 (rg f7 16) true) fr h = regR (some r) := (show _ = regR (adraw prog call (rg f7 16) fr h) by kernel_rfl).trans (congrArg regR (adraw_eval _ dok7_16 prs7_16 ((congrArg (fun l => aops prog call (rg f7 16) l fr h) rng7_16).trans h0) hq))
theorem li7_16_2 : loadI prog (rg f7 16) 2 fr h = ldV prog 49 (fr.getD 2 .top) h := by kernel_rfl
theorem li7_16_8 : loadI prog (rg f7 16) 8 fr h = ldV prog 49 (fr.getD 2 .top) h := by kernel_rfl
theorem li7_16_15 : loadI prog (rg f7 16) 15 fr h = ldV prog 49 (fr.getD 2 .top) h := by kernel_rfl
theorem li7_16_22 : loadI prog (rg f7 16) 22 fr h = ldV prog 49 (fr.getD 2 .top) h := by kernel_rfl
theorem li7_16_29 : loadI prog (rg f7 16) 29 fr h = ldV prog 49 (fr.getD 2 .top) h := by kernel_rfl
theorem rng7_16_1 : List.range 1 = [0] := by rfl
theorem rng7_16_2 : List.range 2 = [0,1] := by rfl
theorem rng7_16_7 : List.range 7 = [0,1,2,3,4,5,6] := by rfl
theorem rng7_16_8 : List.range 8 = [0,1,2,3,4,5,6,7] := by rfl
theorem rng7_16_14 : List.range 14 = [0,1,2,3,4,5,6,7,8,9,10,11,12,13] := by rfl
theorem rng7_16_15 : List.range 15 = [0,1,2,3,4,5,6,7,8,9,10,11,12,13,14] := by rfl
theorem rng7_16_21 : List.range 21 = [0,1,2,3,4,5,6,7,8,9,10,11,12,13,14,15,16,17,18,19,20] := by rfl
theorem rng7_16_22 : List.range 22 = [0,1,2,3,4,5,6,7,8,9,10,11,12,13,14,15,16,17,18,19,20,21] := by rfl
theorem rng7_16_28 : List.range 28 = [0,1,2,3,4,5,6,7,8,9,10,11,12,13,14,15,16,17,18,19,20,21,22,23,24,25,26,27] := by rfl
theorem rng7_16_29 : List.range 29 = [0,1,2,3,4,5,6,7,8,9,10,11,12,13,14,15,16,17,18,19,20,21,22,23,24,25,26,27,28] := by rfl
end
theorem R7 (K : Hint) (i : FuncId) (c : ACall) (n : Nat) (d : Option Nat) (f : List AV) (h : AH) :
 arun prog K i c n d (.region 0 (rg f7 0) false) f h = regR (aops prog c (rg f7 0) [0,1] f h) ∧
 arun prog K i c n d (.region 1 (rg f7 1) false) f h = regR (aops prog c (rg f7 1) [0,1,2] f h) ∧
 arun prog K i c n d (.region 2 (rg f7 2) false) f h = regR (aops prog c (rg f7 2) [0,1] f h) ∧
 arun prog K i c n d (.region 3 (rg f7 3) false) f h = regR (aops prog c (rg f7 3) [0,1,2] f h) ∧
 arun prog K i c n d (.region 4 (rg f7 4) false) f h = regR (aops prog c (rg f7 4) [0,1,2,3,4,5] f h) ∧
 arun prog K i c n d (.region 5 (rg f7 5) false) f h = regR (aops prog c (rg f7 5) [0,1,2,3,4] f h) ∧
 arun prog K i c n d (.region 6 (rg f7 6) false) f h = regR (aops prog c (rg f7 6) [0,1,2,3,4,5,6,7,8,9,10,11,12,13,14,15,16,17,18,19,20,21,22] f h) ∧
 arun prog K i c n d (.region 7 (rg f7 7) false) f h = regR (aops prog c (rg f7 7) [0] f h) ∧
 arun prog K i c n d (.region 9 (rg f7 9) false) f h = regR (aops prog c (rg f7 9) [0,1,2,3,4] f h) ∧
 arun prog K i c n d (.region 10 (rg f7 10) false) f h = regR (aops prog c (rg f7 10) [0] f h) ∧
 arun prog K i c n d (.region 11 (rg f7 11) false) f h = regR (aops prog c (rg f7 11) [0] f h) ∧
 arun prog K i c n d (.region 12 (rg f7 12) false) f h = regR (aops prog c (rg f7 12) [0,1,2,3,4,5,6,7,8,9] f h) ∧
 arun prog K i c n d (.region 15 (rg f7 15) false) f h = regR (aops prog c (rg f7 15) [0] f h) ∧
 arun prog K i c n d (.region 13 (rg f7 13) false) f h = regR (aops prog c (rg f7 13) [0,1,2] f h) := by
  repeat' apply And.intro
  all_goals kernel_rfl
theorem D7 (i : FuncId) (c : ACall) (n : Nat) (d : Option Nat) (f : List AV) (h : AH) :
 arun prog (HK 7) i c n d (.region 14 (rg f7 14) true) f h = regR (aopsS prog c (rg f7 14) [(0,false),(1,false),(2,false),(3,false),(4,false),(5,false),(6,false),(7,false),(8,false),(9,false),(10,false),(11,false)] f h) := by
  repeat' apply And.intro
  all_goals kernel_rfl
theorem S7 (c : ACall) (f : List AV) (h : AH) :
 astep prog c (rg f7 0) 0 f h = heapS (boxV (f.getD 0 .top) h) f 2 ∧
 astep prog c (rg f7 0) 1 f h = pureS (some (.bool false)) f 4 h ∧
 astep prog c (rg f7 1) 0 f h = pureS (ldV prog 49 (f.getD 2 .top) h) f 11 h ∧
 astep prog c (rg f7 1) 1 f h = heapS (callV c (.fn (.func 25) [] []) [(f.getD 11 .top)] h) f 12 ∧
 astep prog c (rg f7 1) 2 f h = pureS (abin prog .gtr 3 (.tmp 12) (.const (.int .i64 400)) (f.getD 12 .top) (.int .i64 400)) f 13 h ∧
 astep prog c (rg f7 2) 0 f h = heapS (callV c (.fn (.func 26) [] []) [] h) f 14 ∧
 astep prog c (rg f7 2) 1 f h = pureS (some (f.getD 14 .top)) f 4 h ∧
 astep prog c (rg f7 3) 0 f h = pureS (ldV prog 49 (f.getD 2 .top) h) f 15 h ∧
 astep prog c (rg f7 3) 1 f h = heapS (callV c (.fn (.func 31) [] []) [(f.getD 15 .top)] h) f 16 ∧
 astep prog c (rg f7 3) 2 f h = pureS (some (f.getD 16 .top)) f 5 h ∧
 astep prog c (rg f7 4) 0 f h = pureS (ldV prog 49 (f.getD 2 .top) h) f 17 h ∧
 astep prog c (rg f7 4) 1 f h = pureS (some (f.getD 5 .top)) f 18 h ∧
 astep prog c (rg f7 4) 2 f h = pureS (lenV (alen prog 47 (f.getD 18 .top))) f 19 h ∧
 astep prog c (rg f7 4) 3 f h = pureS (abin prog .add 3 (.tmp 19) (.const (.int .i64 5)) (f.getD 19 .top) (.int .i64 5)) f 20 h ∧
 astep prog c (rg f7 4) 4 f h = heapS (callV c (.fn (.func 28) [] []) [(f.getD 17 .top),(f.getD 20 .top)] h) f 21 ∧
 astep prog c (rg f7 4) 5 f h = pureS (some (f.getD 21 .top)) f 6 h ∧
 astep prog c (rg f7 5) 0 f h = pureS (ldV prog 49 (f.getD 2 .top) h) f 22 h ∧
 astep prog c (rg f7 5) 1 f h = pureS (some (f.getD 1 .top)) f 23 h ∧
 astep prog c (rg f7 5) 2 f h = pureS (aconv prog 5 3 (f.getD 23 .top)) f 24 h ∧
 astep prog c (rg f7 5) 3 f h = heapS (callV c (.fn (.func 28) [] []) [(f.getD 22 .top),(f.getD 24 .top)] h) f 25 ∧
 astep prog c (rg f7 5) 4 f h = pureS (some (f.getD 25 .top)) f 7 h ∧
 astep prog c (rg f7 6) 0 f h = pureS (some (f.getD 6 .top)) f 26 h ∧
 astep prog c (rg f7 6) 1 f h = pureS (lenV (alen prog 47 (f.getD 26 .top))) f 27 h ∧
 astep prog c (rg f7 6) 2 f h = pureS (some (f.getD 5 .top)) f 28 h ∧
 astep prog c (rg f7 6) 3 f h = pureS (lenV (alen prog 47 (f.getD 28 .top))) f 29 h ∧
 astep prog c (rg f7 6) 4 f h = pureS (abin prog .neq 3 (.tmp 27) (.tmp 29) (f.getD 27 .top) (f.getD 29 .top)) f 30 h ∧
 astep prog c (rg f7 6) 5 f h = pureS (some (f.getD 30 .top)) f 31 h ∧
 astep prog c (rg f7 6) 6 f h = gdS (f.getD 31 .top) false (some (f.set 32 (.tup []),h)) (pureS (some (f.getD 6 .top)) f 32 h) ∧
 astep prog c (rg f7 6) 7 f h = gdS (f.getD 31 .top) false (some (f.set 33 (.tup []),h)) (pureS (some (f.getD 5 .top)) f 33 h) ∧
 astep prog c (rg f7 6) 8 f h = gdS (f.getD 31 .top) false (some (f.set 34 (.tup []),h)) (heapS (callV c (.fn (.func 32) [] []) [(f.getD 32 .top),(f.getD 33 .top)] h) f 34) ∧
 astep prog c (rg f7 6) 9 f h = gdS (f.getD 31 .top) false (some (f.set 35 (.tup []),h)) (pureS (aun .not (f.getD 34 .top)) f 35 h) ∧
 astep prog c (rg f7 6) 10 f h = pureS (pickV (f.getD 31 .top) (.bool true) (f.getD 35 .top)) f 36 h ∧
 astep prog c (rg f7 6) 11 f h = pureS (some (f.getD 36 .top)) f 37 h ∧
 astep prog c (rg f7 6) 12 f h = gdS (f.getD 37 .top) false (some (f.set 38 (.tup []),h)) (pureS (some (f.getD 7 .top)) f 38 h) ∧
 astep prog c (rg f7 6) 13 f h = gdS (f.getD 37 .top) false (some (f.set 39 (.tup []),h)) (pureS (some (f.getD 5 .top)) f 39 h) ∧
 astep prog c (rg f7 6) 14 f h = gdS (f.getD 37 .top) false (some (f.set 40 (.tup []),h)) (pureS (some (f.getD 1 .top)) f 40 h) ∧
 astep prog c (rg f7 6) 15 f h = gdS (f.getD 37 .top) false (some (f.set 41 (.tup []),h)) (pureS (aconv prog 5 3 (f.getD 40 .top)) f 41 h) ∧
 astep prog c (rg f7 6) 16 f h = gdS (f.getD 37 .top) false (some (f.set 42 (.tup []),h)) (pureS (some (f.getD 5 .top)) f 42 h) ∧
 astep prog c (rg f7 6) 17 f h = gdS (f.getD 37 .top) false (some (f.set 43 (.tup []),h)) (pureS (lenV (alen prog 47 (f.getD 42 .top))) f 43 h) ∧
 astep prog c (rg f7 6) 18 f h = gdS (f.getD 37 .top) false (some (f.set 44 (.tup []),h)) (pureS (minV [(f.getD 41 .top),(f.getD 43 .top)]) f 44 h) ∧
 astep prog c (rg f7 6) 19 f h = gdS (f.getD 37 .top) false (some (f.set 45 (.tup []),h)) (pureS (aslice prog 47 (f.getD 39 .top) none (some (f.getD 44 .top)) none) f 45 h) ∧
 astep prog c (rg f7 6) 20 f h = gdS (f.getD 37 .top) false (some (f.set 46 (.tup []),h)) (heapS (callV c (.fn (.func 32) [] []) [(f.getD 38 .top),(f.getD 45 .top)] h) f 46) ∧
 astep prog c (rg f7 6) 21 f h = gdS (f.getD 37 .top) false (some (f.set 47 (.tup []),h)) (pureS (aun .not (f.getD 46 .top)) f 47 h) ∧
 astep prog c (rg f7 6) 22 f h = pureS (pickV (f.getD 37 .top) (.bool true) (f.getD 47 .top)) f 48 h ∧
 astep prog c (rg f7 7) 0 f h = pureS (some (.bool false)) f 4 h ∧
 astep prog c (rg f7 8) 0 f h = pureS (ldV prog 49 (f.getD 2 .top) h) f 49 h ∧
 astep prog c (rg f7 8) 1 f h = heapS (callV c (.fn (.func 33) [] []) [(f.getD 49 .top)] h) f 50 ∧
 astep prog c (rg f7 8) 2 f h = pureS (ldV prog 49 (f.getD 2 .top) h) f 51 h ∧
 astep prog c (rg f7 8) 3 f h = heapS (callV c (.fn (.func 34) [] []) [(f.getD 51 .top)] h) f 52 ∧
 astep prog c (rg f7 8) 4 f h = pureS (some (f.getD 50 .top)) f 8 h ∧
 astep prog c (rg f7 8) 5 f h = pureS (some (f.getD 52 .top)) f 9 h ∧
 astep prog c (rg f7 9) 0 f h = pureS (some (f.getD 8 .top)) f 53 h ∧
 astep prog c (rg f7 9) 1 f h = pureS (lenV (alen prog 44 (f.getD 53 .top))) f 54 h ∧
 astep prog c (rg f7 9) 2 f h = pureS (some (f.getD 9 .top)) f 55 h ∧
 astep prog c (rg f7 9) 3 f h = pureS (lenV (alen prog 44 (f.getD 55 .top))) f 56 h ∧
 astep prog c (rg f7 9) 4 f h = pureS (abin prog .neq 3 (.tmp 54) (.tmp 56) (f.getD 54 .top) (f.getD 56 .top)) f 57 h ∧
 astep prog c (rg f7 10) 0 f h = pureS (some (.bool false)) f 4 h ∧
 astep prog c (rg f7 11) 0 f h = pureS (some (.int .i64 0)) f 10 h ∧
 astep prog c (rg f7 12) 0 f h = pureS (some (f.getD 10 .top)) f 58 h ∧
 astep prog c (rg f7 12) 1 f h = pureS (some (f.getD 8 .top)) f 59 h ∧
 astep prog c (rg f7 12) 2 f h = pureS (lenV (alen prog 44 (f.getD 59 .top))) f 60 h ∧
 astep prog c (rg f7 12) 3 f h = pureS (abin prog .lss 3 (.tmp 58) (.tmp 60) (f.getD 58 .top) (f.getD 60 .top)) f 61 h ∧
 astep prog c (rg f7 12) 4 f h = pureS (some (f.getD 61 .top)) f 62 h ∧
 astep prog c (rg f7 12) 5 f h = gdS (f.getD 62 .top) true (some (f.set 63 (.tup []),h)) (pureS (some (f.getD 10 .top)) f 63 h) ∧
 astep prog c (rg f7 12) 6 f h = gdS (f.getD 62 .top) true (some (f.set 64 (.tup []),h)) (pureS (some (f.getD 9 .top)) f 64 h) ∧
 astep prog c (rg f7 12) 7 f h = gdS (f.getD 62 .top) true (some (f.set 65 (.tup []),h)) (pureS (lenV (alen prog 44 (f.getD 64 .top))) f 65 h) ∧
 astep prog c (rg f7 12) 8 f h = gdS (f.getD 62 .top) true (some (f.set 66 (.tup []),h)) (pureS (abin prog .lss 3 (.tmp 63) (.tmp 65) (f.getD 63 .top) (f.getD 65 .top)) f 66 h) ∧
 astep prog c (rg f7 12) 9 f h = pureS (pickV (f.getD 62 .top) (f.getD 66 .top) (.bool false)) f 67 h ∧
 astep prog c (rg f7 14) 0 f h = pureS (some (f.getD 8 .top)) f 70 h ∧
 astep prog c (rg f7 14) 1 f h = pureS (some (f.getD 10 .top)) f 71 h ∧
 astep prog c (rg f7 14) 2 f h = pureS (aindexAt prog 44 (f.getD 70 .top) (f.getD 71 .top)) f 72 h ∧
 astep prog c (rg f7 14) 3 f h = pureS (afieldAt prog 60 (f.getD 72 .top) 0) f 73 h ∧
 astep prog c (rg f7 14) 4 f h = pureS (ldV prog 58 (f.getD 73 .top) h) f 74 h ∧
 astep prog c (rg f7 14) 5 f h = pureS (some (f.getD 9 .top)) f 75 h ∧
 astep prog c (rg f7 14) 6 f h = pureS (some (f.getD 10 .top)) f 76 h ∧
 astep prog c (rg f7 14) 7 f h = pureS (aindexAt prog 44 (f.getD 75 .top) (f.getD 76 .top)) f 77 h ∧
 astep prog c (rg f7 14) 8 f h = pureS (afieldAt prog 60 (f.getD 77 .top) 0) f 78 h ∧
 astep prog c (rg f7 14) 9 f h = pureS (ldV prog 58 (f.getD 78 .top) h) f 79 h ∧
 astep prog c (rg f7 14) 10 f h = heapS (callV c (.fn (.func 35) [] []) [(f.getD 74 .top),(f.getD 79 .top)] h) f 80 ∧
 astep prog c (rg f7 14) 11 f h = pureS (aun .not (f.getD 80 .top)) f 81 h ∧
 astep prog c (rg f7 15) 0 f h = pureS (some (.bool false)) f 4 h ∧
 astep prog c (rg f7 13) 0 f h = pureS (some (f.getD 10 .top)) f 68 h ∧
 astep prog c (rg f7 13) 1 f h = pureS (abin prog .add 3 (.tmp 68) (.const (.int .i64 1)) (f.getD 68 .top) (.int .i64 1)) f 69 h ∧
 astep prog c (rg f7 13) 2 f h = pureS (some (f.getD 69 .top)) f 10 h ∧
 astep prog c (rg f7 16) 0 f h = pureS (ldV prog 49 (f.getD 2 .top) h) f 82 h ∧
 astep prog c (rg f7 16) 1 f h = heapS (callV c (.fn (.func 30) [] []) [(f.getD 82 .top)] h) f 83 ∧
 astep prog c (rg f7 16) 2 f h = pureS (ldV prog 49 (f.getD 2 .top) h) f 84 h ∧
 astep prog c (rg f7 16) 3 f h = heapS (callV c (.fn (.func 36) [] []) [(f.getD 84 .top)] h) f 85 ∧
 astep prog c (rg f7 16) 4 f h = heapS (callV c (.fn (.func 22) [] []) [(f.getD 83 .top),(f.getD 85 .top)] h) f 86 ∧
 astep prog c (rg f7 16) 5 f h = pureS (some (f.getD 86 .top)) f 87 h ∧
 astep prog c (rg f7 16) 6 f h = gdS (f.getD 87 .top) true (some (f.set 88 (.tup []),h)) (pureS (ldV prog 49 (f.getD 2 .top) h) f 88 h) ∧
 astep prog c (rg f7 16) 7 f h = gdS (f.getD 87 .top) true (some (f.set 89 (.tup []),h)) (heapS (callV c (.fn (.func 37) [] []) [(f.getD 88 .top)] h) f 89) ∧
 astep prog c (rg f7 16) 8 f h = gdS (f.getD 87 .top) true (some (f.set 90 (.tup []),h)) (pureS (ldV prog 49 (f.getD 2 .top) h) f 90 h) ∧
 astep prog c (rg f7 16) 9 f h = gdS (f.getD 87 .top) true (some (f.set 91 (.tup []),h)) (heapS (callV c (.fn (.func 38) [] []) [(f.getD 90 .top)] h) f 91) ∧
 astep prog c (rg f7 16) 10 f h = gdS (f.getD 87 .top) true (some (f.set 92 (.tup []),h)) (heapS (callV c (.fn (.func 22) [] []) [(f.getD 89 .top),(f.getD 91 .top)] h) f 92) ∧
 astep prog c (rg f7 16) 11 f h = pureS (pickV (f.getD 87 .top) (f.getD 92 .top) (.bool false)) f 93 h ∧
 astep prog c (rg f7 16) 12 f h = pureS (some (f.getD 93 .top)) f 94 h ∧
 astep prog c (rg f7 16) 13 f h = gdS (f.getD 94 .top) true (some (f.set 95 (.tup []),h)) (pureS (ldV prog 49 (f.getD 2 .top) h) f 95 h) ∧
 astep prog c (rg f7 16) 14 f h = gdS (f.getD 94 .top) true (some (f.set 96 (.tup []),h)) (heapS (callV c (.fn (.func 39) [] []) [(f.getD 95 .top)] h) f 96) ∧
 astep prog c (rg f7 16) 15 f h = gdS (f.getD 94 .top) true (some (f.set 97 (.tup []),h)) (pureS (ldV prog 49 (f.getD 2 .top) h) f 97 h) ∧
 astep prog c (rg f7 16) 16 f h = gdS (f.getD 94 .top) true (some (f.set 98 (.tup []),h)) (heapS (callV c (.fn (.func 40) [] []) [(f.getD 97 .top)] h) f 98) ∧
 astep prog c (rg f7 16) 17 f h = gdS (f.getD 94 .top) true (some (f.set 99 (.tup []),h)) (heapS (callV c (.fn (.func 22) [] []) [(f.getD 96 .top),(f.getD 98 .top)] h) f 99) ∧
 astep prog c (rg f7 16) 18 f h = pureS (pickV (f.getD 94 .top) (f.getD 99 .top) (.bool false)) f 100 h ∧
 astep prog c (rg f7 16) 19 f h = pureS (some (f.getD 100 .top)) f 101 h ∧
 astep prog c (rg f7 16) 20 f h = gdS (f.getD 101 .top) true (some (f.set 102 (.tup []),h)) (pureS (ldV prog 49 (f.getD 2 .top) h) f 102 h) ∧
 astep prog c (rg f7 16) 21 f h = gdS (f.getD 101 .top) true (some (f.set 103 (.tup []),h)) (heapS (callV c (.fn (.func 41) [] []) [(f.getD 102 .top)] h) f 103) ∧
 astep prog c (rg f7 16) 22 f h = gdS (f.getD 101 .top) true (some (f.set 104 (.tup []),h)) (pureS (ldV prog 49 (f.getD 2 .top) h) f 104 h) ∧
 astep prog c (rg f7 16) 23 f h = gdS (f.getD 101 .top) true (some (f.set 105 (.tup []),h)) (heapS (callV c (.fn (.func 42) [] []) [(f.getD 104 .top)] h) f 105) ∧
 astep prog c (rg f7 16) 24 f h = gdS (f.getD 101 .top) true (some (f.set 106 (.tup []),h)) (heapS (callV c (.fn (.func 22) [] []) [(f.getD 103 .top),(f.getD 105 .top)] h) f 106) ∧
 astep prog c (rg f7 16) 25 f h = pureS (pickV (f.getD 101 .top) (f.getD 106 .top) (.bool false)) f 107 h ∧
 astep prog c (rg f7 16) 26 f h = pureS (some (f.getD 107 .top)) f 108 h ∧
 astep prog c (rg f7 16) 27 f h = gdS (f.getD 108 .top) true (some (f.set 109 (.tup []),h)) (pureS (ldV prog 49 (f.getD 2 .top) h) f 109 h) ∧
 astep prog c (rg f7 16) 28 f h = gdS (f.getD 108 .top) true (some (f.set 110 (.tup []),h)) (heapS (callV c (.fn (.func 29) [] []) [(f.getD 109 .top)] h) f 110) ∧
 astep prog c (rg f7 16) 29 f h = gdS (f.getD 108 .top) true (some (f.set 111 (.tup []),h)) (pureS (ldV prog 49 (f.getD 2 .top) h) f 111 h) ∧
 astep prog c (rg f7 16) 30 f h = gdS (f.getD 108 .top) true (some (f.set 112 (.tup []),h)) (heapS (callV c (.fn (.func 43) [] []) [(f.getD 111 .top)] h) f 112) ∧
 astep prog c (rg f7 16) 31 f h = gdS (f.getD 108 .top) true (some (f.set 113 (.tup []),h)) (pureS (abin prog .eql 3 (.tmp 110) (.tmp 112) (f.getD 110 .top) (f.getD 112 .top)) f 113 h) ∧
 astep prog c (rg f7 16) 32 f h = pureS (pickV (f.getD 108 .top) (f.getD 113 .top) (.bool false)) f 114 h ∧
 astep prog c (rg f7 16) 33 f h = pureS (some (f.getD 114 .top)) f 115 h ∧
 astep prog c (rg f7 16) 34 f h = gdS (f.getD 115 .top) true (some (f.set 116 (.tup []),h)) (heapS (callV c (.fn (.func 26) [] []) [] h) f 116) ∧
 astep prog c (rg f7 16) 35 f h = pureS (pickV (f.getD 115 .top) (f.getD 116 .top) (.bool false)) f 117 h ∧
 astep prog c (rg f7 16) 36 f h = pureS (some (f.getD 117 .top)) f 4 h := by
  repeat' apply And.intro
  all_goals kernel_rfl

end Go.Proofs.Ytgnacecplaemlaa
namespace Go.Proofs.Ytgnacecplaemlaa
open AI Try
set_option linter.unusedVariables false
/-! ### 22: conch/conchref04.Same -/
noncomputable def lp22_4 : Code := (.seq (.seq (.region 4 (rg f22 4) false) (.cond (.tmp 20) .skip (.exit 0))) (.seq (.block 1 (.seq (.region 6 (rg f22 6) true) (.cond (.tmp 31) (.seq (.region 7 (rg f22 7) false) .ret) .skip))) (.region 5 (rg f22 5) false)))
def C22_4 (x0 x1 x5 : AV) : List AV := [x0,x1,.top,.top,.top,x5,.top,.top,.top,.top,.top,.top,.top,.top,.top,.top,.top,.top,.top,.top,.top,.top,.top,.top,.top,.top,.top,.top,.top,.top,.top,.top]
theorem cl22_4 (x0 x1 x2 x3 x4 x5 x6 x7 x8 x9 x10 x11 x12 x13 x14 x15 x16 x17 x18 x19 x20 x21 x22 x23 x24 x25 x26 x27 x28 x29 x30 x31 : AV) : aclear (HK 22) lp22_4 [x0,x1,x2,x3,x4,x5,x6,x7,x8,x9,x10,x11,x12,x13,x14,x15,x16,x17,x18,x19,x20,x21,x22,x23,x24,x25,x26,x27,x28,x29,x30,x31] = C22_4 x0 x1 x5 := by kernel_rfl
noncomputable def cd22 : Code := (.seq (.region 0 (rg f22 0) false) (.seq (.seq (.region 1 (rg f22 1) false) (.cond (.tmp 10) (.seq (.region 2 (rg f22 2) false) .ret) .skip)) (.seq (.seq (.region 3 (rg f22 3) false) (.block 0 (.loop lp22_4))) (.seq (.region 8 (rg f22 8) false) .ret))))
theorem ent22 (n : Nat) (a0 a1 : AV) (h : AH) : X (n + 1) (.func 22) [a0,a1] h = nrm h (fin1 (arun prog (HK 22) 22 (X n) n none cd22 [a0,a1,.tup [],.tup [],.tup [],.tup [],.tup [],.tup [],.tup [],.tup [],.tup [],.tup [],.tup [],.tup [],.tup [],.tup [],.tup [],.tup [],.tup [],.tup [],.tup [],.tup [],.tup [],.tup [],.tup [],.tup [],.tup [],.tup [],.tup [],.tup [],.tup [],.tup []] h) 4) := by kernel_rfl
section
variable (K : Hint) (fid : FuncId) (call : ACall) (lf : Nat) (rd : Option Nat) (fr : List AV) (h : AH)
end
theorem R22 (K : Hint) (i : FuncId) (c : ACall) (n : Nat) (d : Option Nat) (f : List AV) (h : AH) :
 arun prog K i c n d (.region 0 (rg f22 0) false) f h = regR (aops prog c (rg f22 0) [0] f h) ∧
 arun prog K i c n d (.region 1 (rg f22 1) false) f h = regR (aops prog c (rg f22 1) [0,1,2,3,4] f h) ∧
 arun prog K i c n d (.region 2 (rg f22 2) false) f h = regR (aops prog c (rg f22 2) [0] f h) ∧
 arun prog K i c n d (.region 3 (rg f22 3) false) f h = regR (aops prog c (rg f22 3) [0] f h) ∧
 arun prog K i c n d (.region 4 (rg f22 4) false) f h = regR (aops prog c (rg f22 4) [0,1,2,3,4,5,6,7,8,9] f h) ∧
 arun prog K i c n d (.region 7 (rg f22 7) false) f h = regR (aops prog c (rg f22 7) [0] f h) ∧
 arun prog K i c n d (.region 5 (rg f22 5) false) f h = regR (aops prog c (rg f22 5) [0,1,2] f h) ∧
 arun prog K i c n d (.region 8 (rg f22 8) false) f h = regR (aops prog c (rg f22 8) [0] f h) := by
  repeat' apply And.intro
  all_goals kernel_rfl
theorem D22 (i : FuncId) (c : ACall) (n : Nat) (d : Option Nat) (f : List AV) (h : AH) :
 arun prog (HK 22) i c n d (.region 6 (rg f22 6) true) f h = regR (aopsS prog c (rg f22 6) [(0,false),(1,false),(2,false),(3,false),(4,false),(5,false),(6,false),(7,false),(8,false)] f h) := by
  repeat' apply And.intro
  all_goals kernel_rfl
theorem S22 (c : ACall) (f : List AV) (h : AH) :
 astep prog c (rg f22 0) 0 f h = pureS (some (.bool false)) f 4 h ∧
 astep prog c (rg f22 1) 0 f h = pureS (some (f.getD 0 .top)) f 6 h ∧
 astep prog c (rg f22 1) 1 f h = pureS (lenV (alen prog 40 (f.getD 6 .top))) f 7 h ∧
 astep prog c (rg f22 1) 2 f h = pureS (some (f.getD 1 .top)) f 8 h ∧
 astep prog c (rg f22 1) 3 f h = pureS (lenV (alen prog 40 (f.getD 8 .top))) f 9 h ∧
 astep prog c (rg f22 1) 4 f h = pureS (abin prog .neq 3 (.tmp 7) (.tmp 9) (f.getD 7 .top) (f.getD 9 .top)) f 10 h ∧
 astep prog c (rg f22 2) 0 f h = pureS (some (.bool false)) f 4 h ∧
 astep prog c (rg f22 3) 0 f h = pureS (some (.int .i64 0)) f 5 h ∧
 astep prog c (rg f22 4) 0 f h = pureS (some (f.getD 5 .top)) f 11 h ∧
 astep prog c (rg f22 4) 1 f h = pureS (some (f.getD 0 .top)) f 12 h ∧
 astep prog c (rg f22 4) 2 f h = pureS (lenV (alen prog 40 (f.getD 12 .top))) f 13 h ∧
 astep prog c (rg f22 4) 3 f h = pureS (abin prog .lss 3 (.tmp 11) (.tmp 13) (f.getD 11 .top) (f.getD 13 .top)) f 14 h ∧
 astep prog c (rg f22 4) 4 f h = pureS (some (f.getD 14 .top)) f 15 h ∧
 astep prog c (rg f22 4) 5 f h = gdS (f.getD 15 .top) true (some (f.set 16 (.tup []),h)) (pureS (some (f.getD 5 .top)) f 16 h) ∧
 astep prog c (rg f22 4) 6 f h = gdS (f.getD 15 .top) true (some (f.set 17 (.tup []),h)) (pureS (some (f.getD 1 .top)) f 17 h) ∧
 astep prog c (rg f22 4) 7 f h = gdS (f.getD 15 .top) true (some (f.set 18 (.tup []),h)) (pureS (lenV (alen prog 40 (f.getD 17 .top))) f 18 h) ∧
 astep prog c (rg f22 4) 8 f h = gdS (f.getD 15 .top) true (some (f.set 19 (.tup []),h)) (pureS (abin prog .lss 3 (.tmp 16) (.tmp 18) (f.getD 16 .top) (f.getD 18 .top)) f 19 h) ∧
 astep prog c (rg f22 4) 9 f h = pureS (pickV (f.getD 15 .top) (f.getD 19 .top) (.bool false)) f 20 h ∧
 astep prog c (rg f22 6) 0 f h = pureS (some (f.getD 0 .top)) f 23 h ∧
 astep prog c (rg f22 6) 1 f h = pureS (some (f.getD 5 .top)) f 24 h ∧
 astep prog c (rg f22 6) 2 f h = pureS (aindexAt prog 40 (f.getD 23 .top) (f.getD 24 .top)) f 25 h ∧
 astep prog c (rg f22 6) 3 f h = pureS (ldV prog 9 (f.getD 25 .top) h) f 26 h ∧
 astep prog c (rg f22 6) 4 f h = pureS (some (f.getD 1 .top)) f 27 h ∧
 astep prog c (rg f22 6) 5 f h = pureS (some (f.getD 5 .top)) f 28 h ∧
 astep prog c (rg f22 6) 6 f h = pureS (aindexAt prog 40 (f.getD 27 .top) (f.getD 28 .top)) f 29 h ∧
 astep prog c (rg f22 6) 7 f h = pureS (ldV prog 9 (f.getD 29 .top) h) f 30 h ∧
 astep prog c (rg f22 6) 8 f h = pureS (abin prog .neq 9 (.tmp 26) (.tmp 30) (f.getD 26 .top) (f.getD 30 .top)) f 31 h ∧
 astep prog c (rg f22 7) 0 f h = pureS (some (.bool false)) f 4 h ∧
 astep prog c (rg f22 5) 0 f h = pureS (some (f.getD 5 .top)) f 21 h ∧
 astep prog c (rg f22 5) 1 f h = pureS (abin prog .add 3 (.tmp 21) (.const (.int .i64 1)) (f.getD 21 .top) (.int .i64 1)) f 22 h ∧
 astep prog c (rg f22 5) 2 f h = pureS (some (f.getD 22 .top)) f 5 h ∧
 astep prog c (rg f22 8) 0 f h = pureS (some (.bool true)) f 4 h := by
  repeat' apply And.intro
  all_goals kernel_rfl

end Go.Proofs.Ytgnacecplaemlaa
namespace Go.Proofs.Ytgnacecplaemlaa
open AI Try
set_option linter.unusedVariables false
/-! ### 71: conch/conchref06.Ints -/
noncomputable def lp71_4 : Code := (.seq (.seq (.region 4 (rg f71 4) false) (.cond (.tmp 20) .skip (.exit 0))) (.seq (.block 1 (.seq (.region 6 (rg f71 6) true) (.cond (.tmp 31) (.seq (.region 7 (rg f71 7) false) .ret) .skip))) (.region 5 (rg f71 5) false)))
def C71_4 (x0 x1 x5 : AV) : List AV := [x0,x1,.top,.top,.top,x5,.top,.top,.top,.top,.top,.top,.top,.top,.top,.top,.top,.top,.top,.top,.top,.top,.top,.top,.top,.top,.top,.top,.top,.top,.top,.top]
theorem cl71_4 (x0 x1 x2 x3 x4 x5 x6 x7 x8 x9 x10 x11 x12 x13 x14 x15 x16 x17 x18 x19 x20 x21 x22 x23 x24 x25 x26 x27 x28 x29 x30 x31 : AV) : aclear (HK 71) lp71_4 [x0,x1,x2,x3,x4,x5,x6,x7,x8,x9,x10,x11,x12,x13,x14,x15,x16,x17,x18,x19,x20,x21,x22,x23,x24,x25,x26,x27,x28,x29,x30,x31] = C71_4 x0 x1 x5 := by kernel_rfl
noncomputable def cd71 : Code := (.seq (.region 0 (rg f71 0) false) (.seq (.seq (.region 1 (rg f71 1) false) (.cond (.tmp 10) (.seq (.region 2 (rg f71 2) false) .ret) .skip)) (.seq (.seq (.region 3 (rg f71 3) false) (.block 0 (.loop lp71_4))) (.seq (.region 8 (rg f71 8) false) .ret))))
theorem ent71 (n : Nat) (a0 a1 : AV) (h : AH) : X (n + 1) (.func 71) [a0,a1] h = nrm h (fin1 (arun prog (HK 71) 71 (X n) n none cd71 [a0,a1,.tup [],.tup [],.tup [],.tup [],.tup [],.tup [],.tup [],.tup [],.tup [],.tup [],.tup [],.tup [],.tup [],.tup [],.tup [],.tup [],.tup [],.tup [],.tup [],.tup [],.tup [],.tup [],.tup [],.tup [],.tup [],.tup [],.tup [],.tup [],.tup [],.tup []] h) 4) := by kernel_rfl
section
variable (K : Hint) (fid : FuncId) (call : ACall) (lf : Nat) (rd : Option Nat) (fr : List AV) (h : AH)
end
theorem R71 (K : Hint) (i : FuncId) (c : ACall) (n : Nat) (d : Option Nat) (f : List AV) (h : AH) :
 arun prog K i c n d (.region 0 (rg f71 0) false) f h = regR (aops prog c (rg f71 0) [0] f h) ∧
 arun prog K i c n d (.region 1 (rg f71 1) false) f h = regR (aops prog c (rg f71 1) [0,1,2,3,4] f h) ∧
 arun prog K i c n d (.region 2 (rg f71 2) false) f h = regR (aops prog c (rg f71 2) [0] f h) ∧
 arun prog K i c n d (.region 3 (rg f71 3) false) f h = regR (aops prog c (rg f71 3) [0] f h) ∧
 arun prog K i c n d (.region 4 (rg f71 4) false) f h = regR (aops prog c (rg f71 4) [0,1,2,3,4,5,6,7,8,9] f h) ∧
 arun prog K i c n d (.region 7 (rg f71 7) false) f h = regR (aops prog c (rg f71 7) [0] f h) ∧
 arun prog K i c n d (.region 5 (rg f71 5) false) f h = regR (aops prog c (rg f71 5) [0,1,2] f h) ∧
 arun prog K i c n d (.region 8 (rg f71 8) false) f h = regR (aops prog c (rg f71 8) [0] f h) := by
  repeat' apply And.intro
  all_goals kernel_rfl
theorem D71 (i : FuncId) (c : ACall) (n : Nat) (d : Option Nat) (f : List AV) (h : AH) :
 arun prog (HK 71) i c n d (.region 6 (rg f71 6) true) f h = regR (aopsS prog c (rg f71 6) [(0,false),(1,false),(2,false),(3,false),(4,false),(5,false),(6,false),(7,false),(8,false)] f h) := by
  repeat' apply And.intro
  all_goals kernel_rfl
theorem S71 (c : ACall) (f : List AV) (h : AH) :
 astep prog c (rg f71 0) 0 f h = pureS (some (.bool false)) f 4 h ∧
 astep prog c (rg f71 1) 0 f h = pureS (some (f.getD 0 .top)) f 6 h ∧
 astep prog c (rg f71 1) 1 f h = pureS (lenV (alen prog 43 (f.getD 6 .top))) f 7 h ∧
 astep prog c (rg f71 1) 2 f h = pureS (some (f.getD 1 .top)) f 8 h ∧
 astep prog c (rg f71 1) 3 f h = pureS (lenV (alen prog 43 (f.getD 8 .top))) f 9 h ∧
 astep prog c (rg f71 1) 4 f h = pureS (abin prog .neq 3 (.tmp 7) (.tmp 9) (f.getD 7 .top) (f.getD 9 .top)) f 10 h ∧
 astep prog c (rg f71 2) 0 f h = pureS (some (.bool false)) f 4 h ∧
 astep prog c (rg f71 3) 0 f h = pureS (some (.int .i64 0)) f 5 h ∧
 astep prog c (rg f71 4) 0 f h = pureS (some (f.getD 5 .top)) f 11 h ∧
 astep prog c (rg f71 4) 1 f h = pureS (some (f.getD 0 .top)) f 12 h ∧
 astep prog c (rg f71 4) 2 f h = pureS (lenV (alen prog 43 (f.getD 12 .top))) f 13 h ∧
 astep prog c (rg f71 4) 3 f h = pureS (abin prog .lss 3 (.tmp 11) (.tmp 13) (f.getD 11 .top) (f.getD 13 .top)) f 14 h ∧
 astep prog c (rg f71 4) 4 f h = pureS (some (f.getD 14 .top)) f 15 h ∧
 astep prog c (rg f71 4) 5 f h = gdS (f.getD 15 .top) true (some (f.set 16 (.tup []),h)) (pureS (some (f.getD 5 .top)) f 16 h) ∧
 astep prog c (rg f71 4) 6 f h = gdS (f.getD 15 .top) true (some (f.set 17 (.tup []),h)) (pureS (some (f.getD 1 .top)) f 17 h) ∧
 astep prog c (rg f71 4) 7 f h = gdS (f.getD 15 .top) true (some (f.set 18 (.tup []),h)) (pureS (lenV (alen prog 43 (f.getD 17 .top))) f 18 h) ∧
 astep prog c (rg f71 4) 8 f h = gdS (f.getD 15 .top) true (some (f.set 19 (.tup []),h)) (pureS (abin prog .lss 3 (.tmp 16) (.tmp 18) (f.getD 16 .top) (f.getD 18 .top)) f 19 h) ∧
 astep prog c (rg f71 4) 9 f h = pureS (pickV (f.getD 15 .top) (f.getD 19 .top) (.bool false)) f 20 h ∧
 astep prog c (rg f71 6) 0 f h = pureS (some (f.getD 0 .top)) f 23 h ∧
 astep prog c (rg f71 6) 1 f h = pureS (some (f.getD 5 .top)) f 24 h ∧
 astep prog c (rg f71 6) 2 f h = pureS (aindexAt prog 43 (f.getD 23 .top) (f.getD 24 .top)) f 25 h ∧
 astep prog c (rg f71 6) 3 f h = pureS (ldV prog 3 (f.getD 25 .top) h) f 26 h ∧
 astep prog c (rg f71 6) 4 f h = pureS (some (f.getD 1 .top)) f 27 h ∧
 astep prog c (rg f71 6) 5 f h = pureS (some (f.getD 5 .top)) f 28 h ∧
 astep prog c (rg f71 6) 6 f h = pureS (aindexAt prog 43 (f.getD 27 .top) (f.getD 28 .top)) f 29 h ∧
 astep prog c (rg f71 6) 7 f h = pureS (ldV prog 3 (f.getD 29 .top) h) f 30 h ∧
 astep prog c (rg f71 6) 8 f h = pureS (abin prog .neq 3 (.tmp 26) (.tmp 30) (f.getD 26 .top) (f.getD 30 .top)) f 31 h ∧
 astep prog c (rg f71 7) 0 f h = pureS (some (.bool false)) f 4 h ∧
 astep prog c (rg f71 5) 0 f h = pureS (some (f.getD 5 .top)) f 21 h ∧
 astep prog c (rg f71 5) 1 f h = pureS (abin prog .add 3 (.tmp 21) (.const (.int .i64 1)) (f.getD 21 .top) (.int .i64 1)) f 22 h ∧
 astep prog c (rg f71 5) 2 f h = pureS (some (f.getD 22 .top)) f 5 h ∧
 astep prog c (rg f71 8) 0 f h = pureS (some (.bool true)) f 4 h := by
  repeat' apply And.intro
  all_goals kernel_rfl

end Go.Proofs.Ytgnacecplaemlaa
namespace Go.Proofs.Ytgnacecplaemlaa
open AI Try
set_option linter.unusedVariables false
/-! ### 35: conch/conchref24.Same -/
noncomputable def lp35_4 : Code := (.seq (.seq (.region 4 (rg f35 4) false) (.cond (.tmp 20) .skip (.exit 0))) (.seq (.block 1 (.seq (.region 6 (rg f35 6) true) (.cond (.tmp 73) (.seq (.region 7 (rg f35 7) false) .ret) .skip))) (.region 5 (rg f35 5) false)))
def C35_4 (x0 x1 x5 : AV) : List AV := [x0,x1,.top,.top,.top,x5,.top,.top,.top,.top,.top,.top,.top,.top,.top,.top,.top,.top,.top,.top,.top,.top,.top,.top,.top,.top,.top,.top,.top,.top,.top,.top,.top,.top,.top,.top,.top,.top,.top,.top,.top,.top,.top,.top,.top,.top,.top,.top,.top,.top,.top,.top,.top,.top,.top,.top,.top,.top,.top,.top,.top,.top,.top,.top,.top,.top,.top,.top,.top,.top,.top,.top,.top,.top]
theorem cl35_4 (x0 x1 x2 x3 x4 x5 x6 x7 x8 x9 x10 x11 x12 x13 x14 x15 x16 x17 x18 x19 x20 x21 x22 x23 x24 x25 x26 x27 x28 x29 x30 x31 x32 x33 x34 x35 x36 x37 x38 x39 x40 x41 x42 x43 x44 x45 x46 x47 x48 x49 x50 x51 x52 x53 x54 x55 x56 x57 x58 x59 x60 x61 x62 x63 x64 x65 x66 x67 x68 x69 x70 x71 x72 x73 : AV) : aclear (HK 35) lp35_4 [x0,x1,x2,x3,x4,x5,x6,x7,x8,x9,x10,x11,x12,x13,x14,x15,x16,x17,x18,x19,x20,x21,x22,x23,x24,x25,x26,x27,x28,x29,x30,x31,x32,x33,x34,x35,x36,x37,x38,x39,x40,x41,x42,x43,x44,x45,x46,x47,x48,x49,x50,x51,x52,x53,x54,x55,x56,x57,x58,x59,x60,x61,x62,x63,x64,x65,x66,x67,x68,x69,x70,x71,x72,x73] = C35_4 x0 x1 x5 := by kernel_rfl
noncomputable def cd35 : Code := (.seq (.region 0 (rg f35 0) false) (.seq (.seq (.region 1 (rg f35 1) false) (.cond (.tmp 10) (.seq (.region 2 (rg f35 2) false) .ret) .skip)) (.seq (.seq (.region 3 (rg f35 3) false) (.block 0 (.loop lp35_4))) (.seq (.region 8 (rg f35 8) false) .ret))))
theorem ent35 (n : Nat) (a0 a1 : AV) (h : AH) : X (n + 1) (.func 35) [a0,a1] h = nrm h (fin1 (arun prog (HK 35) 35 (X n) n none cd35 [a0,a1,.tup [],.tup [],.tup [],.tup [],.tup [],.tup [],.tup [],.tup [],.tup [],.tup [],.tup [],.tup [],.tup [],.tup [],.tup [],.tup [],.tup [],.tup [],.tup [],.tup [],.tup [],.tup [],.tup [],.tup [],.tup [],.tup [],.tup [],.tup [],.tup [],.tup [],.tup [],.tup [],.tup [],.tup [],.tup [],.tup [],.tup [],.tup [],.tup [],.tup [],.tup [],.tup [],.tup [],.tup [],.tup [],.tup [],.tup [],.tup [],.tup [],.tup [],.tup [],.tup [],.tup [],.tup [],.tup [],.tup [],.tup [],.tup [],.tup [],.tup [],.tup [],.tup [],.tup [],.tup [],.tup [],.tup [],.tup [],.tup [],.tup [],.tup [],.tup [],.tup []] h) 4) := by kernel_rfl
section
variable (K : Hint) (fid : FuncId) (call : ACall) (lf : Nat) (rd : Option Nat) (fr : List AV) (h : AH)
end
theorem R35 (K : Hint) (i : FuncId) (c : ACall) (n : Nat) (d : Option Nat) (f : List AV) (h : AH) :
 arun prog K i c n d (.region 0 (rg f35 0) false) f h = regR (aops prog c (rg f35 0) [0] f h) ∧
 arun prog K i c n d (.region 1 (rg f35 1) false) f h = regR (aops prog c (rg f35 1) [0,1,2,3,4] f h) ∧
 arun prog K i c n d (.region 2 (rg f35 2) false) f h = regR (aops prog c (rg f35 2) [0] f h) ∧
 arun prog K i c n d (.region 3 (rg f35 3) false) f h = regR (aops prog c (rg f35 3) [0] f h) ∧
 arun prog K i c n d (.region 4 (rg f35 4) false) f h = regR (aops prog c (rg f35 4) [0,1,2,3,4,5,6,7,8,9] f h) ∧
 arun prog K i c n d (.region 7 (rg f35 7) false) f h = regR (aops prog c (rg f35 7) [0] f h) ∧
 arun prog K i c n d (.region 5 (rg f35 5) false) f h = regR (aops prog c (rg f35 5) [0,1,2] f h) ∧
 arun prog K i c n d (.region 8 (rg f35 8) false) f h = regR (aops prog c (rg f35 8) [0] f h) := by
  repeat' apply And.intro
  all_goals kernel_rfl
theorem D35 (i : FuncId) (c : ACall) (n : Nat) (d : Option Nat) (f : List AV) (h : AH) :
 arun prog (HK 35) i c n d (.region 6 (rg f35 6) true) f h = regR (aopsS prog c (rg f35 6) [(0,false),(1,false),(2,false),(3,false),(4,false),(5,false),(6,false),(7,false),(8,false),(9,false),(10,false),(11,false),(12,false),(13,false),(14,false),(15,false),(16,false),(17,false),(18,false),(19,false),(20,false),(21,false),(22,false),(23,false),(24,false),(25,false),(26,false),(27,false),(28,false),(29,false),(30,false),(31,false),(32,false),(33,false),(34,false),(35,false),(36,false),(37,false),(38,false),(39,false),(40,false),(41,false),(42,false),(43,false),(44,false),(45,false),(46,false),(47,false),(48,false),(49,false),(50,false)] f h) := by
  repeat' apply And.intro
  all_goals kernel_rfl
theorem S35 (c : ACall) (f : List AV) (h : AH) :
 astep prog c (rg f35 0) 0 f h = pureS (some (.bool false)) f 4 h ∧
 astep prog c (rg f35 1) 0 f h = pureS (some (f.getD 0 .top)) f 6 h ∧
 astep prog c (rg f35 1) 1 f h = pureS (lenV (alen prog 58 (f.getD 6 .top))) f 7 h ∧
 astep prog c (rg f35 1) 2 f h = pureS (some (f.getD 1 .top)) f 8 h ∧
 astep prog c (rg f35 1) 3 f h = pureS (lenV (alen prog 58 (f.getD 8 .top))) f 9 h ∧
 astep prog c (rg f35 1) 4 f h = pureS (abin prog .neq 3 (.tmp 7) (.tmp 9) (f.getD 7 .top) (f.getD 9 .top)) f 10 h ∧
 astep prog c (rg f35 2) 0 f h = pureS (some (.bool false)) f 4 h ∧
 astep prog c (rg f35 3) 0 f h = pureS (some (.int .i64 0)) f 5 h ∧
 astep prog c (rg f35 4) 0 f h = pureS (some (f.getD 5 .top)) f 11 h ∧
 astep prog c (rg f35 4) 1 f h = pureS (some (f.getD 0 .top)) f 12 h ∧
 astep prog c (rg f35 4) 2 f h = pureS (lenV (alen prog 58 (f.getD 12 .top))) f 13 h ∧
 astep prog c (rg f35 4) 3 f h = pureS (abin prog .lss 3 (.tmp 11) (.tmp 13) (f.getD 11 .top) (f.getD 13 .top)) f 14 h ∧
 astep prog c (rg f35 4) 4 f h = pureS (some (f.getD 14 .top)) f 15 h ∧
 astep prog c (rg f35 4) 5 f h = gdS (f.getD 15 .top) true (some (f.set 16 (.tup []),h)) (pureS (some (f.getD 5 .top)) f 16 h) ∧
 astep prog c (rg f35 4) 6 f h = gdS (f.getD 15 .top) true (some (f.set 17 (.tup []),h)) (pureS (some (f.getD 1 .top)) f 17 h) ∧
 astep prog c (rg f35 4) 7 f h = gdS (f.getD 15 .top) true (some (f.set 18 (.tup []),h)) (pureS (lenV (alen prog 58 (f.getD 17 .top))) f 18 h) ∧
 astep prog c (rg f35 4) 8 f h = gdS (f.getD 15 .top) true (some (f.set 19 (.tup []),h)) (pureS (abin prog .lss 3 (.tmp 16) (.tmp 18) (f.getD 16 .top) (f.getD 18 .top)) f 19 h) ∧
 astep prog c (rg f35 4) 9 f h = pureS (pickV (f.getD 15 .top) (f.getD 19 .top) (.bool false)) f 20 h ∧
 astep prog c (rg f35 6) 0 f h = pureS (some (f.getD 0 .top)) f 23 h ∧
 astep prog c (rg f35 6) 1 f h = pureS (some (f.getD 5 .top)) f 24 h ∧
 astep prog c (rg f35 6) 2 f h = pureS (aindexAt prog 58 (f.getD 23 .top) (f.getD 24 .top)) f 25 h ∧
 astep prog c (rg f35 6) 3 f h = pureS (afieldAt prog 78 (f.getD 25 .top) 0) f 26 h ∧
 astep prog c (rg f35 6) 4 f h = pureS (ldV prog 3 (f.getD 26 .top) h) f 27 h ∧
 astep prog c (rg f35 6) 5 f h = pureS (some (f.getD 1 .top)) f 28 h ∧
 astep prog c (rg f35 6) 6 f h = pureS (some (f.getD 5 .top)) f 29 h ∧
 astep prog c (rg f35 6) 7 f h = pureS (aindexAt prog 58 (f.getD 28 .top) (f.getD 29 .top)) f 30 h ∧
 astep prog c (rg f35 6) 8 f h = pureS (afieldAt prog 78 (f.getD 30 .top) 0) f 31 h ∧
 astep prog c (rg f35 6) 9 f h = pureS (ldV prog 3 (f.getD 31 .top) h) f 32 h ∧
 astep prog c (rg f35 6) 10 f h = pureS (abin prog .neq 3 (.tmp 27) (.tmp 32) (f.getD 27 .top) (f.getD 32 .top)) f 33 h ∧
 astep prog c (rg f35 6) 11 f h = pureS (some (f.getD 33 .top)) f 34 h ∧
 astep prog c (rg f35 6) 12 f h = gdS (f.getD 34 .top) false (some (f.set 35 (.tup []),h)) (pureS (some (f.getD 0 .top)) f 35 h) ∧
 astep prog c (rg f35 6) 13 f h = gdS (f.getD 34 .top) false (some (f.set 36 (.tup []),h)) (pureS (some (f.getD 5 .top)) f 36 h) ∧
 astep prog c (rg f35 6) 14 f h = gdS (f.getD 34 .top) false (some (f.set 37 (.tup []),h)) (pureS (aindexAt prog 58 (f.getD 35 .top) (f.getD 36 .top)) f 37 h) ∧
 astep prog c (rg f35 6) 15 f h = gdS (f.getD 34 .top) false (some (f.set 38 (.tup []),h)) (pureS (afieldAt prog 78 (f.getD 37 .top) 1) f 38 h) ∧
 astep prog c (rg f35 6) 16 f h = gdS (f.getD 34 .top) false (some (f.set 39 (.tup []),h)) (pureS (ldV prog 9 (f.getD 38 .top) h) f 39 h) ∧
 astep prog c (rg f35 6) 17 f h = gdS (f.getD 34 .top) false (some (f.set 40 (.tup []),h)) (pureS (some (f.getD 1 .top)) f 40 h) ∧
 astep prog c (rg f35 6) 18 f h = gdS (f.getD 34 .top) false (some (f.set 41 (.tup []),h)) (pureS (some (f.getD 5 .top)) f 41 h) ∧
 astep prog c (rg f35 6) 19 f h = gdS (f.getD 34 .top) false (some (f.set 42 (.tup []),h)) (pureS (aindexAt prog 58 (f.getD 40 .top) (f.getD 41 .top)) f 42 h) ∧
 astep prog c (rg f35 6) 20 f h = gdS (f.getD 34 .top) false (some (f.set 43 (.tup []),h)) (pureS (afieldAt prog 78 (f.getD 42 .top) 1) f 43 h) ∧
 astep prog c (rg f35 6) 21 f h = gdS (f.getD 34 .top) false (some (f.set 44 (.tup []),h)) (pureS (ldV prog 9 (f.getD 43 .top) h) f 44 h) ∧
 astep prog c (rg f35 6) 22 f h = gdS (f.getD 34 .top) false (some (f.set 45 (.tup []),h)) (pureS (abin prog .neq 9 (.tmp 39) (.tmp 44) (f.getD 39 .top) (f.getD 44 .top)) f 45 h) ∧
 astep prog c (rg f35 6) 23 f h = pureS (pickV (f.getD 34 .top) (.bool true) (f.getD 45 .top)) f 46 h ∧
 astep prog c (rg f35 6) 24 f h = pureS (some (f.getD 46 .top)) f 47 h ∧
 astep prog c (rg f35 6) 25 f h = gdS (f.getD 47 .top) false (some (f.set 48 (.tup []),h)) (pureS (some (f.getD 0 .top)) f 48 h) ∧
 astep prog c (rg f35 6) 26 f h = gdS (f.getD 47 .top) false (some (f.set 49 (.tup []),h)) (pureS (some (f.getD 5 .top)) f 49 h) ∧
 astep prog c (rg f35 6) 27 f h = gdS (f.getD 47 .top) false (some (f.set 50 (.tup []),h)) (pureS (aindexAt prog 58 (f.getD 48 .top) (f.getD 49 .top)) f 50 h) ∧
 astep prog c (rg f35 6) 28 f h = gdS (f.getD 47 .top) false (some (f.set 51 (.tup []),h)) (pureS (afieldAt prog 78 (f.getD 50 .top) 2) f 51 h) ∧
 astep prog c (rg f35 6) 29 f h = gdS (f.getD 47 .top) false (some (f.set 52 (.tup []),h)) (pureS (ldV prog 9 (f.getD 51 .top) h) f 52 h) ∧
 astep prog c (rg f35 6) 30 f h = gdS (f.getD 47 .top) false (some (f.set 53 (.tup []),h)) (pureS (some (f.getD 1 .top)) f 53 h) ∧
 astep prog c (rg f35 6) 31 f h = gdS (f.getD 47 .top) false (some (f.set 54 (.tup []),h)) (pureS (some (f.getD 5 .top)) f 54 h) ∧
 astep prog c (rg f35 6) 32 f h = gdS (f.getD 47 .top) false (some (f.set 55 (.tup []),h)) (pureS (aindexAt prog 58 (f.getD 53 .top) (f.getD 54 .top)) f 55 h) ∧
 astep prog c (rg f35 6) 33 f h = gdS (f.getD 47 .top) false (some (f.set 56 (.tup []),h)) (pureS (afieldAt prog 78 (f.getD 55 .top) 2) f 56 h) ∧
 astep prog c (rg f35 6) 34 f h = gdS (f.getD 47 .top) false (some (f.set 57 (.tup []),h)) (pureS (ldV prog 9 (f.getD 56 .top) h) f 57 h) ∧
 astep prog c (rg f35 6) 35 f h = gdS (f.getD 47 .top) false (some (f.set 58 (.tup []),h)) (pureS (abin prog .neq 9 (.tmp 52) (.tmp 57) (f.getD 52 .top) (f.getD 57 .top)) f 58 h) ∧
 astep prog c (rg f35 6) 36 f h = pureS (pickV (f.getD 47 .top) (.bool true) (f.getD 58 .top)) f 59 h ∧
 astep prog c (rg f35 6) 37 f h = pureS (some (f.getD 59 .top)) f 60 h ∧
 astep prog c (rg f35 6) 38 f h = gdS (f.getD 60 .top) false (some (f.set 61 (.tup []),h)) (pureS (some (f.getD 0 .top)) f 61 h) ∧
 astep prog c (rg f35 6) 39 f h = gdS (f.getD 60 .top) false (some (f.set 62 (.tup []),h)) (pureS (some (f.getD 5 .top)) f 62 h) ∧
 astep prog c (rg f35 6) 40 f h = gdS (f.getD 60 .top) false (some (f.set 63 (.tup []),h)) (pureS (aindexAt prog 58 (f.getD 61 .top) (f.getD 62 .top)) f 63 h) ∧
 astep prog c (rg f35 6) 41 f h = gdS (f.getD 60 .top) false (some (f.set 64 (.tup []),h)) (pureS (afieldAt prog 78 (f.getD 63 .top) 3) f 64 h) ∧
 astep prog c (rg f35 6) 42 f h = gdS (f.getD 60 .top) false (some (f.set 65 (.tup []),h)) (pureS (ldV prog 58 (f.getD 64 .top) h) f 65 h) ∧
 astep prog c (rg f35 6) 43 f h = gdS (f.getD 60 .top) false (some (f.set 66 (.tup []),h)) (pureS (some (f.getD 1 .top)) f 66 h) ∧
 astep prog c (rg f35 6) 44 f h = gdS (f.getD 60 .top) false (some (f.set 67 (.tup []),h)) (pureS (some (f.getD 5 .top)) f 67 h) ∧
 astep prog c (rg f35 6) 45 f h = gdS (f.getD 60 .top) false (some (f.set 68 (.tup []),h)) (pureS (aindexAt prog 58 (f.getD 66 .top) (f.getD 67 .top)) f 68 h) ∧
 astep prog c (rg f35 6) 46 f h = gdS (f.getD 60 .top) false (some (f.set 69 (.tup []),h)) (pureS (afieldAt prog 78 (f.getD 68 .top) 3) f 69 h) ∧
 astep prog c (rg f35 6) 47 f h = gdS (f.getD 60 .top) false (some (f.set 70 (.tup []),h)) (pureS (ldV prog 58 (f.getD 69 .top) h) f 70 h) ∧
 astep prog c (rg f35 6) 48 f h = gdS (f.getD 60 .top) false (some (f.set 71 (.tup []),h)) (heapS (callV c (.fn (.func 35) [] []) [(f.getD 65 .top),(f.getD 70 .top)] h) f 71) ∧
 astep prog c (rg f35 6) 49 f h = gdS (f.getD 60 .top) false (some (f.set 72 (.tup []),h)) (pureS (aun .not (f.getD 71 .top)) f 72 h) ∧
 astep prog c (rg f35 6) 50 f h = pureS (pickV (f.getD 60 .top) (.bool true) (f.getD 72 .top)) f 73 h ∧
 astep prog c (rg f35 7) 0 f h = pureS (some (.bool false)) f 4 h ∧
 astep prog c (rg f35 5) 0 f h = pureS (some (f.getD 5 .top)) f 21 h ∧
 astep prog c (rg f35 5) 1 f h = pureS (abin prog .add 3 (.tmp 21) (.const (.int .i64 1)) (f.getD 21 .top) (.int .i64 1)) f 22 h ∧
 astep prog c (rg f35 5) 2 f h = pureS (some (f.getD 22 .top)) f 5 h ∧
 astep prog c (rg f35 8) 0 f h = pureS (some (.bool true)) f 4 h := by
  repeat' apply And.intro
  all_goals kernel_rfl

end Go.Proofs.Ytgnacecplaemlaa
namespace Go.Proofs.Ytgnacecplaemlaa
open AI Try
set_option linter.unusedVariables false
/-! ### 84: conch/conchref32.sameParts -/
noncomputable def lp84_5 : Code := (.seq (.seq (.region 5 (rg f84 5) false) (.cond (.tmp 25) .skip (.exit 0))) (.seq (.block 1 (.seq (.region 7 (rg f84 7) true) (.cond (.tmp 37) (.seq (.region 8 (rg f84 8) false) .ret) .skip))) (.region 6 (rg f84 6) false)))
def C84_5 (x5 x6 x7 : AV) : List AV := [.top,.top,.top,.top,.top,x5,x6,x7,.top,.top,.top,.top,.top,.top,.top,.top,.top,.top,.top,.top,.top,.top,.top,.top,.top,.top,.top,.top,.top,.top,.top,.top,.top,.top,.top,.top,.top,.top,.top,.top,.top,.top,.top]
theorem cl84_5 (x0 x1 x2 x3 x4 x5 x6 x7 x8 x9 x10 x11 x12 x13 x14 x15 x16 x17 x18 x19 x20 x21 x22 x23 x24 x25 x26 x27 x28 x29 x30 x31 x32 x33 x34 x35 x36 x37 x38 x39 x40 x41 x42 : AV) : aclear (HK 84) lp84_5 [x0,x1,x2,x3,x4,x5,x6,x7,x8,x9,x10,x11,x12,x13,x14,x15,x16,x17,x18,x19,x20,x21,x22,x23,x24,x25,x26,x27,x28,x29,x30,x31,x32,x33,x34,x35,x36,x37,x38,x39,x40,x41,x42] = C84_5 x5 x6 x7 := by kernel_rfl
noncomputable def cd84 : Code := (.seq (.region 0 (rg f84 0) false) (.seq (.seq (.region 1 (rg f84 1) false) (.cond (.tmp 11) (.seq (.region 2 (rg f84 2) false) .ret) .skip)) (.seq (.region 3 (rg f84 3) false) (.seq (.seq (.region 4 (rg f84 4) false) (.block 0 (.loop lp84_5))) (.seq (.region 9 (rg f84 9) false) .ret)))))
theorem ent84 (n : Nat) (a0 a1 : AV) (h : AH) : X (n + 1) (.func 84) [a0,a1] h = nrm h (fin1 (arun prog (HK 84) 84 (X n) n none cd84 [a0,a1,.tup [],.tup [],.tup [],.tup [],.tup [],.tup [],.tup [],.tup [],.tup [],.tup [],.tup [],.tup [],.tup [],.tup [],.tup [],.tup [],.tup [],.tup [],.tup [],.tup [],.tup [],.tup [],.tup [],.tup [],.tup [],.tup [],.tup [],.tup [],.tup [],.tup [],.tup [],.tup [],.tup [],.tup [],.tup [],.tup [],.tup [],.tup [],.tup [],.tup [],.tup []] h) 4) := by kernel_rfl
section
variable (K : Hint) (fid : FuncId) (call : ACall) (lf : Nat) (rd : Option Nat) (fr : List AV) (h : AH)
end
theorem R84 (K : Hint) (i : FuncId) (c : ACall) (n : Nat) (d : Option Nat) (f : List AV) (h : AH) :
 arun prog K i c n d (.region 0 (rg f84 0) false) f h = regR (aops prog c (rg f84 0) [0] f h) ∧
 arun prog K i c n d (.region 1 (rg f84 1) false) f h = regR (aops prog c (rg f84 1) [0,1,2,3] f h) ∧
 arun prog K i c n d (.region 2 (rg f84 2) false) f h = regR (aops prog c (rg f84 2) [0] f h) ∧
 arun prog K i c n d (.region 3 (rg f84 3) false) f h = regR (aops prog c (rg f84 3) [0,1,2,3,4,5] f h) ∧
 arun prog K i c n d (.region 4 (rg f84 4) false) f h = regR (aops prog c (rg f84 4) [0] f h) ∧
 arun prog K i c n d (.region 5 (rg f84 5) false) f h = regR (aops prog c (rg f84 5) [0,1,2,3,4,5,6,7,8,9] f h) ∧
 arun prog K i c n d (.region 8 (rg f84 8) false) f h = regR (aops prog c (rg f84 8) [0] f h) ∧
 arun prog K i c n d (.region 6 (rg f84 6) false) f h = regR (aops prog c (rg f84 6) [0,1,2] f h) ∧
 arun prog K i c n d (.region 9 (rg f84 9) false) f h = regR (aops prog c (rg f84 9) [0,1,2,3,4,5] f h) := by
  repeat' apply And.intro
  all_goals kernel_rfl
theorem D84 (i : FuncId) (c : ACall) (n : Nat) (d : Option Nat) (f : List AV) (h : AH) :
 arun prog (HK 84) i c n d (.region 7 (rg f84 7) true) f h = regR (aopsS prog c (rg f84 7) [(0,false),(1,false),(2,false),(3,false),(4,false),(5,false),(6,false),(7,false),(8,false),(9,false)] f h) := by
  repeat' apply And.intro
  all_goals kernel_rfl
theorem S84 (c : ACall) (f : List AV) (h : AH) :
 astep prog c (rg f84 0) 0 f h = pureS (some (.bool false)) f 4 h ∧
 astep prog c (rg f84 1) 0 f h = pureS (some (f.getD 0 .top)) f 8 h ∧
 astep prog c (rg f84 1) 1 f h = pureS (some (f.getD 1 .top)) f 9 h ∧
 astep prog c (rg f84 1) 2 f h = heapS (callV c (.fn (.func 35) [] []) [(f.getD 8 .top),(f.getD 9 .top)] h) f 10 ∧
 astep prog c (rg f84 1) 3 f h = pureS (aun .not (f.getD 10 .top)) f 11 h ∧
 astep prog c (rg f84 2) 0 f h = pureS (some (.bool false)) f 4 h ∧
 astep prog c (rg f84 3) 0 f h = pureS (some (f.getD 0 .top)) f 12 h ∧
 astep prog c (rg f84 3) 1 f h = heapS (callV c (.fn (.func 67) [] []) [(f.getD 12 .top)] h) f 13 ∧
 astep prog c (rg f84 3) 2 f h = pureS (some (f.getD 1 .top)) f 14 h ∧
 astep prog c (rg f84 3) 3 f h = heapS (callV c (.fn (.func 67) [] []) [(f.getD 14 .top)] h) f 15 ∧
 astep prog c (rg f84 3) 4 f h = pureS (some (f.getD 13 .top)) f 5 h ∧
 astep prog c (rg f84 3) 5 f h = pureS (some (f.getD 15 .top)) f 6 h ∧
 astep prog c (rg f84 4) 0 f h = pureS (some (.int .i64 0)) f 7 h ∧
 astep prog c (rg f84 5) 0 f h = pureS (some (f.getD 7 .top)) f 16 h ∧
 astep prog c (rg f84 5) 1 f h = pureS (some (f.getD 5 .top)) f 17 h ∧
 astep prog c (rg f84 5) 2 f h = pureS (lenV (alen prog 89 (f.getD 17 .top))) f 18 h ∧
 astep prog c (rg f84 5) 3 f h = pureS (abin prog .lss 3 (.tmp 16) (.tmp 18) (f.getD 16 .top) (f.getD 18 .top)) f 19 h ∧
 astep prog c (rg f84 5) 4 f h = pureS (some (f.getD 19 .top)) f 20 h ∧
 astep prog c (rg f84 5) 5 f h = gdS (f.getD 20 .top) true (some (f.set 21 (.tup []),h)) (pureS (some (f.getD 7 .top)) f 21 h) ∧
 astep prog c (rg f84 5) 6 f h = gdS (f.getD 20 .top) true (some (f.set 22 (.tup []),h)) (pureS (some (f.getD 6 .top)) f 22 h) ∧
 astep prog c (rg f84 5) 7 f h = gdS (f.getD 20 .top) true (some (f.set 23 (.tup []),h)) (pureS (lenV (alen prog 89 (f.getD 22 .top))) f 23 h) ∧
 astep prog c (rg f84 5) 8 f h = gdS (f.getD 20 .top) true (some (f.set 24 (.tup []),h)) (pureS (abin prog .lss 3 (.tmp 21) (.tmp 23) (f.getD 21 .top) (f.getD 23 .top)) f 24 h) ∧
 astep prog c (rg f84 5) 9 f h = pureS (pickV (f.getD 20 .top) (f.getD 24 .top) (.bool false)) f 25 h ∧
 astep prog c (rg f84 7) 0 f h = pureS (some (f.getD 5 .top)) f 28 h ∧
 astep prog c (rg f84 7) 1 f h = pureS (some (f.getD 7 .top)) f 29 h ∧
 astep prog c (rg f84 7) 2 f h = pureS (aindexAt prog 89 (f.getD 28 .top) (f.getD 29 .top)) f 30 h ∧
 astep prog c (rg f84 7) 3 f h = pureS (ldV prog 47 (f.getD 30 .top) h) f 31 h ∧
 astep prog c (rg f84 7) 4 f h = pureS (some (f.getD 6 .top)) f 32 h ∧
 astep prog c (rg f84 7) 5 f h = pureS (some (f.getD 7 .top)) f 33 h ∧
 astep prog c (rg f84 7) 6 f h = pureS (aindexAt prog 89 (f.getD 32 .top) (f.getD 33 .top)) f 34 h ∧
 astep prog c (rg f84 7) 7 f h = pureS (ldV prog 47 (f.getD 34 .top) h) f 35 h ∧
 astep prog c (rg f84 7) 8 f h = heapS (callV c (.fn (.func 32) [] []) [(f.getD 31 .top),(f.getD 35 .top)] h) f 36 ∧
 astep prog c (rg f84 7) 9 f h = pureS (aun .not (f.getD 36 .top)) f 37 h ∧
 astep prog c (rg f84 8) 0 f h = pureS (some (.bool false)) f 4 h ∧
 astep prog c (rg f84 6) 0 f h = pureS (some (f.getD 7 .top)) f 26 h ∧
 astep prog c (rg f84 6) 1 f h = pureS (abin prog .add 3 (.tmp 26) (.const (.int .i64 1)) (f.getD 26 .top) (.int .i64 1)) f 27 h ∧
 astep prog c (rg f84 6) 2 f h = pureS (some (f.getD 27 .top)) f 7 h ∧
 astep prog c (rg f84 9) 0 f h = pureS (some (f.getD 5 .top)) f 38 h ∧
 astep prog c (rg f84 9) 1 f h = pureS (lenV (alen prog 89 (f.getD 38 .top))) f 39 h ∧
 astep prog c (rg f84 9) 2 f h = pureS (some (f.getD 6 .top)) f 40 h ∧
 astep prog c (rg f84 9) 3 f h = pureS (lenV (alen prog 89 (f.getD 40 .top))) f 41 h ∧
 astep prog c (rg f84 9) 4 f h = pureS (abin prog .eql 3 (.tmp 39) (.tmp 41) (f.getD 39 .top) (f.getD 41 .top)) f 42 h ∧
 astep prog c (rg f84 9) 5 f h = pureS (some (f.getD 42 .top)) f 4 h := by
  repeat' apply And.intro
  all_goals kernel_rfl

end Go.Proofs.Ytgnacecplaemlaa
namespace Go.Proofs.Ytgnacecplaemlaa
open AI Try
set_option linter.unusedVariables false
/-! ### 72: conch/conchref32.sameWords -/
noncomputable def lp72_4 : Code := (.seq (.seq (.region 4 (rg f72 4) false) (.cond (.tmp 20) .skip (.exit 0))) (.seq (.block 1 (.seq (.region 6 (rg f72 6) true) (.cond (.tmp 34) (.seq (.region 7 (rg f72 7) false) .ret) .skip))) (.region 5 (rg f72 5) false)))
def C72_4 (x0 x1 x5 : AV) : List AV := [x0,x1,.top,.top,.top,x5,.top,.top,.top,.top,.top,.top,.top,.top,.top,.top,.top,.top,.top,.top,.top,.top,.top,.top,.top,.top,.top,.top,.top,.top,.top,.top,.top,.top,.top]
theorem cl72_4 (x0 x1 x2 x3 x4 x5 x6 x7 x8 x9 x10 x11 x12 x13 x14 x15 x16 x17 x18 x19 x20 x21 x22 x23 x24 x25 x26 x27 x28 x29 x30 x31 x32 x33 x34 : AV) : aclear (HK 72) lp72_4 [x0,x1,x2,x3,x4,x5,x6,x7,x8,x9,x10,x11,x12,x13,x14,x15,x16,x17,x18,x19,x20,x21,x22,x23,x24,x25,x26,x27,x28,x29,x30,x31,x32,x33,x34] = C72_4 x0 x1 x5 := by kernel_rfl
noncomputable def cd72 : Code := (.seq (.region 0 (rg f72 0) false) (.seq (.seq (.region 1 (rg f72 1) false) (.cond (.tmp 10) (.seq (.region 2 (rg f72 2) false) .ret) .skip)) (.seq (.seq (.region 3 (rg f72 3) false) (.block 0 (.loop lp72_4))) (.seq (.region 8 (rg f72 8) false) .ret))))
theorem ent72 (n : Nat) (a0 a1 : AV) (h : AH) : X (n + 1) (.func 72) [a0,a1] h = nrm h (fin1 (arun prog (HK 72) 72 (X n) n none cd72 [a0,a1,.tup [],.tup [],.tup [],.tup [],.tup [],.tup [],.tup [],.tup [],.tup [],.tup [],.tup [],.tup [],.tup [],.tup [],.tup [],.tup [],.tup [],.tup [],.tup [],.tup [],.tup [],.tup [],.tup [],.tup [],.tup [],.tup [],.tup [],.tup [],.tup [],.tup [],.tup [],.tup [],.tup []] h) 4) := by kernel_rfl
section
variable (K : Hint) (fid : FuncId) (call : ACall) (lf : Nat) (rd : Option Nat) (fr : List AV) (h : AH)
end
theorem R72 (K : Hint) (i : FuncId) (c : ACall) (n : Nat) (d : Option Nat) (f : List AV) (h : AH) :
 arun prog K i c n d (.region 0 (rg f72 0) false) f h = regR (aops prog c (rg f72 0) [0] f h) ∧
 arun prog K i c n d (.region 1 (rg f72 1) false) f h = regR (aops prog c (rg f72 1) [0,1,2,3,4] f h) ∧
 arun prog K i c n d (.region 2 (rg f72 2) false) f h = regR (aops prog c (rg f72 2) [0] f h) ∧
 arun prog K i c n d (.region 3 (rg f72 3) false) f h = regR (aops prog c (rg f72 3) [0] f h) ∧
 arun prog K i c n d (.region 4 (rg f72 4) false) f h = regR (aops prog c (rg f72 4) [0,1,2,3,4,5,6,7,8,9] f h) ∧
 arun prog K i c n d (.region 7 (rg f72 7) false) f h = regR (aops prog c (rg f72 7) [0] f h) ∧
 arun prog K i c n d (.region 5 (rg f72 5) false) f h = regR (aops prog c (rg f72 5) [0,1,2] f h) ∧
 arun prog K i c n d (.region 8 (rg f72 8) false) f h = regR (aops prog c (rg f72 8) [0] f h) := by
  repeat' apply And.intro
  all_goals kernel_rfl
theorem D72 (i : FuncId) (c : ACall) (n : Nat) (d : Option Nat) (f : List AV) (h : AH) :
 arun prog (HK 72) i c n d (.region 6 (rg f72 6) true) f h = regR (aopsS prog c (rg f72 6) [(0,false),(1,false),(2,false),(3,false),(4,false),(5,false),(6,false),(7,false),(8,false),(9,false),(10,false),(11,false)] f h) := by
  repeat' apply And.intro
  all_goals kernel_rfl
theorem S72 (c : ACall) (f : List AV) (h : AH) :
 astep prog c (rg f72 0) 0 f h = pureS (some (.bool false)) f 4 h ∧
 astep prog c (rg f72 1) 0 f h = pureS (some (f.getD 0 .top)) f 6 h ∧
 astep prog c (rg f72 1) 1 f h = pureS (lenV (alen prog 44 (f.getD 6 .top))) f 7 h ∧
 astep prog c (rg f72 1) 2 f h = pureS (some (f.getD 1 .top)) f 8 h ∧
 astep prog c (rg f72 1) 3 f h = pureS (lenV (alen prog 44 (f.getD 8 .top))) f 9 h ∧
 astep prog c (rg f72 1) 4 f h = pureS (abin prog .neq 3 (.tmp 7) (.tmp 9) (f.getD 7 .top) (f.getD 9 .top)) f 10 h ∧
 astep prog c (rg f72 2) 0 f h = pureS (some (.bool false)) f 4 h ∧
 astep prog c (rg f72 3) 0 f h = pureS (some (.int .i64 0)) f 5 h ∧
 astep prog c (rg f72 4) 0 f h = pureS (some (f.getD 5 .top)) f 11 h ∧
 astep prog c (rg f72 4) 1 f h = pureS (some (f.getD 0 .top)) f 12 h ∧
 astep prog c (rg f72 4) 2 f h = pureS (lenV (alen prog 44 (f.getD 12 .top))) f 13 h ∧
 astep prog c (rg f72 4) 3 f h = pureS (abin prog .lss 3 (.tmp 11) (.tmp 13) (f.getD 11 .top) (f.getD 13 .top)) f 14 h ∧
 astep prog c (rg f72 4) 4 f h = pureS (some (f.getD 14 .top)) f 15 h ∧
 astep prog c (rg f72 4) 5 f h = gdS (f.getD 15 .top) true (some (f.set 16 (.tup []),h)) (pureS (some (f.getD 5 .top)) f 16 h) ∧
 astep prog c (rg f72 4) 6 f h = gdS (f.getD 15 .top) true (some (f.set 17 (.tup []),h)) (pureS (some (f.getD 1 .top)) f 17 h) ∧
 astep prog c (rg f72 4) 7 f h = gdS (f.getD 15 .top) true (some (f.set 18 (.tup []),h)) (pureS (lenV (alen prog 44 (f.getD 17 .top))) f 18 h) ∧
 astep prog c (rg f72 4) 8 f h = gdS (f.getD 15 .top) true (some (f.set 19 (.tup []),h)) (pureS (abin prog .lss 3 (.tmp 16) (.tmp 18) (f.getD 16 .top) (f.getD 18 .top)) f 19 h) ∧
 astep prog c (rg f72 4) 9 f h = pureS (pickV (f.getD 15 .top) (f.getD 19 .top) (.bool false)) f 20 h ∧
 astep prog c (rg f72 6) 0 f h = pureS (some (f.getD 0 .top)) f 23 h ∧
 astep prog c (rg f72 6) 1 f h = pureS (some (f.getD 5 .top)) f 24 h ∧
 astep prog c (rg f72 6) 2 f h = pureS (aindexAt prog 44 (f.getD 23 .top) (f.getD 24 .top)) f 25 h ∧
 astep prog c (rg f72 6) 3 f h = pureS (afieldAt prog 60 (f.getD 25 .top) 0) f 26 h ∧
 astep prog c (rg f72 6) 4 f h = pureS (ldV prog 58 (f.getD 26 .top) h) f 27 h ∧
 astep prog c (rg f72 6) 5 f h = pureS (some (f.getD 1 .top)) f 28 h ∧
 astep prog c (rg f72 6) 6 f h = pureS (some (f.getD 5 .top)) f 29 h ∧
 astep prog c (rg f72 6) 7 f h = pureS (aindexAt prog 44 (f.getD 28 .top) (f.getD 29 .top)) f 30 h ∧
 astep prog c (rg f72 6) 8 f h = pureS (afieldAt prog 60 (f.getD 30 .top) 0) f 31 h ∧
 astep prog c (rg f72 6) 9 f h = pureS (ldV prog 58 (f.getD 31 .top) h) f 32 h ∧
 astep prog c (rg f72 6) 10 f h = heapS (callV c (.fn (.func 84) [] []) [(f.getD 27 .top),(f.getD 32 .top)] h) f 33 ∧
 astep prog c (rg f72 6) 11 f h = pureS (aun .not (f.getD 33 .top)) f 34 h ∧
 astep prog c (rg f72 7) 0 f h = pureS (some (.bool false)) f 4 h ∧
 astep prog c (rg f72 5) 0 f h = pureS (some (f.getD 5 .top)) f 21 h ∧
 astep prog c (rg f72 5) 1 f h = pureS (abin prog .add 3 (.tmp 21) (.const (.int .i64 1)) (f.getD 21 .top) (.int .i64 1)) f 22 h ∧
 astep prog c (rg f72 5) 2 f h = pureS (some (f.getD 22 .top)) f 5 h ∧
 astep prog c (rg f72 8) 0 f h = pureS (some (.bool true)) f 4 h := by
  repeat' apply And.intro
  all_goals kernel_rfl

end Go.Proofs.Ytgnacecplaemlaa
namespace Go.Proofs.Ytgnacecplaemlaa
open AI Try
set_option linter.unusedVariables false
/-! ### 73: conch/conchref32.sameRest -/
noncomputable def lp73_4 : Code := (.seq (.seq (.region 4 (rg f73 4) false) (.cond (.tmp 36) .skip (.exit 0))) (.seq (.block 1 (.seq (.region 6 (rg f73 6) true) (.seq (.region 7 (rg f73 7) false) (.cond (.tmp 77) (.seq (.region 8 (rg f73 8) false) .ret) .skip)))) (.region 5 (rg f73 5) false)))
def C73_4 (x2 x3 x5 : AV) : List AV := [.top,.top,x2,x3,.top,x5,.top,.top,.top,.top,.top,.top,.top,.top,.top,.top,.top,.top,.top,.top,.top,.top,.top,.top,.top,.top,.top,.top,.top,.top,.top,.top,.top,.top,.top,.top,.top,.top,.top,.top,.top,.top,.top,.top,.top,.top,.top,.top,.top,.top,.top,.top,.top,.top,.top,.top,.top,.top,.top,.top,.top,.top,.top,.top,.top,.top,.top,.top,.top,.top,.top,.top,.top,.top,.top,.top,.top,.top,.top,.top,.top,.top,.top,.top,.top,.top,.top,.top,.top,.top,.top,.top,.top,.top,.top,.top,.top,.top,.top,.top,.top,.top,.top,.top,.top,.top,.top,.top,.top,.top,.top,.top,.top,.top,.top,.top,.top,.top,.top,.top,.top,.top]
theorem cl73_4 (x0 x1 x2 x3 x4 x5 x6 x7 x8 x9 x10 x11 x12 x13 x14 x15 x16 x17 x18 x19 x20 x21 x22 x23 x24 x25 x26 x27 x28 x29 x30 x31 x32 x33 x34 x35 x36 x37 x38 x39 x40 x41 x42 x43 x44 x45 x46 x47 x48 x49 x50 x51 x52 x53 x54 x55 x56 x57 x58 x59 x60 x61 x62 x63 x64 x65 x66 x67 x68 x69 x70 x71 x72 x73 x74 x75 x76 x77 x78 x79 x80 x81 x82 x83 x84 x85 x86 x87 x88 x89 x90 x91 x92 x93 x94 x95 x96 x97 x98 x99 x100 x101 x102 x103 x104 x105 x106 x107 x108 x109 x110 x111 x112 x113 x114 x115 x116 x117 x118 x119 x120 x121 : AV) : aclear (HK 73) lp73_4 [x0,x1,x2,x3,x4,x5,x6,x7,x8,x9,x10,x11,x12,x13,x14,x15,x16,x17,x18,x19,x20,x21,x22,x23,x24,x25,x26,x27,x28,x29,x30,x31,x32,x33,x34,x35,x36,x37,x38,x39,x40,x41,x42,x43,x44,x45,x46,x47,x48,x49,x50,x51,x52,x53,x54,x55,x56,x57,x58,x59,x60,x61,x62,x63,x64,x65,x66,x67,x68,x69,x70,x71,x72,x73,x74,x75,x76,x77,x78,x79,x80,x81,x82,x83,x84,x85,x86,x87,x88,x89,x90,x91,x92,x93,x94,x95,x96,x97,x98,x99,x100,x101,x102,x103,x104,x105,x106,x107,x108,x109,x110,x111,x112,x113,x114,x115,x116,x117,x118,x119,x120,x121] = C73_4 x2 x3 x5 := by kernel_rfl
noncomputable def lp73_10 : Code := (.seq (.seq (.region 10 (rg f73 10) false) (.cond (.tmp 89) .skip (.exit 2))) (.seq (.block 3 (.seq (.region 12 (rg f73 12) true) (.cond (.tmp 121) (.seq (.region 13 (rg f73 13) false) .ret) .skip))) (.region 11 (rg f73 11) false)))
def C73_10 (x2 x3 x8 : AV) : List AV := [.top,.top,x2,x3,.top,.top,.top,.top,x8,.top,.top,.top,.top,.top,.top,.top,.top,.top,.top,.top,.top,.top,.top,.top,.top,.top,.top,.top,.top,.top,.top,.top,.top,.top,.top,.top,.top,.top,.top,.top,.top,.top,.top,.top,.top,.top,.top,.top,.top,.top,.top,.top,.top,.top,.top,.top,.top,.top,.top,.top,.top,.top,.top,.top,.top,.top,.top,.top,.top,.top,.top,.top,.top,.top,.top,.top,.top,.top,.top,.top,.top,.top,.top,.top,.top,.top,.top,.top,.top,.top,.top,.top,.top,.top,.top,.top,.top,.top,.top,.top,.top,.top,.top,.top,.top,.top,.top,.top,.top,.top,.top,.top,.top,.top,.top,.top,.top,.top,.top,.top,.top,.top]
theorem cl73_10 (x0 x1 x2 x3 x4 x5 x6 x7 x8 x9 x10 x11 x12 x13 x14 x15 x16 x17 x18 x19 x20 x21 x22 x23 x24 x25 x26 x27 x28 x29 x30 x31 x32 x33 x34 x35 x36 x37 x38 x39 x40 x41 x42 x43 x44 x45 x46 x47 x48 x49 x50 x51 x52 x53 x54 x55 x56 x57 x58 x59 x60 x61 x62 x63 x64 x65 x66 x67 x68 x69 x70 x71 x72 x73 x74 x75 x76 x77 x78 x79 x80 x81 x82 x83 x84 x85 x86 x87 x88 x89 x90 x91 x92 x93 x94 x95 x96 x97 x98 x99 x100 x101 x102 x103 x104 x105 x106 x107 x108 x109 x110 x111 x112 x113 x114 x115 x116 x117 x118 x119 x120 x121 : AV) : aclear (HK 73) lp73_10 [x0,x1,x2,x3,x4,x5,x6,x7,x8,x9,x10,x11,x12,x13,x14,x15,x16,x17,x18,x19,x20,x21,x22,x23,x24,x25,x26,x27,x28,x29,x30,x31,x32,x33,x34,x35,x36,x37,x38,x39,x40,x41,x42,x43,x44,x45,x46,x47,x48,x49,x50,x51,x52,x53,x54,x55,x56,x57,x58,x59,x60,x61,x62,x63,x64,x65,x66,x67,x68,x69,x70,x71,x72,x73,x74,x75,x76,x77,x78,x79,x80,x81,x82,x83,x84,x85,x86,x87,x88,x89,x90,x91,x92,x93,x94,x95,x96,x97,x98,x99,x100,x101,x102,x103,x104,x105,x106,x107,x108,x109,x110,x111,x112,x113,x114,x115,x116,x117,x118,x119,x120,x121] = C73_10 x2 x3 x8 := by kernel_rfl
noncomputable def cd73 : Code := (.seq (.region 0 (rg f73 0) false) (.seq (.seq (.region 1 (rg f73 1) false) (.cond (.tmp 24) (.seq (.region 2 (rg f73 2) false) .ret) .skip)) (.seq (.seq (.region 3 (rg f73 3) false) (.block 0 (.loop lp73_4))) (.seq (.seq (.region 9 (rg f73 9) false) (.block 2 (.loop lp73_10))) (.seq (.region 14 (rg f73 14) false) .ret)))))
theorem ent73 (n : Nat) (a0 a1 : AV) (h : AH) : X (n + 1) (.func 73) [a0,a1] h = nrm h (fin1 (arun prog (HK 73) 73 (X n) n none cd73 [a0,a1,.tup [],.tup [],.tup [],.tup [],.tup [],.tup [],.tup [],.tup [],.tup [],.tup [],.tup [],.tup [],.tup [],.tup [],.tup [],.tup [],.tup [],.tup [],.tup [],.tup [],.tup [],.tup [],.tup [],.tup [],.tup [],.tup [],.tup [],.tup [],.tup [],.tup [],.tup [],.tup [],.tup [],.tup [],.tup [],.tup [],.tup [],.tup [],.tup [],.tup [],.tup [],.tup [],.tup [],.tup [],.tup [],.tup [],.tup [],.tup [],.tup [],.tup [],.tup [],.tup [],.tup [],.tup [],.tup [],.tup [],.tup [],.tup [],.tup [],.tup [],.tup [],.tup [],.tup [],.tup [],.tup [],.tup [],.tup [],.tup [],.tup [],.tup [],.tup [],.tup [],.tup [],.tup [],.tup [],.tup [],.tup [],.tup [],.tup [],.tup [],.tup [],.tup [],.tup [],.tup [],.tup [],.tup [],.tup [],.tup [],.tup [],.tup [],.tup [],.tup [],.tup [],.tup [],.tup [],.tup [],.tup [],.tup [],.tup [],.tup [],.tup [],.tup [],.tup [],.tup [],.tup [],.tup [],.tup [],.tup [],.tup [],.tup [],.tup [],.tup [],.tup [],.tup [],.tup [],.tup [],.tup [],.tup [],.tup [],.tup []] h) 4) := by kernel_rfl
section
variable (K : Hint) (fid : FuncId) (call : ACall) (lf : Nat) (rd : Option Nat) (fr : List AV) (h : AH)
theorem dok73_6 : drawOK prog (befs (rg f73 6).toList []) (rg f73 6) = false := by kernel_rfl
theorem prs73_6 : pairsOK prog (befs (rg f73 6).toList []) (rg f73 6) [(1,10),(1,11),(4,10),(4,11),(6,10),(6,11),(6,12),(9,10),(9,11),(9,12)] = true := by kernel_rfl
theorem rng73_6 : List.range (rg f73 6).size = [0,1,2,3,4,5,6,7,8,9,10,11,12,13] := by kernel_rfl
theorem flo73_6 : floatOK prog (befs (rg f73 6).toList []) (rg f73 6) ((rg f73 6).size - 1) = false := by kernel_rfl
theorem gap73_6 : gapOK prog (befs (rg f73 6).toList []) (rg f73 6) (firstHeap prog (rg f73 6)) = true := by kernel_rfl
theorem drw73_6 {r : List AV × AH} (h0 : aops prog call (rg f73 6) [0,1,2,3,4,5,6,7,8,9,10,11,12,13] fr h = some r) (hq : ∀ p ∈ ([(1,10),(1,11),(4,10),(4,11),(6,10),(6,11),(6,12),(9,10),(9,11),(9,12)] : List (Nat × Nat)),PairOK prog call (rg f73 6) fr h p.1 p.2) : arun prog (HK 73) fid call lf rd (.region 6 (rg f73 6) true) fr h = regR (some r) := (show _ = regR (adraw prog call (rg f73 6) fr h) by kernel_rfl).trans (congrArg regR (adraw_gap _ dok73_6 flo73_6 gap73_6 prs73_6 ((congrArg (fun l => aops prog call (rg f73 6) l fr h) rng73_6).trans h0) hq))
theorem li73_6_1 : loadI prog (rg f73 6) 1 fr h = ldV prog 45 (fr.getD 39 .top) h := by kernel_rfl
theorem li73_6_4 : loadI prog (rg f73 6) 4 fr h = ldV prog 73 (fr.getD 42 .top) h := by kernel_rfl
theorem li73_6_6 : loadI prog (rg f73 6) 6 fr h = ldV prog 45 (fr.getD 44 .top) h := by kernel_rfl
theorem li73_6_9 : loadI prog (rg f73 6) 9 fr h = ldV prog 73 (fr.getD 47 .top) h := by kernel_rfl
theorem rng73_6_1 : List.range 1 = [0] := by rfl
theorem rng73_6_4 : List.range 4 = [0,1,2,3] := by rfl
theorem rng73_6_6 : List.range 6 = [0,1,2,3,4,5] := by rfl
theorem rng73_6_9 : List.range 9 = [0,1,2,3,4,5,6,7,8] := by rfl
theorem rng73_6_10 : List.range 10 = [0,1,2,3,4,5,6,7,8,9] := by rfl
theorem rng73_6_11 : List.range 11 = [0,1,2,3,4,5,6,7,8,9,10] := by rfl
theorem rng73_6_12 : List.range 12 = [0,1,2,3,4,5,6,7,8,9,10,11] := by rfl
theorem rng73_6_13 : List.range 13 = [0,1,2,3,4,5,6,7,8,9,10,11,12] := by rfl
end
theorem R73 (K : Hint) (i : FuncId) (c : ACall) (n : Nat) (d : Option Nat) (f : List AV) (h : AH) :
 arun prog K i c n d (.region 0 (rg f73 0) false) f h = regR (aops prog c (rg f73 0) [0,1,2] f h) ∧
 arun prog K i c n d (.region 1 (rg f73 1) false) f h = regR (aops prog c (rg f73 1) [0,1,2,3,4,5,6,7,8,9,10,11,12,13,14,15] f h) ∧
 arun prog K i c n d (.region 2 (rg f73 2) false) f h = regR (aops prog c (rg f73 2) [0] f h) ∧
 arun prog K i c n d (.region 3 (rg f73 3) false) f h = regR (aops prog c (rg f73 3) [0] f h) ∧
 arun prog K i c n d (.region 4 (rg f73 4) false) f h = regR (aops prog c (rg f73 4) [0,1,2,3,4,5,6,7,8,9,10,11] f h) ∧
 arun prog K i c n d (.region 7 (rg f73 7) false) f h = regR (aops prog c (rg f73 7) [0,1,2,3,4,5,6,7,8,9,10,11,12,13,14,15,16,17,18,19,20,21,22,23,24,25,26,27,28] f h) ∧
 arun prog K i c n d (.region 8 (rg f73 8) false) f h = regR (aops prog c (rg f73 8) [0] f h) ∧
 arun prog K i c n d (.region 5 (rg f73 5) false) f h = regR (aops prog c (rg f73 5) [0,1,2] f h) ∧
 arun prog K i c n d (.region 9 (rg f73 9) false) f h = regR (aops prog c (rg f73 9) [0] f h) ∧
 arun prog K i c n d (.region 10 (rg f73 10) false) f h = regR (aops prog c (rg f73 10) [0,1,2,3,4,5,6,7,8,9,10,11] f h) ∧
 arun prog K i c n d (.region 13 (rg f73 13) false) f h = regR (aops prog c (rg f73 13) [0] f h) ∧
 arun prog K i c n d (.region 11 (rg f73 11) false) f h = regR (aops prog c (rg f73 11) [0,1,2] f h) ∧
 arun prog K i c n d (.region 14 (rg f73 14) false) f h = regR (aops prog c (rg f73 14) [0] f h) := by
  repeat' apply And.intro
  all_goals kernel_rfl
theorem D73 (i : FuncId) (c : ACall) (n : Nat) (d : Option Nat) (f : List AV) (h : AH) :
 arun prog (HK 73) i c n d (.region 12 (rg f73 12) true) f h = regR (aopsS prog c (rg f73 12) [(0,false),(1,false),(2,false),(3,false),(4,false),(5,false),(6,false),(7,false),(8,false),(9,false),(10,false),(11,false),(12,false),(13,false),(14,false),(15,false),(16,false),(17,false),(18,false),(19,false),(20,false),(21,false),(22,false),(23,false),(24,false),(25,false),(26,false),(27,false),(28,false),(29,false)] f h) := by
  repeat' apply And.intro
  all_goals kernel_rfl
theorem S73 (c : ACall) (f : List AV) (h : AH) :
 astep prog c (rg f73 0) 0 f h = heapS (boxV (f.getD 0 .top) h) f 2 ∧
 astep prog c (rg f73 0) 1 f h = heapS (boxV (f.getD 1 .top) h) f 3 ∧
 astep prog c (rg f73 0) 2 f h = pureS (some (.bool false)) f 4 h ∧
 astep prog c (rg f73 1) 0 f h = pureS (afieldAt prog 49 (f.getD 2 .top) 7) f 9 h ∧
 astep prog c (rg f73 1) 1 f h = pureS (ldV prog 45 (f.getD 9 .top) h) f 10 h ∧
 astep prog c (rg f73 1) 2 f h = pureS (lenV (alen prog 45 (f.getD 10 .top))) f 11 h ∧
 astep prog c (rg f73 1) 3 f h = pureS (afieldAt prog 49 (f.getD 3 .top) 7) f 12 h ∧
 astep prog c (rg f73 1) 4 f h = pureS (ldV prog 45 (f.getD 12 .top) h) f 13 h ∧
 astep prog c (rg f73 1) 5 f h = pureS (lenV (alen prog 45 (f.getD 13 .top))) f 14 h ∧
 astep prog c (rg f73 1) 6 f h = pureS (abin prog .neq 3 (.tmp 11) (.tmp 14) (f.getD 11 .top) (f.getD 14 .top)) f 15 h ∧
 astep prog c (rg f73 1) 7 f h = pureS (some (f.getD 15 .top)) f 16 h ∧
 astep prog c (rg f73 1) 8 f h = gdS (f.getD 16 .top) false (some (f.set 17 (.tup []),h)) (pureS (afieldAt prog 49 (f.getD 2 .top) 8) f 17 h) ∧
 astep prog c (rg f73 1) 9 f h = gdS (f.getD 16 .top) false (some (f.set 18 (.tup []),h)) (pureS (ldV prog 46 (f.getD 17 .top) h) f 18 h) ∧
 astep prog c (rg f73 1) 10 f h = gdS (f.getD 16 .top) false (some (f.set 19 (.tup []),h)) (pureS (lenV (alen prog 46 (f.getD 18 .top))) f 19 h) ∧
 astep prog c (rg f73 1) 11 f h = gdS (f.getD 16 .top) false (some (f.set 20 (.tup []),h)) (pureS (afieldAt prog 49 (f.getD 3 .top) 8) f 20 h) ∧
 astep prog c (rg f73 1) 12 f h = gdS (f.getD 16 .top) false (some (f.set 21 (.tup []),h)) (pureS (ldV prog 46 (f.getD 20 .top) h) f 21 h) ∧
 astep prog c (rg f73 1) 13 f h = gdS (f.getD 16 .top) false (some (f.set 22 (.tup []),h)) (pureS (lenV (alen prog 46 (f.getD 21 .top))) f 22 h) ∧
 astep prog c (rg f73 1) 14 f h = gdS (f.getD 16 .top) false (some (f.set 23 (.tup []),h)) (pureS (abin prog .neq 3 (.tmp 19) (.tmp 22) (f.getD 19 .top) (f.getD 22 .top)) f 23 h) ∧
 astep prog c (rg f73 1) 15 f h = pureS (pickV (f.getD 16 .top) (.bool true) (f.getD 23 .top)) f 24 h ∧
 astep prog c (rg f73 2) 0 f h = pureS (some (.bool false)) f 4 h ∧
 astep prog c (rg f73 3) 0 f h = pureS (some (.int .i64 0)) f 5 h ∧
 astep prog c (rg f73 4) 0 f h = pureS (some (f.getD 5 .top)) f 25 h ∧
 astep prog c (rg f73 4) 1 f h = pureS (afieldAt prog 49 (f.getD 2 .top) 7) f 26 h ∧
 astep prog c (rg f73 4) 2 f h = pureS (ldV prog 45 (f.getD 26 .top) h) f 27 h ∧
 astep prog c (rg f73 4) 3 f h = pureS (lenV (alen prog 45 (f.getD 27 .top))) f 28 h ∧
 astep prog c (rg f73 4) 4 f h = pureS (abin prog .lss 3 (.tmp 25) (.tmp 28) (f.getD 25 .top) (f.getD 28 .top)) f 29 h ∧
 astep prog c (rg f73 4) 5 f h = pureS (some (f.getD 29 .top)) f 30 h ∧
 astep prog c (rg f73 4) 6 f h = gdS (f.getD 30 .top) true (some (f.set 31 (.tup []),h)) (pureS (some (f.getD 5 .top)) f 31 h) ∧
 astep prog c (rg f73 4) 7 f h = gdS (f.getD 30 .top) true (some (f.set 32 (.tup []),h)) (pureS (afieldAt prog 49 (f.getD 3 .top) 7) f 32 h) ∧
 astep prog c (rg f73 4) 8 f h = gdS (f.getD 30 .top) true (some (f.set 33 (.tup []),h)) (pureS (ldV prog 45 (f.getD 32 .top) h) f 33 h) ∧
 astep prog c (rg f73 4) 9 f h = gdS (f.getD 30 .top) true (some (f.set 34 (.tup []),h)) (pureS (lenV (alen prog 45 (f.getD 33 .top))) f 34 h) ∧
 astep prog c (rg f73 4) 10 f h = gdS (f.getD 30 .top) true (some (f.set 35 (.tup []),h)) (pureS (abin prog .lss 3 (.tmp 31) (.tmp 34) (f.getD 31 .top) (f.getD 34 .top)) f 35 h) ∧
 astep prog c (rg f73 4) 11 f h = pureS (pickV (f.getD 30 .top) (f.getD 35 .top) (.bool false)) f 36 h ∧
 astep prog c (rg f73 6) 0 f h = pureS (afieldAt prog 49 (f.getD 2 .top) 7) f 39 h ∧
 astep prog c (rg f73 6) 1 f h = pureS (ldV prog 45 (f.getD 39 .top) h) f 40 h ∧
 astep prog c (rg f73 6) 2 f h = pureS (some (f.getD 5 .top)) f 41 h ∧
 astep prog c (rg f73 6) 3 f h = pureS (aindexAt prog 45 (f.getD 40 .top) (f.getD 41 .top)) f 42 h ∧
 astep prog c (rg f73 6) 4 f h = pureS (ldV prog 73 (f.getD 42 .top) h) f 43 h ∧
 astep prog c (rg f73 6) 5 f h = pureS (afieldAt prog 49 (f.getD 3 .top) 7) f 44 h ∧
 astep prog c (rg f73 6) 6 f h = pureS (ldV prog 45 (f.getD 44 .top) h) f 45 h ∧
 astep prog c (rg f73 6) 7 f h = pureS (some (f.getD 5 .top)) f 46 h ∧
 astep prog c (rg f73 6) 8 f h = pureS (aindexAt prog 45 (f.getD 45 .top) (f.getD 46 .top)) f 47 h ∧
 astep prog c (rg f73 6) 9 f h = pureS (ldV prog 73 (f.getD 47 .top) h) f 48 h ∧
 astep prog c (rg f73 6) 10 f h = heapS (newV prog 73 h) f 6 ∧
 astep prog c (rg f73 6) 11 f h = heapS (newV prog 73 h) f 7 ∧
 astep prog c (rg f73 6) 12 f h = heapN (stV prog 73 (f.getD 6 .top) (f.getD 43 .top) h) f ∧
 astep prog c (rg f73 6) 13 f h = heapN (stV prog 73 (f.getD 7 .top) (f.getD 48 .top) h) f ∧
 astep prog c (rg f73 7) 0 f h = pureS (afieldAt prog 73 (f.getD 6 .top) 0) f 49 h ∧
 astep prog c (rg f73 7) 1 f h = pureS (ldV prog 9 (f.getD 49 .top) h) f 50 h ∧
 astep prog c (rg f73 7) 2 f h = pureS (afieldAt prog 73 (f.getD 7 .top) 0) f 51 h ∧
 astep prog c (rg f73 7) 3 f h = pureS (ldV prog 9 (f.getD 51 .top) h) f 52 h ∧
 astep prog c (rg f73 7) 4 f h = pureS (abin prog .neq 9 (.tmp 50) (.tmp 52) (f.getD 50 .top) (f.getD 52 .top)) f 53 h ∧
 astep prog c (rg f73 7) 5 f h = pureS (some (f.getD 53 .top)) f 54 h ∧
 astep prog c (rg f73 7) 6 f h = gdS (f.getD 54 .top) false (some (f.set 55 (.tup []),h)) (pureS (afieldAt prog 73 (f.getD 6 .top) 1) f 55 h) ∧
 astep prog c (rg f73 7) 7 f h = gdS (f.getD 54 .top) false (some (f.set 56 (.tup []),h)) (pureS (ldV prog 3 (f.getD 55 .top) h) f 56 h) ∧
 astep prog c (rg f73 7) 8 f h = gdS (f.getD 54 .top) false (some (f.set 57 (.tup []),h)) (pureS (afieldAt prog 73 (f.getD 7 .top) 1) f 57 h) ∧
 astep prog c (rg f73 7) 9 f h = gdS (f.getD 54 .top) false (some (f.set 58 (.tup []),h)) (pureS (ldV prog 3 (f.getD 57 .top) h) f 58 h) ∧
 astep prog c (rg f73 7) 10 f h = gdS (f.getD 54 .top) false (some (f.set 59 (.tup []),h)) (pureS (abin prog .neq 3 (.tmp 56) (.tmp 58) (f.getD 56 .top) (f.getD 58 .top)) f 59 h) ∧
 astep prog c (rg f73 7) 11 f h = pureS (pickV (f.getD 54 .top) (.bool true) (f.getD 59 .top)) f 60 h ∧
 astep prog c (rg f73 7) 12 f h = pureS (some (f.getD 60 .top)) f 61 h ∧
 astep prog c (rg f73 7) 13 f h = gdS (f.getD 61 .top) false (some (f.set 62 (.tup []),h)) (pureS (afieldAt prog 73 (f.getD 6 .top) 3) f 62 h) ∧
 astep prog c (rg f73 7) 14 f h = gdS (f.getD 61 .top) false (some (f.set 63 (.tup []),h)) (pureS (ldV prog 9 (f.getD 62 .top) h) f 63 h) ∧
 astep prog c (rg f73 7) 15 f h = gdS (f.getD 61 .top) false (some (f.set 64 (.tup []),h)) (pureS (afieldAt prog 73 (f.getD 7 .top) 3) f 64 h) ∧
 astep prog c (rg f73 7) 16 f h = gdS (f.getD 61 .top) false (some (f.set 65 (.tup []),h)) (pureS (ldV prog 9 (f.getD 64 .top) h) f 65 h) ∧
 astep prog c (rg f73 7) 17 f h = gdS (f.getD 61 .top) false (some (f.set 66 (.tup []),h)) (pureS (abin prog .neq 9 (.tmp 63) (.tmp 65) (f.getD 63 .top) (f.getD 65 .top)) f 66 h) ∧
 astep prog c (rg f73 7) 18 f h = pureS (pickV (f.getD 61 .top) (.bool true) (f.getD 66 .top)) f 67 h ∧
 astep prog c (rg f73 7) 19 f h = pureS (some (f.getD 67 .top)) f 68 h ∧
 astep prog c (rg f73 7) 20 f h = gdS (f.getD 68 .top) false (some (f.set 69 (.tup []),h)) (pureS (afieldAt prog 73 (f.getD 6 .top) 2) f 69 h) ∧
 astep prog c (rg f73 7) 21 f h = gdS (f.getD 68 .top) false (some (f.set 70 (.tup []),h)) (pureS (afieldAt prog 60 (f.getD 69 .top) 0) f 70 h) ∧
 astep prog c (rg f73 7) 22 f h = gdS (f.getD 68 .top) false (some (f.set 71 (.tup []),h)) (pureS (ldV prog 58 (f.getD 70 .top) h) f 71 h) ∧
 astep prog c (rg f73 7) 23 f h = gdS (f.getD 68 .top) false (some (f.set 72 (.tup []),h)) (pureS (afieldAt prog 73 (f.getD 7 .top) 2) f 72 h) ∧
 astep prog c (rg f73 7) 24 f h = gdS (f.getD 68 .top) false (some (f.set 73 (.tup []),h)) (pureS (afieldAt prog 60 (f.getD 72 .top) 0) f 73 h) ∧
 astep prog c (rg f73 7) 25 f h = gdS (f.getD 68 .top) false (some (f.set 74 (.tup []),h)) (pureS (ldV prog 58 (f.getD 73 .top) h) f 74 h) ∧
 astep prog c (rg f73 7) 26 f h = gdS (f.getD 68 .top) false (some (f.set 75 (.tup []),h)) (heapS (callV c (.fn (.func 84) [] []) [(f.getD 71 .top),(f.getD 74 .top)] h) f 75) ∧
 astep prog c (rg f73 7) 27 f h = gdS (f.getD 68 .top) false (some (f.set 76 (.tup []),h)) (pureS (aun .not (f.getD 75 .top)) f 76 h) ∧
 astep prog c (rg f73 7) 28 f h = pureS (pickV (f.getD 68 .top) (.bool true) (f.getD 76 .top)) f 77 h ∧
 astep prog c (rg f73 8) 0 f h = pureS (some (.bool false)) f 4 h ∧
 astep prog c (rg f73 5) 0 f h = pureS (some (f.getD 5 .top)) f 37 h ∧
 astep prog c (rg f73 5) 1 f h = pureS (abin prog .add 3 (.tmp 37) (.const (.int .i64 1)) (f.getD 37 .top) (.int .i64 1)) f 38 h ∧
 astep prog c (rg f73 5) 2 f h = pureS (some (f.getD 38 .top)) f 5 h ∧
 astep prog c (rg f73 9) 0 f h = pureS (some (.int .i64 0)) f 8 h ∧
 astep prog c (rg f73 10) 0 f h = pureS (some (f.getD 8 .top)) f 78 h ∧
 astep prog c (rg f73 10) 1 f h = pureS (afieldAt prog 49 (f.getD 2 .top) 8) f 79 h ∧
 astep prog c (rg f73 10) 2 f h = pureS (ldV prog 46 (f.getD 79 .top) h) f 80 h ∧
 astep prog c (rg f73 10) 3 f h = pureS (lenV (alen prog 46 (f.getD 80 .top))) f 81 h ∧
 astep prog c (rg f73 10) 4 f h = pureS (abin prog .lss 3 (.tmp 78) (.tmp 81) (f.getD 78 .top) (f.getD 81 .top)) f 82 h ∧
 astep prog c (rg f73 10) 5 f h = pureS (some (f.getD 82 .top)) f 83 h ∧
 astep prog c (rg f73 10) 6 f h = gdS (f.getD 83 .top) true (some (f.set 84 (.tup []),h)) (pureS (some (f.getD 8 .top)) f 84 h) ∧
 astep prog c (rg f73 10) 7 f h = gdS (f.getD 83 .top) true (some (f.set 85 (.tup []),h)) (pureS (afieldAt prog 49 (f.getD 3 .top) 8) f 85 h) ∧
 astep prog c (rg f73 10) 8 f h = gdS (f.getD 83 .top) true (some (f.set 86 (.tup []),h)) (pureS (ldV prog 46 (f.getD 85 .top) h) f 86 h) ∧
 astep prog c (rg f73 10) 9 f h = gdS (f.getD 83 .top) true (some (f.set 87 (.tup []),h)) (pureS (lenV (alen prog 46 (f.getD 86 .top))) f 87 h) ∧
 astep prog c (rg f73 10) 10 f h = gdS (f.getD 83 .top) true (some (f.set 88 (.tup []),h)) (pureS (abin prog .lss 3 (.tmp 84) (.tmp 87) (f.getD 84 .top) (f.getD 87 .top)) f 88 h) ∧
 astep prog c (rg f73 10) 11 f h = pureS (pickV (f.getD 83 .top) (f.getD 88 .top) (.bool false)) f 89 h ∧
 astep prog c (rg f73 12) 0 f h = pureS (afieldAt prog 49 (f.getD 2 .top) 8) f 92 h ∧
 astep prog c (rg f73 12) 1 f h = pureS (ldV prog 46 (f.getD 92 .top) h) f 93 h ∧
 astep prog c (rg f73 12) 2 f h = pureS (some (f.getD 8 .top)) f 94 h ∧
 astep prog c (rg f73 12) 3 f h = pureS (aindexAt prog 46 (f.getD 93 .top) (f.getD 94 .top)) f 95 h ∧
 astep prog c (rg f73 12) 4 f h = pureS (afieldAt prog 76 (f.getD 95 .top) 0) f 96 h ∧
 astep prog c (rg f73 12) 5 f h = pureS (ldV prog 44 (f.getD 96 .top) h) f 97 h ∧
 astep prog c (rg f73 12) 6 f h = pureS (afieldAt prog 49 (f.getD 3 .top) 8) f 98 h ∧
 astep prog c (rg f73 12) 7 f h = pureS (ldV prog 46 (f.getD 98 .top) h) f 99 h ∧
 astep prog c (rg f73 12) 8 f h = pureS (some (f.getD 8 .top)) f 100 h ∧
 astep prog c (rg f73 12) 9 f h = pureS (aindexAt prog 46 (f.getD 99 .top) (f.getD 100 .top)) f 101 h ∧
 astep prog c (rg f73 12) 10 f h = pureS (afieldAt prog 76 (f.getD 101 .top) 0) f 102 h ∧
 astep prog c (rg f73 12) 11 f h = pureS (ldV prog 44 (f.getD 102 .top) h) f 103 h ∧
 astep prog c (rg f73 12) 12 f h = heapS (callV c (.fn (.func 72) [] []) [(f.getD 97 .top),(f.getD 103 .top)] h) f 104 ∧
 astep prog c (rg f73 12) 13 f h = pureS (aun .not (f.getD 104 .top)) f 105 h ∧
 astep prog c (rg f73 12) 14 f h = pureS (some (f.getD 105 .top)) f 106 h ∧
 astep prog c (rg f73 12) 15 f h = gdS (f.getD 106 .top) false (some (f.set 107 (.tup []),h)) (pureS (afieldAt prog 49 (f.getD 2 .top) 8) f 107 h) ∧
 astep prog c (rg f73 12) 16 f h = gdS (f.getD 106 .top) false (some (f.set 108 (.tup []),h)) (pureS (ldV prog 46 (f.getD 107 .top) h) f 108 h) ∧
 astep prog c (rg f73 12) 17 f h = gdS (f.getD 106 .top) false (some (f.set 109 (.tup []),h)) (pureS (some (f.getD 8 .top)) f 109 h) ∧
 astep prog c (rg f73 12) 18 f h = gdS (f.getD 106 .top) false (some (f.set 110 (.tup []),h)) (pureS (aindexAt prog 46 (f.getD 108 .top) (f.getD 109 .top)) f 110 h) ∧
 astep prog c (rg f73 12) 19 f h = gdS (f.getD 106 .top) false (some (f.set 111 (.tup []),h)) (pureS (afieldAt prog 76 (f.getD 110 .top) 1) f 111 h) ∧
 astep prog c (rg f73 12) 20 f h = gdS (f.getD 106 .top) false (some (f.set 112 (.tup []),h)) (pureS (ldV prog 49 (f.getD 111 .top) h) f 112 h) ∧
 astep prog c (rg f73 12) 21 f h = gdS (f.getD 106 .top) false (some (f.set 113 (.tup []),h)) (pureS (afieldAt prog 49 (f.getD 3 .top) 8) f 113 h) ∧
 astep prog c (rg f73 12) 22 f h = gdS (f.getD 106 .top) false (some (f.set 114 (.tup []),h)) (pureS (ldV prog 46 (f.getD 113 .top) h) f 114 h) ∧
 astep prog c (rg f73 12) 23 f h = gdS (f.getD 106 .top) false (some (f.set 115 (.tup []),h)) (pureS (some (f.getD 8 .top)) f 115 h) ∧
 astep prog c (rg f73 12) 24 f h = gdS (f.getD 106 .top) false (some (f.set 116 (.tup []),h)) (pureS (aindexAt prog 46 (f.getD 114 .top) (f.getD 115 .top)) f 116 h) ∧
 astep prog c (rg f73 12) 25 f h = gdS (f.getD 106 .top) false (some (f.set 117 (.tup []),h)) (pureS (afieldAt prog 76 (f.getD 116 .top) 1) f 117 h) ∧
 astep prog c (rg f73 12) 26 f h = gdS (f.getD 106 .top) false (some (f.set 118 (.tup []),h)) (pureS (ldV prog 49 (f.getD 117 .top) h) f 118 h) ∧
 astep prog c (rg f73 12) 27 f h = gdS (f.getD 106 .top) false (some (f.set 119 (.tup []),h)) (heapS (callV c (.fn (.func 56) [] []) [(f.getD 112 .top),(f.getD 118 .top)] h) f 119) ∧
 astep prog c (rg f73 12) 28 f h = gdS (f.getD 106 .top) false (some (f.set 120 (.tup []),h)) (pureS (aun .not (f.getD 119 .top)) f 120 h) ∧
 astep prog c (rg f73 12) 29 f h = pureS (pickV (f.getD 106 .top) (.bool true) (f.getD 120 .top)) f 121 h ∧
 astep prog c (rg f73 13) 0 f h = pureS (some (.bool false)) f 4 h ∧
 astep prog c (rg f73 11) 0 f h = pureS (some (f.getD 8 .top)) f 90 h ∧
 astep prog c (rg f73 11) 1 f h = pureS (abin prog .add 3 (.tmp 90) (.const (.int .i64 1)) (f.getD 90 .top) (.int .i64 1)) f 91 h ∧
 astep prog c (rg f73 11) 2 f h = pureS (some (f.getD 91 .top)) f 8 h ∧
 astep prog c (rg f73 14) 0 f h = pureS (some (.bool true)) f 4 h := by
  repeat' apply And.intro
  all_goals kernel_rfl

end Go.Proofs.Ytgnacecplaemlaa
namespace Go.Proofs.Ytgnacecplaemlaa
open AI Try
set_option linter.unusedVariables false
/-! ### 32: conch/conchref32.SameAll -/
noncomputable def lp32_4 : Code := (.seq (.seq (.region 4 (rg f32 4) false) (.cond (.tmp 20) .skip (.exit 0))) (.seq (.block 1 (.seq (.region 6 (rg f32 6) true) (.cond (.tmp 32) (.seq (.region 7 (rg f32 7) false) .ret) .skip))) (.region 5 (rg f32 5) false)))
def C32_4 (x0 x1 x5 : AV) : List AV := [x0,x1,.top,.top,.top,x5,.top,.top,.top,.top,.top,.top,.top,.top,.top,.top,.top,.top,.top,.top,.top,.top,.top,.top,.top,.top,.top,.top,.top,.top,.top,.top,.top]
theorem cl32_4 (x0 x1 x2 x3 x4 x5 x6 x7 x8 x9 x10 x11 x12 x13 x14 x15 x16 x17 x18 x19 x20 x21 x22 x23 x24 x25 x26 x27 x28 x29 x30 x31 x32 : AV) : aclear (HK 32) lp32_4 [x0,x1,x2,x3,x4,x5,x6,x7,x8,x9,x10,x11,x12,x13,x14,x15,x16,x17,x18,x19,x20,x21,x22,x23,x24,x25,x26,x27,x28,x29,x30,x31,x32] = C32_4 x0 x1 x5 := by kernel_rfl
noncomputable def cd32 : Code := (.seq (.region 0 (rg f32 0) false) (.seq (.seq (.region 1 (rg f32 1) false) (.cond (.tmp 10) (.seq (.region 2 (rg f32 2) false) .ret) .skip)) (.seq (.seq (.region 3 (rg f32 3) false) (.block 0 (.loop lp32_4))) (.seq (.region 8 (rg f32 8) false) .ret))))
theorem ent32 (n : Nat) (a0 a1 : AV) (h : AH) : X (n + 1) (.func 32) [a0,a1] h = nrm h (fin1 (arun prog (HK 32) 32 (X n) n none cd32 [a0,a1,.tup [],.tup [],.tup [],.tup [],.tup [],.tup [],.tup [],.tup [],.tup [],.tup [],.tup [],.tup [],.tup [],.tup [],.tup [],.tup [],.tup [],.tup [],.tup [],.tup [],.tup [],.tup [],.tup [],.tup [],.tup [],.tup [],.tup [],.tup [],.tup [],.tup [],.tup []] h) 4) := by kernel_rfl
section
variable (K : Hint) (fid : FuncId) (call : ACall) (lf : Nat) (rd : Option Nat) (fr : List AV) (h : AH)
end
theorem R32 (K : Hint) (i : FuncId) (c : ACall) (n : Nat) (d : Option Nat) (f : List AV) (h : AH) :
 arun prog K i c n d (.region 0 (rg f32 0) false) f h = regR (aops prog c (rg f32 0) [0] f h) ∧
 arun prog K i c n d (.region 1 (rg f32 1) false) f h = regR (aops prog c (rg f32 1) [0,1,2,3,4] f h) ∧
 arun prog K i c n d (.region 2 (rg f32 2) false) f h = regR (aops prog c (rg f32 2) [0] f h) ∧
 arun prog K i c n d (.region 3 (rg f32 3) false) f h = regR (aops prog c (rg f32 3) [0] f h) ∧
 arun prog K i c n d (.region 4 (rg f32 4) false) f h = regR (aops prog c (rg f32 4) [0,1,2,3,4,5,6,7,8,9] f h) ∧
 arun prog K i c n d (.region 7 (rg f32 7) false) f h = regR (aops prog c (rg f32 7) [0] f h) ∧
 arun prog K i c n d (.region 5 (rg f32 5) false) f h = regR (aops prog c (rg f32 5) [0,1,2] f h) ∧
 arun prog K i c n d (.region 8 (rg f32 8) false) f h = regR (aops prog c (rg f32 8) [0] f h) := by
  repeat' apply And.intro
  all_goals kernel_rfl
theorem D32 (i : FuncId) (c : ACall) (n : Nat) (d : Option Nat) (f : List AV) (h : AH) :
 arun prog (HK 32) i c n d (.region 6 (rg f32 6) true) f h = regR (aopsS prog c (rg f32 6) [(0,false),(1,false),(2,false),(3,false),(4,false),(5,false),(6,false),(7,false),(8,false),(9,false)] f h) := by
  repeat' apply And.intro
  all_goals kernel_rfl
theorem S32 (c : ACall) (f : List AV) (h : AH) :
 astep prog c (rg f32 0) 0 f h = pureS (some (.bool false)) f 4 h ∧
 astep prog c (rg f32 1) 0 f h = pureS (some (f.getD 0 .top)) f 6 h ∧
 astep prog c (rg f32 1) 1 f h = pureS (lenV (alen prog 47 (f.getD 6 .top))) f 7 h ∧
 astep prog c (rg f32 1) 2 f h = pureS (some (f.getD 1 .top)) f 8 h ∧
 astep prog c (rg f32 1) 3 f h = pureS (lenV (alen prog 47 (f.getD 8 .top))) f 9 h ∧
 astep prog c (rg f32 1) 4 f h = pureS (abin prog .neq 3 (.tmp 7) (.tmp 9) (f.getD 7 .top) (f.getD 9 .top)) f 10 h ∧
 astep prog c (rg f32 2) 0 f h = pureS (some (.bool false)) f 4 h ∧
 astep prog c (rg f32 3) 0 f h = pureS (some (.int .i64 0)) f 5 h ∧
 astep prog c (rg f32 4) 0 f h = pureS (some (f.getD 5 .top)) f 11 h ∧
 astep prog c (rg f32 4) 1 f h = pureS (some (f.getD 0 .top)) f 12 h ∧
 astep prog c (rg f32 4) 2 f h = pureS (lenV (alen prog 47 (f.getD 12 .top))) f 13 h ∧
 astep prog c (rg f32 4) 3 f h = pureS (abin prog .lss 3 (.tmp 11) (.tmp 13) (f.getD 11 .top) (f.getD 13 .top)) f 14 h ∧
 astep prog c (rg f32 4) 4 f h = pureS (some (f.getD 14 .top)) f 15 h ∧
 astep prog c (rg f32 4) 5 f h = gdS (f.getD 15 .top) true (some (f.set 16 (.tup []),h)) (pureS (some (f.getD 5 .top)) f 16 h) ∧
 astep prog c (rg f32 4) 6 f h = gdS (f.getD 15 .top) true (some (f.set 17 (.tup []),h)) (pureS (some (f.getD 1 .top)) f 17 h) ∧
 astep prog c (rg f32 4) 7 f h = gdS (f.getD 15 .top) true (some (f.set 18 (.tup []),h)) (pureS (lenV (alen prog 47 (f.getD 17 .top))) f 18 h) ∧
 astep prog c (rg f32 4) 8 f h = gdS (f.getD 15 .top) true (some (f.set 19 (.tup []),h)) (pureS (abin prog .lss 3 (.tmp 16) (.tmp 18) (f.getD 16 .top) (f.getD 18 .top)) f 19 h) ∧
 astep prog c (rg f32 4) 9 f h = pureS (pickV (f.getD 15 .top) (f.getD 19 .top) (.bool false)) f 20 h ∧
 astep prog c (rg f32 6) 0 f h = pureS (some (f.getD 0 .top)) f 23 h ∧
 astep prog c (rg f32 6) 1 f h = pureS (some (f.getD 5 .top)) f 24 h ∧
 astep prog c (rg f32 6) 2 f h = pureS (aindexAt prog 47 (f.getD 23 .top) (f.getD 24 .top)) f 25 h ∧
 astep prog c (rg f32 6) 3 f h = pureS (ldV prog 49 (f.getD 25 .top) h) f 26 h ∧
 astep prog c (rg f32 6) 4 f h = pureS (some (f.getD 1 .top)) f 27 h ∧
 astep prog c (rg f32 6) 5 f h = pureS (some (f.getD 5 .top)) f 28 h ∧
 astep prog c (rg f32 6) 6 f h = pureS (aindexAt prog 47 (f.getD 27 .top) (f.getD 28 .top)) f 29 h ∧
 astep prog c (rg f32 6) 7 f h = pureS (ldV prog 49 (f.getD 29 .top) h) f 30 h ∧
 astep prog c (rg f32 6) 8 f h = heapS (callV c (.fn (.func 56) [] []) [(f.getD 26 .top),(f.getD 30 .top)] h) f 31 ∧
 astep prog c (rg f32 6) 9 f h = pureS (aun .not (f.getD 31 .top)) f 32 h ∧
 astep prog c (rg f32 7) 0 f h = pureS (some (.bool false)) f 4 h ∧
 astep prog c (rg f32 5) 0 f h = pureS (some (f.getD 5 .top)) f 21 h ∧
 astep prog c (rg f32 5) 1 f h = pureS (abin prog .add 3 (.tmp 21) (.const (.int .i64 1)) (f.getD 21 .top) (.int .i64 1)) f 22 h ∧
 astep prog c (rg f32 5) 2 f h = pureS (some (f.getD 22 .top)) f 5 h ∧
 astep prog c (rg f32 8) 0 f h = pureS (some (.bool true)) f 4 h := by
  repeat' apply And.intro
  all_goals kernel_rfl

end Go.Proofs.Ytgnacecplaemlaa
namespace Go.Proofs.Ytgnacecplaemlaa
open AI Try
set_option linter.unusedVariables false
/-! ### 56: conch/conchref32.Same -/
noncomputable def cd56 : Code := (.seq (.region 0 (rg f56 0) false) (.seq (.seq (.region 1 (rg f56 1) false) (.cond (.tmp 38) (.seq (.region 2 (rg f56 2) false) .ret) .skip)) (.seq (.region 3 (rg f56 3) false) .ret)))
theorem ent56 (n : Nat) (a0 a1 : AV) (h : AH) : X (n + 1) (.func 56) [a0,a1] h = nrm h (fin1 (arun prog (HK 56) 56 (X n) n none cd56 [a0,a1,.tup [],.tup [],.tup [],.tup [],.tup [],.tup [],.tup [],.tup [],.tup [],.tup [],.tup [],.tup [],.tup [],.tup [],.tup [],.tup [],.tup [],.tup [],.tup [],.tup [],.tup [],.tup [],.tup [],.tup [],.tup [],.tup [],.tup [],.tup [],.tup [],.tup [],.tup [],.tup [],.tup [],.tup [],.tup [],.tup [],.tup [],.tup [],.tup [],.tup [],.tup [],.tup [],.tup [],.tup [],.tup [],.tup [],.tup [],.tup [],.tup [],.tup [],.tup [],.tup [],.tup [],.tup [],.tup [],.tup [],.tup [],.tup [],.tup [],.tup [],.tup []] h) 4) := by kernel_rfl
section
variable (K : Hint) (fid : FuncId) (call : ACall) (lf : Nat) (rd : Option Nat) (fr : List AV) (h : AH)
end
theorem R56 (K : Hint) (i : FuncId) (c : ACall) (n : Nat) (d : Option Nat) (f : List AV) (h : AH) :
 arun prog K i c n d (.region 0 (rg f56 0) false) f h = regR (aops prog c (rg f56 0) [0,1,2] f h) ∧
 arun prog K i c n d (.region 1 (rg f56 1) false) f h = regR (aops prog c (rg f56 1) [0,1,2,3,4,5,6,7,8,9,10,11,12,13,14,15,16,17,18,19,20,21,22,23,24,25,26,27,28,29,30,31,32,33] f h) ∧
 arun prog K i c n d (.region 2 (rg f56 2) false) f h = regR (aops prog c (rg f56 2) [0] f h) ∧
 arun prog K i c n d (.region 3 (rg f56 3) false) f h = regR (aops prog c (rg f56 3) [0,1,2,3,4,5,6,7,8,9,10,11,12,13,14,15,16,17,18,19,20,21,22,23,24] f h) := by
  repeat' apply And.intro
  all_goals kernel_rfl
theorem S56 (c : ACall) (f : List AV) (h : AH) :
 astep prog c (rg f56 0) 0 f h = heapS (boxV (f.getD 0 .top) h) f 2 ∧
 astep prog c (rg f56 0) 1 f h = heapS (boxV (f.getD 1 .top) h) f 3 ∧
 astep prog c (rg f56 0) 2 f h = pureS (some (.bool false)) f 4 h ∧
 astep prog c (rg f56 1) 0 f h = pureS (afieldAt prog 49 (f.getD 2 .top) 0) f 5 h ∧
 astep prog c (rg f56 1) 1 f h = pureS (ldV prog 3 (f.getD 5 .top) h) f 6 h ∧
 astep prog c (rg f56 1) 2 f h = pureS (afieldAt prog 49 (f.getD 3 .top) 0) f 7 h ∧
 astep prog c (rg f56 1) 3 f h = pureS (ldV prog 3 (f.getD 7 .top) h) f 8 h ∧
 astep prog c (rg f56 1) 4 f h = pureS (abin prog .neq 3 (.tmp 6) (.tmp 8) (f.getD 6 .top) (f.getD 8 .top)) f 9 h ∧
 astep prog c (rg f56 1) 5 f h = pureS (some (f.getD 9 .top)) f 10 h ∧
 astep prog c (rg f56 1) 6 f h = gdS (f.getD 10 .top) false (some (f.set 11 (.tup []),h)) (pureS (afieldAt prog 49 (f.getD 2 .top) 1) f 11 h) ∧
 astep prog c (rg f56 1) 7 f h = gdS (f.getD 10 .top) false (some (f.set 12 (.tup []),h)) (pureS (ldV prog 9 (f.getD 11 .top) h) f 12 h) ∧
 astep prog c (rg f56 1) 8 f h = gdS (f.getD 10 .top) false (some (f.set 13 (.tup []),h)) (pureS (afieldAt prog 49 (f.getD 3 .top) 1) f 13 h) ∧
 astep prog c (rg f56 1) 9 f h = gdS (f.getD 10 .top) false (some (f.set 14 (.tup []),h)) (pureS (ldV prog 9 (f.getD 13 .top) h) f 14 h) ∧
 astep prog c (rg f56 1) 10 f h = gdS (f.getD 10 .top) false (some (f.set 15 (.tup []),h)) (pureS (abin prog .neq 9 (.tmp 12) (.tmp 14) (f.getD 12 .top) (f.getD 14 .top)) f 15 h) ∧
 astep prog c (rg f56 1) 11 f h = pureS (pickV (f.getD 10 .top) (.bool true) (f.getD 15 .top)) f 16 h ∧
 astep prog c (rg f56 1) 12 f h = pureS (some (f.getD 16 .top)) f 17 h ∧
 astep prog c (rg f56 1) 13 f h = gdS (f.getD 17 .top) false (some (f.set 18 (.tup []),h)) (pureS (afieldAt prog 49 (f.getD 2 .top) 2) f 18 h) ∧
 astep prog c (rg f56 1) 14 f h = gdS (f.getD 17 .top) false (some (f.set 19 (.tup []),h)) (pureS (ldV prog 4 (f.getD 18 .top) h) f 19 h) ∧
 astep prog c (rg f56 1) 15 f h = gdS (f.getD 17 .top) false (some (f.set 20 (.tup []),h)) (pureS (afieldAt prog 49 (f.getD 3 .top) 2) f 20 h) ∧
 astep prog c (rg f56 1) 16 f h = gdS (f.getD 17 .top) false (some (f.set 21 (.tup []),h)) (pureS (ldV prog 4 (f.getD 20 .top) h) f 21 h) ∧
 astep prog c (rg f56 1) 17 f h = gdS (f.getD 17 .top) false (some (f.set 22 (.tup []),h)) (pureS (abin prog .neq 4 (.tmp 19) (.tmp 21) (f.getD 19 .top) (f.getD 21 .top)) f 22 h) ∧
 astep prog c (rg f56 1) 18 f h = pureS (pickV (f.getD 17 .top) (.bool true) (f.getD 22 .top)) f 23 h ∧
 astep prog c (rg f56 1) 19 f h = pureS (some (f.getD 23 .top)) f 24 h ∧
 astep prog c (rg f56 1) 20 f h = gdS (f.getD 24 .top) false (some (f.set 25 (.tup []),h)) (pureS (afieldAt prog 49 (f.getD 2 .top) 3) f 25 h) ∧
 astep prog c (rg f56 1) 21 f h = gdS (f.getD 24 .top) false (some (f.set 26 (.tup []),h)) (pureS (ldV prog 4 (f.getD 25 .top) h) f 26 h) ∧
 astep prog c (rg f56 1) 22 f h = gdS (f.getD 24 .top) false (some (f.set 27 (.tup []),h)) (pureS (afieldAt prog 49 (f.getD 3 .top) 3) f 27 h) ∧
 astep prog c (rg f56 1) 23 f h = gdS (f.getD 24 .top) false (some (f.set 28 (.tup []),h)) (pureS (ldV prog 4 (f.getD 27 .top) h) f 28 h) ∧
 astep prog c (rg f56 1) 24 f h = gdS (f.getD 24 .top) false (some (f.set 29 (.tup []),h)) (pureS (abin prog .neq 4 (.tmp 26) (.tmp 28) (f.getD 26 .top) (f.getD 28 .top)) f 29 h) ∧
 astep prog c (rg f56 1) 25 f h = pureS (pickV (f.getD 24 .top) (.bool true) (f.getD 29 .top)) f 30 h ∧
 astep prog c (rg f56 1) 26 f h = pureS (some (f.getD 30 .top)) f 31 h ∧
 astep prog c (rg f56 1) 27 f h = gdS (f.getD 31 .top) false (some (f.set 32 (.tup []),h)) (pureS (afieldAt prog 49 (f.getD 2 .top) 4) f 32 h) ∧
 astep prog c (rg f56 1) 28 f h = gdS (f.getD 31 .top) false (some (f.set 33 (.tup []),h)) (pureS (ldV prog 43 (f.getD 32 .top) h) f 33 h) ∧
 astep prog c (rg f56 1) 29 f h = gdS (f.getD 31 .top) false (some (f.set 34 (.tup []),h)) (pureS (afieldAt prog 49 (f.getD 3 .top) 4) f 34 h) ∧
 astep prog c (rg f56 1) 30 f h = gdS (f.getD 31 .top) false (some (f.set 35 (.tup []),h)) (pureS (ldV prog 43 (f.getD 34 .top) h) f 35 h) ∧
 astep prog c (rg f56 1) 31 f h = gdS (f.getD 31 .top) false (some (f.set 36 (.tup []),h)) (heapS (callV c (.fn (.func 71) [] []) [(f.getD 33 .top),(f.getD 35 .top)] h) f 36) ∧
 astep prog c (rg f56 1) 32 f h = gdS (f.getD 31 .top) false (some (f.set 37 (.tup []),h)) (pureS (aun .not (f.getD 36 .top)) f 37 h) ∧
 astep prog c (rg f56 1) 33 f h = pureS (pickV (f.getD 31 .top) (.bool true) (f.getD 37 .top)) f 38 h ∧
 astep prog c (rg f56 2) 0 f h = pureS (some (.bool false)) f 4 h ∧
 astep prog c (rg f56 3) 0 f h = pureS (afieldAt prog 49 (f.getD 2 .top) 5) f 39 h ∧
 astep prog c (rg f56 3) 1 f h = pureS (ldV prog 44 (f.getD 39 .top) h) f 40 h ∧
 astep prog c (rg f56 3) 2 f h = pureS (afieldAt prog 49 (f.getD 3 .top) 5) f 41 h ∧
 astep prog c (rg f56 3) 3 f h = pureS (ldV prog 44 (f.getD 41 .top) h) f 42 h ∧
 astep prog c (rg f56 3) 4 f h = heapS (callV c (.fn (.func 72) [] []) [(f.getD 40 .top),(f.getD 42 .top)] h) f 43 ∧
 astep prog c (rg f56 3) 5 f h = pureS (some (f.getD 43 .top)) f 44 h ∧
 astep prog c (rg f56 3) 6 f h = gdS (f.getD 44 .top) true (some (f.set 45 (.tup []),h)) (pureS (afieldAt prog 49 (f.getD 2 .top) 6) f 45 h) ∧
 astep prog c (rg f56 3) 7 f h = gdS (f.getD 44 .top) true (some (f.set 46 (.tup []),h)) (pureS (ldV prog 44 (f.getD 45 .top) h) f 46 h) ∧
 astep prog c (rg f56 3) 8 f h = gdS (f.getD 44 .top) true (some (f.set 47 (.tup []),h)) (pureS (afieldAt prog 49 (f.getD 3 .top) 6) f 47 h) ∧
 astep prog c (rg f56 3) 9 f h = gdS (f.getD 44 .top) true (some (f.set 48 (.tup []),h)) (pureS (ldV prog 44 (f.getD 47 .top) h) f 48 h) ∧
 astep prog c (rg f56 3) 10 f h = gdS (f.getD 44 .top) true (some (f.set 49 (.tup []),h)) (heapS (callV c (.fn (.func 72) [] []) [(f.getD 46 .top),(f.getD 48 .top)] h) f 49) ∧
 astep prog c (rg f56 3) 11 f h = pureS (pickV (f.getD 44 .top) (f.getD 49 .top) (.bool false)) f 50 h ∧
 astep prog c (rg f56 3) 12 f h = pureS (some (f.getD 50 .top)) f 51 h ∧
 astep prog c (rg f56 3) 13 f h = gdS (f.getD 51 .top) true (some (f.set 52 (.tup []),h)) (pureS (ldV prog 49 (f.getD 2 .top) h) f 52 h) ∧
 astep prog c (rg f56 3) 14 f h = gdS (f.getD 51 .top) true (some (f.set 53 (.tup []),h)) (pureS (ldV prog 49 (f.getD 3 .top) h) f 53 h) ∧
 astep prog c (rg f56 3) 15 f h = gdS (f.getD 51 .top) true (some (f.set 54 (.tup []),h)) (heapS (callV c (.fn (.func 73) [] []) [(f.getD 52 .top),(f.getD 53 .top)] h) f 54) ∧
 astep prog c (rg f56 3) 16 f h = pureS (pickV (f.getD 51 .top) (f.getD 54 .top) (.bool false)) f 55 h ∧
 astep prog c (rg f56 3) 17 f h = pureS (some (f.getD 55 .top)) f 56 h ∧
 astep prog c (rg f56 3) 18 f h = gdS (f.getD 56 .top) true (some (f.set 57 (.tup []),h)) (pureS (afieldAt prog 49 (f.getD 2 .top) 9) f 57 h) ∧
 astep prog c (rg f56 3) 19 f h = gdS (f.getD 56 .top) true (some (f.set 58 (.tup []),h)) (pureS (ldV prog 47 (f.getD 57 .top) h) f 58 h) ∧
 astep prog c (rg f56 3) 20 f h = gdS (f.getD 56 .top) true (some (f.set 59 (.tup []),h)) (pureS (afieldAt prog 49 (f.getD 3 .top) 9) f 59 h) ∧
 astep prog c (rg f56 3) 21 f h = gdS (f.getD 56 .top) true (some (f.set 60 (.tup []),h)) (pureS (ldV prog 47 (f.getD 59 .top) h) f 60 h) ∧
 astep prog c (rg f56 3) 22 f h = gdS (f.getD 56 .top) true (some (f.set 61 (.tup []),h)) (heapS (callV c (.fn (.func 32) [] []) [(f.getD 58 .top),(f.getD 60 .top)] h) f 61) ∧
 astep prog c (rg f56 3) 23 f h = pureS (pickV (f.getD 56 .top) (f.getD 61 .top) (.bool false)) f 62 h ∧
 astep prog c (rg f56 3) 24 f h = pureS (some (f.getD 62 .top)) f 4 h := by
  repeat' apply And.intro
  all_goals kernel_rfl

end Go.Proofs.Ytgnacecplaemlaa
namespace Go.Proofs.Ytgnacecplaemlaa
open AI Try
set_option linter.unusedVariables false
/-! ### 39: conch/walk.Sets -/
noncomputable def ra39_3 : Code := (.region 3 (rg f39 3) false)
noncomputable def lp39_5 : Code := (.seq (.region 5 (rg f39 5) false) (.seq (.cond (.tmp 17) .skip (.exit 2)) (.seq (.block 3 (.seq (.region 6 (rg f39 6) false) (.seq (.region 7 (rg f39 7) false) (.seq (.region 8 (rg f39 8) false) (.cond (.tmp 26) (.region 9 (rg f39 9) false) .skip))))) (.region 10 (rg f39 10) false))))
def C39_5 (x3 x4 x14 x15 x16 : AV) : List AV := [.top,.top,.top,x3,x4,.top,.top,.top,.top,.top,.top,.top,.top,.top,x14,x15,x16,.top,.top,.top,.top,.top,.top,.top,.top,.top,.top,.top,.top,.top,.top,.top,.top,.top,.top,.top,.top,.top,.top,.top,.top]
theorem cl39_5 (x0 x1 x2 x3 x4 x5 x6 x7 x8 x9 x10 x11 x12 x13 x14 x15 x16 x17 x18 x19 x20 x21 x22 x23 x24 x25 x26 x27 x28 x29 x30 x31 x32 x33 x34 x35 x36 x37 x38 x39 x40 : AV) : aclear (HK 39) lp39_5 [x0,x1,x2,x3,x4,x5,x6,x7,x8,x9,x10,x11,x12,x13,x14,x15,x16,x17,x18,x19,x20,x21,x22,x23,x24,x25,x26,x27,x28,x29,x30,x31,x32,x33,x34,x35,x36,x37,x38,x39,x40] = C39_5 x3 x4 x14 x15 x16 := by kernel_rfl
noncomputable def rb39_4 : Code := (.block 1 (.seq (.seq (.region 4 (rg f39 4) false) (.block 2 (.loop lp39_5))) (.seq (.region 11 (rg f39 11) false) (.cond (.tmp 34) (.region 12 (rg f39 12) false) .skip))))
noncomputable def cd39 : Code := (.seq (.region 0 (rg f39 0) false) (.seq (.region 1 (rg f39 1) false) (.seq (.seq (.region 2 (rg f39 2) false) (.block 0 (.rangeFunc (.tmp 11) #[12] ra39_3 rb39_4))) (.seq (.region 13 (rg f39 13) false) .ret))))
theorem ent39 (n : Nat) (a0 : AV) (h : AH) : X (n + 1) (.func 39) [a0] h = nrm h (fin1 (arun prog (HK 39) 39 (X n) n none cd39 [a0,.tup [],.tup [],.tup [],.tup [],.tup [],.tup [],.tup [],.tup [],.tup [],.tup [],.tup [],.tup [],.tup [],.tup [],.tup [],.tup [],.tup [],.tup [],.tup [],.tup [],.tup [],.tup [],.tup [],.tup [],.tup [],.tup [],.tup [],.tup [],.tup [],.tup [],.tup [],.tup [],.tup [],.tup [],.tup [],.tup [],.tup [],.tup [],.tup [],.tup []] h) 2) := by kernel_rfl
section
variable (K : Hint) (fid : FuncId) (call : ACall) (lf : Nat) (rd : Option Nat) (fr : List AV) (h : AH)
end
theorem R39 (K : Hint) (i : FuncId) (c : ACall) (n : Nat) (d : Option Nat) (f : List AV) (h : AH) :
 arun prog K i c n d (.region 0 (rg f39 0) false) f h = regR (aops prog c (rg f39 0) [0,1] f h) ∧
 arun prog K i c n d (.region 1 (rg f39 1) false) f h = regR (aops prog c (rg f39 1) [0] f h) ∧
 arun prog K i c n d (.region 2 (rg f39 2) false) f h = regR (aops prog c (rg f39 2) [0,1] f h) ∧
 arun prog K i c n d (.region 3 (rg f39 3) false) f h = regR (aops prog c (rg f39 3) [0,1] f h) ∧
 arun prog K i c n d (.region 4 (rg f39 4) false) f h = regR (aops prog c (rg f39 4) [0,1,2,3] f h) ∧
 arun prog K i c n d (.region 5 (rg f39 5) false) f h = regR (aops prog c (rg f39 5) [0] f h) ∧
 arun prog K i c n d (.region 6 (rg f39 6) false) f h = regR (aops prog c (rg f39 6) [0,1,2,3] f h) ∧
 arun prog K i c n d (.region 7 (rg f39 7) false) f h = regR (aops prog c (rg f39 7) [0,1,2,3,4,5,6,7,8,9] f h) ∧
 arun prog K i c n d (.region 8 (rg f39 8) false) f h = regR (aops prog c (rg f39 8) [0] f h) ∧
 arun prog K i c n d (.region 9 (rg f39 9) false) f h = regR (aops prog c (rg f39 9) [0,1,2,3,4] f h) ∧
 arun prog K i c n d (.region 10 (rg f39 10) false) f h = regR (aops prog c (rg f39 10) [0,1] f h) ∧
 arun prog K i c n d (.region 11 (rg f39 11) false) f h = regR (aops prog c (rg f39 11) [0,1,2] f h) ∧
 arun prog K i c n d (.region 12 (rg f39 12) false) f h = regR (aops prog c (rg f39 12) [0,1,2,3,4,5] f h) ∧
 arun prog K i c n d (.region 13 (rg f39 13) false) f h = regR (aops prog c (rg f39 13) [0,1] f h) := by
  repeat' apply And.intro
  all_goals kernel_rfl
theorem S39 (c : ACall) (f : List AV) (h : AH) :
 astep prog c (rg f39 0) 0 f h = heapS (boxV (f.getD 0 .top) h) f 1 ∧
 astep prog c (rg f39 0) 1 f h = pureS (some (.nilSl)) f 2 h ∧
 astep prog c (rg f39 1) 0 f h = heapS (newV prog 40 h) f 3 ∧
 astep prog c (rg f39 2) 0 f h = pureS (ldV prog 49 (f.getD 1 .top) h) f 10 h ∧
 astep prog c (rg f39 2) 1 f h = heapS (callV c (.fn (.func 51) [] []) [(f.getD 10 .top)] h) f 11 ∧
 astep prog c (rg f39 3) 0 f h = heapS (newV prog 49 h) f 4 ∧
 astep prog c (rg f39 3) 1 f h = heapN (stV prog 49 (f.getD 4 .top) (f.getD 12 .top) h) f ∧
 astep prog c (rg f39 4) 0 f h = pureS (afieldAt prog 49 (f.getD 4 .top) 5) f 13 h ∧
 astep prog c (rg f39 4) 1 f h = pureS (ldV prog 44 (f.getD 13 .top) h) f 14 h ∧
 astep prog c (rg f39 4) 2 f h = pureS (lenV (alen prog 44 (f.getD 14 .top))) f 15 h ∧
 astep prog c (rg f39 4) 3 f h = pureS (some (.int .i64 0)) f 16 h ∧
 astep prog c (rg f39 5) 0 f h = pureS (abin prog .lss 3 (.tmp 16) (.tmp 15) (f.getD 16 .top) (f.getD 15 .top)) f 17 h ∧
 astep prog c (rg f39 6) 0 f h = pureS (aindexAt prog 44 (f.getD 14 .top) (f.getD 16 .top)) f 18 h ∧
 astep prog c (rg f39 6) 1 f h = pureS (ldV prog 60 (f.getD 18 .top) h) f 19 h ∧
 astep prog c (rg f39 6) 2 f h = heapS (newV prog 60 h) f 6 ∧
 astep prog c (rg f39 6) 3 f h = heapN (stV prog 60 (f.getD 6 .top) (f.getD 19 .top) h) f ∧
 astep prog c (rg f39 7) 0 f h = pureS (ldV prog 60 (f.getD 6 .top) h) f 21 h ∧
 astep prog c (rg f39 7) 1 f h = heapS (callV c (.fn (.func 62) [] []) [(f.getD 21 .top)] h) f 22 ∧
 astep prog c (rg f39 7) 2 f h = pureS (some (f.getD 22 .top)) f 20 h ∧
 astep prog c (rg f39 7) 3 f h = pureS (extV (f.getD 20 .top) 0) f 23 h ∧
 astep prog c (rg f39 7) 4 f h = pureS (extV (f.getD 20 .top) 1) f 24 h ∧
 astep prog c (rg f39 7) 5 f h = pureS (extV (f.getD 20 .top) 2) f 25 h ∧
 astep prog c (rg f39 7) 6 f h = heapS (newV prog 60 h) f 8 ∧
 astep prog c (rg f39 7) 7 f h = pureS (some (f.getD 23 .top)) f 7 h ∧
 astep prog c (rg f39 7) 8 f h = heapN (stV prog 60 (f.getD 8 .top) (f.getD 24 .top) h) f ∧
 astep prog c (rg f39 7) 9 f h = pureS (some (f.getD 25 .top)) f 9 h ∧
 astep prog c (rg f39 8) 0 f h = pureS (some (f.getD 9 .top)) f 26 h ∧
 astep prog c (rg f39 9) 0 f h = pureS (ldV prog 40 (f.getD 3 .top) h) f 27 h ∧
 astep prog c (rg f39 9) 1 f h = pureS (some (f.getD 7 .top)) f 28 h ∧
 astep prog c (rg f39 9) 2 f h = heapS (bslV prog 40 1 [(0,(f.getD 28 .top))] h) f 29 ∧
 astep prog c (rg f39 9) 3 f h = heapS (aappend prog 40 40 (f.getD 27 .top) (f.getD 29 .top) h) f 30 ∧
 astep prog c (rg f39 9) 4 f h = heapN (stV prog 40 (f.getD 3 .top) (f.getD 30 .top) h) f ∧
 astep prog c (rg f39 10) 0 f h = pureS (abin prog .add 3 (.tmp 16) (.const (.int .i64 1)) (f.getD 16 .top) (.int .i64 1)) f 31 h ∧
 astep prog c (rg f39 10) 1 f h = pureS (some (f.getD 31 .top)) f 16 h ∧
 astep prog c (rg f39 11) 0 f h = pureS (afieldAt prog 49 (f.getD 4 .top) 0) f 32 h ∧
 astep prog c (rg f39 11) 1 f h = pureS (ldV prog 3 (f.getD 32 .top) h) f 33 h ∧
 astep prog c (rg f39 11) 2 f h = pureS (abin prog .eql 3 (.tmp 33) (.const (.int .i64 7)) (f.getD 33 .top) (.int .i64 7)) f 34 h ∧
 astep prog c (rg f39 12) 0 f h = pureS (ldV prog 40 (f.getD 3 .top) h) f 35 h ∧
 astep prog c (rg f39 12) 1 f h = pureS (afieldAt prog 49 (f.getD 4 .top) 1) f 36 h ∧
 astep prog c (rg f39 12) 2 f h = pureS (ldV prog 9 (f.getD 36 .top) h) f 37 h ∧
 astep prog c (rg f39 12) 3 f h = heapS (bslV prog 40 1 [(0,(f.getD 37 .top))] h) f 38 ∧
 astep prog c (rg f39 12) 4 f h = heapS (aappend prog 40 40 (f.getD 35 .top) (f.getD 38 .top) h) f 39 ∧
 astep prog c (rg f39 12) 5 f h = heapN (stV prog 40 (f.getD 3 .top) (f.getD 39 .top) h) f ∧
 astep prog c (rg f39 13) 0 f h = pureS (ldV prog 40 (f.getD 3 .top) h) f 40 h ∧
 astep prog c (rg f39 13) 1 f h = pureS (some (f.getD 40 .top)) f 2 h := by
  repeat' apply And.intro
  all_goals kernel_rfl

end Go.Proofs.Ytgnacecplaemlaa
namespace Go.Proofs.Ytgnacecplaemlaa
open AI Try
set_option linter.unusedVariables false
/-! ### 40: conch/conchref42.Sets -/
noncomputable def lp40_7 : Code := (.seq (.seq (.region 7 (rg f40 7) false) (.cond (.tmp 25) .skip (.exit 2))) (.seq (.block 3 (.seq (.region 9 (rg f40 9) false) (.seq (.region 10 (rg f40 10) false) (.cond (.tmp 41) (.region 11 (rg f40 11) false) .skip)))) (.region 8 (rg f40 8) false)))
def C40_7 (x3 x4 x5 x6 : AV) : List AV := [.top,.top,.top,x3,x4,x5,x6,.top,.top,.top,.top,.top,.top,.top,.top,.top,.top,.top,.top,.top,.top,.top,.top,.top,.top,.top,.top,.top,.top,.top,.top,.top,.top,.top,.top,.top,.top,.top,.top,.top,.top,.top,.top,.top,.top,.top,.top,.top,.top,.top,.top,.top,.top,.top,.top,.top,.top,.top,.top,.top,.top]
theorem cl40_7 (x0 x1 x2 x3 x4 x5 x6 x7 x8 x9 x10 x11 x12 x13 x14 x15 x16 x17 x18 x19 x20 x21 x22 x23 x24 x25 x26 x27 x28 x29 x30 x31 x32 x33 x34 x35 x36 x37 x38 x39 x40 x41 x42 x43 x44 x45 x46 x47 x48 x49 x50 x51 x52 x53 x54 x55 x56 x57 x58 x59 x60 : AV) : aclear (HK 40) lp40_7 [x0,x1,x2,x3,x4,x5,x6,x7,x8,x9,x10,x11,x12,x13,x14,x15,x16,x17,x18,x19,x20,x21,x22,x23,x24,x25,x26,x27,x28,x29,x30,x31,x32,x33,x34,x35,x36,x37,x38,x39,x40,x41,x42,x43,x44,x45,x46,x47,x48,x49,x50,x51,x52,x53,x54,x55,x56,x57,x58,x59,x60] = C40_7 x3 x4 x5 x6 := by kernel_rfl
noncomputable def lp40_4 : Code := (.seq (.seq (.region 4 (rg f40 4) false) (.cond (.tmp 15) .skip (.exit 0))) (.seq (.block 1 (.seq (.seq (.region 6 (rg f40 6) false) (.block 2 (.loop lp40_7))) (.seq (.region 12 (rg f40 12) false) (.cond (.tmp 51) (.region 13 (rg f40 13) false) .skip)))) (.region 5 (rg f40 5) false)))
def C40_4 (x3 x4 x5 : AV) : List AV := [.top,.top,.top,x3,x4,x5,.top,.top,.top,.top,.top,.top,.top,.top,.top,.top,.top,.top,.top,.top,.top,.top,.top,.top,.top,.top,.top,.top,.top,.top,.top,.top,.top,.top,.top,.top,.top,.top,.top,.top,.top,.top,.top,.top,.top,.top,.top,.top,.top,.top,.top,.top,.top,.top,.top,.top,.top,.top,.top,.top,.top]
theorem cl40_4 (x0 x1 x2 x3 x4 x5 x6 x7 x8 x9 x10 x11 x12 x13 x14 x15 x16 x17 x18 x19 x20 x21 x22 x23 x24 x25 x26 x27 x28 x29 x30 x31 x32 x33 x34 x35 x36 x37 x38 x39 x40 x41 x42 x43 x44 x45 x46 x47 x48 x49 x50 x51 x52 x53 x54 x55 x56 x57 x58 x59 x60 : AV) : aclear (HK 40) lp40_4 [x0,x1,x2,x3,x4,x5,x6,x7,x8,x9,x10,x11,x12,x13,x14,x15,x16,x17,x18,x19,x20,x21,x22,x23,x24,x25,x26,x27,x28,x29,x30,x31,x32,x33,x34,x35,x36,x37,x38,x39,x40,x41,x42,x43,x44,x45,x46,x47,x48,x49,x50,x51,x52,x53,x54,x55,x56,x57,x58,x59,x60] = C40_4 x3 x4 x5 := by kernel_rfl
noncomputable def cd40 : Code := (.seq (.region 0 (rg f40 0) false) (.seq (.region 1 (rg f40 1) false) (.seq (.region 2 (rg f40 2) false) (.seq (.seq (.region 3 (rg f40 3) false) (.block 0 (.loop lp40_4))) (.seq (.region 14 (rg f40 14) false) .ret)))))
theorem ent40 (n : Nat) (a0 : AV) (h : AH) : X (n + 1) (.func 40) [a0] h = nrm h (fin1 (arun prog (HK 40) 40 (X n) n none cd40 [a0,.tup [],.tup [],.tup [],.tup [],.tup [],.tup [],.tup [],.tup [],.tup [],.tup [],.tup [],.tup [],.tup [],.tup [],.tup [],.tup [],.tup [],.tup [],.tup [],.tup [],.tup [],.tup [],.tup [],.tup [],.tup [],.tup [],.tup [],.tup [],.tup [],.tup [],.tup [],.tup [],.tup [],.tup [],.tup [],.tup [],.tup [],.tup [],.tup [],.tup [],.tup [],.tup [],.tup [],.tup [],.tup [],.tup [],.tup [],.tup [],.tup [],.tup [],.tup [],.tup [],.tup [],.tup [],.tup [],.tup [],.tup [],.tup [],.tup [],.tup []] h) 2) := by kernel_rfl
section
variable (K : Hint) (fid : FuncId) (call : ACall) (lf : Nat) (rd : Option Nat) (fr : List AV) (h : AH)
end
theorem R40 (K : Hint) (i : FuncId) (c : ACall) (n : Nat) (d : Option Nat) (f : List AV) (h : AH) :
 arun prog K i c n d (.region 0 (rg f40 0) false) f h = regR (aops prog c (rg f40 0) [0,1] f h) ∧
 arun prog K i c n d (.region 1 (rg f40 1) false) f h = regR (aops prog c (rg f40 1) [0] f h) ∧
 arun prog K i c n d (.region 2 (rg f40 2) false) f h = regR (aops prog c (rg f40 2) [0,1,2] f h) ∧
 arun prog K i c n d (.region 3 (rg f40 3) false) f h = regR (aops prog c (rg f40 3) [0] f h) ∧
 arun prog K i c n d (.region 4 (rg f40 4) false) f h = regR (aops prog c (rg f40 4) [0,1,2,3] f h) ∧
 arun prog K i c n d (.region 6 (rg f40 6) false) f h = regR (aops prog c (rg f40 6) [0] f h) ∧
 arun prog K i c n d (.region 7 (rg f40 7) false) f h = regR (aops prog c (rg f40 7) [0,1,2,3,4,5,6,7] f h) ∧
 arun prog K i c n d (.region 9 (rg f40 9) false) f h = regR (aops prog c (rg f40 9) [0,1,2,3,4,5,6,7,8,9,10,11,12,13,14,15,16] f h) ∧
 arun prog K i c n d (.region 10 (rg f40 10) false) f h = regR (aops prog c (rg f40 10) [0] f h) ∧
 arun prog K i c n d (.region 11 (rg f40 11) false) f h = regR (aops prog c (rg f40 11) [0,1,2,3,4] f h) ∧
 arun prog K i c n d (.region 8 (rg f40 8) false) f h = regR (aops prog c (rg f40 8) [0,1,2] f h) ∧
 arun prog K i c n d (.region 12 (rg f40 12) false) f h = regR (aops prog c (rg f40 12) [0,1,2,3,4,5] f h) ∧
 arun prog K i c n d (.region 13 (rg f40 13) false) f h = regR (aops prog c (rg f40 13) [0,1,2,3,4,5,6,7,8] f h) ∧
 arun prog K i c n d (.region 5 (rg f40 5) false) f h = regR (aops prog c (rg f40 5) [0,1,2] f h) ∧
 arun prog K i c n d (.region 14 (rg f40 14) false) f h = regR (aops prog c (rg f40 14) [0,1] f h) := by
  repeat' apply And.intro
  all_goals kernel_rfl
theorem S40 (c : ACall) (f : List AV) (h : AH) :
 astep prog c (rg f40 0) 0 f h = heapS (boxV (f.getD 0 .top) h) f 1 ∧
 astep prog c (rg f40 0) 1 f h = pureS (some (.nilSl)) f 2 h ∧
 astep prog c (rg f40 1) 0 f h = pureS (some (.nilSl)) f 3 h ∧
 astep prog c (rg f40 2) 0 f h = pureS (ldV prog 49 (f.getD 1 .top) h) f 10 h ∧
 astep prog c (rg f40 2) 1 f h = heapS (callV c (.fn (.func 31) [] []) [(f.getD 10 .top)] h) f 11 ∧
 astep prog c (rg f40 2) 2 f h = pureS (some (f.getD 11 .top)) f 4 h ∧
 astep prog c (rg f40 3) 0 f h = pureS (some (.int .i64 0)) f 5 h ∧
 astep prog c (rg f40 4) 0 f h = pureS (some (f.getD 5 .top)) f 12 h ∧
 astep prog c (rg f40 4) 1 f h = pureS (some (f.getD 4 .top)) f 13 h ∧
 astep prog c (rg f40 4) 2 f h = pureS (lenV (alen prog 47 (f.getD 13 .top))) f 14 h ∧
 astep prog c (rg f40 4) 3 f h = pureS (abin prog .lss 3 (.tmp 12) (.tmp 14) (f.getD 12 .top) (f.getD 14 .top)) f 15 h ∧
 astep prog c (rg f40 6) 0 f h = pureS (some (.int .i64 0)) f 6 h ∧
 astep prog c (rg f40 7) 0 f h = pureS (some (f.getD 6 .top)) f 18 h ∧
 astep prog c (rg f40 7) 1 f h = pureS (some (f.getD 4 .top)) f 19 h ∧
 astep prog c (rg f40 7) 2 f h = pureS (some (f.getD 5 .top)) f 20 h ∧
 astep prog c (rg f40 7) 3 f h = pureS (aindexAt prog 47 (f.getD 19 .top) (f.getD 20 .top)) f 21 h ∧
 astep prog c (rg f40 7) 4 f h = pureS (afieldAt prog 49 (f.getD 21 .top) 5) f 22 h ∧
 astep prog c (rg f40 7) 5 f h = pureS (ldV prog 44 (f.getD 22 .top) h) f 23 h ∧
 astep prog c (rg f40 7) 6 f h = pureS (lenV (alen prog 44 (f.getD 23 .top))) f 24 h ∧
 astep prog c (rg f40 7) 7 f h = pureS (abin prog .lss 3 (.tmp 18) (.tmp 24) (f.getD 18 .top) (f.getD 24 .top)) f 25 h ∧
 astep prog c (rg f40 9) 0 f h = pureS (some (f.getD 4 .top)) f 29 h ∧
 astep prog c (rg f40 9) 1 f h = pureS (some (f.getD 5 .top)) f 30 h ∧
 astep prog c (rg f40 9) 2 f h = pureS (aindexAt prog 47 (f.getD 29 .top) (f.getD 30 .top)) f 31 h ∧
 astep prog c (rg f40 9) 3 f h = pureS (afieldAt prog 49 (f.getD 31 .top) 5) f 32 h ∧
 astep prog c (rg f40 9) 4 f h = pureS (ldV prog 44 (f.getD 32 .top) h) f 33 h ∧
 astep prog c (rg f40 9) 5 f h = pureS (some (f.getD 6 .top)) f 34 h ∧
 astep prog c (rg f40 9) 6 f h = pureS (aindexAt prog 44 (f.getD 33 .top) (f.getD 34 .top)) f 35 h ∧
 astep prog c (rg f40 9) 7 f h = pureS (ldV prog 60 (f.getD 35 .top) h) f 36 h ∧
 astep prog c (rg f40 9) 8 f h = heapS (callV c (.fn (.func 63) [] []) [(f.getD 36 .top)] h) f 37 ∧
 astep prog c (rg f40 9) 9 f h = pureS (some (f.getD 37 .top)) f 28 h ∧
 astep prog c (rg f40 9) 10 f h = pureS (extV (f.getD 28 .top) 0) f 38 h ∧
 astep prog c (rg f40 9) 11 f h = pureS (extV (f.getD 28 .top) 1) f 39 h ∧
 astep prog c (rg f40 9) 12 f h = pureS (extV (f.getD 28 .top) 2) f 40 h ∧
 astep prog c (rg f40 9) 13 f h = heapS (newV prog 60 h) f 8 ∧
 astep prog c (rg f40 9) 14 f h = pureS (some (f.getD 38 .top)) f 7 h ∧
 astep prog c (rg f40 9) 15 f h = heapN (stV prog 60 (f.getD 8 .top) (f.getD 39 .top) h) f ∧
 astep prog c (rg f40 9) 16 f h = pureS (some (f.getD 40 .top)) f 9 h ∧
 astep prog c (rg f40 10) 0 f h = pureS (some (f.getD 9 .top)) f 41 h ∧
 astep prog c (rg f40 11) 0 f h = pureS (some (f.getD 3 .top)) f 42 h ∧
 astep prog c (rg f40 11) 1 f h = pureS (some (f.getD 7 .top)) f 43 h ∧
 astep prog c (rg f40 11) 2 f h = heapS (bslV prog 40 1 [(0,(f.getD 43 .top))] h) f 44 ∧
 astep prog c (rg f40 11) 3 f h = heapS (aappend prog 40 40 (f.getD 42 .top) (f.getD 44 .top) h) f 45 ∧
 astep prog c (rg f40 11) 4 f h = pureS (some (f.getD 45 .top)) f 3 h ∧
 astep prog c (rg f40 8) 0 f h = pureS (some (f.getD 6 .top)) f 26 h ∧
 astep prog c (rg f40 8) 1 f h = pureS (abin prog .add 3 (.tmp 26) (.const (.int .i64 1)) (f.getD 26 .top) (.int .i64 1)) f 27 h ∧
 astep prog c (rg f40 8) 2 f h = pureS (some (f.getD 27 .top)) f 6 h ∧
 astep prog c (rg f40 12) 0 f h = pureS (some (f.getD 4 .top)) f 46 h ∧
 astep prog c (rg f40 12) 1 f h = pureS (some (f.getD 5 .top)) f 47 h ∧
 astep prog c (rg f40 12) 2 f h = pureS (aindexAt prog 47 (f.getD 46 .top) (f.getD 47 .top)) f 48 h ∧
 astep prog c (rg f40 12) 3 f h = pureS (afieldAt prog 49 (f.getD 48 .top) 0) f 49 h ∧
 astep prog c (rg f40 12) 4 f h = pureS (ldV prog 3 (f.getD 49 .top) h) f 50 h ∧
 astep prog c (rg f40 12) 5 f h = pureS (abin prog .eql 3 (.tmp 50) (.const (.int .i64 7)) (f.getD 50 .top) (.int .i64 7)) f 51 h ∧
 astep prog c (rg f40 13) 0 f h = pureS (some (f.getD 3 .top)) f 52 h ∧
 astep prog c (rg f40 13) 1 f h = pureS (some (f.getD 4 .top)) f 53 h ∧
 astep prog c (rg f40 13) 2 f h = pureS (some (f.getD 5 .top)) f 54 h ∧
 astep prog c (rg f40 13) 3 f h = pureS (aindexAt prog 47 (f.getD 53 .top) (f.getD 54 .top)) f 55 h ∧
 astep prog c (rg f40 13) 4 f h = pureS (afieldAt prog 49 (f.getD 55 .top) 1) f 56 h ∧
 astep prog c (rg f40 13) 5 f h = pureS (ldV prog 9 (f.getD 56 .top) h) f 57 h ∧
 astep prog c (rg f40 13) 6 f h = heapS (bslV prog 40 1 [(0,(f.getD 57 .top))] h) f 58 ∧
 astep prog c (rg f40 13) 7 f h = heapS (aappend prog 40 40 (f.getD 52 .top) (f.getD 58 .top) h) f 59 ∧
 astep prog c (rg f40 13) 8 f h = pureS (some (f.getD 59 .top)) f 3 h ∧
 astep prog c (rg f40 5) 0 f h = pureS (some (f.getD 5 .top)) f 16 h ∧
 astep prog c (rg f40 5) 1 f h = pureS (abin prog .add 3 (.tmp 16) (.const (.int .i64 1)) (f.getD 16 .top) (.int .i64 1)) f 17 h ∧
 astep prog c (rg f40 5) 2 f h = pureS (some (f.getD 17 .top)) f 5 h ∧
 astep prog c (rg f40 14) 0 f h = pureS (some (f.getD 3 .top)) f 60 h ∧
 astep prog c (rg f40 14) 1 f h = pureS (some (f.getD 60 .top)) f 2 h := by
  repeat' apply And.intro
  all_goals kernel_rfl

end Go.Proofs.Ytgnacecplaemlaa
namespace Go.Proofs.Ytgnacecplaemlaa
open AI Try
set_option linter.unusedVariables false
/-! ### 62: conch/unquote.Assign -/
noncomputable def cd62 : Code := (.seq (.region 0 (rg f62 0) false) (.seq (.seq (.region 1 (rg f62 1) false) (.cond (.tmp 19) (.seq (.region 2 (rg f62 2) false) .ret) .skip)) (.seq (.region 3 (rg f62 3) false) (.seq (.region 4 (rg f62 4) false) (.seq (.seq (.region 5 (rg f62 5) false) (.cond (.tmp 29) (.seq (.region 6 (rg f62 6) false) .ret) .skip)) (.seq (.region 7 (rg f62 7) false) (.seq (.seq (.region 8 (rg f62 8) false) (.cond (.tmp 39) (.region 9 (rg f62 9) false) .skip)) (.seq (.region 10 (rg f62 10) false) .ret))))))))
section
variable (K : Hint) (fid : FuncId) (call : ACall) (lf : Nat) (rd : Option Nat) (fr : List AV) (h : AH)
end
theorem R62 (K : Hint) (i : FuncId) (c : ACall) (n : Nat) (d : Option Nat) (f : List AV) (h : AH) :
 arun prog K i c n d (.region 0 (rg f62 0) false) f h = regR (aops prog c (rg f62 0) [0,1,2,3] f h) ∧
 arun prog K i c n d (.region 1 (rg f62 1) false) f h = regR (aops prog c (rg f62 1) [0,1,2,3,4,5,6,7,8,9,10,11] f h) ∧
 arun prog K i c n d (.region 2 (rg f62 2) false) f h = regR (aops prog c (rg f62 2) [0,1,2,3] f h) ∧
 arun prog K i c n d (.region 3 (rg f62 3) false) f h = regR (aops prog c (rg f62 3) [0,1,2,3,4,5] f h) ∧
 arun prog K i c n d (.region 4 (rg f62 4) false) f h = regR (aops prog c (rg f62 4) [0,1,2] f h) ∧
 arun prog K i c n d (.region 5 (rg f62 5) false) f h = regR (aops prog c (rg f62 5) [0,1] f h) ∧
 arun prog K i c n d (.region 6 (rg f62 6) false) f h = regR (aops prog c (rg f62 6) [0,1,2,3] f h) ∧
 arun prog K i c n d (.region 7 (rg f62 7) false) f h = regR (aops prog c (rg f62 7) [0,1,2,3,4] f h) ∧
 arun prog K i c n d (.region 8 (rg f62 8) false) f h = regR (aops prog c (rg f62 8) [0,1,2,3,4] f h) ∧
 arun prog K i c n d (.region 9 (rg f62 9) false) f h = regR (aops prog c (rg f62 9) [0,1,2,3,4,5,6,7,8] f h) ∧
 arun prog K i c n d (.region 10 (rg f62 10) false) f h = regR (aops prog c (rg f62 10) [0,1,2,3,4,5,6,7] f h) := by
  repeat' apply And.intro
  all_goals kernel_rfl
theorem S62 (c : ACall) (f : List AV) (h : AH) :
 astep prog c (rg f62 0) 0 f h = heapS (boxV (f.getD 0 .top) h) f 1 ∧
 astep prog c (rg f62 0) 1 f h = pureS (some (.str [])) f 2 h ∧
 astep prog c (rg f62 0) 2 f h = heapS (newV prog 60 h) f 3 ∧
 astep prog c (rg f62 0) 3 f h = pureS (some (.bool false)) f 4 h ∧
 astep prog c (rg f62 1) 0 f h = pureS (afieldAt prog 60 (f.getD 1 .top) 0) f 8 h ∧
 astep prog c (rg f62 1) 1 f h = pureS (ldV prog 58 (f.getD 8 .top) h) f 9 h ∧
 astep prog c (rg f62 1) 2 f h = pureS (lenV (alen prog 58 (f.getD 9 .top))) f 10 h ∧
 astep prog c (rg f62 1) 3 f h = pureS (abin prog .eql 3 (.tmp 10) (.const (.int .i64 0)) (f.getD 10 .top) (.int .i64 0)) f 11 h ∧
 astep prog c (rg f62 1) 4 f h = pureS (some (f.getD 11 .top)) f 12 h ∧
 astep prog c (rg f62 1) 5 f h = gdS (f.getD 12 .top) false (some (f.set 13 (.tup []),h)) (pureS (afieldAt prog 60 (f.getD 1 .top) 0) f 13 h) ∧
 astep prog c (rg f62 1) 6 f h = gdS (f.getD 12 .top) false (some (f.set 14 (.tup []),h)) (pureS (ldV prog 58 (f.getD 13 .top) h) f 14 h) ∧
 astep prog c (rg f62 1) 7 f h = gdS (f.getD 12 .top) false (some (f.set 15 (.tup []),h)) (pureS (aindexAt prog 58 (f.getD 14 .top) (.int .i64 0)) f 15 h) ∧
 astep prog c (rg f62 1) 8 f h = gdS (f.getD 12 .top) false (some (f.set 16 (.tup []),h)) (pureS (afieldAt prog 78 (f.getD 15 .top) 0) f 16 h) ∧
 astep prog c (rg f62 1) 9 f h = gdS (f.getD 12 .top) false (some (f.set 17 (.tup []),h)) (pureS (ldV prog 3 (f.getD 16 .top) h) f 17 h) ∧
 astep prog c (rg f62 1) 10 f h = gdS (f.getD 12 .top) false (some (f.set 18 (.tup []),h)) (pureS (abin prog .neq 3 (.tmp 17) (.const (.int .i64 1)) (f.getD 17 .top) (.int .i64 1)) f 18 h) ∧
 astep prog c (rg f62 1) 11 f h = pureS (pickV (f.getD 12 .top) (.bool true) (f.getD 18 .top)) f 19 h ∧
 astep prog c (rg f62 2) 0 f h = pureS (abuild prog 60 []) f 20 h ∧
 astep prog c (rg f62 2) 1 f h = pureS (some (.str [])) f 2 h ∧
 astep prog c (rg f62 2) 2 f h = heapN (stV prog 60 (f.getD 3 .top) (f.getD 20 .top) h) f ∧
 astep prog c (rg f62 2) 3 f h = pureS (some (.bool false)) f 4 h ∧
 astep prog c (rg f62 3) 0 f h = pureS (afieldAt prog 60 (f.getD 1 .top) 0) f 21 h ∧
 astep prog c (rg f62 3) 1 f h = pureS (ldV prog 58 (f.getD 21 .top) h) f 22 h ∧
 astep prog c (rg f62 3) 2 f h = pureS (aindexAt prog 58 (f.getD 22 .top) (.int .i64 0)) f 23 h ∧
 astep prog c (rg f62 3) 3 f h = pureS (afieldAt prog 78 (f.getD 23 .top) 1) f 24 h ∧
 astep prog c (rg f62 3) 4 f h = pureS (ldV prog 9 (f.getD 24 .top) h) f 25 h ∧
 astep prog c (rg f62 3) 5 f h = pureS (some (f.getD 25 .top)) f 5 h ∧
 astep prog c (rg f62 4) 0 f h = pureS (some (f.getD 5 .top)) f 26 h ∧
 astep prog c (rg f62 4) 1 f h = heapS (callV c (.fn (.func 77) [] []) [(f.getD 26 .top)] h) f 27 ∧
 astep prog c (rg f62 4) 2 f h = pureS (some (f.getD 27 .top)) f 6 h ∧
 astep prog c (rg f62 5) 0 f h = pureS (some (f.getD 6 .top)) f 28 h ∧
 astep prog c (rg f62 5) 1 f h = pureS (abin prog .lss 3 (.tmp 28) (.const (.int .i64 0)) (f.getD 28 .top) (.int .i64 0)) f 29 h ∧
 astep prog c (rg f62 6) 0 f h = pureS (abuild prog 60 []) f 30 h ∧
 astep prog c (rg f62 6) 1 f h = pureS (some (.str [])) f 2 h ∧
 astep prog c (rg f62 6) 2 f h = heapN (stV prog 60 (f.getD 3 .top) (f.getD 30 .top) h) f ∧
 astep prog c (rg f62 6) 3 f h = pureS (some (.bool false)) f 4 h ∧
 astep prog c (rg f62 7) 0 f h = pureS (afieldAt prog 60 (f.getD 1 .top) 0) f 31 h ∧
 astep prog c (rg f62 7) 1 f h = pureS (ldV prog 58 (f.getD 31 .top) h) f 32 h ∧
 astep prog c (rg f62 7) 2 f h = pureS (aslice prog 58 (f.getD 32 .top) (some (.int .i64 1)) none none) f 33 h ∧
 astep prog c (rg f62 7) 3 f h = heapS (callV c (.fn (.func 78) [] []) [(f.getD 33 .top)] h) f 34 ∧
 astep prog c (rg f62 7) 4 f h = pureS (some (f.getD 34 .top)) f 7 h ∧
 astep prog c (rg f62 8) 0 f h = pureS (some (f.getD 6 .top)) f 35 h ∧
 astep prog c (rg f62 8) 1 f h = pureS (abin prog .add 3 (.tmp 35) (.const (.int .i64 1)) (f.getD 35 .top) (.int .i64 1)) f 36 h ∧
 astep prog c (rg f62 8) 2 f h = pureS (some (f.getD 5 .top)) f 37 h ∧
 astep prog c (rg f62 8) 3 f h = pureS (lenV (alen prog 9 (f.getD 37 .top))) f 38 h ∧
 astep prog c (rg f62 8) 4 f h = pureS (abin prog .lss 3 (.tmp 36) (.tmp 38) (f.getD 36 .top) (f.getD 38 .top)) f 39 h ∧
 astep prog c (rg f62 9) 0 f h = pureS (some (f.getD 7 .top)) f 40 h ∧
 astep prog c (rg f62 9) 1 f h = pureS (some (f.getD 5 .top)) f 41 h ∧
 astep prog c (rg f62 9) 2 f h = pureS (some (f.getD 6 .top)) f 42 h ∧
 astep prog c (rg f62 9) 3 f h = pureS (abin prog .add 3 (.tmp 42) (.const (.int .i64 1)) (f.getD 42 .top) (.int .i64 1)) f 43 h ∧
 astep prog c (rg f62 9) 4 f h = pureS (aslice prog 9 (f.getD 41 .top) (some (f.getD 43 .top)) none none) f 44 h ∧
 astep prog c (rg f62 9) 5 f h = pureS (abuild prog 78 [(0,(.int .i64 1)),(1,(f.getD 44 .top))]) f 45 h ∧
 astep prog c (rg f62 9) 6 f h = heapS (bslV prog 58 1 [(0,(f.getD 45 .top))] h) f 46 ∧
 astep prog c (rg f62 9) 7 f h = heapS (callV c (.fn (.func 79) [] []) [(f.getD 40 .top),(.int .i64 0),(f.getD 46 .top)] h) f 47 ∧
 astep prog c (rg f62 9) 8 f h = pureS (some (f.getD 47 .top)) f 7 h ∧
 astep prog c (rg f62 10) 0 f h = pureS (some (f.getD 5 .top)) f 48 h ∧
 astep prog c (rg f62 10) 1 f h = pureS (some (f.getD 6 .top)) f 49 h ∧
 astep prog c (rg f62 10) 2 f h = pureS (aslice prog 9 (f.getD 48 .top) none (some (f.getD 49 .top)) none) f 50 h ∧
 astep prog c (rg f62 10) 3 f h = pureS (some (f.getD 7 .top)) f 51 h ∧
 astep prog c (rg f62 10) 4 f h = pureS (abuild prog 60 [(0,(f.getD 51 .top))]) f 52 h ∧
 astep prog c (rg f62 10) 5 f h = pureS (some (f.getD 50 .top)) f 2 h ∧
 astep prog c (rg f62 10) 6 f h = heapN (stV prog 60 (f.getD 3 .top) (f.getD 52 .top) h) f ∧
 astep prog c (rg f62 10) 7 f h = pureS (some (.bool true)) f 4 h := by
  repeat' apply And.intro
  all_goals kernel_rfl

end Go.Proofs.Ytgnacecplaemlaa
namespace Go.Proofs.Ytgnacecplaemlaa
open AI Try
set_option linter.unusedVariables false
/-! ### 63: conch/conchref27.Assign -/
noncomputable def cd63 : Code := (.seq (.region 0 (rg f63 0) false) (.seq (.seq (.region 1 (rg f63 1) false) (.cond (.tmp 19) (.seq (.region 2 (rg f63 2) false) .ret) .skip)) (.seq (.region 3 (rg f63 3) false) (.seq (.region 4 (rg f63 4) false) (.seq (.seq (.region 5 (rg f63 5) false) (.cond (.tmp 29) (.seq (.region 6 (rg f63 6) false) .ret) .skip)) (.seq (.region 7 (rg f63 7) false) (.seq (.seq (.region 8 (rg f63 8) false) (.cond (.tmp 35) (.region 9 (rg f63 9) false) .skip)) (.seq (.region 10 (rg f63 10) true) .ret))))))))
section
variable (K : Hint) (fid : FuncId) (call : ACall) (lf : Nat) (rd : Option Nat) (fr : List AV) (h : AH)
end
theorem R63 (K : Hint) (i : FuncId) (c : ACall) (n : Nat) (d : Option Nat) (f : List AV) (h : AH) :
 arun prog K i c n d (.region 0 (rg f63 0) false) f h = regR (aops prog c (rg f63 0) [0,1,2,3] f h) ∧
 arun prog K i c n d (.region 1 (rg f63 1) false) f h = regR (aops prog c (rg f63 1) [0,1,2,3,4,5,6,7,8,9,10,11] f h) ∧
 arun prog K i c n d (.region 2 (rg f63 2) false) f h = regR (aops prog c (rg f63 2) [0,1,2,3] f h) ∧
 arun prog K i c n d (.region 3 (rg f63 3) false) f h = regR (aops prog c (rg f63 3) [0,1,2,3,4,5] f h) ∧
 arun prog K i c n d (.region 4 (rg f63 4) false) f h = regR (aops prog c (rg f63 4) [0,1,2] f h) ∧
 arun prog K i c n d (.region 5 (rg f63 5) false) f h = regR (aops prog c (rg f63 5) [0,1] f h) ∧
 arun prog K i c n d (.region 6 (rg f63 6) false) f h = regR (aops prog c (rg f63 6) [0,1,2,3] f h) ∧
 arun prog K i c n d (.region 7 (rg f63 7) false) f h = regR (aops prog c (rg f63 7) [0] f h) ∧
 arun prog K i c n d (.region 8 (rg f63 8) false) f h = regR (aops prog c (rg f63 8) [0,1,2,3,4] f h) ∧
 arun prog K i c n d (.region 9 (rg f63 9) false) f h = regR (aops prog c (rg f63 9) [0,1,2,3,4,5,6,7,8] f h) := by
  repeat' apply And.intro
  all_goals kernel_rfl
theorem D63 (i : FuncId) (c : ACall) (n : Nat) (d : Option Nat) (f : List AV) (h : AH) :
 arun prog (HK 63) i c n d (.region 10 (rg f63 10) true) f h = regR (aopsS prog c (rg f63 10) [(0,false),(1,false),(2,false),(3,false),(4,false),(5,false),(6,false),(7,false),(8,false),(9,false),(10,false),(11,false)] f h) := by
  repeat' apply And.intro
  all_goals kernel_rfl
theorem S63 (c : ACall) (f : List AV) (h : AH) :
 astep prog c (rg f63 0) 0 f h = heapS (boxV (f.getD 0 .top) h) f 1 ∧
 astep prog c (rg f63 0) 1 f h = pureS (some (.str [])) f 2 h ∧
 astep prog c (rg f63 0) 2 f h = heapS (newV prog 60 h) f 3 ∧
 astep prog c (rg f63 0) 3 f h = pureS (some (.bool false)) f 4 h ∧
 astep prog c (rg f63 1) 0 f h = pureS (afieldAt prog 60 (f.getD 1 .top) 0) f 8 h ∧
 astep prog c (rg f63 1) 1 f h = pureS (ldV prog 58 (f.getD 8 .top) h) f 9 h ∧
 astep prog c (rg f63 1) 2 f h = pureS (lenV (alen prog 58 (f.getD 9 .top))) f 10 h ∧
 astep prog c (rg f63 1) 3 f h = pureS (abin prog .eql 3 (.tmp 10) (.const (.int .i64 0)) (f.getD 10 .top) (.int .i64 0)) f 11 h ∧
 astep prog c (rg f63 1) 4 f h = pureS (some (f.getD 11 .top)) f 12 h ∧
 astep prog c (rg f63 1) 5 f h = gdS (f.getD 12 .top) false (some (f.set 13 (.tup []),h)) (pureS (afieldAt prog 60 (f.getD 1 .top) 0) f 13 h) ∧
 astep prog c (rg f63 1) 6 f h = gdS (f.getD 12 .top) false (some (f.set 14 (.tup []),h)) (pureS (ldV prog 58 (f.getD 13 .top) h) f 14 h) ∧
 astep prog c (rg f63 1) 7 f h = gdS (f.getD 12 .top) false (some (f.set 15 (.tup []),h)) (pureS (aindexAt prog 58 (f.getD 14 .top) (.int .i64 0)) f 15 h) ∧
 astep prog c (rg f63 1) 8 f h = gdS (f.getD 12 .top) false (some (f.set 16 (.tup []),h)) (pureS (afieldAt prog 78 (f.getD 15 .top) 0) f 16 h) ∧
 astep prog c (rg f63 1) 9 f h = gdS (f.getD 12 .top) false (some (f.set 17 (.tup []),h)) (pureS (ldV prog 3 (f.getD 16 .top) h) f 17 h) ∧
 astep prog c (rg f63 1) 10 f h = gdS (f.getD 12 .top) false (some (f.set 18 (.tup []),h)) (pureS (abin prog .neq 3 (.tmp 17) (.const (.int .i64 1)) (f.getD 17 .top) (.int .i64 1)) f 18 h) ∧
 astep prog c (rg f63 1) 11 f h = pureS (pickV (f.getD 12 .top) (.bool true) (f.getD 18 .top)) f 19 h ∧
 astep prog c (rg f63 2) 0 f h = pureS (abuild prog 60 []) f 20 h ∧
 astep prog c (rg f63 2) 1 f h = pureS (some (.str [])) f 2 h ∧
 astep prog c (rg f63 2) 2 f h = heapN (stV prog 60 (f.getD 3 .top) (f.getD 20 .top) h) f ∧
 astep prog c (rg f63 2) 3 f h = pureS (some (.bool false)) f 4 h ∧
 astep prog c (rg f63 3) 0 f h = pureS (afieldAt prog 60 (f.getD 1 .top) 0) f 21 h ∧
 astep prog c (rg f63 3) 1 f h = pureS (ldV prog 58 (f.getD 21 .top) h) f 22 h ∧
 astep prog c (rg f63 3) 2 f h = pureS (aindexAt prog 58 (f.getD 22 .top) (.int .i64 0)) f 23 h ∧
 astep prog c (rg f63 3) 3 f h = pureS (afieldAt prog 78 (f.getD 23 .top) 1) f 24 h ∧
 astep prog c (rg f63 3) 4 f h = pureS (ldV prog 9 (f.getD 24 .top) h) f 25 h ∧
 astep prog c (rg f63 3) 5 f h = pureS (some (f.getD 25 .top)) f 5 h ∧
 astep prog c (rg f63 4) 0 f h = pureS (some (f.getD 5 .top)) f 26 h ∧
 astep prog c (rg f63 4) 1 f h = heapS (callV c (.fn (.func 80) [] []) [(f.getD 26 .top)] h) f 27 ∧
 astep prog c (rg f63 4) 2 f h = pureS (some (f.getD 27 .top)) f 6 h ∧
 astep prog c (rg f63 5) 0 f h = pureS (some (f.getD 6 .top)) f 28 h ∧
 astep prog c (rg f63 5) 1 f h = pureS (abin prog .lss 3 (.tmp 28) (.const (.int .i64 0)) (f.getD 28 .top) (.int .i64 0)) f 29 h ∧
 astep prog c (rg f63 6) 0 f h = pureS (abuild prog 60 []) f 30 h ∧
 astep prog c (rg f63 6) 1 f h = pureS (some (.str [])) f 2 h ∧
 astep prog c (rg f63 6) 2 f h = heapN (stV prog 60 (f.getD 3 .top) (f.getD 30 .top) h) f ∧
 astep prog c (rg f63 6) 3 f h = pureS (some (.bool false)) f 4 h ∧
 astep prog c (rg f63 7) 0 f h = pureS (some (.nilSl)) f 7 h ∧
 astep prog c (rg f63 8) 0 f h = pureS (some (f.getD 6 .top)) f 31 h ∧
 astep prog c (rg f63 8) 1 f h = pureS (abin prog .add 3 (.tmp 31) (.const (.int .i64 1)) (f.getD 31 .top) (.int .i64 1)) f 32 h ∧
 astep prog c (rg f63 8) 2 f h = pureS (some (f.getD 5 .top)) f 33 h ∧
 astep prog c (rg f63 8) 3 f h = pureS (lenV (alen prog 9 (f.getD 33 .top))) f 34 h ∧
 astep prog c (rg f63 8) 4 f h = pureS (abin prog .lss 3 (.tmp 32) (.tmp 34) (f.getD 32 .top) (f.getD 34 .top)) f 35 h ∧
 astep prog c (rg f63 9) 0 f h = pureS (some (f.getD 7 .top)) f 36 h ∧
 astep prog c (rg f63 9) 1 f h = pureS (some (f.getD 5 .top)) f 37 h ∧
 astep prog c (rg f63 9) 2 f h = pureS (some (f.getD 6 .top)) f 38 h ∧
 astep prog c (rg f63 9) 3 f h = pureS (abin prog .add 3 (.tmp 38) (.const (.int .i64 1)) (f.getD 38 .top) (.int .i64 1)) f 39 h ∧
 astep prog c (rg f63 9) 4 f h = pureS (aslice prog 9 (f.getD 37 .top) (some (f.getD 39 .top)) none none) f 40 h ∧
 astep prog c (rg f63 9) 5 f h = pureS (abuild prog 78 [(0,(.int .i64 1)),(1,(f.getD 40 .top))]) f 41 h ∧
 astep prog c (rg f63 9) 6 f h = heapS (bslV prog 58 1 [(0,(f.getD 41 .top))] h) f 42 ∧
 astep prog c (rg f63 9) 7 f h = heapS (aappend prog 58 58 (f.getD 36 .top) (f.getD 42 .top) h) f 43 ∧
 astep prog c (rg f63 9) 8 f h = pureS (some (f.getD 43 .top)) f 7 h ∧
 astep prog c (rg f63 10) 0 f h = pureS (some (f.getD 5 .top)) f 44 h ∧
 astep prog c (rg f63 10) 1 f h = pureS (some (f.getD 6 .top)) f 45 h ∧
 astep prog c (rg f63 10) 2 f h = pureS (aslice prog 9 (f.getD 44 .top) none (some (f.getD 45 .top)) none) f 46 h ∧
 astep prog c (rg f63 10) 3 f h = pureS (some (f.getD 7 .top)) f 47 h ∧
 astep prog c (rg f63 10) 4 f h = pureS (afieldAt prog 60 (f.getD 1 .top) 0) f 48 h ∧
 astep prog c (rg f63 10) 5 f h = pureS (ldV prog 58 (f.getD 48 .top) h) f 49 h ∧
 astep prog c (rg f63 10) 6 f h = pureS (aslice prog 58 (f.getD 49 .top) (some (.int .i64 1)) none none) f 50 h ∧
 astep prog c (rg f63 10) 7 f h = heapS (aappend prog 58 58 (f.getD 47 .top) (f.getD 50 .top) h) f 51 ∧
 astep prog c (rg f63 10) 8 f h = pureS (abuild prog 60 [(0,(f.getD 51 .top))]) f 52 h ∧
 astep prog c (rg f63 10) 9 f h = pureS (some (f.getD 46 .top)) f 2 h ∧
 astep prog c (rg f63 10) 10 f h = heapN (stV prog 60 (f.getD 3 .top) (f.getD 52 .top) h) f ∧
 astep prog c (rg f63 10) 11 f h = pureS (some (.bool true)) f 4 h := by
  repeat' apply And.intro
  all_goals kernel_rfl

end Go.Proofs.Ytgnacecplaemlaa
namespace Go.Proofs.Ytgnacecplaemlaa
open AI Try
set_option linter.unusedVariables false
/-! ### 77: conch/char.Assign -/
noncomputable def cd77 : Code := (.seq (.region 0 (rg f77 0) false) (.seq (.region 1 (rg f77 1) false) (.seq (.seq (.region 2 (rg f77 2) false) (.cond (.tmp 14) (.seq (.region 3 (rg f77 3) false) .ret) .skip)) (.seq (.region 4 (rg f77 4) false) .ret))))
theorem ent77 (n : Nat) (a0 : AV) (h : AH) : X (n + 1) (.func 77) [a0] h = nrm h (fin1 (arun prog (HK 77) 77 (X n) n none cd77 [a0,.tup [],.tup [],.tup [],.tup [],.tup [],.tup [],.tup [],.tup [],.tup [],.tup [],.tup [],.tup [],.tup [],.tup [],.tup []] h) 2) := by kernel_rfl
section
variable (K : Hint) (fid : FuncId) (call : ACall) (lf : Nat) (rd : Option Nat) (fr : List AV) (h : AH)
end
theorem R77 (K : Hint) (i : FuncId) (c : ACall) (n : Nat) (d : Option Nat) (f : List AV) (h : AH) :
 arun prog K i c n d (.region 0 (rg f77 0) false) f h = regR (aops prog c (rg f77 0) [0] f h) ∧
 arun prog K i c n d (.region 1 (rg f77 1) false) f h = regR (aops prog c (rg f77 1) [0,1,2] f h) ∧
 arun prog K i c n d (.region 2 (rg f77 2) false) f h = regR (aops prog c (rg f77 2) [0,1,2,3,4,5,6,7,8] f h) ∧
 arun prog K i c n d (.region 3 (rg f77 3) false) f h = regR (aops prog c (rg f77 3) [0] f h) ∧
 arun prog K i c n d (.region 4 (rg f77 4) false) f h = regR (aops prog c (rg f77 4) [0,1] f h) := by
  repeat' apply And.intro
  all_goals kernel_rfl
theorem S77 (c : ACall) (f : List AV) (h : AH) :
 astep prog c (rg f77 0) 0 f h = pureS (some (.int .i64 0)) f 2 h ∧
 astep prog c (rg f77 1) 0 f h = pureS (some (f.getD 0 .top)) f 4 h ∧
 astep prog c (rg f77 1) 1 f h = heapS (callV c (.fn (.func 90) [] []) [(f.getD 4 .top),(.int .u8 61)] h) f 5 ∧
 astep prog c (rg f77 1) 2 f h = pureS (some (f.getD 5 .top)) f 3 h ∧
 astep prog c (rg f77 2) 0 f h = pureS (some (f.getD 3 .top)) f 6 h ∧
 astep prog c (rg f77 2) 1 f h = pureS (abin prog .lss 3 (.tmp 6) (.const (.int .i64 0)) (f.getD 6 .top) (.int .i64 0)) f 7 h ∧
 astep prog c (rg f77 2) 2 f h = pureS (some (f.getD 7 .top)) f 8 h ∧
 astep prog c (rg f77 2) 3 f h = gdS (f.getD 8 .top) false (some (f.set 9 (.tup []),h)) (pureS (some (f.getD 0 .top)) f 9 h) ∧
 astep prog c (rg f77 2) 4 f h = gdS (f.getD 8 .top) false (some (f.set 10 (.tup []),h)) (pureS (some (f.getD 3 .top)) f 10 h) ∧
 astep prog c (rg f77 2) 5 f h = gdS (f.getD 8 .top) false (some (f.set 11 (.tup []),h)) (pureS (aslice prog 9 (f.getD 9 .top) none (some (f.getD 10 .top)) none) f 11 h) ∧
 astep prog c (rg f77 2) 6 f h = gdS (f.getD 8 .top) false (some (f.set 12 (.tup []),h)) (heapS (callV c (.fn (.func 88) [] []) [(f.getD 11 .top)] h) f 12) ∧
 astep prog c (rg f77 2) 7 f h = gdS (f.getD 8 .top) false (some (f.set 13 (.tup []),h)) (pureS (aun .not (f.getD 12 .top)) f 13 h) ∧
 astep prog c (rg f77 2) 8 f h = pureS (pickV (f.getD 8 .top) (.bool true) (f.getD 13 .top)) f 14 h ∧
 astep prog c (rg f77 3) 0 f h = pureS (some (.int .i64 (-1))) f 2 h ∧
 astep prog c (rg f77 4) 0 f h = pureS (some (f.getD 3 .top)) f 15 h ∧
 astep prog c (rg f77 4) 1 f h = pureS (some (f.getD 15 .top)) f 2 h := by
  repeat' apply And.intro
  all_goals kernel_rfl

end Go.Proofs.Ytgnacecplaemlaa
namespace Go.Proofs.Ytgnacecplaemlaa
open AI Try
set_option linter.unusedVariables false
/-! ### 78: slices.Clone[[]conch/api.Part,conch/api.Part] -/
noncomputable def cd78 : Code := (.seq (.region 0 (rg f78 0) false) (.seq (.seq (.region 1 (rg f78 1) false) (.cond (.tmp 4) (.seq (.region 2 (rg f78 2) false) .ret) .skip)) (.seq (.region 3 (rg f78 3) false) .ret)))
theorem ent78 (n : Nat) (a0 : AV) (h : AH) : X (n + 1) (.func 78) [a0] h = nrm h (fin1 (arun prog (HK 78) 78 (X n) n none cd78 [a0,.tup [],.tup [],.tup [],.tup [],.tup [],.tup [],.tup []] h) 2) := by kernel_rfl
section
variable (K : Hint) (fid : FuncId) (call : ACall) (lf : Nat) (rd : Option Nat) (fr : List AV) (h : AH)
end
theorem R78 (K : Hint) (i : FuncId) (c : ACall) (n : Nat) (d : Option Nat) (f : List AV) (h : AH) :
 arun prog K i c n d (.region 0 (rg f78 0) false) f h = regR (aops prog c (rg f78 0) [0] f h) ∧
 arun prog K i c n d (.region 1 (rg f78 1) false) f h = regR (aops prog c (rg f78 1) [0,1] f h) ∧
 arun prog K i c n d (.region 2 (rg f78 2) false) f h = regR (aops prog c (rg f78 2) [0] f h) ∧
 arun prog K i c n d (.region 3 (rg f78 3) false) f h = regR (aops prog c (rg f78 3) [0,1,2,3] f h) := by
  repeat' apply And.intro
  all_goals kernel_rfl
theorem S78 (c : ACall) (f : List AV) (h : AH) :
 astep prog c (rg f78 0) 0 f h = pureS (some (.nilSl)) f 2 h ∧
 astep prog c (rg f78 1) 0 f h = pureS (some (f.getD 0 .top)) f 3 h ∧
 astep prog c (rg f78 1) 1 f h = pureS (abin prog .eql 58 (.tmp 3) (.const (.slice none 0 0)) (f.getD 3 .top) (.nilSl)) f 4 h ∧
 astep prog c (rg f78 2) 0 f h = pureS (some (.nilSl)) f 2 h ∧
 astep prog c (rg f78 3) 0 f h = heapS (bslV prog 58 0 [] h) f 5 ∧
 astep prog c (rg f78 3) 1 f h = pureS (some (f.getD 0 .top)) f 6 h ∧
 astep prog c (rg f78 3) 2 f h = heapS (aappend prog 58 58 (f.getD 5 .top) (f.getD 6 .top) h) f 7 ∧
 astep prog c (rg f78 3) 3 f h = pureS (some (f.getD 7 .top)) f 2 h := by
  repeat' apply And.intro
  all_goals kernel_rfl

end Go.Proofs.Ytgnacecplaemlaa
namespace Go.Proofs.Ytgnacecplaemlaa
open AI Try
set_option linter.unusedVariables false
/-! ### 80: conch/conchref01.Assign -/
noncomputable def lp80_2 : Code := (.seq (.seq (.region 2 (rg f80 2) false) (.cond (.tmp 7) .skip (.exit 0))) (.seq (.block 1 (.seq (.seq (.region 4 (rg f80 4) false) (.cond (.tmp 13) (.exit 1) .skip)) (.seq (.seq (.region 5 (rg f80 5) false) (.cond (.tmp 17) (.seq (.region 6 (rg f80 6) false) .ret) .skip)) (.seq (.region 7 (rg f80 7) false) .ret)))) (.region 3 (rg f80 3) false)))
def C80_2 (x0 x3 : AV) : List AV := [x0,.top,.top,x3,.top,.top,.top,.top,.top,.top,.top,.top,.top,.top,.top,.top,.top,.top,.top]
theorem cl80_2 (x0 x1 x2 x3 x4 x5 x6 x7 x8 x9 x10 x11 x12 x13 x14 x15 x16 x17 x18 : AV) : aclear (HK 80) lp80_2 [x0,x1,x2,x3,x4,x5,x6,x7,x8,x9,x10,x11,x12,x13,x14,x15,x16,x17,x18] = C80_2 x0 x3 := by kernel_rfl
noncomputable def cd80 : Code := (.seq (.region 0 (rg f80 0) false) (.seq (.seq (.region 1 (rg f80 1) false) (.block 0 (.loop lp80_2))) (.seq (.region 8 (rg f80 8) false) .ret)))
theorem ent80 (n : Nat) (a0 : AV) (h : AH) : X (n + 1) (.func 80) [a0] h = nrm h (fin1 (arun prog (HK 80) 80 (X n) n none cd80 [a0,.tup [],.tup [],.tup [],.tup [],.tup [],.tup [],.tup [],.tup [],.tup [],.tup [],.tup [],.tup [],.tup [],.tup [],.tup [],.tup [],.tup [],.tup []] h) 2) := by kernel_rfl
section
variable (K : Hint) (fid : FuncId) (call : ACall) (lf : Nat) (rd : Option Nat) (fr : List AV) (h : AH)
end
theorem R80 (K : Hint) (i : FuncId) (c : ACall) (n : Nat) (d : Option Nat) (f : List AV) (h : AH) :
 arun prog K i c n d (.region 0 (rg f80 0) false) f h = regR (aops prog c (rg f80 0) [0] f h) ∧
 arun prog K i c n d (.region 1 (rg f80 1) false) f h = regR (aops prog c (rg f80 1) [0] f h) ∧
 arun prog K i c n d (.region 2 (rg f80 2) false) f h = regR (aops prog c (rg f80 2) [0,1,2,3] f h) ∧
 arun prog K i c n d (.region 4 (rg f80 4) false) f h = regR (aops prog c (rg f80 4) [0,1,2,3] f h) ∧
 arun prog K i c n d (.region 5 (rg f80 5) false) f h = regR (aops prog c (rg f80 5) [0,1,2,3] f h) ∧
 arun prog K i c n d (.region 6 (rg f80 6) false) f h = regR (aops prog c (rg f80 6) [0,1] f h) ∧
 arun prog K i c n d (.region 7 (rg f80 7) false) f h = regR (aops prog c (rg f80 7) [0] f h) ∧
 arun prog K i c n d (.region 3 (rg f80 3) false) f h = regR (aops prog c (rg f80 3) [0,1,2] f h) ∧
 arun prog K i c n d (.region 8 (rg f80 8) false) f h = regR (aops prog c (rg f80 8) [0] f h) := by
  repeat' apply And.intro
  all_goals kernel_rfl
theorem S80 (c : ACall) (f : List AV) (h : AH) :
 astep prog c (rg f80 0) 0 f h = pureS (some (.int .i64 0)) f 2 h ∧
 astep prog c (rg f80 1) 0 f h = pureS (some (.int .i64 0)) f 3 h ∧
 astep prog c (rg f80 2) 0 f h = pureS (some (f.getD 3 .top)) f 4 h ∧
 astep prog c (rg f80 2) 1 f h = pureS (some (f.getD 0 .top)) f 5 h ∧
 astep prog c (rg f80 2) 2 f h = pureS (lenV (alen prog 9 (f.getD 5 .top))) f 6 h ∧
 astep prog c (rg f80 2) 3 f h = pureS (abin prog .lss 3 (.tmp 4) (.tmp 6) (f.getD 4 .top) (f.getD 6 .top)) f 7 h ∧
 astep prog c (rg f80 4) 0 f h = pureS (some (f.getD 0 .top)) f 10 h ∧
 astep prog c (rg f80 4) 1 f h = pureS (some (f.getD 3 .top)) f 11 h ∧
 astep prog c (rg f80 4) 2 f h = pureS (aindex prog 9 (f.getD 10 .top) (f.getD 11 .top)) f 12 h ∧
 astep prog c (rg f80 4) 3 f h = pureS (abin prog .neq 5 (.tmp 12) (.const (.int .u8 61)) (f.getD 12 .top) (.int .u8 61)) f 13 h ∧
 astep prog c (rg f80 5) 0 f h = pureS (some (f.getD 0 .top)) f 14 h ∧
 astep prog c (rg f80 5) 1 f h = pureS (some (f.getD 3 .top)) f 15 h ∧
 astep prog c (rg f80 5) 2 f h = pureS (aslice prog 9 (f.getD 14 .top) none (some (f.getD 15 .top)) none) f 16 h ∧
 astep prog c (rg f80 5) 3 f h = heapS (callV c (.fn (.func 89) [] []) [(f.getD 16 .top)] h) f 17 ∧
 astep prog c (rg f80 6) 0 f h = pureS (some (f.getD 3 .top)) f 18 h ∧
 astep prog c (rg f80 6) 1 f h = pureS (some (f.getD 18 .top)) f 2 h ∧
 astep prog c (rg f80 7) 0 f h = pureS (some (.int .i64 (-1))) f 2 h ∧
 astep prog c (rg f80 3) 0 f h = pureS (some (f.getD 3 .top)) f 8 h ∧
 astep prog c (rg f80 3) 1 f h = pureS (abin prog .add 3 (.tmp 8) (.const (.int .i64 1)) (f.getD 8 .top) (.int .i64 1)) f 9 h ∧
 astep prog c (rg f80 3) 2 f h = pureS (some (f.getD 9 .top)) f 3 h ∧
 astep prog c (rg f80 8) 0 f h = pureS (some (.int .i64 (-1))) f 2 h := by
  repeat' apply And.intro
  all_goals kernel_rfl

end Go.Proofs.Ytgnacecplaemlaa
namespace Go.Proofs.Ytgnacecplaemlaa
open AI Try
set_option linter.unusedVariables false
/-! ### 90: strings.IndexByte -/
noncomputable def cd90 : Code := (.seq (.region 0 (rg f90 0) false) (.seq (.region 1 (rg f90 1) false) .ret))
theorem ent90 (n : Nat) (a0 a1 : AV) (h : AH) : X (n + 1) (.func 90) [a0,a1] h = nrm h (fin1 (arun prog (HK 90) 90 (X n) n none cd90 [a0,a1,.tup [],.tup [],.tup [],.tup [],.tup [],.tup []] h) 4) := by kernel_rfl
section
variable (K : Hint) (fid : FuncId) (call : ACall) (lf : Nat) (rd : Option Nat) (fr : List AV) (h : AH)
end
theorem R90 (K : Hint) (i : FuncId) (c : ACall) (n : Nat) (d : Option Nat) (f : List AV) (h : AH) :
 arun prog K i c n d (.region 0 (rg f90 0) false) f h = regR (aops prog c (rg f90 0) [0] f h) ∧
 arun prog K i c n d (.region 1 (rg f90 1) false) f h = regR (aops prog c (rg f90 1) [0,1,2,3] f h) := by
  repeat' apply And.intro
  all_goals kernel_rfl
theorem S90 (c : ACall) (f : List AV) (h : AH) :
 astep prog c (rg f90 0) 0 f h = pureS (some (.int .i64 0)) f 4 h ∧
 astep prog c (rg f90 1) 0 f h = pureS (some (f.getD 0 .top)) f 5 h ∧
 astep prog c (rg f90 1) 1 f h = pureS (some (f.getD 1 .top)) f 6 h ∧
 astep prog c (rg f90 1) 2 f h = heapS (callV c (.fn (.func 98) [] []) [(f.getD 5 .top),(f.getD 6 .top)] h) f 7 ∧
 astep prog c (rg f90 1) 3 f h = pureS (some (f.getD 7 .top)) f 4 h := by
  repeat' apply And.intro
  all_goals kernel_rfl

end Go.Proofs.Ytgnacecplaemlaa
namespace Go.Proofs.Ytgnacecplaemlaa
open AI Try
set_option linter.unusedVariables false
/-! ### 98: internal/stringslite.IndexByte -/
noncomputable def cd98 : Code := (.seq (.region 0 (rg f98 0) false) (.seq (.region 1 (rg f98 1) false) .ret))
theorem ent98 (n : Nat) (a0 a1 : AV) (h : AH) : X (n + 1) (.func 98) [a0,a1] h = nrm h (fin1 (arun prog (HK 98) 98 (X n) n none cd98 [a0,a1,.tup [],.tup [],.tup [],.tup [],.tup [],.tup []] h) 4) := by kernel_rfl
section
variable (K : Hint) (fid : FuncId) (call : ACall) (lf : Nat) (rd : Option Nat) (fr : List AV) (h : AH)
end
theorem R98 (K : Hint) (i : FuncId) (c : ACall) (n : Nat) (d : Option Nat) (f : List AV) (h : AH) :
 arun prog K i c n d (.region 0 (rg f98 0) false) f h = regR (aops prog c (rg f98 0) [0] f h) ∧
 arun prog K i c n d (.region 1 (rg f98 1) false) f h = regR (aops prog c (rg f98 1) [0,1,2,3] f h) := by
  repeat' apply And.intro
  all_goals kernel_rfl
theorem S98 (c : ACall) (f : List AV) (h : AH) :
 astep prog c (rg f98 0) 0 f h = pureS (some (.int .i64 0)) f 4 h ∧
 astep prog c (rg f98 1) 0 f h = pureS (some (f.getD 0 .top)) f 5 h ∧
 astep prog c (rg f98 1) 1 f h = pureS (some (f.getD 1 .top)) f 6 h ∧
 astep prog c (rg f98 1) 2 f h = heapS (callV c (.fn (.func 101) [] []) [(f.getD 5 .top),(f.getD 6 .top)] h) f 7 ∧
 astep prog c (rg f98 1) 3 f h = pureS (some (f.getD 7 .top)) f 4 h := by
  repeat' apply And.intro
  all_goals kernel_rfl

end Go.Proofs.Ytgnacecplaemlaa
namespace Go.Proofs.Ytgnacecplaemlaa
open AI Try
set_option linter.unusedVariables false
/-! ### 96: conch/char.Class -/
noncomputable def cd96 : Code := (.seq (.region 0 (rg f96 0) false) (.seq (.seq (.region 1 (rg f96 1) false) (.block 0 (.seq (.block 7 (.seq (.block 6 (.seq (.block 5 (.seq (.block 4 (.seq (.block 3 (.block 2 (.seq (.block 1 (.seq (.seq (.seq (.region 2 (rg f96 2) false) (.cond (.tmp 4) (.exit 1) .skip)) (.seq (.seq (.region 3 (rg f96 3) false) (.cond (.tmp 6) (.exit 2) .skip)) (.seq (.seq (.region 4 (rg f96 4) false) (.cond (.tmp 8) (.exit 3) .skip)) (.seq (.seq (.region 5 (rg f96 5) false) (.cond (.tmp 10) (.exit 4) .skip)) (.seq (.seq (.seq (.region 6 (rg f96 6) false) (.cond (.tmp 12) .skip (.seq (.region 7 (rg f96 7) false) (.cond (.tmp 12) .skip (.seq (.region 8 (rg f96 8) false) (.cond (.tmp 12) .skip (.seq (.region 9 (rg f96 9) false) (.cond (.tmp 12) .skip (.seq (.region 10 (rg f96 10) false) (.cond (.tmp 12) .skip (.seq (.region 11 (rg f96 11) false) (.cond (.tmp 12) .skip (.region 12 (rg f96 12) false))))))))))))) (.cond (.tmp 12) (.exit 5) .skip)) (.seq (.seq (.seq (.region 13 (rg f96 13) false) (.cond (.tmp 20) .skip (.seq (.region 14 (rg f96 14) false) (.cond (.tmp 20) .skip (.seq (.region 15 (rg f96 15) false) (.cond (.tmp 20) .skip (.region 16 (rg f96 16) false))))))) (.cond (.tmp 20) (.exit 6) .skip)) (.seq (.region 17 (rg f96 17) false) (.cond (.tmp 25) (.exit 7) .skip)))))))) (.exit 0))) (.seq (.seq (.region 18 (rg f96 18) false) .ret) (.exit 0))))) (.seq (.seq (.region 19 (rg f96 19) false) .ret) (.exit 0)))) (.seq (.seq (.region 20 (rg f96 20) false) .ret) (.exit 0)))) (.seq (.seq (.region 21 (rg f96 21) false) .ret) (.exit 0)))) (.seq (.seq (.region 22 (rg f96 22) false) .ret) (.exit 0)))) (.seq (.seq (.region 23 (rg f96 23) false) .ret) (.exit 0))))) (.seq (.region 24 (rg f96 24) false) .ret)))
theorem ent96 (n : Nat) (a0 : AV) (h : AH) : X (n + 1) (.func 96) [a0] h = nrm h (fin1 (arun prog (HK 96) 96 (X n) n none cd96 [a0,.tup [],.tup [],.tup [],.tup [],.tup [],.tup [],.tup [],.tup [],.tup [],.tup [],.tup [],.tup [],.tup [],.tup [],.tup [],.tup [],.tup [],.tup [],.tup [],.tup [],.tup [],.tup [],.tup [],.tup [],.tup [],.tup [],.tup [],.tup []] h) 2) := by kernel_rfl
section
variable (K : Hint) (fid : FuncId) (call : ACall) (lf : Nat) (rd : Option Nat) (fr : List AV) (h : AH)
end
theorem R96 (K : Hint) (i : FuncId) (c : ACall) (n : Nat) (d : Option Nat) (f : List AV) (h : AH) :
 arun prog K i c n d (.region 0 (rg f96 0) false) f h = regR (aops prog c (rg f96 0) [0] f h) ∧
 arun prog K i c n d (.region 1 (rg f96 1) false) f h = regR (aops prog c (rg f96 1) [0] f h) ∧
 arun prog K i c n d (.region 2 (rg f96 2) false) f h = regR (aops prog c (rg f96 2) [0,1] f h) ∧
 arun prog K i c n d (.region 3 (rg f96 3) false) f h = regR (aops prog c (rg f96 3) [0,1] f h) ∧
 arun prog K i c n d (.region 4 (rg f96 4) false) f h = regR (aops prog c (rg f96 4) [0,1] f h) ∧
 arun prog K i c n d (.region 5 (rg f96 5) false) f h = regR (aops prog c (rg f96 5) [0,1] f h) ∧
 arun prog K i c n d (.region 6 (rg f96 6) false) f h = regR (aops prog c (rg f96 6) [0,1] f h) ∧
 arun prog K i c n d (.region 7 (rg f96 7) false) f h = regR (aops prog c (rg f96 7) [0,1] f h) ∧
 arun prog K i c n d (.region 8 (rg f96 8) false) f h = regR (aops prog c (rg f96 8) [0,1] f h) ∧
 arun prog K i c n d (.region 9 (rg f96 9) false) f h = regR (aops prog c (rg f96 9) [0,1] f h) ∧
 arun prog K i c n d (.region 10 (rg f96 10) false) f h = regR (aops prog c (rg f96 10) [0,1] f h) ∧
 arun prog K i c n d (.region 11 (rg f96 11) false) f h = regR (aops prog c (rg f96 11) [0,1] f h) ∧
 arun prog K i c n d (.region 12 (rg f96 12) false) f h = regR (aops prog c (rg f96 12) [0,1] f h) ∧
 arun prog K i c n d (.region 13 (rg f96 13) false) f h = regR (aops prog c (rg f96 13) [0,1] f h) ∧
 arun prog K i c n d (.region 14 (rg f96 14) false) f h = regR (aops prog c (rg f96 14) [0,1] f h) ∧
 arun prog K i c n d (.region 15 (rg f96 15) false) f h = regR (aops prog c (rg f96 15) [0,1] f h) ∧
 arun prog K i c n d (.region 16 (rg f96 16) false) f h = regR (aops prog c (rg f96 16) [0,1] f h) ∧
 arun prog K i c n d (.region 17 (rg f96 17) false) f h = regR (aops prog c (rg f96 17) [0,1] f h) ∧
 arun prog K i c n d (.region 18 (rg f96 18) false) f h = regR (aops prog c (rg f96 18) [0] f h) ∧
 arun prog K i c n d (.region 19 (rg f96 19) false) f h = regR (aops prog c (rg f96 19) [0] f h) ∧
 arun prog K i c n d (.region 20 (rg f96 20) false) f h = regR (aops prog c (rg f96 20) [0] f h) ∧
 arun prog K i c n d (.region 21 (rg f96 21) false) f h = regR (aops prog c (rg f96 21) [0] f h) ∧
 arun prog K i c n d (.region 22 (rg f96 22) false) f h = regR (aops prog c (rg f96 22) [0] f h) ∧
 arun prog K i c n d (.region 23 (rg f96 23) false) f h = regR (aops prog c (rg f96 23) [0] f h) ∧
 arun prog K i c n d (.region 24 (rg f96 24) false) f h = regR (aops prog c (rg f96 24) [0,1,2] f h) := by
  repeat' apply And.intro
  all_goals kernel_rfl
theorem S96 (c : ACall) (f : List AV) (h : AH) :
 astep prog c (rg f96 0) 0 f h = pureS (some (.int .i64 0)) f 2 h ∧
 astep prog c (rg f96 1) 0 f h = pureS (some (f.getD 0 .top)) f 3 h ∧
 astep prog c (rg f96 2) 0 f h = pureS (abin prog .eql 5 (.tmp 3) (.const (.int .u8 0)) (f.getD 3 .top) (.int .u8 0)) f 5 h ∧
 astep prog c (rg f96 2) 1 f h = pureS (some (f.getD 5 .top)) f 4 h ∧
 astep prog c (rg f96 3) 0 f h = pureS (abin prog .eql 5 (.tmp 3) (.const (.int .u8 32)) (f.getD 3 .top) (.int .u8 32)) f 7 h ∧
 astep prog c (rg f96 3) 1 f h = pureS (some (f.getD 7 .top)) f 6 h ∧
 astep prog c (rg f96 4) 0 f h = pureS (abin prog .eql 5 (.tmp 3) (.const (.int .u8 9)) (f.getD 3 .top) (.int .u8 9)) f 9 h ∧
 astep prog c (rg f96 4) 1 f h = pureS (some (f.getD 9 .top)) f 8 h ∧
 astep prog c (rg f96 5) 0 f h = pureS (abin prog .eql 5 (.tmp 3) (.const (.int .u8 10)) (f.getD 3 .top) (.int .u8 10)) f 11 h ∧
 astep prog c (rg f96 5) 1 f h = pureS (some (f.getD 11 .top)) f 10 h ∧
 astep prog c (rg f96 6) 0 f h = pureS (abin prog .eql 5 (.tmp 3) (.const (.int .u8 38)) (f.getD 3 .top) (.int .u8 38)) f 13 h ∧
 astep prog c (rg f96 6) 1 f h = pureS (some (f.getD 13 .top)) f 12 h ∧
 astep prog c (rg f96 7) 0 f h = pureS (abin prog .eql 5 (.tmp 3) (.const (.int .u8 124)) (f.getD 3 .top) (.int .u8 124)) f 14 h ∧
 astep prog c (rg f96 7) 1 f h = pureS (some (f.getD 14 .top)) f 12 h ∧
 astep prog c (rg f96 8) 0 f h = pureS (abin prog .eql 5 (.tmp 3) (.const (.int .u8 59)) (f.getD 3 .top) (.int .u8 59)) f 15 h ∧
 astep prog c (rg f96 8) 1 f h = pureS (some (f.getD 15 .top)) f 12 h ∧
 astep prog c (rg f96 9) 0 f h = pureS (abin prog .eql 5 (.tmp 3) (.const (.int .u8 60)) (f.getD 3 .top) (.int .u8 60)) f 16 h ∧
 astep prog c (rg f96 9) 1 f h = pureS (some (f.getD 16 .top)) f 12 h ∧
 astep prog c (rg f96 10) 0 f h = pureS (abin prog .eql 5 (.tmp 3) (.const (.int .u8 62)) (f.getD 3 .top) (.int .u8 62)) f 17 h ∧
 astep prog c (rg f96 10) 1 f h = pureS (some (f.getD 17 .top)) f 12 h ∧
 astep prog c (rg f96 11) 0 f h = pureS (abin prog .eql 5 (.tmp 3) (.const (.int .u8 40)) (f.getD 3 .top) (.int .u8 40)) f 18 h ∧
 astep prog c (rg f96 11) 1 f h = pureS (some (f.getD 18 .top)) f 12 h ∧
 astep prog c (rg f96 12) 0 f h = pureS (abin prog .eql 5 (.tmp 3) (.const (.int .u8 41)) (f.getD 3 .top) (.int .u8 41)) f 19 h ∧
 astep prog c (rg f96 12) 1 f h = pureS (some (f.getD 19 .top)) f 12 h ∧
 astep prog c (rg f96 13) 0 f h = pureS (abin prog .eql 5 (.tmp 3) (.const (.int .u8 39)) (f.getD 3 .top) (.int .u8 39)) f 21 h ∧
 astep prog c (rg f96 13) 1 f h = pureS (some (f.getD 21 .top)) f 20 h ∧
 astep prog c (rg f96 14) 0 f h = pureS (abin prog .eql 5 (.tmp 3) (.const (.int .u8 34)) (f.getD 3 .top) (.int .u8 34)) f 22 h ∧
 astep prog c (rg f96 14) 1 f h = pureS (some (f.getD 22 .top)) f 20 h ∧
 astep prog c (rg f96 15) 0 f h = pureS (abin prog .eql 5 (.tmp 3) (.const (.int .u8 92)) (f.getD 3 .top) (.int .u8 92)) f 23 h ∧
 astep prog c (rg f96 15) 1 f h = pureS (some (f.getD 23 .top)) f 20 h ∧
 astep prog c (rg f96 16) 0 f h = pureS (abin prog .eql 5 (.tmp 3) (.const (.int .u8 96)) (f.getD 3 .top) (.int .u8 96)) f 24 h ∧
 astep prog c (rg f96 16) 1 f h = pureS (some (f.getD 24 .top)) f 20 h ∧
 astep prog c (rg f96 17) 0 f h = pureS (abin prog .eql 5 (.tmp 3) (.const (.int .u8 36)) (f.getD 3 .top) (.int .u8 36)) f 26 h ∧
 astep prog c (rg f96 17) 1 f h = pureS (some (f.getD 26 .top)) f 25 h ∧
 astep prog c (rg f96 18) 0 f h = pureS (some (.int .i64 0)) f 2 h ∧
 astep prog c (rg f96 19) 0 f h = pureS (some (.int .i64 1)) f 2 h ∧
 astep prog c (rg f96 20) 0 f h = pureS (some (.int .i64 2)) f 2 h ∧
 astep prog c (rg f96 21) 0 f h = pureS (some (.int .i64 5)) f 2 h ∧
 astep prog c (rg f96 22) 0 f h = pureS (some (.int .i64 6)) f 2 h ∧
 astep prog c (rg f96 23) 0 f h = pureS (some (.int .i64 7)) f 2 h ∧
 astep prog c (rg f96 24) 0 f h = pureS (some (f.getD 0 .top)) f 27 h ∧
 astep prog c (rg f96 24) 1 f h = heapS (callV c (.fn (.func 100) [] []) [(f.getD 27 .top)] h) f 28 ∧
 astep prog c (rg f96 24) 2 f h = pureS (some (f.getD 28 .top)) f 2 h := by
  repeat' apply And.intro
  all_goals kernel_rfl

end Go.Proofs.Ytgnacecplaemlaa
namespace Go.Proofs.Ytgnacecplaemlaa
open AI Try
set_option linter.unusedVariables false
/-! ### 100: conch/char.letter -/
noncomputable def cd100 : Code := (.seq (.region 0 (rg f100 0) false) (.seq (.block 0 (.seq (.region 1 (rg f100 1) false) (.cond (.tmp 3) (.seq (.region 2 (rg f100 2) false) .ret) (.seq (.seq (.region 3 (rg f100 3) false) (.cond (.tmp 10) .skip (.region 4 (rg f100 4) false))) (.cond (.tmp 10) (.seq (.region 5 (rg f100 5) false) .ret) .skip))))) (.seq (.region 6 (rg f100 6) false) .ret)))
theorem ent100 (n : Nat) (a0 : AV) (h : AH) : X (n + 1) (.func 100) [a0] h = nrm h (fin1 (arun prog (HK 100) 100 (X n) n none cd100 [a0,.tup [],.tup [],.tup [],.tup [],.tup [],.tup [],.tup [],.tup [],.tup [],.tup [],.tup [],.tup [],.tup [],.tup [],.tup [],.tup [],.tup [],.tup [],.tup [],.tup []] h) 2) := by kernel_rfl
section
variable (K : Hint) (fid : FuncId) (call : ACall) (lf : Nat) (rd : Option Nat) (fr : List AV) (h : AH)
end
theorem R100 (K : Hint) (i : FuncId) (c : ACall) (n : Nat) (d : Option Nat) (f : List AV) (h : AH) :
 arun prog K i c n d (.region 0 (rg f100 0) false) f h = regR (aops prog c (rg f100 0) [0] f h) ∧
 arun prog K i c n d (.region 1 (rg f100 1) false) f h = regR (aops prog c (rg f100 1) [0,1,2,3,4,5,6] f h) ∧
 arun prog K i c n d (.region 2 (rg f100 2) false) f h = regR (aops prog c (rg f100 2) [0] f h) ∧
 arun prog K i c n d (.region 3 (rg f100 3) false) f h = regR (aops prog c (rg f100 3) [0,1,2] f h) ∧
 arun prog K i c n d (.region 4 (rg f100 4) false) f h = regR (aops prog c (rg f100 4) [0,1,2,3,4,5,6,7,8] f h) ∧
 arun prog K i c n d (.region 5 (rg f100 5) false) f h = regR (aops prog c (rg f100 5) [0] f h) ∧
 arun prog K i c n d (.region 6 (rg f100 6) false) f h = regR (aops prog c (rg f100 6) [0] f h) := by
  repeat' apply And.intro
  all_goals kernel_rfl
theorem S100 (c : ACall) (f : List AV) (h : AH) :
 astep prog c (rg f100 0) 0 f h = pureS (some (.int .i64 0)) f 2 h ∧
 astep prog c (rg f100 1) 0 f h = pureS (some (f.getD 0 .top)) f 4 h ∧
 astep prog c (rg f100 1) 1 f h = pureS (abin prog .geq 5 (.tmp 4) (.const (.int .u8 48)) (f.getD 4 .top) (.int .u8 48)) f 5 h ∧
 astep prog c (rg f100 1) 2 f h = pureS (some (f.getD 5 .top)) f 6 h ∧
 astep prog c (rg f100 1) 3 f h = gdS (f.getD 6 .top) true (some (f.set 7 (.tup []),h)) (pureS (some (f.getD 0 .top)) f 7 h) ∧
 astep prog c (rg f100 1) 4 f h = gdS (f.getD 6 .top) true (some (f.set 8 (.tup []),h)) (pureS (abin prog .leq 5 (.tmp 7) (.const (.int .u8 57)) (f.getD 7 .top) (.int .u8 57)) f 8 h) ∧
 astep prog c (rg f100 1) 5 f h = pureS (pickV (f.getD 6 .top) (f.getD 8 .top) (.bool false)) f 9 h ∧
 astep prog c (rg f100 1) 6 f h = pureS (some (f.getD 9 .top)) f 3 h ∧
 astep prog c (rg f100 2) 0 f h = pureS (some (.int .i64 3)) f 2 h ∧
 astep prog c (rg f100 3) 0 f h = pureS (some (f.getD 0 .top)) f 11 h ∧
 astep prog c (rg f100 3) 1 f h = pureS (abin prog .eql 5 (.tmp 11) (.const (.int .u8 95)) (f.getD 11 .top) (.int .u8 95)) f 12 h ∧
 astep prog c (rg f100 3) 2 f h = pureS (some (f.getD 12 .top)) f 10 h ∧
 astep prog c (rg f100 4) 0 f h = pureS (some (f.getD 0 .top)) f 13 h ∧
 astep prog c (rg f100 4) 1 f h = pureS (abin prog .or 5 (.tmp 13) (.const (.int .u8 32)) (f.getD 13 .top) (.int .u8 32)) f 14 h ∧
 astep prog c (rg f100 4) 2 f h = pureS (abin prog .geq 5 (.tmp 14) (.const (.int .u8 97)) (f.getD 14 .top) (.int .u8 97)) f 15 h ∧
 astep prog c (rg f100 4) 3 f h = pureS (some (f.getD 15 .top)) f 16 h ∧
 astep prog c (rg f100 4) 4 f h = gdS (f.getD 16 .top) true (some (f.set 17 (.tup []),h)) (pureS (some (f.getD 0 .top)) f 17 h) ∧
 astep prog c (rg f100 4) 5 f h = gdS (f.getD 16 .top) true (some (f.set 18 (.tup []),h)) (pureS (abin prog .or 5 (.tmp 17) (.const (.int .u8 32)) (f.getD 17 .top) (.int .u8 32)) f 18 h) ∧
 astep prog c (rg f100 4) 6 f h = gdS (f.getD 16 .top) true (some (f.set 19 (.tup []),h)) (pureS (abin prog .leq 5 (.tmp 18) (.const (.int .u8 122)) (f.getD 18 .top) (.int .u8 122)) f 19 h) ∧
 astep prog c (rg f100 4) 7 f h = pureS (pickV (f.getD 16 .top) (f.getD 19 .top) (.bool false)) f 20 h ∧
 astep prog c (rg f100 4) 8 f h = pureS (some (f.getD 20 .top)) f 10 h ∧
 astep prog c (rg f100 5) 0 f h = pureS (some (.int .i64 4)) f 2 h ∧
 astep prog c (rg f100 6) 0 f h = pureS (some (.int .i64 8)) f 2 h := by
  repeat' apply And.intro
  all_goals kernel_rfl

end Go.Proofs.Ytgnacecplaemlaa
namespace Go.Proofs.Ytgnacecplaemlaa
open AI Try
set_option linter.unusedVariables false
/-! ### 37: conch/walk.Reads -/
noncomputable def lp37_3 : Code := (.seq (.region 3 (rg f37 3) false) (.seq (.cond (.tmp 10) .skip (.exit 0)) (.seq (.block 1 (.seq (.region 4 (rg f37 4) false) (.region 5 (rg f37 5) false))) (.region 6 (rg f37 6) false))))
def C37_3 (x3 x7 x8 x9 : AV) : List AV := [.top,.top,.top,x3,.top,.top,.top,x7,x8,x9,.top,.top,.top,.top,.top,.top,.top,.top,.top]
theorem cl37_3 (x0 x1 x2 x3 x4 x5 x6 x7 x8 x9 x10 x11 x12 x13 x14 x15 x16 x17 x18 : AV) : aclear (HK 37) lp37_3 [x0,x1,x2,x3,x4,x5,x6,x7,x8,x9,x10,x11,x12,x13,x14,x15,x16,x17,x18] = C37_3 x3 x7 x8 x9 := by kernel_rfl
noncomputable def cd37 : Code := (.seq (.region 0 (rg f37 0) false) (.seq (.region 1 (rg f37 1) false) (.seq (.seq (.region 2 (rg f37 2) false) (.block 0 (.loop lp37_3))) (.seq (.region 7 (rg f37 7) false) .ret))))
theorem ent37 (n : Nat) (a0 : AV) (h : AH) : X (n + 1) (.func 37) [a0] h = nrm h (fin1 (arun prog (HK 37) 37 (X n) n none cd37 [a0,.tup [],.tup [],.tup [],.tup [],.tup [],.tup [],.tup [],.tup [],.tup [],.tup [],.tup [],.tup [],.tup [],.tup [],.tup [],.tup [],.tup [],.tup []] h) 2) := by kernel_rfl
section
variable (K : Hint) (fid : FuncId) (call : ACall) (lf : Nat) (rd : Option Nat) (fr : List AV) (h : AH)
end
theorem R37 (K : Hint) (i : FuncId) (c : ACall) (n : Nat) (d : Option Nat) (f : List AV) (h : AH) :
 arun prog K i c n d (.region 0 (rg f37 0) false) f h = regR (aops prog c (rg f37 0) [0,1] f h) ∧
 arun prog K i c n d (.region 1 (rg f37 1) false) f h = regR (aops prog c (rg f37 1) [0] f h) ∧
 arun prog K i c n d (.region 2 (rg f37 2) false) f h = regR (aops prog c (rg f37 2) [0,1,2,3] f h) ∧
 arun prog K i c n d (.region 3 (rg f37 3) false) f h = regR (aops prog c (rg f37 3) [0] f h) ∧
 arun prog K i c n d (.region 4 (rg f37 4) false) f h = regR (aops prog c (rg f37 4) [0,1,2,3] f h) ∧
 arun prog K i c n d (.region 5 (rg f37 5) false) f h = regR (aops prog c (rg f37 5) [0,1,2,3,4] f h) ∧
 arun prog K i c n d (.region 6 (rg f37 6) false) f h = regR (aops prog c (rg f37 6) [0,1] f h) ∧
 arun prog K i c n d (.region 7 (rg f37 7) false) f h = regR (aops prog c (rg f37 7) [0,1] f h) := by
  repeat' apply And.intro
  all_goals kernel_rfl
theorem S37 (c : ACall) (f : List AV) (h : AH) :
 astep prog c (rg f37 0) 0 f h = heapS (boxV (f.getD 0 .top) h) f 1 ∧
 astep prog c (rg f37 0) 1 f h = pureS (some (.nilSl)) f 2 h ∧
 astep prog c (rg f37 1) 0 f h = pureS (some (.nilSl)) f 3 h ∧
 astep prog c (rg f37 2) 0 f h = pureS (ldV prog 49 (f.getD 1 .top) h) f 6 h ∧
 astep prog c (rg f37 2) 1 f h = heapS (callV c (.fn (.func 33) [] []) [(f.getD 6 .top)] h) f 7 ∧
 astep prog c (rg f37 2) 2 f h = pureS (lenV (alen prog 44 (f.getD 7 .top))) f 8 h ∧
 astep prog c (rg f37 2) 3 f h = pureS (some (.int .i64 0)) f 9 h ∧
 astep prog c (rg f37 3) 0 f h = pureS (abin prog .lss 3 (.tmp 9) (.tmp 8) (f.getD 9 .top) (f.getD 8 .top)) f 10 h ∧
 astep prog c (rg f37 4) 0 f h = pureS (aindexAt prog 44 (f.getD 7 .top) (f.getD 9 .top)) f 11 h ∧
 astep prog c (rg f37 4) 1 f h = pureS (ldV prog 60 (f.getD 11 .top) h) f 12 h ∧
 astep prog c (rg f37 4) 2 f h = heapS (newV prog 60 h) f 5 ∧
 astep prog c (rg f37 4) 3 f h = heapN (stV prog 60 (f.getD 5 .top) (f.getD 12 .top) h) f ∧
 astep prog c (rg f37 5) 0 f h = pureS (some (f.getD 3 .top)) f 13 h ∧
 astep prog c (rg f37 5) 1 f h = pureS (ldV prog 60 (f.getD 5 .top) h) f 14 h ∧
 astep prog c (rg f37 5) 2 f h = heapS (callV c (.fn (.func 60) [] []) [(f.getD 14 .top)] h) f 15 ∧
 astep prog c (rg f37 5) 3 f h = heapS (aappend prog 40 40 (f.getD 13 .top) (f.getD 15 .top) h) f 16 ∧
 astep prog c (rg f37 5) 4 f h = pureS (some (f.getD 16 .top)) f 3 h ∧
 astep prog c (rg f37 6) 0 f h = pureS (abin prog .add 3 (.tmp 9) (.const (.int .i64 1)) (f.getD 9 .top) (.int .i64 1)) f 17 h ∧
 astep prog c (rg f37 6) 1 f h = pureS (some (f.getD 17 .top)) f 9 h ∧
 astep prog c (rg f37 7) 0 f h = pureS (some (f.getD 3 .top)) f 18 h ∧
 astep prog c (rg f37 7) 1 f h = pureS (some (f.getD 18 .top)) f 2 h := by
  repeat' apply And.intro
  all_goals kernel_rfl

end Go.Proofs.Ytgnacecplaemlaa
namespace Go.Proofs.Ytgnacecplaemlaa
open AI Try
set_option linter.unusedVariables false
/-! ### 38: conch/conchref42.Reads -/
noncomputable def lp38_4 : Code := (.seq (.seq (.region 4 (rg f38 4) false) (.cond (.tmp 11) .skip (.exit 0))) (.seq (.block 1 (.region 6 (rg f38 6) false)) (.region 5 (rg f38 5) false)))
def C38_4 (x3 x4 x5 : AV) : List AV := [.top,.top,.top,x3,x4,x5,.top,.top,.top,.top,.top,.top,.top,.top,.top,.top,.top,.top,.top,.top,.top,.top]
theorem cl38_4 (x0 x1 x2 x3 x4 x5 x6 x7 x8 x9 x10 x11 x12 x13 x14 x15 x16 x17 x18 x19 x20 x21 : AV) : aclear (HK 38) lp38_4 [x0,x1,x2,x3,x4,x5,x6,x7,x8,x9,x10,x11,x12,x13,x14,x15,x16,x17,x18,x19,x20,x21] = C38_4 x3 x4 x5 := by kernel_rfl
noncomputable def cd38 : Code := (.seq (.region 0 (rg f38 0) false) (.seq (.region 1 (rg f38 1) false) (.seq (.region 2 (rg f38 2) false) (.seq (.seq (.region 3 (rg f38 3) false) (.block 0 (.loop lp38_4))) (.seq (.region 7 (rg f38 7) false) .ret)))))
theorem ent38 (n : Nat) (a0 : AV) (h : AH) : X (n + 1) (.func 38) [a0] h = nrm h (fin1 (arun prog (HK 38) 38 (X n) n none cd38 [a0,.tup [],.tup [],.tup [],.tup [],.tup [],.tup [],.tup [],.tup [],.tup [],.tup [],.tup [],.tup [],.tup [],.tup [],.tup [],.tup [],.tup [],.tup [],.tup [],.tup [],.tup []] h) 2) := by kernel_rfl
section
variable (K : Hint) (fid : FuncId) (call : ACall) (lf : Nat) (rd : Option Nat) (fr : List AV) (h : AH)
end
theorem R38 (K : Hint) (i : FuncId) (c : ACall) (n : Nat) (d : Option Nat) (f : List AV) (h : AH) :
 arun prog K i c n d (.region 0 (rg f38 0) false) f h = regR (aops prog c (rg f38 0) [0,1] f h) ∧
 arun prog K i c n d (.region 1 (rg f38 1) false) f h = regR (aops prog c (rg f38 1) [0] f h) ∧
 arun prog K i c n d (.region 2 (rg f38 2) false) f h = regR (aops prog c (rg f38 2) [0,1,2] f h) ∧
 arun prog K i c n d (.region 3 (rg f38 3) false) f h = regR (aops prog c (rg f38 3) [0] f h) ∧
 arun prog K i c n d (.region 4 (rg f38 4) false) f h = regR (aops prog c (rg f38 4) [0,1,2,3] f h) ∧
 arun prog K i c n d (.region 6 (rg f38 6) false) f h = regR (aops prog c (rg f38 6) [0,1,2,3,4,5,6,7] f h) ∧
 arun prog K i c n d (.region 5 (rg f38 5) false) f h = regR (aops prog c (rg f38 5) [0,1,2] f h) ∧
 arun prog K i c n d (.region 7 (rg f38 7) false) f h = regR (aops prog c (rg f38 7) [0,1] f h) := by
  repeat' apply And.intro
  all_goals kernel_rfl
theorem S38 (c : ACall) (f : List AV) (h : AH) :
 astep prog c (rg f38 0) 0 f h = heapS (boxV (f.getD 0 .top) h) f 1 ∧
 astep prog c (rg f38 0) 1 f h = pureS (some (.nilSl)) f 2 h ∧
 astep prog c (rg f38 1) 0 f h = pureS (some (.nilSl)) f 3 h ∧
 astep prog c (rg f38 2) 0 f h = pureS (ldV prog 49 (f.getD 1 .top) h) f 6 h ∧
 astep prog c (rg f38 2) 1 f h = heapS (callV c (.fn (.func 34) [] []) [(f.getD 6 .top)] h) f 7 ∧
 astep prog c (rg f38 2) 2 f h = pureS (some (f.getD 7 .top)) f 4 h ∧
 astep prog c (rg f38 3) 0 f h = pureS (some (.int .i64 0)) f 5 h ∧
 astep prog c (rg f38 4) 0 f h = pureS (some (f.getD 5 .top)) f 8 h ∧
 astep prog c (rg f38 4) 1 f h = pureS (some (f.getD 4 .top)) f 9 h ∧
 astep prog c (rg f38 4) 2 f h = pureS (lenV (alen prog 44 (f.getD 9 .top))) f 10 h ∧
 astep prog c (rg f38 4) 3 f h = pureS (abin prog .lss 3 (.tmp 8) (.tmp 10) (f.getD 8 .top) (f.getD 10 .top)) f 11 h ∧
 astep prog c (rg f38 6) 0 f h = pureS (some (f.getD 3 .top)) f 14 h ∧
 astep prog c (rg f38 6) 1 f h = pureS (some (f.getD 4 .top)) f 15 h ∧
 astep prog c (rg f38 6) 2 f h = pureS (some (f.getD 5 .top)) f 16 h ∧
 astep prog c (rg f38 6) 3 f h = pureS (aindexAt prog 44 (f.getD 15 .top) (f.getD 16 .top)) f 17 h ∧
 astep prog c (rg f38 6) 4 f h = pureS (ldV prog 60 (f.getD 17 .top) h) f 18 h ∧
 astep prog c (rg f38 6) 5 f h = heapS (callV c (.fn (.func 61) [] []) [(f.getD 18 .top)] h) f 19 ∧
 astep prog c (rg f38 6) 6 f h = heapS (aappend prog 40 40 (f.getD 14 .top) (f.getD 19 .top) h) f 20 ∧
 astep prog c (rg f38 6) 7 f h = pureS (some (f.getD 20 .top)) f 3 h ∧
 astep prog c (rg f38 5) 0 f h = pureS (some (f.getD 5 .top)) f 12 h ∧
 astep prog c (rg f38 5) 1 f h = pureS (abin prog .add 3 (.tmp 12) (.const (.int .i64 1)) (f.getD 12 .top) (.int .i64 1)) f 13 h ∧
 astep prog c (rg f38 5) 2 f h = pureS (some (f.getD 13 .top)) f 5 h ∧
 astep prog c (rg f38 7) 0 f h = pureS (some (f.getD 3 .top)) f 21 h ∧
 astep prog c (rg f38 7) 1 f h = pureS (some (f.getD 21 .top)) f 2 h := by
  repeat' apply And.intro
  all_goals kernel_rfl

end Go.Proofs.Ytgnacecplaemlaa
namespace Go.Proofs.Ytgnacecplaemlaa
open AI Try
set_option linter.unusedVariables false
/-! ### 60: conch/unquote.Names -/
noncomputable def ra60_3 : Code := (.region 3 (rg f60 3) false)
noncomputable def rb60_4 : Code := (.block 1 (.region 4 (rg f60 4) false))
noncomputable def cd60 : Code := (.seq (.region 0 (rg f60 0) false) (.seq (.region 1 (rg f60 1) false) (.seq (.seq (.region 2 (rg f60 2) false) (.block 0 (.rangeFunc (.tmp 7) #[8] ra60_3 rb60_4))) (.seq (.region 5 (rg f60 5) false) .ret))))
theorem ent60 (n : Nat) (a0 : AV) (h : AH) : X (n + 1) (.func 60) [a0] h = nrm h (fin1 (arun prog (HK 60) 60 (X n) n none cd60 [a0,.tup [],.tup [],.tup [],.tup [],.tup [],.tup [],.tup [],.tup [],.tup [],.tup [],.tup [],.tup [],.tup []] h) 2) := by kernel_rfl
section
variable (K : Hint) (fid : FuncId) (call : ACall) (lf : Nat) (rd : Option Nat) (fr : List AV) (h : AH)
end
theorem R60 (K : Hint) (i : FuncId) (c : ACall) (n : Nat) (d : Option Nat) (f : List AV) (h : AH) :
 arun prog K i c n d (.region 0 (rg f60 0) false) f h = regR (aops prog c (rg f60 0) [0,1] f h) ∧
 arun prog K i c n d (.region 1 (rg f60 1) false) f h = regR (aops prog c (rg f60 1) [0] f h) ∧
 arun prog K i c n d (.region 2 (rg f60 2) false) f h = regR (aops prog c (rg f60 2) [0,1,2] f h) ∧
 arun prog K i c n d (.region 3 (rg f60 3) false) f h = regR (aops prog c (rg f60 3) [0] f h) ∧
 arun prog K i c n d (.region 4 (rg f60 4) false) f h = regR (aops prog c (rg f60 4) [0,1,2,3,4] f h) ∧
 arun prog K i c n d (.region 5 (rg f60 5) false) f h = regR (aops prog c (rg f60 5) [0,1] f h) := by
  repeat' apply And.intro
  all_goals kernel_rfl
theorem S60 (c : ACall) (f : List AV) (h : AH) :
 astep prog c (rg f60 0) 0 f h = heapS (boxV (f.getD 0 .top) h) f 1 ∧
 astep prog c (rg f60 0) 1 f h = pureS (some (.nilSl)) f 2 h ∧
 astep prog c (rg f60 1) 0 f h = heapS (newV prog 40 h) f 3 ∧
 astep prog c (rg f60 2) 0 f h = pureS (afieldAt prog 60 (f.getD 1 .top) 0) f 5 h ∧
 astep prog c (rg f60 2) 1 f h = pureS (ldV prog 58 (f.getD 5 .top) h) f 6 h ∧
 astep prog c (rg f60 2) 2 f h = heapS (callV c (.fn (.func 75) [] []) [(f.getD 6 .top)] h) f 7 ∧
 astep prog c (rg f60 3) 0 f h = pureS (some (f.getD 8 .top)) f 4 h ∧
 astep prog c (rg f60 4) 0 f h = pureS (ldV prog 40 (f.getD 3 .top) h) f 9 h ∧
 astep prog c (rg f60 4) 1 f h = pureS (some (f.getD 4 .top)) f 10 h ∧
 astep prog c (rg f60 4) 2 f h = heapS (bslV prog 40 1 [(0,(f.getD 10 .top))] h) f 11 ∧
 astep prog c (rg f60 4) 3 f h = heapS (aappend prog 40 40 (f.getD 9 .top) (f.getD 11 .top) h) f 12 ∧
 astep prog c (rg f60 4) 4 f h = heapN (stV prog 40 (f.getD 3 .top) (f.getD 12 .top) h) f ∧
 astep prog c (rg f60 5) 0 f h = pureS (ldV prog 40 (f.getD 3 .top) h) f 13 h ∧
 astep prog c (rg f60 5) 1 f h = pureS (some (f.getD 13 .top)) f 2 h := by
  repeat' apply And.intro
  all_goals kernel_rfl

end Go.Proofs.Ytgnacecplaemlaa
namespace Go.Proofs.Ytgnacecplaemlaa
open AI Try
set_option linter.unusedVariables false
/-! ### 61: conch/conchref27.Names -/
noncomputable def cd61 : Code := (.seq (.region 0 (rg f61 0) false) (.seq (.region 1 (rg f61 1) false) .ret))
theorem ent61 (n : Nat) (a0 : AV) (h : AH) : X (n + 1) (.func 61) [a0] h = nrm h (fin1 (arun prog (HK 61) 61 (X n) n none cd61 [a0,.tup [],.tup [],.tup [],.tup [],.tup []] h) 2) := by kernel_rfl
section
variable (K : Hint) (fid : FuncId) (call : ACall) (lf : Nat) (rd : Option Nat) (fr : List AV) (h : AH)
end
theorem R61 (K : Hint) (i : FuncId) (c : ACall) (n : Nat) (d : Option Nat) (f : List AV) (h : AH) :
 arun prog K i c n d (.region 0 (rg f61 0) false) f h = regR (aops prog c (rg f61 0) [0,1] f h) ∧
 arun prog K i c n d (.region 1 (rg f61 1) false) f h = regR (aops prog c (rg f61 1) [0,1,2,3] f h) := by
  repeat' apply And.intro
  all_goals kernel_rfl
theorem S61 (c : ACall) (f : List AV) (h : AH) :
 astep prog c (rg f61 0) 0 f h = heapS (boxV (f.getD 0 .top) h) f 1 ∧
 astep prog c (rg f61 0) 1 f h = pureS (some (.nilSl)) f 2 h ∧
 astep prog c (rg f61 1) 0 f h = pureS (afieldAt prog 60 (f.getD 1 .top) 0) f 3 h ∧
 astep prog c (rg f61 1) 1 f h = pureS (ldV prog 58 (f.getD 3 .top) h) f 4 h ∧
 astep prog c (rg f61 1) 2 f h = heapS (callV c (.fn (.func 76) [] []) [(f.getD 4 .top)] h) f 5 ∧
 astep prog c (rg f61 1) 3 f h = pureS (some (f.getD 5 .top)) f 2 h := by
  repeat' apply And.intro
  all_goals kernel_rfl

end Go.Proofs.Ytgnacecplaemlaa
namespace Go.Proofs.Ytgnacecplaemlaa
open AI Try
set_option linter.unusedVariables false
/-! ### 75: conch/unquote.named -/
noncomputable def cd75 : Code := (.seq (.region 0 (rg f75 0) false) (.seq (.region 1 (rg f75 1) false) .ret))
theorem ent75 (n : Nat) (a0 : AV) (h : AH) : X (n + 1) (.func 75) [a0] h = (fin1 (arun prog (HK 75) 75 (X n) n none cd75 [a0,.tup [],.tup [],.tup []] h) 2) := by kernel_rfl
section
variable (K : Hint) (fid : FuncId) (call : ACall) (lf : Nat) (rd : Option Nat) (fr : List AV) (h : AH)
end
theorem R75 (K : Hint) (i : FuncId) (c : ACall) (n : Nat) (d : Option Nat) (f : List AV) (h : AH) :
 arun prog K i c n d (.region 0 (rg f75 0) false) f h = regR (aops prog c (rg f75 0) [0,1] f h) ∧
 arun prog K i c n d (.region 1 (rg f75 1) false) f h = regR (aops prog c (rg f75 1) [0,1] f h) := by
  repeat' apply And.intro
  all_goals kernel_rfl
theorem S75 (c : ACall) (f : List AV) (h : AH) :
 astep prog c (rg f75 0) 0 f h = heapS (boxV (f.getD 0 .top) h) f 1 ∧
 astep prog c (rg f75 0) 1 f h = pureS (some (.nilFn)) f 2 h ∧
 astep prog c (rg f75 1) 0 f h = pureS (some (.fn (.func 86) [] [(f.getD 1 .top)])) f 3 h ∧
 astep prog c (rg f75 1) 1 f h = pureS (some (f.getD 3 .top)) f 2 h := by
  repeat' apply And.intro
  all_goals kernel_rfl

end Go.Proofs.Ytgnacecplaemlaa
namespace Go.Proofs.Ytgnacecplaemlaa
open AI Try
set_option linter.unusedVariables false
/-! ### 76: conch/conchref27.names -/
noncomputable def lp76_3 : Code := (.seq (.seq (.region 3 (rg f76 3) false) (.cond (.tmp 8) .skip (.exit 0))) (.seq (.block 1 (.seq (.seq (.region 5 (rg f76 5) false) (.cond (.tmp 24) (.region 6 (rg f76 6) false) .skip)) (.region 7 (rg f76 7) false))) (.region 4 (rg f76 4) false)))
def C76_3 (x0 x3 x4 : AV) : List AV := [x0,.top,.top,x3,x4,.top,.top,.top,.top,.top,.top,.top,.top,.top,.top,.top,.top,.top,.top,.top,.top,.top,.top,.top,.top,.top,.top,.top,.top,.top,.top,.top,.top,.top,.top,.top,.top,.top,.top,.top,.top,.top]
theorem cl76_3 (x0 x1 x2 x3 x4 x5 x6 x7 x8 x9 x10 x11 x12 x13 x14 x15 x16 x17 x18 x19 x20 x21 x22 x23 x24 x25 x26 x27 x28 x29 x30 x31 x32 x33 x34 x35 x36 x37 x38 x39 x40 x41 : AV) : aclear (HK 76) lp76_3 [x0,x1,x2,x3,x4,x5,x6,x7,x8,x9,x10,x11,x12,x13,x14,x15,x16,x17,x18,x19,x20,x21,x22,x23,x24,x25,x26,x27,x28,x29,x30,x31,x32,x33,x34,x35,x36,x37,x38,x39,x40,x41] = C76_3 x0 x3 x4 := by kernel_rfl
noncomputable def cd76 : Code := (.seq (.region 0 (rg f76 0) false) (.seq (.region 1 (rg f76 1) false) (.seq (.seq (.region 2 (rg f76 2) false) (.block 0 (.loop lp76_3))) (.seq (.region 8 (rg f76 8) false) .ret))))
theorem ent76 (n : Nat) (a0 : AV) (h : AH) : X (n + 1) (.func 76) [a0] h = nrm h (fin1 (arun prog (HK 76) 76 (X n) n none cd76 [a0,.tup [],.tup [],.tup [],.tup [],.tup [],.tup [],.tup [],.tup [],.tup [],.tup [],.tup [],.tup [],.tup [],.tup [],.tup [],.tup [],.tup [],.tup [],.tup [],.tup [],.tup [],.tup [],.tup [],.tup [],.tup [],.tup [],.tup [],.tup [],.tup [],.tup [],.tup [],.tup [],.tup [],.tup [],.tup [],.tup [],.tup [],.tup [],.tup [],.tup [],.tup []] h) 2) := by kernel_rfl
section
variable (K : Hint) (fid : FuncId) (call : ACall) (lf : Nat) (rd : Option Nat) (fr : List AV) (h : AH)
end
theorem R76 (K : Hint) (i : FuncId) (c : ACall) (n : Nat) (d : Option Nat) (f : List AV) (h : AH) :
 arun prog K i c n d (.region 0 (rg f76 0) false) f h = regR (aops prog c (rg f76 0) [0] f h) ∧
 arun prog K i c n d (.region 1 (rg f76 1) false) f h = regR (aops prog c (rg f76 1) [0] f h) ∧
 arun prog K i c n d (.region 2 (rg f76 2) false) f h = regR (aops prog c (rg f76 2) [0] f h) ∧
 arun prog K i c n d (.region 3 (rg f76 3) false) f h = regR (aops prog c (rg f76 3) [0,1,2,3] f h) ∧
 arun prog K i c n d (.region 5 (rg f76 5) false) f h = regR (aops prog c (rg f76 5) [0,1,2,3,4,5,6,7,8,9,10,11,12,13] f h) ∧
 arun prog K i c n d (.region 6 (rg f76 6) false) f h = regR (aops prog c (rg f76 6) [0,1,2,3,4,5,6,7,8] f h) ∧
 arun prog K i c n d (.region 7 (rg f76 7) false) f h = regR (aops prog c (rg f76 7) [0,1,2,3,4,5,6,7,8] f h) ∧
 arun prog K i c n d (.region 4 (rg f76 4) false) f h = regR (aops prog c (rg f76 4) [0,1,2] f h) ∧
 arun prog K i c n d (.region 8 (rg f76 8) false) f h = regR (aops prog c (rg f76 8) [0,1] f h) := by
  repeat' apply And.intro
  all_goals kernel_rfl
theorem S76 (c : ACall) (f : List AV) (h : AH) :
 astep prog c (rg f76 0) 0 f h = pureS (some (.nilSl)) f 2 h ∧
 astep prog c (rg f76 1) 0 f h = pureS (some (.nilSl)) f 3 h ∧
 astep prog c (rg f76 2) 0 f h = pureS (some (.int .i64 0)) f 4 h ∧
 astep prog c (rg f76 3) 0 f h = pureS (some (f.getD 4 .top)) f 5 h ∧
 astep prog c (rg f76 3) 1 f h = pureS (some (f.getD 0 .top)) f 6 h ∧
 astep prog c (rg f76 3) 2 f h = pureS (lenV (alen prog 58 (f.getD 6 .top))) f 7 h ∧
 astep prog c (rg f76 3) 3 f h = pureS (abin prog .lss 3 (.tmp 5) (.tmp 7) (f.getD 5 .top) (f.getD 7 .top)) f 8 h ∧
 astep prog c (rg f76 5) 0 f h = pureS (some (f.getD 0 .top)) f 11 h ∧
 astep prog c (rg f76 5) 1 f h = pureS (some (f.getD 4 .top)) f 12 h ∧
 astep prog c (rg f76 5) 2 f h = pureS (aindexAt prog 58 (f.getD 11 .top) (f.getD 12 .top)) f 13 h ∧
 astep prog c (rg f76 5) 3 f h = pureS (afieldAt prog 78 (f.getD 13 .top) 0) f 14 h ∧
 astep prog c (rg f76 5) 4 f h = pureS (ldV prog 3 (f.getD 14 .top) h) f 15 h ∧
 astep prog c (rg f76 5) 5 f h = pureS (abin prog .eql 3 (.tmp 15) (.const (.int .i64 5)) (f.getD 15 .top) (.int .i64 5)) f 16 h ∧
 astep prog c (rg f76 5) 6 f h = pureS (some (f.getD 16 .top)) f 17 h ∧
 astep prog c (rg f76 5) 7 f h = gdS (f.getD 17 .top) true (some (f.set 18 (.tup []),h)) (pureS (some (f.getD 0 .top)) f 18 h) ∧
 astep prog c (rg f76 5) 8 f h = gdS (f.getD 17 .top) true (some (f.set 19 (.tup []),h)) (pureS (some (f.getD 4 .top)) f 19 h) ∧
 astep prog c (rg f76 5) 9 f h = gdS (f.getD 17 .top) true (some (f.set 20 (.tup []),h)) (pureS (aindexAt prog 58 (f.getD 18 .top) (f.getD 19 .top)) f 20 h) ∧
 astep prog c (rg f76 5) 10 f h = gdS (f.getD 17 .top) true (some (f.set 21 (.tup []),h)) (pureS (afieldAt prog 78 (f.getD 20 .top) 1) f 21 h) ∧
 astep prog c (rg f76 5) 11 f h = gdS (f.getD 17 .top) true (some (f.set 22 (.tup []),h)) (pureS (ldV prog 9 (f.getD 21 .top) h) f 22 h) ∧
 astep prog c (rg f76 5) 12 f h = gdS (f.getD 17 .top) true (some (f.set 23 (.tup []),h)) (heapS (callV c (.fn (.func 89) [] []) [(f.getD 22 .top)] h) f 23) ∧
 astep prog c (rg f76 5) 13 f h = pureS (pickV (f.getD 17 .top) (f.getD 23 .top) (.bool false)) f 24 h ∧
 astep prog c (rg f76 6) 0 f h = pureS (some (f.getD 3 .top)) f 25 h ∧
 astep prog c (rg f76 6) 1 f h = pureS (some (f.getD 0 .top)) f 26 h ∧
 astep prog c (rg f76 6) 2 f h = pureS (some (f.getD 4 .top)) f 27 h ∧
 astep prog c (rg f76 6) 3 f h = pureS (aindexAt prog 58 (f.getD 26 .top) (f.getD 27 .top)) f 28 h ∧
 astep prog c (rg f76 6) 4 f h = pureS (afieldAt prog 78 (f.getD 28 .top) 1) f 29 h ∧
 astep prog c (rg f76 6) 5 f h = pureS (ldV prog 9 (f.getD 29 .top) h) f 30 h ∧
 astep prog c (rg f76 6) 6 f h = heapS (bslV prog 40 1 [(0,(f.getD 30 .top))] h) f 31 ∧
 astep prog c (rg f76 6) 7 f h = heapS (aappend prog 40 40 (f.getD 25 .top) (f.getD 31 .top) h) f 32 ∧
 astep prog c (rg f76 6) 8 f h = pureS (some (f.getD 32 .top)) f 3 h ∧
 astep prog c (rg f76 7) 0 f h = pureS (some (f.getD 3 .top)) f 33 h ∧
 astep prog c (rg f76 7) 1 f h = pureS (some (f.getD 0 .top)) f 34 h ∧
 astep prog c (rg f76 7) 2 f h = pureS (some (f.getD 4 .top)) f 35 h ∧
 astep prog c (rg f76 7) 3 f h = pureS (aindexAt prog 58 (f.getD 34 .top) (f.getD 35 .top)) f 36 h ∧
 astep prog c (rg f76 7) 4 f h = pureS (afieldAt prog 78 (f.getD 36 .top) 3) f 37 h ∧
 astep prog c (rg f76 7) 5 f h = pureS (ldV prog 58 (f.getD 37 .top) h) f 38 h ∧
 astep prog c (rg f76 7) 6 f h = heapS (callV c (.fn (.func 76) [] []) [(f.getD 38 .top)] h) f 39 ∧
 astep prog c (rg f76 7) 7 f h = heapS (aappend prog 40 40 (f.getD 33 .top) (f.getD 39 .top) h) f 40 ∧
 astep prog c (rg f76 7) 8 f h = pureS (some (f.getD 40 .top)) f 3 h ∧
 astep prog c (rg f76 4) 0 f h = pureS (some (f.getD 4 .top)) f 9 h ∧
 astep prog c (rg f76 4) 1 f h = pureS (abin prog .add 3 (.tmp 9) (.const (.int .i64 1)) (f.getD 9 .top) (.int .i64 1)) f 10 h ∧
 astep prog c (rg f76 4) 2 f h = pureS (some (f.getD 10 .top)) f 4 h ∧
 astep prog c (rg f76 8) 0 f h = pureS (some (f.getD 3 .top)) f 41 h ∧
 astep prog c (rg f76 8) 1 f h = pureS (some (f.getD 41 .top)) f 2 h := by
  repeat' apply And.intro
  all_goals kernel_rfl

end Go.Proofs.Ytgnacecplaemlaa
namespace Go.Proofs.Ytgnacecplaemlaa
open AI Try
set_option linter.unusedVariables false
/-! ### 86: conch/unquote.named$1 -/
noncomputable def cd86 : Code := (.seq (.region 0 (rg f86 0) false) (.seq (.region 1 (rg f86 1) false) (.seq (.region 2 (rg f86 2) false) (.region 3 (rg f86 3) false))))
theorem ent86 (n : Nat) (a0 a1 : AV) (h : AH) : X (n + 1) (.func 86) [a0,a1] h = (fin0 (arun prog (HK 86) 86 (X n) n none cd86 [a0,a1,.tup [],.tup [],.tup [],.tup [],.tup [],.tup []] h) ) := by kernel_rfl
section
variable (K : Hint) (fid : FuncId) (call : ACall) (lf : Nat) (rd : Option Nat) (fr : List AV) (h : AH)
end
theorem R86 (K : Hint) (i : FuncId) (c : ACall) (n : Nat) (d : Option Nat) (f : List AV) (h : AH) :
 arun prog K i c n d (.region 0 (rg f86 0) false) f h = regR (aops prog c (rg f86 0) [0] f h) ∧
 arun prog K i c n d (.region 1 (rg f86 1) false) f h = regR (aops prog c (rg f86 1) [0] f h) ∧
 arun prog K i c n d (.region 2 (rg f86 2) false) f h = regR (aops prog c (rg f86 2) [0,1] f h) ∧
 arun prog K i c n d (.region 3 (rg f86 3) false) f h = regR (aops prog c (rg f86 3) [0,1,2] f h) := by
  repeat' apply And.intro
  all_goals kernel_rfl
theorem S86 (c : ACall) (f : List AV) (h : AH) :
 astep prog c (rg f86 0) 0 f h = heapS (boxV (f.getD 0 .top) h) f 2 ∧
 astep prog c (rg f86 1) 0 f h = heapS (newV prog 106 h) f 3 ∧
 astep prog c (rg f86 2) 0 f h = pureS (some (.fn (.func 87) [] [(f.getD 2 .top),(f.getD 3 .top)])) f 4 h ∧
 astep prog c (rg f86 2) 1 f h = heapN (stV prog 106 (f.getD 3 .top) (f.getD 4 .top) h) f ∧
 astep prog c (rg f86 3) 0 f h = pureS (ldV prog 106 (f.getD 3 .top) h) f 5 h ∧
 astep prog c (rg f86 3) 1 f h = pureS (ldV prog 58 (f.getD 1 .top) h) f 6 h ∧
 astep prog c (rg f86 3) 2 f h = heapS (callV c (f.getD 5 .top) [(f.getD 6 .top)] h) f 7 := by
  repeat' apply And.intro
  all_goals kernel_rfl

end Go.Proofs.Ytgnacecplaemlaa
namespace Go.Proofs.Ytgnacecplaemlaa
open AI Try
set_option linter.unusedVariables false
/-! ### 87: conch/unquote.named$1$1 -/
noncomputable def lp87_2 : Code := (.seq (.region 2 (rg f87 2) false) (.seq (.cond (.tmp 10) .skip (.exit 0)) (.seq (.block 1 (.seq (.region 3 (rg f87 3) false) (.seq (.region 4 (rg f87 4) false) (.cond (.tmp 34) (.seq (.region 5 (rg f87 5) false) .ret) .skip)))) (.region 6 (rg f87 6) false))))
def C87_2 (x1 x2 x7 x8 x9 : AV) : List AV := [.top,x1,x2,.top,.top,.top,.top,x7,x8,x9,.top,.top,.top,.top,.top,.top,.top,.top,.top,.top,.top,.top,.top,.top,.top,.top,.top,.top,.top,.top,.top,.top,.top,.top,.top,.top]
theorem cl87_2 (x0 x1 x2 x3 x4 x5 x6 x7 x8 x9 x10 x11 x12 x13 x14 x15 x16 x17 x18 x19 x20 x21 x22 x23 x24 x25 x26 x27 x28 x29 x30 x31 x32 x33 x34 x35 : AV) : aclear (HK 87) lp87_2 [x0,x1,x2,x3,x4,x5,x6,x7,x8,x9,x10,x11,x12,x13,x14,x15,x16,x17,x18,x19,x20,x21,x22,x23,x24,x25,x26,x27,x28,x29,x30,x31,x32,x33,x34,x35] = C87_2 x1 x2 x7 x8 x9 := by kernel_rfl
noncomputable def cd87 : Code := (.seq (.region 0 (rg f87 0) false) (.seq (.seq (.region 1 (rg f87 1) false) (.block 0 (.loop lp87_2))) (.seq (.region 7 (rg f87 7) false) .ret)))
theorem ent87 (n : Nat) (a0 a1 a2 : AV) (h : AH) : X (n + 1) (.func 87) [a0,a1,a2] h = (fin1 (arun prog (HK 87) 87 (X n) n none cd87 [a0,a1,a2,.tup [],.tup [],.tup [],.tup [],.tup [],.tup [],.tup [],.tup [],.tup [],.tup [],.tup [],.tup [],.tup [],.tup [],.tup [],.tup [],.tup [],.tup [],.tup [],.tup [],.tup [],.tup [],.tup [],.tup [],.tup [],.tup [],.tup [],.tup [],.tup [],.tup [],.tup [],.tup [],.tup []] h) 4) := by kernel_rfl
section
variable (K : Hint) (fid : FuncId) (call : ACall) (lf : Nat) (rd : Option Nat) (fr : List AV) (h : AH)
end
theorem R87 (K : Hint) (i : FuncId) (c : ACall) (n : Nat) (d : Option Nat) (f : List AV) (h : AH) :
 arun prog K i c n d (.region 0 (rg f87 0) false) f h = regR (aops prog c (rg f87 0) [0] f h) ∧
 arun prog K i c n d (.region 1 (rg f87 1) false) f h = regR (aops prog c (rg f87 1) [0,1,2] f h) ∧
 arun prog K i c n d (.region 2 (rg f87 2) false) f h = regR (aops prog c (rg f87 2) [0] f h) ∧
 arun prog K i c n d (.region 3 (rg f87 3) false) f h = regR (aops prog c (rg f87 3) [0,1,2,3] f h) ∧
 arun prog K i c n d (.region 4 (rg f87 4) false) f h = regR (aops prog c (rg f87 4) [0,1,2,3,4,5,6,7,8,9,10,11,12,13,14,15,16,17,18,19,20,21] f h) ∧
 arun prog K i c n d (.region 5 (rg f87 5) false) f h = regR (aops prog c (rg f87 5) [0] f h) ∧
 arun prog K i c n d (.region 6 (rg f87 6) false) f h = regR (aops prog c (rg f87 6) [0,1] f h) ∧
 arun prog K i c n d (.region 7 (rg f87 7) false) f h = regR (aops prog c (rg f87 7) [0] f h) := by
  repeat' apply And.intro
  all_goals kernel_rfl
theorem S87 (c : ACall) (f : List AV) (h : AH) :
 astep prog c (rg f87 0) 0 f h = pureS (some (.bool false)) f 4 h ∧
 astep prog c (rg f87 1) 0 f h = pureS (some (f.getD 0 .top)) f 7 h ∧
 astep prog c (rg f87 1) 1 f h = pureS (lenV (alen prog 58 (f.getD 7 .top))) f 8 h ∧
 astep prog c (rg f87 1) 2 f h = pureS (some (.int .i64 0)) f 9 h ∧
 astep prog c (rg f87 2) 0 f h = pureS (abin prog .lss 3 (.tmp 9) (.tmp 8) (f.getD 9 .top) (f.getD 8 .top)) f 10 h ∧
 astep prog c (rg f87 3) 0 f h = pureS (aindexAt prog 58 (f.getD 7 .top) (f.getD 9 .top)) f 11 h ∧
 astep prog c (rg f87 3) 1 f h = pureS (ldV prog 78 (f.getD 11 .top) h) f 12 h ∧
 astep prog c (rg f87 3) 2 f h = heapS (newV prog 78 h) f 6 ∧
 astep prog c (rg f87 3) 3 f h = heapN (stV prog 78 (f.getD 6 .top) (f.getD 12 .top) h) f ∧
 astep prog c (rg f87 4) 0 f h = pureS (afieldAt prog 78 (f.getD 6 .top) 0) f 13 h ∧
 astep prog c (rg f87 4) 1 f h = pureS (ldV prog 3 (f.getD 13 .top) h) f 14 h ∧
 astep prog c (rg f87 4) 2 f h = pureS (abin prog .eql 3 (.tmp 14) (.const (.int .i64 5)) (f.getD 14 .top) (.int .i64 5)) f 15 h ∧
 astep prog c (rg f87 4) 3 f h = pureS (some (f.getD 15 .top)) f 16 h ∧
 astep prog c (rg f87 4) 4 f h = gdS (f.getD 16 .top) true (some (f.set 17 (.tup []),h)) (pureS (afieldAt prog 78 (f.getD 6 .top) 1) f 17 h) ∧
 astep prog c (rg f87 4) 5 f h = gdS (f.getD 16 .top) true (some (f.set 18 (.tup []),h)) (pureS (ldV prog 9 (f.getD 17 .top) h) f 18 h) ∧
 astep prog c (rg f87 4) 6 f h = gdS (f.getD 16 .top) true (some (f.set 19 (.tup []),h)) (heapS (callV c (.fn (.func 88) [] []) [(f.getD 18 .top)] h) f 19) ∧
 astep prog c (rg f87 4) 7 f h = pureS (pickV (f.getD 16 .top) (f.getD 19 .top) (.bool false)) f 20 h ∧
 astep prog c (rg f87 4) 8 f h = pureS (some (f.getD 20 .top)) f 21 h ∧
 astep prog c (rg f87 4) 9 f h = gdS (f.getD 21 .top) true (some (f.set 22 (.tup []),h)) (pureS (ldV prog 38 (f.getD 1 .top) h) f 22 h) ∧
 astep prog c (rg f87 4) 10 f h = gdS (f.getD 21 .top) true (some (f.set 23 (.tup []),h)) (pureS (afieldAt prog 78 (f.getD 6 .top) 1) f 23 h) ∧
 astep prog c (rg f87 4) 11 f h = gdS (f.getD 21 .top) true (some (f.set 24 (.tup []),h)) (pureS (ldV prog 9 (f.getD 23 .top) h) f 24 h) ∧
 astep prog c (rg f87 4) 12 f h = gdS (f.getD 21 .top) true (some (f.set 25 (.tup []),h)) (heapS (callV c (f.getD 22 .top) [(f.getD 24 .top)] h) f 25) ∧
 astep prog c (rg f87 4) 13 f h = gdS (f.getD 21 .top) true (some (f.set 26 (.tup []),h)) (pureS (aun .not (f.getD 25 .top)) f 26 h) ∧
 astep prog c (rg f87 4) 14 f h = pureS (pickV (f.getD 21 .top) (f.getD 26 .top) (.bool false)) f 27 h ∧
 astep prog c (rg f87 4) 15 f h = pureS (some (f.getD 27 .top)) f 28 h ∧
 astep prog c (rg f87 4) 16 f h = gdS (f.getD 28 .top) false (some (f.set 29 (.tup []),h)) (pureS (ldV prog 106 (f.getD 2 .top) h) f 29 h) ∧
 astep prog c (rg f87 4) 17 f h = gdS (f.getD 28 .top) false (some (f.set 30 (.tup []),h)) (pureS (afieldAt prog 78 (f.getD 6 .top) 3) f 30 h) ∧
 astep prog c (rg f87 4) 18 f h = gdS (f.getD 28 .top) false (some (f.set 31 (.tup []),h)) (pureS (ldV prog 58 (f.getD 30 .top) h) f 31 h) ∧
 astep prog c (rg f87 4) 19 f h = gdS (f.getD 28 .top) false (some (f.set 32 (.tup []),h)) (heapS (callV c (f.getD 29 .top) [(f.getD 31 .top)] h) f 32) ∧
 astep prog c (rg f87 4) 20 f h = gdS (f.getD 28 .top) false (some (f.set 33 (.tup []),h)) (pureS (aun .not (f.getD 32 .top)) f 33 h) ∧
 astep prog c (rg f87 4) 21 f h = pureS (pickV (f.getD 28 .top) (.bool true) (f.getD 33 .top)) f 34 h ∧
 astep prog c (rg f87 5) 0 f h = pureS (some (.bool false)) f 4 h ∧
 astep prog c (rg f87 6) 0 f h = pureS (abin prog .add 3 (.tmp 9) (.const (.int .i64 1)) (f.getD 9 .top) (.int .i64 1)) f 35 h ∧
 astep prog c (rg f87 6) 1 f h = pureS (some (f.getD 35 .top)) f 9 h ∧
 astep prog c (rg f87 7) 0 f h = pureS (some (.bool true)) f 4 h := by
  repeat' apply And.intro
  all_goals kernel_rfl

end Go.Proofs.Ytgnacecplaemlaa
namespace Go.Proofs.Ytgnacecplaemlaa
open AI Try
set_option linter.unusedVariables false
/-! ### 88: conch/char.Name -/
noncomputable def cd88 : Code := (.seq (.region 0 (rg f88 0) false) (.seq (.seq (.region 1 (rg f88 1) false) (.cond (.tmp 5) (.seq (.region 2 (rg f88 2) false) .ret) .skip)) (.seq (.region 3 (rg f88 3) false) .ret)))
theorem ent88 (n : Nat) (a0 : AV) (h : AH) : X (n + 1) (.func 88) [a0] h = nrm h (fin1 (arun prog (HK 88) 88 (X n) n none cd88 [a0,.tup [],.tup [],.tup [],.tup [],.tup [],.tup [],.tup []] h) 2) := by kernel_rfl
section
variable (K : Hint) (fid : FuncId) (call : ACall) (lf : Nat) (rd : Option Nat) (fr : List AV) (h : AH)
end
theorem R88 (K : Hint) (i : FuncId) (c : ACall) (n : Nat) (d : Option Nat) (f : List AV) (h : AH) :
 arun prog K i c n d (.region 0 (rg f88 0) false) f h = regR (aops prog c (rg f88 0) [0] f h) ∧
 arun prog K i c n d (.region 1 (rg f88 1) false) f h = regR (aops prog c (rg f88 1) [0,1,2] f h) ∧
 arun prog K i c n d (.region 2 (rg f88 2) false) f h = regR (aops prog c (rg f88 2) [0] f h) ∧
 arun prog K i c n d (.region 3 (rg f88 3) false) f h = regR (aops prog c (rg f88 3) [0,1,2] f h) := by
  repeat' apply And.intro
  all_goals kernel_rfl
theorem S88 (c : ACall) (f : List AV) (h : AH) :
 astep prog c (rg f88 0) 0 f h = pureS (some (.bool false)) f 2 h ∧
 astep prog c (rg f88 1) 0 f h = pureS (some (f.getD 0 .top)) f 3 h ∧
 astep prog c (rg f88 1) 1 f h = heapS (callV c (.fn (.func 93) [] []) [(f.getD 3 .top)] h) f 4 ∧
 astep prog c (rg f88 1) 2 f h = pureS (aun .not (f.getD 4 .top)) f 5 h ∧
 astep prog c (rg f88 2) 0 f h = pureS (some (.bool false)) f 2 h ∧
 astep prog c (rg f88 3) 0 f h = pureS (some (f.getD 0 .top)) f 6 h ∧
 astep prog c (rg f88 3) 1 f h = heapS (callV c (.fn (.func 94) [] []) [(f.getD 6 .top),(.fn (.func 95) [] [])] h) f 7 ∧
 astep prog c (rg f88 3) 2 f h = pureS (some (f.getD 7 .top)) f 2 h := by
  repeat' apply And.intro
  all_goals kernel_rfl

end Go.Proofs.Ytgnacecplaemlaa
namespace Go.Proofs.Ytgnacecplaemlaa
open AI Try
set_option linter.unusedVariables false
/-! ### 89: conch/conchref01.Name -/
noncomputable def lp89_2 : Code := (.seq (.seq (.region 2 (rg f89 2) false) (.cond (.tmp 8) .skip (.exit 0))) (.seq (.block 1 (.seq (.region 4 (rg f89 4) false) (.seq (.region 5 (rg f89 5) false) (.cond (.tmp 24) (.seq (.region 6 (rg f89 6) false) .ret) .skip)))) (.region 3 (rg f89 3) false)))
def C89_2 (x0 x3 : AV) : List AV := [x0,.top,.top,x3,.top,.top,.top,.top,.top,.top,.top,.top,.top,.top,.top,.top,.top,.top,.top,.top,.top,.top,.top,.top,.top,.top,.top,.top]
theorem cl89_2 (x0 x1 x2 x3 x4 x5 x6 x7 x8 x9 x10 x11 x12 x13 x14 x15 x16 x17 x18 x19 x20 x21 x22 x23 x24 x25 x26 x27 : AV) : aclear (HK 89) lp89_2 [x0,x1,x2,x3,x4,x5,x6,x7,x8,x9,x10,x11,x12,x13,x14,x15,x16,x17,x18,x19,x20,x21,x22,x23,x24,x25,x26,x27] = C89_2 x0 x3 := by kernel_rfl
noncomputable def cd89 : Code := (.seq (.region 0 (rg f89 0) false) (.seq (.seq (.region 1 (rg f89 1) false) (.block 0 (.loop lp89_2))) (.seq (.region 7 (rg f89 7) false) .ret)))
theorem ent89 (n : Nat) (a0 : AV) (h : AH) : X (n + 1) (.func 89) [a0] h = nrm h (fin1 (arun prog (HK 89) 89 (X n) n none cd89 [a0,.tup [],.tup [],.tup [],.tup [],.tup [],.tup [],.tup [],.tup [],.tup [],.tup [],.tup [],.tup [],.tup [],.tup [],.tup [],.tup [],.tup [],.tup [],.tup [],.tup [],.tup [],.tup [],.tup [],.tup [],.tup [],.tup [],.tup []] h) 2) := by kernel_rfl
section
variable (K : Hint) (fid : FuncId) (call : ACall) (lf : Nat) (rd : Option Nat) (fr : List AV) (h : AH)
end
theorem R89 (K : Hint) (i : FuncId) (c : ACall) (n : Nat) (d : Option Nat) (f : List AV) (h : AH) :
 arun prog K i c n d (.region 0 (rg f89 0) false) f h = regR (aops prog c (rg f89 0) [0] f h) ∧
 arun prog K i c n d (.region 1 (rg f89 1) false) f h = regR (aops prog c (rg f89 1) [0] f h) ∧
 arun prog K i c n d (.region 2 (rg f89 2) false) f h = regR (aops prog c (rg f89 2) [0,1,2,3] f h) ∧
 arun prog K i c n d (.region 4 (rg f89 4) false) f h = regR (aops prog c (rg f89 4) [0,1,2,3,4] f h) ∧
 arun prog K i c n d (.region 5 (rg f89 5) false) f h = regR (aops prog c (rg f89 5) [0,1,2,3,4,5,6,7,8,9] f h) ∧
 arun prog K i c n d (.region 6 (rg f89 6) false) f h = regR (aops prog c (rg f89 6) [0] f h) ∧
 arun prog K i c n d (.region 3 (rg f89 3) false) f h = regR (aops prog c (rg f89 3) [0,1,2] f h) ∧
 arun prog K i c n d (.region 7 (rg f89 7) false) f h = regR (aops prog c (rg f89 7) [0,1,2,3] f h) := by
  repeat' apply And.intro
  all_goals kernel_rfl
theorem S89 (c : ACall) (f : List AV) (h : AH) :
 astep prog c (rg f89 0) 0 f h = pureS (some (.bool false)) f 2 h ∧
 astep prog c (rg f89 1) 0 f h = pureS (some (.int .i64 0)) f 3 h ∧
 astep prog c (rg f89 2) 0 f h = pureS (some (f.getD 3 .top)) f 5 h ∧
 astep prog c (rg f89 2) 1 f h = pureS (some (f.getD 0 .top)) f 6 h ∧
 astep prog c (rg f89 2) 2 f h = pureS (lenV (alen prog 9 (f.getD 6 .top))) f 7 h ∧
 astep prog c (rg f89 2) 3 f h = pureS (abin prog .lss 3 (.tmp 5) (.tmp 7) (f.getD 5 .top) (f.getD 7 .top)) f 8 h ∧
 astep prog c (rg f89 4) 0 f h = pureS (some (f.getD 0 .top)) f 11 h ∧
 astep prog c (rg f89 4) 1 f h = pureS (some (f.getD 3 .top)) f 12 h ∧
 astep prog c (rg f89 4) 2 f h = pureS (aindex prog 9 (f.getD 11 .top) (f.getD 12 .top)) f 13 h ∧
 astep prog c (rg f89 4) 3 f h = heapS (callV c (.fn (.func 97) [] []) [(f.getD 13 .top)] h) f 14 ∧
 astep prog c (rg f89 4) 4 f h = pureS (some (f.getD 14 .top)) f 4 h ∧
 astep prog c (rg f89 5) 0 f h = pureS (some (f.getD 4 .top)) f 15 h ∧
 astep prog c (rg f89 5) 1 f h = pureS (abin prog .neq 3 (.tmp 15) (.const (.int .i64 4)) (f.getD 15 .top) (.int .i64 4)) f 16 h ∧
 astep prog c (rg f89 5) 2 f h = pureS (some (f.getD 16 .top)) f 17 h ∧
 astep prog c (rg f89 5) 3 f h = gdS (f.getD 17 .top) true (some (f.set 18 (.tup []),h)) (pureS (some (f.getD 4 .top)) f 18 h) ∧
 astep prog c (rg f89 5) 4 f h = gdS (f.getD 17 .top) true (some (f.set 19 (.tup []),h)) (pureS (abin prog .neq 3 (.tmp 18) (.const (.int .i64 3)) (f.getD 18 .top) (.int .i64 3)) f 19 h) ∧
 astep prog c (rg f89 5) 5 f h = gdS (f.getD 17 .top) true (some (f.set 20 (.tup []),h)) (pureS (some (f.getD 19 .top)) f 20 h) ∧
 astep prog c (rg f89 5) 6 f h = gdS (f.getD 20 .top) false (some (f.set 21 (.tup []),h)) (pureS (some (f.getD 3 .top)) f 21 h) ∧
 astep prog c (rg f89 5) 7 f h = gdS (f.getD 20 .top) false (some (f.set 22 (.tup []),h)) (pureS (abin prog .eql 3 (.tmp 21) (.const (.int .i64 0)) (f.getD 21 .top) (.int .i64 0)) f 22 h) ∧
 astep prog c (rg f89 5) 8 f h = gdS (f.getD 17 .top) true (some (f.set 23 (.tup []),h)) (pureS (pickV (f.getD 20 .top) (.bool true) (f.getD 22 .top)) f 23 h) ∧
 astep prog c (rg f89 5) 9 f h = pureS (pickV (f.getD 17 .top) (f.getD 23 .top) (.bool false)) f 24 h ∧
 astep prog c (rg f89 6) 0 f h = pureS (some (.bool false)) f 2 h ∧
 astep prog c (rg f89 3) 0 f h = pureS (some (f.getD 3 .top)) f 9 h ∧
 astep prog c (rg f89 3) 1 f h = pureS (abin prog .add 3 (.tmp 9) (.const (.int .i64 1)) (f.getD 9 .top) (.int .i64 1)) f 10 h ∧
 astep prog c (rg f89 3) 2 f h = pureS (some (f.getD 10 .top)) f 3 h ∧
 astep prog c (rg f89 7) 0 f h = pureS (some (f.getD 0 .top)) f 25 h ∧
 astep prog c (rg f89 7) 1 f h = pureS (lenV (alen prog 9 (f.getD 25 .top))) f 26 h ∧
 astep prog c (rg f89 7) 2 f h = pureS (abin prog .gtr 3 (.tmp 26) (.const (.int .i64 0)) (f.getD 26 .top) (.int .i64 0)) f 27 h ∧
 astep prog c (rg f89 7) 3 f h = pureS (some (f.getD 27 .top)) f 2 h := by
  repeat' apply And.intro
  all_goals kernel_rfl

end Go.Proofs.Ytgnacecplaemlaa
namespace Go.Proofs.Ytgnacecplaemlaa
open AI Try
set_option linter.unusedVariables false
/-! ### 93: conch/char.ascii -/
noncomputable def lp93_2 : Code := (.seq (.region 2 (rg f93 2) false) (.seq (.cond (.tmp 7) .skip (.exit 0)) (.seq (.block 1 (.seq (.region 3 (rg f93 3) false) (.seq (.region 4 (rg f93 4) false) (.cond (.tmp 12) (.seq (.region 5 (rg f93 5) false) .ret) .skip)))) (.region 6 (rg f93 6) false))))
def C93_2 (x0 x5 x6 : AV) : List AV := [x0,.top,.top,.top,.top,x5,x6,.top,.top,.top,.top,.top,.top,.top]
theorem cl93_2 (x0 x1 x2 x3 x4 x5 x6 x7 x8 x9 x10 x11 x12 x13 : AV) : aclear (HK 93) lp93_2 [x0,x1,x2,x3,x4,x5,x6,x7,x8,x9,x10,x11,x12,x13] = C93_2 x0 x5 x6 := by kernel_rfl
noncomputable def cd93 : Code := (.seq (.region 0 (rg f93 0) false) (.seq (.seq (.region 1 (rg f93 1) false) (.block 0 (.loop lp93_2))) (.seq (.region 7 (rg f93 7) false) .ret)))
theorem ent93 (n : Nat) (a0 : AV) (h : AH) : X (n + 1) (.func 93) [a0] h = nrm h (fin1 (arun prog (HK 93) 93 (X n) n none cd93 [a0,.tup [],.tup [],.tup [],.tup [],.tup [],.tup [],.tup [],.tup [],.tup [],.tup [],.tup [],.tup [],.tup []] h) 2) := by kernel_rfl
section
variable (K : Hint) (fid : FuncId) (call : ACall) (lf : Nat) (rd : Option Nat) (fr : List AV) (h : AH)
end
theorem R93 (K : Hint) (i : FuncId) (c : ACall) (n : Nat) (d : Option Nat) (f : List AV) (h : AH) :
 arun prog K i c n d (.region 0 (rg f93 0) false) f h = regR (aops prog c (rg f93 0) [0] f h) ∧
 arun prog K i c n d (.region 1 (rg f93 1) false) f h = regR (aops prog c (rg f93 1) [0,1,2] f h) ∧
 arun prog K i c n d (.region 2 (rg f93 2) false) f h = regR (aops prog c (rg f93 2) [0] f h) ∧
 arun prog K i c n d (.region 3 (rg f93 3) false) f h = regR (aops prog c (rg f93 3) [0,1] f h) ∧
 arun prog K i c n d (.region 4 (rg f93 4) false) f h = regR (aops prog c (rg f93 4) [0,1,2,3] f h) ∧
 arun prog K i c n d (.region 5 (rg f93 5) false) f h = regR (aops prog c (rg f93 5) [0] f h) ∧
 arun prog K i c n d (.region 6 (rg f93 6) false) f h = regR (aops prog c (rg f93 6) [0,1] f h) ∧
 arun prog K i c n d (.region 7 (rg f93 7) false) f h = regR (aops prog c (rg f93 7) [0] f h) := by
  repeat' apply And.intro
  all_goals kernel_rfl
theorem S93 (c : ACall) (f : List AV) (h : AH) :
 astep prog c (rg f93 0) 0 f h = pureS (some (.bool false)) f 2 h ∧
 astep prog c (rg f93 1) 0 f h = pureS (some (f.getD 0 .top)) f 4 h ∧
 astep prog c (rg f93 1) 1 f h = pureS (lenV (alen prog 9 (f.getD 4 .top))) f 5 h ∧
 astep prog c (rg f93 1) 2 f h = pureS (some (.int .i64 0)) f 6 h ∧
 astep prog c (rg f93 2) 0 f h = pureS (abin prog .lss 3 (.tmp 6) (.tmp 5) (f.getD 6 .top) (f.getD 5 .top)) f 7 h ∧
 astep prog c (rg f93 3) 0 f h = pureS (some (f.getD 6 .top)) f 8 h ∧
 astep prog c (rg f93 3) 1 f h = pureS (some (f.getD 8 .top)) f 3 h ∧
 astep prog c (rg f93 4) 0 f h = pureS (some (f.getD 0 .top)) f 9 h ∧
 astep prog c (rg f93 4) 1 f h = pureS (some (f.getD 3 .top)) f 10 h ∧
 astep prog c (rg f93 4) 2 f h = pureS (aindex prog 9 (f.getD 9 .top) (f.getD 10 .top)) f 11 h ∧
 astep prog c (rg f93 4) 3 f h = pureS (abin prog .geq 5 (.tmp 11) (.const (.int .u8 128)) (f.getD 11 .top) (.int .u8 128)) f 12 h ∧
 astep prog c (rg f93 5) 0 f h = pureS (some (.bool false)) f 2 h ∧
 astep prog c (rg f93 6) 0 f h = pureS (abin prog .add 3 (.tmp 6) (.const (.int .i64 1)) (f.getD 6 .top) (.int .i64 1)) f 13 h ∧
 astep prog c (rg f93 6) 1 f h = pureS (some (f.getD 13 .top)) f 6 h ∧
 astep prog c (rg f93 7) 0 f h = pureS (some (.bool true)) f 2 h := by
  repeat' apply And.intro
  all_goals kernel_rfl

end Go.Proofs.Ytgnacecplaemlaa
namespace Go.Proofs.Ytgnacecplaemlaa
open AI Try
set_option linter.unusedVariables false
/-! ### 94: conch/char.each -/
noncomputable def lp94_2 : Code := (.seq (.region 2 (rg f94 2) false) (.seq (.cond (.tmp 9) .skip (.exit 0)) (.block 1 (.seq (.region 3 (rg f94 3) false) (.seq (.region 4 (rg f94 4) false) (.cond (.tmp 17) (.seq (.region 5 (rg f94 5) false) .ret) .skip))))))
def C94_2 (x0 x1 x7 : AV) : List AV := [x0,x1,.top,.top,.top,.top,.top,x7,.top,.top,.top,.top,.top,.top,.top,.top,.top,.top,.top,.top]
theorem cl94_2 (x0 x1 x2 x3 x4 x5 x6 x7 x8 x9 x10 x11 x12 x13 x14 x15 x16 x17 x18 x19 : AV) : aclear (HK 94) lp94_2 [x0,x1,x2,x3,x4,x5,x6,x7,x8,x9,x10,x11,x12,x13,x14,x15,x16,x17,x18,x19] = C94_2 x0 x1 x7 := by kernel_rfl
noncomputable def cd94 : Code := (.seq (.region 0 (rg f94 0) false) (.seq (.seq (.region 1 (rg f94 1) false) (.block 0 (.loop lp94_2))) (.seq (.region 6 (rg f94 6) false) .ret)))
theorem ent94 (n : Nat) (a0 a1 : AV) (h : AH) : X (n + 1) (.func 94) [a0,a1] h = nrm h (fin1 (arun prog (HK 94) 94 (X n) n none cd94 [a0,a1,.tup [],.tup [],.tup [],.tup [],.tup [],.tup [],.tup [],.tup [],.tup [],.tup [],.tup [],.tup [],.tup [],.tup [],.tup [],.tup [],.tup [],.tup []] h) 4) := by kernel_rfl
section
variable (K : Hint) (fid : FuncId) (call : ACall) (lf : Nat) (rd : Option Nat) (fr : List AV) (h : AH)
end
theorem R94 (K : Hint) (i : FuncId) (c : ACall) (n : Nat) (d : Option Nat) (f : List AV) (h : AH) :
 arun prog K i c n d (.region 0 (rg f94 0) false) f h = regR (aops prog c (rg f94 0) [0] f h) ∧
 arun prog K i c n d (.region 1 (rg f94 1) false) f h = regR (aops prog c (rg f94 1) [0,1] f h) ∧
 arun prog K i c n d (.region 2 (rg f94 2) false) f h = regR (aops prog c (rg f94 2) [0,1] f h) ∧
 arun prog K i c n d (.region 3 (rg f94 3) false) f h = regR (aops prog c (rg f94 3) [0,1] f h) ∧
 arun prog K i c n d (.region 4 (rg f94 4) false) f h = regR (aops prog c (rg f94 4) [0,1,2,3,4,5,6] f h) ∧
 arun prog K i c n d (.region 5 (rg f94 5) false) f h = regR (aops prog c (rg f94 5) [0] f h) ∧
 arun prog K i c n d (.region 6 (rg f94 6) false) f h = regR (aops prog c (rg f94 6) [0,1,2] f h) := by
  repeat' apply And.intro
  all_goals kernel_rfl
theorem S94 (c : ACall) (f : List AV) (h : AH) :
 astep prog c (rg f94 0) 0 f h = pureS (some (.bool false)) f 4 h ∧
 astep prog c (rg f94 1) 0 f h = pureS (some (f.getD 0 .top)) f 6 h ∧
 astep prog c (rg f94 1) 1 f h = heapS (rngV prog 9 (f.getD 6 .top) h) f 7 ∧
 astep prog c (rg f94 2) 0 f h = heapS (nxtV (f.getD 7 .top) h) f 8 ∧
 astep prog c (rg f94 2) 1 f h = pureS (extV (f.getD 8 .top) 0) f 9 h ∧
 astep prog c (rg f94 3) 0 f h = pureS (extV (f.getD 8 .top) 1) f 10 h ∧
 astep prog c (rg f94 3) 1 f h = pureS (some (f.getD 10 .top)) f 5 h ∧
 astep prog c (rg f94 4) 0 f h = pureS (some (f.getD 1 .top)) f 11 h ∧
 astep prog c (rg f94 4) 1 f h = pureS (some (f.getD 5 .top)) f 12 h ∧
 astep prog c (rg f94 4) 2 f h = pureS (some (f.getD 0 .top)) f 13 h ∧
 astep prog c (rg f94 4) 3 f h = pureS (some (f.getD 5 .top)) f 14 h ∧
 astep prog c (rg f94 4) 4 f h = pureS (aindex prog 9 (f.getD 13 .top) (f.getD 14 .top)) f 15 h ∧
 astep prog c (rg f94 4) 5 f h = heapS (callV c (f.getD 11 .top) [(f.getD 12 .top),(f.getD 15 .top)] h) f 16 ∧
 astep prog c (rg f94 4) 6 f h = pureS (aun .not (f.getD 16 .top)) f 17 h ∧
 astep prog c (rg f94 5) 0 f h = pureS (some (.bool false)) f 4 h ∧
 astep prog c (rg f94 6) 0 f h = pureS (some (f.getD 0 .top)) f 18 h ∧
 astep prog c (rg f94 6) 1 f h = pureS (abin prog .neq 9 (.tmp 18) (.const (.string { data := #[] })) (f.getD 18 .top) (.str [])) f 19 h ∧
 astep prog c (rg f94 6) 2 f h = pureS (some (f.getD 19 .top)) f 4 h := by
  repeat' apply And.intro
  all_goals kernel_rfl

end Go.Proofs.Ytgnacecplaemlaa
namespace Go.Proofs.Ytgnacecplaemlaa
open AI Try
set_option linter.unusedVariables false
/-! ### 95: conch/char.Name$1 -/
noncomputable def cd95 : Code := (.seq (.region 0 (rg f95 0) false) (.seq (.region 1 (rg f95 1) false) (.seq (.region 2 (rg f95 2) false) .ret)))
theorem ent95 (n : Nat) (a0 a1 : AV) (h : AH) : X (n + 1) (.func 95) [a0,a1] h = nrm h (fin1 (arun prog (HK 95) 95 (X n) n none cd95 [a0,a1,.tup [],.tup [],.tup [],.tup [],.tup [],.tup [],.tup [],.tup [],.tup [],.tup [],.tup [],.tup [],.tup [],.tup [],.tup [],.tup []] h) 4) := by kernel_rfl
section
variable (K : Hint) (fid : FuncId) (call : ACall) (lf : Nat) (rd : Option Nat) (fr : List AV) (h : AH)
end
theorem R95 (K : Hint) (i : FuncId) (c : ACall) (n : Nat) (d : Option Nat) (f : List AV) (h : AH) :
 arun prog K i c n d (.region 0 (rg f95 0) false) f h = regR (aops prog c (rg f95 0) [0] f h) ∧
 arun prog K i c n d (.region 1 (rg f95 1) false) f h = regR (aops prog c (rg f95 1) [0,1,2] f h) ∧
 arun prog K i c n d (.region 2 (rg f95 2) false) f h = regR (aops prog c (rg f95 2) [0,1,2,3,4,5,6,7,8,9,10] f h) := by
  repeat' apply And.intro
  all_goals kernel_rfl
theorem S95 (c : ACall) (f : List AV) (h : AH) :
 astep prog c (rg f95 0) 0 f h = pureS (some (.bool false)) f 4 h ∧
 astep prog c (rg f95 1) 0 f h = pureS (some (f.getD 1 .top)) f 6 h ∧
 astep prog c (rg f95 1) 1 f h = heapS (callV c (.fn (.func 96) [] []) [(f.getD 6 .top)] h) f 7 ∧
 astep prog c (rg f95 1) 2 f h = pureS (some (f.getD 7 .top)) f 5 h ∧
 astep prog c (rg f95 2) 0 f h = pureS (some (f.getD 5 .top)) f 8 h ∧
 astep prog c (rg f95 2) 1 f h = pureS (abin prog .eql 3 (.tmp 8) (.const (.int .i64 4)) (f.getD 8 .top) (.int .i64 4)) f 9 h ∧
 astep prog c (rg f95 2) 2 f h = pureS (some (f.getD 9 .top)) f 10 h ∧
 astep prog c (rg f95 2) 3 f h = gdS (f.getD 10 .top) false (some (f.set 11 (.tup []),h)) (pureS (some (f.getD 5 .top)) f 11 h) ∧
 astep prog c (rg f95 2) 4 f h = gdS (f.getD 10 .top) false (some (f.set 12 (.tup []),h)) (pureS (abin prog .eql 3 (.tmp 11) (.const (.int .i64 3)) (f.getD 11 .top) (.int .i64 3)) f 12 h) ∧
 astep prog c (rg f95 2) 5 f h = gdS (f.getD 10 .top) false (some (f.set 13 (.tup []),h)) (pureS (some (f.getD 12 .top)) f 13 h) ∧
 astep prog c (rg f95 2) 6 f h = gdS (f.getD 13 .top) true (some (f.set 14 (.tup []),h)) (pureS (some (f.getD 0 .top)) f 14 h) ∧
 astep prog c (rg f95 2) 7 f h = gdS (f.getD 13 .top) true (some (f.set 15 (.tup []),h)) (pureS (abin prog .gtr 3 (.tmp 14) (.const (.int .i64 0)) (f.getD 14 .top) (.int .i64 0)) f 15 h) ∧
 astep prog c (rg f95 2) 8 f h = gdS (f.getD 10 .top) false (some (f.set 16 (.tup []),h)) (pureS (pickV (f.getD 13 .top) (f.getD 15 .top) (.bool false)) f 16 h) ∧
 astep prog c (rg f95 2) 9 f h = pureS (pickV (f.getD 10 .top) (.bool true) (f.getD 16 .top)) f 17 h ∧
 astep prog c (rg f95 2) 10 f h = pureS (some (f.getD 17 .top)) f 4 h := by
  repeat' apply And.intro
  all_goals kernel_rfl

end Go.Proofs.Ytgnacecplaemlaa
namespace Go.Proofs.Ytgnacecplaemlaa
open AI Try
set_option linter.unusedVariables false
/-! ### 97: conch/conchref01.Class -/
noncomputable def cd97 : Code := (.seq (.region 0 (rg f97 0) false) (.seq (.seq (.region 1 (rg f97 1) false) (.cond (.tmp 4) (.seq (.region 2 (rg f97 2) false) .ret) .skip)) (.seq (.seq (.region 3 (rg f97 3) false) (.cond (.tmp 10) (.seq (.region 4 (rg f97 4) false) .ret) .skip)) (.seq (.seq (.region 5 (rg f97 5) false) (.cond (.tmp 12) (.seq (.region 6 (rg f97 6) false) .ret) .skip)) (.seq (.seq (.region 7 (rg f97 7) false) (.cond (.tmp 18) (.seq (.region 8 (rg f97 8) false) .ret) .skip)) (.seq (.seq (.region 9 (rg f97 9) false) (.cond (.tmp 36) (.seq (.region 10 (rg f97 10) false) .ret) .skip)) (.seq (.seq (.region 11 (rg f97 11) false) (.cond (.tmp 62) (.seq (.region 12 (rg f97 12) false) .ret) .skip)) (.seq (.seq (.region 13 (rg f97 13) false) (.cond (.tmp 76) (.seq (.region 14 (rg f97 14) false) .ret) .skip)) (.seq (.seq (.region 15 (rg f97 15) false) (.cond (.tmp 78) (.seq (.region 16 (rg f97 16) false) .ret) .skip)) (.seq (.region 17 (rg f97 17) false) .ret))))))))))
theorem ent97 (n : Nat) (a0 : AV) (h : AH) : X (n + 1) (.func 97) [a0] h = nrm h (fin1 (arun prog (HK 97) 97 (X n) n none cd97 [a0,.tup [],.tup [],.tup [],.tup [],.tup [],.tup [],.tup [],.tup [],.tup [],.tup [],.tup [],.tup [],.tup [],.tup [],.tup [],.tup [],.tup [],.tup [],.tup [],.tup [],.tup [],.tup [],.tup [],.tup [],.tup [],.tup [],.tup [],.tup [],.tup [],.tup [],.tup [],.tup [],.tup [],.tup [],.tup [],.tup [],.tup [],.tup [],.tup [],.tup [],.tup [],.tup [],.tup [],.tup [],.tup [],.tup [],.tup [],.tup [],.tup [],.tup [],.tup [],.tup [],.tup [],.tup [],.tup [],.tup [],.tup [],.tup [],.tup [],.tup [],.tup [],.tup [],.tup [],.tup [],.tup [],.tup [],.tup [],.tup [],.tup [],.tup [],.tup [],.tup [],.tup [],.tup [],.tup [],.tup [],.tup [],.tup []] h) 2) := by kernel_rfl
section
variable (K : Hint) (fid : FuncId) (call : ACall) (lf : Nat) (rd : Option Nat) (fr : List AV) (h : AH)
end
theorem R97 (K : Hint) (i : FuncId) (c : ACall) (n : Nat) (d : Option Nat) (f : List AV) (h : AH) :
 arun prog K i c n d (.region 0 (rg f97 0) false) f h = regR (aops prog c (rg f97 0) [0] f h) ∧
 arun prog K i c n d (.region 1 (rg f97 1) false) f h = regR (aops prog c (rg f97 1) [0,1] f h) ∧
 arun prog K i c n d (.region 2 (rg f97 2) false) f h = regR (aops prog c (rg f97 2) [0] f h) ∧
 arun prog K i c n d (.region 3 (rg f97 3) false) f h = regR (aops prog c (rg f97 3) [0,1,2,3,4,5] f h) ∧
 arun prog K i c n d (.region 4 (rg f97 4) false) f h = regR (aops prog c (rg f97 4) [0] f h) ∧
 arun prog K i c n d (.region 5 (rg f97 5) false) f h = regR (aops prog c (rg f97 5) [0,1] f h) ∧
 arun prog K i c n d (.region 6 (rg f97 6) false) f h = regR (aops prog c (rg f97 6) [0] f h) ∧
 arun prog K i c n d (.region 7 (rg f97 7) false) f h = regR (aops prog c (rg f97 7) [0,1,2,3,4,5] f h) ∧
 arun prog K i c n d (.region 8 (rg f97 8) false) f h = regR (aops prog c (rg f97 8) [0] f h) ∧
 arun prog K i c n d (.region 9 (rg f97 9) false) f h = regR (aops prog c (rg f97 9) [0,1,2,3,4,5,6,7,8,9,10,11,12,13,14,15,16,17] f h) ∧
 arun prog K i c n d (.region 10 (rg f97 10) false) f h = regR (aops prog c (rg f97 10) [0] f h) ∧
 arun prog K i c n d (.region 11 (rg f97 11) false) f h = regR (aops prog c (rg f97 11) [0,1,2,3,4,5,6,7,8,9,10,11,12,13,14,15,16,17,18,19,20,21,22,23,24,25] f h) ∧
 arun prog K i c n d (.region 12 (rg f97 12) false) f h = regR (aops prog c (rg f97 12) [0] f h) ∧
 arun prog K i c n d (.region 13 (rg f97 13) false) f h = regR (aops prog c (rg f97 13) [0,1,2,3,4,5,6,7,8,9,10,11,12,13] f h) ∧
 arun prog K i c n d (.region 14 (rg f97 14) false) f h = regR (aops prog c (rg f97 14) [0] f h) ∧
 arun prog K i c n d (.region 15 (rg f97 15) false) f h = regR (aops prog c (rg f97 15) [0,1] f h) ∧
 arun prog K i c n d (.region 16 (rg f97 16) false) f h = regR (aops prog c (rg f97 16) [0] f h) ∧
 arun prog K i c n d (.region 17 (rg f97 17) false) f h = regR (aops prog c (rg f97 17) [0] f h) := by
  repeat' apply And.intro
  all_goals kernel_rfl
theorem S97 (c : ACall) (f : List AV) (h : AH) :
 astep prog c (rg f97 0) 0 f h = pureS (some (.int .i64 0)) f 2 h ∧
 astep prog c (rg f97 1) 0 f h = pureS (some (f.getD 0 .top)) f 3 h ∧
 astep prog c (rg f97 1) 1 f h = pureS (abin prog .eql 5 (.tmp 3) (.const (.int .u8 0)) (f.getD 3 .top) (.int .u8 0)) f 4 h ∧
 astep prog c (rg f97 2) 0 f h = pureS (some (.int .i64 0)) f 2 h ∧
 astep prog c (rg f97 3) 0 f h = pureS (some (f.getD 0 .top)) f 5 h ∧
 astep prog c (rg f97 3) 1 f h = pureS (abin prog .eql 5 (.tmp 5) (.const (.int .u8 32)) (f.getD 5 .top) (.int .u8 32)) f 6 h ∧
 astep prog c (rg f97 3) 2 f h = pureS (some (f.getD 6 .top)) f 7 h ∧
 astep prog c (rg f97 3) 3 f h = gdS (f.getD 7 .top) false (some (f.set 8 (.tup []),h)) (pureS (some (f.getD 0 .top)) f 8 h) ∧
 astep prog c (rg f97 3) 4 f h = gdS (f.getD 7 .top) false (some (f.set 9 (.tup []),h)) (pureS (abin prog .eql 5 (.tmp 8) (.const (.int .u8 9)) (f.getD 8 .top) (.int .u8 9)) f 9 h) ∧
 astep prog c (rg f97 3) 5 f h = pureS (pickV (f.getD 7 .top) (.bool true) (f.getD 9 .top)) f 10 h ∧
 astep prog c (rg f97 4) 0 f h = pureS (some (.int .i64 1)) f 2 h ∧
 astep prog c (rg f97 5) 0 f h = pureS (some (f.getD 0 .top)) f 11 h ∧
 astep prog c (rg f97 5) 1 f h = pureS (abin prog .eql 5 (.tmp 11) (.const (.int .u8 10)) (f.getD 11 .top) (.int .u8 10)) f 12 h ∧
 astep prog c (rg f97 6) 0 f h = pureS (some (.int .i64 2)) f 2 h ∧
 astep prog c (rg f97 7) 0 f h = pureS (some (f.getD 0 .top)) f 13 h ∧
 astep prog c (rg f97 7) 1 f h = pureS (abin prog .geq 5 (.tmp 13) (.const (.int .u8 48)) (f.getD 13 .top) (.int .u8 48)) f 14 h ∧
 astep prog c (rg f97 7) 2 f h = pureS (some (f.getD 14 .top)) f 15 h ∧
 astep prog c (rg f97 7) 3 f h = gdS (f.getD 15 .top) true (some (f.set 16 (.tup []),h)) (pureS (some (f.getD 0 .top)) f 16 h) ∧
 astep prog c (rg f97 7) 4 f h = gdS (f.getD 15 .top) true (some (f.set 17 (.tup []),h)) (pureS (abin prog .leq 5 (.tmp 16) (.const (.int .u8 57)) (f.getD 16 .top) (.int .u8 57)) f 17 h) ∧
 astep prog c (rg f97 7) 5 f h = pureS (pickV (f.getD 15 .top) (f.getD 17 .top) (.bool false)) f 18 h ∧
 astep prog c (rg f97 8) 0 f h = pureS (some (.int .i64 3)) f 2 h ∧
 astep prog c (rg f97 9) 0 f h = pureS (some (f.getD 0 .top)) f 19 h ∧
 astep prog c (rg f97 9) 1 f h = pureS (abin prog .geq 5 (.tmp 19) (.const (.int .u8 97)) (f.getD 19 .top) (.int .u8 97)) f 20 h ∧
 astep prog c (rg f97 9) 2 f h = pureS (some (f.getD 20 .top)) f 21 h ∧
 astep prog c (rg f97 9) 3 f h = gdS (f.getD 21 .top) true (some (f.set 22 (.tup []),h)) (pureS (some (f.getD 0 .top)) f 22 h) ∧
 astep prog c (rg f97 9) 4 f h = gdS (f.getD 21 .top) true (some (f.set 23 (.tup []),h)) (pureS (abin prog .leq 5 (.tmp 22) (.const (.int .u8 122)) (f.getD 22 .top) (.int .u8 122)) f 23 h) ∧
 astep prog c (rg f97 9) 5 f h = pureS (pickV (f.getD 21 .top) (f.getD 23 .top) (.bool false)) f 24 h ∧
 astep prog c (rg f97 9) 6 f h = pureS (some (f.getD 24 .top)) f 25 h ∧
 astep prog c (rg f97 9) 7 f h = gdS (f.getD 25 .top) false (some (f.set 26 (.tup []),h)) (pureS (some (f.getD 0 .top)) f 26 h) ∧
 astep prog c (rg f97 9) 8 f h = gdS (f.getD 25 .top) false (some (f.set 27 (.tup []),h)) (pureS (abin prog .geq 5 (.tmp 26) (.const (.int .u8 65)) (f.getD 26 .top) (.int .u8 65)) f 27 h) ∧
 astep prog c (rg f97 9) 9 f h = gdS (f.getD 25 .top) false (some (f.set 28 (.tup []),h)) (pureS (some (f.getD 27 .top)) f 28 h) ∧
 astep prog c (rg f97 9) 10 f h = gdS (f.getD 28 .top) true (some (f.set 29 (.tup []),h)) (pureS (some (f.getD 0 .top)) f 29 h) ∧
 astep prog c (rg f97 9) 11 f h = gdS (f.getD 28 .top) true (some (f.set 30 (.tup []),h)) (pureS (abin prog .leq 5 (.tmp 29) (.const (.int .u8 90)) (f.getD 29 .top) (.int .u8 90)) f 30 h) ∧
 astep prog c (rg f97 9) 12 f h = gdS (f.getD 25 .top) false (some (f.set 31 (.tup []),h)) (pureS (pickV (f.getD 28 .top) (f.getD 30 .top) (.bool false)) f 31 h) ∧
 astep prog c (rg f97 9) 13 f h = pureS (pickV (f.getD 25 .top) (.bool true) (f.getD 31 .top)) f 32 h ∧
 astep prog c (rg f97 9) 14 f h = pureS (some (f.getD 32 .top)) f 33 h ∧
 astep prog c (rg f97 9) 15 f h = gdS (f.getD 33 .top) false (some (f.set 34 (.tup []),h)) (pureS (some (f.getD 0 .top)) f 34 h) ∧
 astep prog c (rg f97 9) 16 f h = gdS (f.getD 33 .top) false (some (f.set 35 (.tup []),h)) (pureS (abin prog .eql 5 (.tmp 34) (.const (.int .u8 95)) (f.getD 34 .top) (.int .u8 95)) f 35 h) ∧
 astep prog c (rg f97 9) 17 f h = pureS (pickV (f.getD 33 .top) (.bool true) (f.getD 35 .top)) f 36 h ∧
 astep prog c (rg f97 10) 0 f h = pureS (some (.int .i64 4)) f 2 h ∧
 astep prog c (rg f97 11) 0 f h = pureS (some (f.getD 0 .top)) f 37 h ∧
 astep prog c (rg f97 11) 1 f h = pureS (abin prog .eql 5 (.tmp 37) (.const (.int .u8 38)) (f.getD 37 .top) (.int .u8 38)) f 38 h ∧
 astep prog c (rg f97 11) 2 f h = pureS (some (f.getD 38 .top)) f 39 h ∧
 astep prog c (rg f97 11) 3 f h = gdS (f.getD 39 .top) false (some (f.set 40 (.tup []),h)) (pureS (some (f.getD 0 .top)) f 40 h) ∧
 astep prog c (rg f97 11) 4 f h = gdS (f.getD 39 .top) false (some (f.set 41 (.tup []),h)) (pureS (abin prog .eql 5 (.tmp 40) (.const (.int .u8 124)) (f.getD 40 .top) (.int .u8 124)) f 41 h) ∧
 astep prog c (rg f97 11) 5 f h = pureS (pickV (f.getD 39 .top) (.bool true) (f.getD 41 .top)) f 42 h ∧
 astep prog c (rg f97 11) 6 f h = pureS (some (f.getD 42 .top)) f 43 h ∧
 astep prog c (rg f97 11) 7 f h = gdS (f.getD 43 .top) false (some (f.set 44 (.tup []),h)) (pureS (some (f.getD 0 .top)) f 44 h) ∧
 astep prog c (rg f97 11) 8 f h = gdS (f.getD 43 .top) false (some (f.set 45 (.tup []),h)) (pureS (abin prog .eql 5 (.tmp 44) (.const (.int .u8 59)) (f.getD 44 .top) (.int .u8 59)) f 45 h) ∧
 astep prog c (rg f97 11) 9 f h = pureS (pickV (f.getD 43 .top) (.bool true) (f.getD 45 .top)) f 46 h ∧
 astep prog c (rg f97 11) 10 f h = pureS (some (f.getD 46 .top)) f 47 h ∧
 astep prog c (rg f97 11) 11 f h = gdS (f.getD 47 .top) false (some (f.set 48 (.tup []),h)) (pureS (some (f.getD 0 .top)) f 48 h) ∧
 astep prog c (rg f97 11) 12 f h = gdS (f.getD 47 .top) false (some (f.set 49 (.tup []),h)) (pureS (abin prog .eql 5 (.tmp 48) (.const (.int .u8 60)) (f.getD 48 .top) (.int .u8 60)) f 49 h) ∧
 astep prog c (rg f97 11) 13 f h = pureS (pickV (f.getD 47 .top) (.bool true) (f.getD 49 .top)) f 50 h ∧
 astep prog c (rg f97 11) 14 f h = pureS (some (f.getD 50 .top)) f 51 h ∧
 astep prog c (rg f97 11) 15 f h = gdS (f.getD 51 .top) false (some (f.set 52 (.tup []),h)) (pureS (some (f.getD 0 .top)) f 52 h) ∧
 astep prog c (rg f97 11) 16 f h = gdS (f.getD 51 .top) false (some (f.set 53 (.tup []),h)) (pureS (abin prog .eql 5 (.tmp 52) (.const (.int .u8 62)) (f.getD 52 .top) (.int .u8 62)) f 53 h) ∧
 astep prog c (rg f97 11) 17 f h = pureS (pickV (f.getD 51 .top) (.bool true) (f.getD 53 .top)) f 54 h ∧
 astep prog c (rg f97 11) 18 f h = pureS (some (f.getD 54 .top)) f 55 h ∧
 astep prog c (rg f97 11) 19 f h = gdS (f.getD 55 .top) false (some (f.set 56 (.tup []),h)) (pureS (some (f.getD 0 .top)) f 56 h) ∧
 astep prog c (rg f97 11) 20 f h = gdS (f.getD 55 .top) false (some (f.set 57 (.tup []),h)) (pureS (abin prog .eql 5 (.tmp 56) (.const (.int .u8 40)) (f.getD 56 .top) (.int .u8 40)) f 57 h) ∧
 astep prog c (rg f97 11) 21 f h = pureS (pickV (f.getD 55 .top) (.bool true) (f.getD 57 .top)) f 58 h ∧
 astep prog c (rg f97 11) 22 f h = pureS (some (f.getD 58 .top)) f 59 h ∧
 astep prog c (rg f97 11) 23 f h = gdS (f.getD 59 .top) false (some (f.set 60 (.tup []),h)) (pureS (some (f.getD 0 .top)) f 60 h) ∧
 astep prog c (rg f97 11) 24 f h = gdS (f.getD 59 .top) false (some (f.set 61 (.tup []),h)) (pureS (abin prog .eql 5 (.tmp 60) (.const (.int .u8 41)) (f.getD 60 .top) (.int .u8 41)) f 61 h) ∧
 astep prog c (rg f97 11) 25 f h = pureS (pickV (f.getD 59 .top) (.bool true) (f.getD 61 .top)) f 62 h ∧
 astep prog c (rg f97 12) 0 f h = pureS (some (.int .i64 5)) f 2 h ∧
 astep prog c (rg f97 13) 0 f h = pureS (some (f.getD 0 .top)) f 63 h ∧
 astep prog c (rg f97 13) 1 f h = pureS (abin prog .eql 5 (.tmp 63) (.const (.int .u8 39)) (f.getD 63 .top) (.int .u8 39)) f 64 h ∧
 astep prog c (rg f97 13) 2 f h = pureS (some (f.getD 64 .top)) f 65 h ∧
 astep prog c (rg f97 13) 3 f h = gdS (f.getD 65 .top) false (some (f.set 66 (.tup []),h)) (pureS (some (f.getD 0 .top)) f 66 h) ∧
 astep prog c (rg f97 13) 4 f h = gdS (f.getD 65 .top) false (some (f.set 67 (.tup []),h)) (pureS (abin prog .eql 5 (.tmp 66) (.const (.int .u8 34)) (f.getD 66 .top) (.int .u8 34)) f 67 h) ∧
 astep prog c (rg f97 13) 5 f h = pureS (pickV (f.getD 65 .top) (.bool true) (f.getD 67 .top)) f 68 h ∧
 astep prog c (rg f97 13) 6 f h = pureS (some (f.getD 68 .top)) f 69 h ∧
 astep prog c (rg f97 13) 7 f h = gdS (f.getD 69 .top) false (some (f.set 70 (.tup []),h)) (pureS (some (f.getD 0 .top)) f 70 h) ∧
 astep prog c (rg f97 13) 8 f h = gdS (f.getD 69 .top) false (some (f.set 71 (.tup []),h)) (pureS (abin prog .eql 5 (.tmp 70) (.const (.int .u8 92)) (f.getD 70 .top) (.int .u8 92)) f 71 h) ∧
 astep prog c (rg f97 13) 9 f h = pureS (pickV (f.getD 69 .top) (.bool true) (f.getD 71 .top)) f 72 h ∧
 astep prog c (rg f97 13) 10 f h = pureS (some (f.getD 72 .top)) f 73 h ∧
 astep prog c (rg f97 13) 11 f h = gdS (f.getD 73 .top) false (some (f.set 74 (.tup []),h)) (pureS (some (f.getD 0 .top)) f 74 h) ∧
 astep prog c (rg f97 13) 12 f h = gdS (f.getD 73 .top) false (some (f.set 75 (.tup []),h)) (pureS (abin prog .eql 5 (.tmp 74) (.const (.int .u8 96)) (f.getD 74 .top) (.int .u8 96)) f 75 h) ∧
 astep prog c (rg f97 13) 13 f h = pureS (pickV (f.getD 73 .top) (.bool true) (f.getD 75 .top)) f 76 h ∧
 astep prog c (rg f97 14) 0 f h = pureS (some (.int .i64 6)) f 2 h ∧
 astep prog c (rg f97 15) 0 f h = pureS (some (f.getD 0 .top)) f 77 h ∧
 astep prog c (rg f97 15) 1 f h = pureS (abin prog .eql 5 (.tmp 77) (.const (.int .u8 36)) (f.getD 77 .top) (.int .u8 36)) f 78 h ∧
 astep prog c (rg f97 16) 0 f h = pureS (some (.int .i64 7)) f 2 h ∧
 astep prog c (rg f97 17) 0 f h = pureS (some (.int .i64 8)) f 2 h := by
  repeat' apply And.intro
  all_goals kernel_rfl

end Go.Proofs.Ytgnacecplaemlaa
namespace Go.Proofs.Ytgnacecplaemlaa
open AI Try
set_option linter.unusedVariables false
/-! ### 31: conch/conchref42.All -/
noncomputable def lp31_4 : Code := (.seq (.seq (.region 4 (rg f31 4) false) (.cond (.tmp 13) .skip (.exit 0))) (.seq (.block 1 (.region 6 (rg f31 6) false)) (.region 5 (rg f31 5) false)))
def C31_4 (x3 x4 x5 : AV) : List AV := [.top,.top,.top,x3,x4,x5,.top,.top,.top,.top,.top,.top,.top,.top,.top,.top,.top,.top,.top,.top,.top,.top,.top,.top]
theorem cl31_4 (x0 x1 x2 x3 x4 x5 x6 x7 x8 x9 x10 x11 x12 x13 x14 x15 x16 x17 x18 x19 x20 x21 x22 x23 : AV) : aclear (HK 31) lp31_4 [x0,x1,x2,x3,x4,x5,x6,x7,x8,x9,x10,x11,x12,x13,x14,x15,x16,x17,x18,x19,x20,x21,x22,x23] = C31_4 x3 x4 x5 := by kernel_rfl
noncomputable def cd31 : Code := (.seq (.region 0 (rg f31 0) false) (.seq (.region 1 (rg f31 1) false) (.seq (.region 2 (rg f31 2) false) (.seq (.seq (.region 3 (rg f31 3) false) (.block 0 (.loop lp31_4))) (.seq (.region 7 (rg f31 7) false) .ret)))))
theorem ent31 (n : Nat) (a0 : AV) (h : AH) : X (n + 1) (.func 31) [a0] h = nrm h (fin1 (arun prog (HK 31) 31 (X n) n none cd31 [a0,.tup [],.tup [],.tup [],.tup [],.tup [],.tup [],.tup [],.tup [],.tup [],.tup [],.tup [],.tup [],.tup [],.tup [],.tup [],.tup [],.tup [],.tup [],.tup [],.tup [],.tup [],.tup [],.tup []] h) 2) := by kernel_rfl
section
variable (K : Hint) (fid : FuncId) (call : ACall) (lf : Nat) (rd : Option Nat) (fr : List AV) (h : AH)
end
theorem R31 (K : Hint) (i : FuncId) (c : ACall) (n : Nat) (d : Option Nat) (f : List AV) (h : AH) :
 arun prog K i c n d (.region 0 (rg f31 0) false) f h = regR (aops prog c (rg f31 0) [0,1] f h) ∧
 arun prog K i c n d (.region 1 (rg f31 1) false) f h = regR (aops prog c (rg f31 1) [0,1,2] f h) ∧
 arun prog K i c n d (.region 2 (rg f31 2) false) f h = regR (aops prog c (rg f31 2) [0,1,2] f h) ∧
 arun prog K i c n d (.region 3 (rg f31 3) false) f h = regR (aops prog c (rg f31 3) [0] f h) ∧
 arun prog K i c n d (.region 4 (rg f31 4) false) f h = regR (aops prog c (rg f31 4) [0,1,2,3] f h) ∧
 arun prog K i c n d (.region 6 (rg f31 6) false) f h = regR (aops prog c (rg f31 6) [0,1,2,3,4,5,6,7] f h) ∧
 arun prog K i c n d (.region 5 (rg f31 5) false) f h = regR (aops prog c (rg f31 5) [0,1,2] f h) ∧
 arun prog K i c n d (.region 7 (rg f31 7) false) f h = regR (aops prog c (rg f31 7) [0,1] f h) := by
  repeat' apply And.intro
  all_goals kernel_rfl
theorem S31 (c : ACall) (f : List AV) (h : AH) :
 astep prog c (rg f31 0) 0 f h = heapS (boxV (f.getD 0 .top) h) f 1 ∧
 astep prog c (rg f31 0) 1 f h = pureS (some (.nilSl)) f 2 h ∧
 astep prog c (rg f31 1) 0 f h = pureS (ldV prog 49 (f.getD 1 .top) h) f 6 h ∧
 astep prog c (rg f31 1) 1 f h = heapS (bslV prog 47 1 [(0,(f.getD 6 .top))] h) f 7 ∧
 astep prog c (rg f31 1) 2 f h = pureS (some (f.getD 7 .top)) f 3 h ∧
 astep prog c (rg f31 2) 0 f h = pureS (ldV prog 49 (f.getD 1 .top) h) f 8 h ∧
 astep prog c (rg f31 2) 1 f h = heapS (callV c (.fn (.func 55) [] []) [(f.getD 8 .top)] h) f 9 ∧
 astep prog c (rg f31 2) 2 f h = pureS (some (f.getD 9 .top)) f 4 h ∧
 astep prog c (rg f31 3) 0 f h = pureS (some (.int .i64 0)) f 5 h ∧
 astep prog c (rg f31 4) 0 f h = pureS (some (f.getD 5 .top)) f 10 h ∧
 astep prog c (rg f31 4) 1 f h = pureS (some (f.getD 4 .top)) f 11 h ∧
 astep prog c (rg f31 4) 2 f h = pureS (lenV (alen prog 47 (f.getD 11 .top))) f 12 h ∧
 astep prog c (rg f31 4) 3 f h = pureS (abin prog .lss 3 (.tmp 10) (.tmp 12) (f.getD 10 .top) (f.getD 12 .top)) f 13 h ∧
 astep prog c (rg f31 6) 0 f h = pureS (some (f.getD 3 .top)) f 16 h ∧
 astep prog c (rg f31 6) 1 f h = pureS (some (f.getD 4 .top)) f 17 h ∧
 astep prog c (rg f31 6) 2 f h = pureS (some (f.getD 5 .top)) f 18 h ∧
 astep prog c (rg f31 6) 3 f h = pureS (aindexAt prog 47 (f.getD 17 .top) (f.getD 18 .top)) f 19 h ∧
 astep prog c (rg f31 6) 4 f h = pureS (ldV prog 49 (f.getD 19 .top) h) f 20 h ∧
 astep prog c (rg f31 6) 5 f h = heapS (callV c (.fn (.func 31) [] []) [(f.getD 20 .top)] h) f 21 ∧
 astep prog c (rg f31 6) 6 f h = heapS (aappend prog 47 47 (f.getD 16 .top) (f.getD 21 .top) h) f 22 ∧
 astep prog c (rg f31 6) 7 f h = pureS (some (f.getD 22 .top)) f 3 h ∧
 astep prog c (rg f31 5) 0 f h = pureS (some (f.getD 5 .top)) f 14 h ∧
 astep prog c (rg f31 5) 1 f h = pureS (abin prog .add 3 (.tmp 14) (.const (.int .i64 1)) (f.getD 14 .top) (.int .i64 1)) f 15 h ∧
 astep prog c (rg f31 5) 2 f h = pureS (some (f.getD 15 .top)) f 5 h ∧
 astep prog c (rg f31 7) 0 f h = pureS (some (f.getD 3 .top)) f 23 h ∧
 astep prog c (rg f31 7) 1 f h = pureS (some (f.getD 23 .top)) f 2 h := by
  repeat' apply And.intro
  all_goals kernel_rfl

end Go.Proofs.Ytgnacecplaemlaa
namespace Go.Proofs.Ytgnacecplaemlaa
open AI Try
set_option linter.unusedVariables false
/-! ### 33: conch/walk.Words -/
noncomputable def ra33_3 : Code := (.region 3 (rg f33 3) false)
noncomputable def rb33_4 : Code := (.block 1 (.region 4 (rg f33 4) true))
noncomputable def cd33 : Code := (.seq (.region 0 (rg f33 0) false) (.seq (.region 1 (rg f33 1) false) (.seq (.seq (.region 2 (rg f33 2) false) (.block 0 (.rangeFunc (.tmp 6) #[7] ra33_3 rb33_4))) (.seq (.region 5 (rg f33 5) false) .ret))))
theorem ent33 (n : Nat) (a0 : AV) (h : AH) : X (n + 1) (.func 33) [a0] h = nrm h (fin1 (arun prog (HK 33) 33 (X n) n none cd33 [a0,.tup [],.tup [],.tup [],.tup [],.tup [],.tup [],.tup [],.tup [],.tup [],.tup [],.tup [],.tup []] h) 2) := by kernel_rfl
section
variable (K : Hint) (fid : FuncId) (call : ACall) (lf : Nat) (rd : Option Nat) (fr : List AV) (h : AH)
theorem dok33_4 : drawOK prog (befs (rg f33 4).toList []) (rg f33 4) = true := by kernel_rfl
theorem prs33_4 : pairsOK prog (befs (rg f33 4).toList []) (rg f33 4) [(0,2)] = true := by kernel_rfl
theorem rng33_4 : List.range (rg f33 4).size = [0,1,2,3,4] := by kernel_rfl
theorem drw33_4 {r : List AV × AH} (h0 : aops prog call (rg f33 4) [0,1,2,3,4] fr h = some r) (hq : ∀ p ∈ ([(0,2)] : List (Nat × Nat)),PairOK prog call (rg f33 4) fr h p.1 p.2) : arun prog (HK 33) fid call lf rd (.region 4 (rg f33 4) true) fr h = regR (some r) := (show _ = regR (adraw prog call (rg f33 4) fr h) by kernel_rfl).trans (congrArg regR (adraw_eval _ dok33_4 prs33_4 ((congrArg (fun l => aops prog call (rg f33 4) l fr h) rng33_4).trans h0) hq))
theorem li33_4_0 : loadI prog (rg f33 4) 0 fr h = ldV prog 44 (fr.getD 3 .top) h := by kernel_rfl
theorem rng33_4_0 : List.range 0 = [] := by rfl
theorem rng33_4_2 : List.range 2 = [0,1] := by rfl
theorem rng33_4_3 : List.range 3 = [0,1,2] := by rfl
end
theorem R33 (K : Hint) (i : FuncId) (c : ACall) (n : Nat) (d : Option Nat) (f : List AV) (h : AH) :
 arun prog K i c n d (.region 0 (rg f33 0) false) f h = regR (aops prog c (rg f33 0) [0,1] f h) ∧
 arun prog K i c n d (.region 1 (rg f33 1) false) f h = regR (aops prog c (rg f33 1) [0] f h) ∧
 arun prog K i c n d (.region 2 (rg f33 2) false) f h = regR (aops prog c (rg f33 2) [0,1] f h) ∧
 arun prog K i c n d (.region 3 (rg f33 3) false) f h = regR (aops prog c (rg f33 3) [0,1] f h) ∧
 arun prog K i c n d (.region 5 (rg f33 5) false) f h = regR (aops prog c (rg f33 5) [0,1] f h) := by
  repeat' apply And.intro
  all_goals kernel_rfl
theorem S33 (c : ACall) (f : List AV) (h : AH) :
 astep prog c (rg f33 0) 0 f h = heapS (boxV (f.getD 0 .top) h) f 1 ∧
 astep prog c (rg f33 0) 1 f h = pureS (some (.nilSl)) f 2 h ∧
 astep prog c (rg f33 1) 0 f h = heapS (newV prog 44 h) f 3 ∧
 astep prog c (rg f33 2) 0 f h = pureS (ldV prog 49 (f.getD 1 .top) h) f 5 h ∧
 astep prog c (rg f33 2) 1 f h = heapS (callV c (.fn (.func 51) [] []) [(f.getD 5 .top)] h) f 6 ∧
 astep prog c (rg f33 3) 0 f h = heapS (newV prog 49 h) f 4 ∧
 astep prog c (rg f33 3) 1 f h = heapN (stV prog 49 (f.getD 4 .top) (f.getD 7 .top) h) f ∧
 astep prog c (rg f33 4) 0 f h = pureS (ldV prog 44 (f.getD 3 .top) h) f 8 h ∧
 astep prog c (rg f33 4) 1 f h = pureS (ldV prog 49 (f.getD 4 .top) h) f 9 h ∧
 astep prog c (rg f33 4) 2 f h = heapS (callV c (.fn (.func 57) [] []) [(f.getD 9 .top)] h) f 10 ∧
 astep prog c (rg f33 4) 3 f h = heapS (aappend prog 44 44 (f.getD 8 .top) (f.getD 10 .top) h) f 11 ∧
 astep prog c (rg f33 4) 4 f h = heapN (stV prog 44 (f.getD 3 .top) (f.getD 11 .top) h) f ∧
 astep prog c (rg f33 5) 0 f h = pureS (ldV prog 44 (f.getD 3 .top) h) f 12 h ∧
 astep prog c (rg f33 5) 1 f h = pureS (some (f.getD 12 .top)) f 2 h := by
  repeat' apply And.intro
  all_goals kernel_rfl

end Go.Proofs.Ytgnacecplaemlaa
namespace Go.Proofs.Ytgnacecplaemlaa
open AI Try
set_option linter.unusedVariables false
/-! ### 34: conch/conchref42.Words -/
noncomputable def lp34_4 : Code := (.seq (.seq (.region 4 (rg f34 4) false) (.cond (.tmp 11) .skip (.exit 0))) (.seq (.block 1 (.region 6 (rg f34 6) false)) (.region 5 (rg f34 5) false)))
def C34_4 (x3 x4 x5 : AV) : List AV := [.top,.top,.top,x3,x4,x5,.top,.top,.top,.top,.top,.top,.top,.top,.top,.top,.top,.top,.top,.top,.top,.top]
theorem cl34_4 (x0 x1 x2 x3 x4 x5 x6 x7 x8 x9 x10 x11 x12 x13 x14 x15 x16 x17 x18 x19 x20 x21 : AV) : aclear (HK 34) lp34_4 [x0,x1,x2,x3,x4,x5,x6,x7,x8,x9,x10,x11,x12,x13,x14,x15,x16,x17,x18,x19,x20,x21] = C34_4 x3 x4 x5 := by kernel_rfl
noncomputable def cd34 : Code := (.seq (.region 0 (rg f34 0) false) (.seq (.region 1 (rg f34 1) false) (.seq (.region 2 (rg f34 2) false) (.seq (.seq (.region 3 (rg f34 3) false) (.block 0 (.loop lp34_4))) (.seq (.region 7 (rg f34 7) false) .ret)))))
theorem ent34 (n : Nat) (a0 : AV) (h : AH) : X (n + 1) (.func 34) [a0] h = nrm h (fin1 (arun prog (HK 34) 34 (X n) n none cd34 [a0,.tup [],.tup [],.tup [],.tup [],.tup [],.tup [],.tup [],.tup [],.tup [],.tup [],.tup [],.tup [],.tup [],.tup [],.tup [],.tup [],.tup [],.tup [],.tup [],.tup [],.tup []] h) 2) := by kernel_rfl
section
variable (K : Hint) (fid : FuncId) (call : ACall) (lf : Nat) (rd : Option Nat) (fr : List AV) (h : AH)
end
theorem R34 (K : Hint) (i : FuncId) (c : ACall) (n : Nat) (d : Option Nat) (f : List AV) (h : AH) :
 arun prog K i c n d (.region 0 (rg f34 0) false) f h = regR (aops prog c (rg f34 0) [0,1] f h) ∧
 arun prog K i c n d (.region 1 (rg f34 1) false) f h = regR (aops prog c (rg f34 1) [0] f h) ∧
 arun prog K i c n d (.region 2 (rg f34 2) false) f h = regR (aops prog c (rg f34 2) [0,1,2] f h) ∧
 arun prog K i c n d (.region 3 (rg f34 3) false) f h = regR (aops prog c (rg f34 3) [0] f h) ∧
 arun prog K i c n d (.region 4 (rg f34 4) false) f h = regR (aops prog c (rg f34 4) [0,1,2,3] f h) ∧
 arun prog K i c n d (.region 6 (rg f34 6) false) f h = regR (aops prog c (rg f34 6) [0,1,2,3,4,5,6,7] f h) ∧
 arun prog K i c n d (.region 5 (rg f34 5) false) f h = regR (aops prog c (rg f34 5) [0,1,2] f h) ∧
 arun prog K i c n d (.region 7 (rg f34 7) false) f h = regR (aops prog c (rg f34 7) [0,1] f h) := by
  repeat' apply And.intro
  all_goals kernel_rfl
theorem S34 (c : ACall) (f : List AV) (h : AH) :
 astep prog c (rg f34 0) 0 f h = heapS (boxV (f.getD 0 .top) h) f 1 ∧
 astep prog c (rg f34 0) 1 f h = pureS (some (.nilSl)) f 2 h ∧
 astep prog c (rg f34 1) 0 f h = pureS (some (.nilSl)) f 3 h ∧
 astep prog c (rg f34 2) 0 f h = pureS (ldV prog 49 (f.getD 1 .top) h) f 6 h ∧
 astep prog c (rg f34 2) 1 f h = heapS (callV c (.fn (.func 31) [] []) [(f.getD 6 .top)] h) f 7 ∧
 astep prog c (rg f34 2) 2 f h = pureS (some (f.getD 7 .top)) f 4 h ∧
 astep prog c (rg f34 3) 0 f h = pureS (some (.int .i64 0)) f 5 h ∧
 astep prog c (rg f34 4) 0 f h = pureS (some (f.getD 5 .top)) f 8 h ∧
 astep prog c (rg f34 4) 1 f h = pureS (some (f.getD 4 .top)) f 9 h ∧
 astep prog c (rg f34 4) 2 f h = pureS (lenV (alen prog 47 (f.getD 9 .top))) f 10 h ∧
 astep prog c (rg f34 4) 3 f h = pureS (abin prog .lss 3 (.tmp 8) (.tmp 10) (f.getD 8 .top) (f.getD 10 .top)) f 11 h ∧
 astep prog c (rg f34 6) 0 f h = pureS (some (f.getD 3 .top)) f 14 h ∧
 astep prog c (rg f34 6) 1 f h = pureS (some (f.getD 4 .top)) f 15 h ∧
 astep prog c (rg f34 6) 2 f h = pureS (some (f.getD 5 .top)) f 16 h ∧
 astep prog c (rg f34 6) 3 f h = pureS (aindexAt prog 47 (f.getD 15 .top) (f.getD 16 .top)) f 17 h ∧
 astep prog c (rg f34 6) 4 f h = pureS (ldV prog 49 (f.getD 17 .top) h) f 18 h ∧
 astep prog c (rg f34 6) 5 f h = heapS (callV c (.fn (.func 58) [] []) [(f.getD 18 .top)] h) f 19 ∧
 astep prog c (rg f34 6) 6 f h = heapS (aappend prog 44 44 (f.getD 14 .top) (f.getD 19 .top) h) f 20 ∧
 astep prog c (rg f34 6) 7 f h = pureS (some (f.getD 20 .top)) f 3 h ∧
 astep prog c (rg f34 5) 0 f h = pureS (some (f.getD 5 .top)) f 12 h ∧
 astep prog c (rg f34 5) 1 f h = pureS (abin prog .add 3 (.tmp 12) (.const (.int .i64 1)) (f.getD 12 .top) (.int .i64 1)) f 13 h ∧
 astep prog c (rg f34 5) 2 f h = pureS (some (f.getD 13 .top)) f 5 h ∧
 astep prog c (rg f34 7) 0 f h = pureS (some (f.getD 3 .top)) f 21 h ∧
 astep prog c (rg f34 7) 1 f h = pureS (some (f.getD 21 .top)) f 2 h := by
  repeat' apply And.intro
  all_goals kernel_rfl

end Go.Proofs.Ytgnacecplaemlaa
namespace Go.Proofs.Ytgnacecplaemlaa
open AI Try
set_option linter.unusedVariables false
/-! ### 36: conch/conchref42.Calls -/
noncomputable def lp36_4 : Code := (.seq (.seq (.region 4 (rg f36 4) false) (.cond (.tmp 13) .skip (.exit 0))) (.seq (.block 1 (.seq (.seq (.region 6 (rg f36 6) false) (.cond (.tmp 30) (.exit 1) .skip)) (.seq (.region 7 (rg f36 7) false) (.seq (.region 8 (rg f36 8) false) (.cond (.tmp 42) (.region 9 (rg f36 9) false) .skip))))) (.region 5 (rg f36 5) false)))
def C36_4 (x3 x4 x5 : AV) : List AV := [.top,.top,.top,x3,x4,x5,.top,.top,.top,.top,.top,.top,.top,.top,.top,.top,.top,.top,.top,.top,.top,.top,.top,.top,.top,.top,.top,.top,.top,.top,.top,.top,.top,.top,.top,.top,.top,.top,.top,.top,.top,.top,.top,.top,.top,.top,.top,.top]
theorem cl36_4 (x0 x1 x2 x3 x4 x5 x6 x7 x8 x9 x10 x11 x12 x13 x14 x15 x16 x17 x18 x19 x20 x21 x22 x23 x24 x25 x26 x27 x28 x29 x30 x31 x32 x33 x34 x35 x36 x37 x38 x39 x40 x41 x42 x43 x44 x45 x46 x47 : AV) : aclear (HK 36) lp36_4 [x0,x1,x2,x3,x4,x5,x6,x7,x8,x9,x10,x11,x12,x13,x14,x15,x16,x17,x18,x19,x20,x21,x22,x23,x24,x25,x26,x27,x28,x29,x30,x31,x32,x33,x34,x35,x36,x37,x38,x39,x40,x41,x42,x43,x44,x45,x46,x47] = C36_4 x3 x4 x5 := by kernel_rfl
noncomputable def cd36 : Code := (.seq (.region 0 (rg f36 0) false) (.seq (.region 1 (rg f36 1) false) (.seq (.region 2 (rg f36 2) false) (.seq (.seq (.region 3 (rg f36 3) false) (.block 0 (.loop lp36_4))) (.seq (.region 10 (rg f36 10) false) .ret)))))
theorem ent36 (n : Nat) (a0 : AV) (h : AH) : X (n + 1) (.func 36) [a0] h = nrm h (fin1 (arun prog (HK 36) 36 (X n) n none cd36 [a0,.tup [],.tup [],.tup [],.tup [],.tup [],.tup [],.tup [],.tup [],.tup [],.tup [],.tup [],.tup [],.tup [],.tup [],.tup [],.tup [],.tup [],.tup [],.tup [],.tup [],.tup [],.tup [],.tup [],.tup [],.tup [],.tup [],.tup [],.tup [],.tup [],.tup [],.tup [],.tup [],.tup [],.tup [],.tup [],.tup [],.tup [],.tup [],.tup [],.tup [],.tup [],.tup [],.tup [],.tup [],.tup [],.tup [],.tup []] h) 2) := by kernel_rfl
section
variable (K : Hint) (fid : FuncId) (call : ACall) (lf : Nat) (rd : Option Nat) (fr : List AV) (h : AH)
end
theorem R36 (K : Hint) (i : FuncId) (c : ACall) (n : Nat) (d : Option Nat) (f : List AV) (h : AH) :
 arun prog K i c n d (.region 0 (rg f36 0) false) f h = regR (aops prog c (rg f36 0) [0,1] f h) ∧
 arun prog K i c n d (.region 1 (rg f36 1) false) f h = regR (aops prog c (rg f36 1) [0] f h) ∧
 arun prog K i c n d (.region 2 (rg f36 2) false) f h = regR (aops prog c (rg f36 2) [0,1,2] f h) ∧
 arun prog K i c n d (.region 3 (rg f36 3) false) f h = regR (aops prog c (rg f36 3) [0] f h) ∧
 arun prog K i c n d (.region 4 (rg f36 4) false) f h = regR (aops prog c (rg f36 4) [0,1,2,3] f h) ∧
 arun prog K i c n d (.region 6 (rg f36 6) false) f h = regR (aops prog c (rg f36 6) [0,1,2,3,4,5,6,7,8,9,10,11,12,13,14] f h) ∧
 arun prog K i c n d (.region 7 (rg f36 7) false) f h = regR (aops prog c (rg f36 7) [0,1,2,3,4,5,6,7,8,9,10,11,12] f h) ∧
 arun prog K i c n d (.region 8 (rg f36 8) false) f h = regR (aops prog c (rg f36 8) [0] f h) ∧
 arun prog K i c n d (.region 9 (rg f36 9) false) f h = regR (aops prog c (rg f36 9) [0,1,2,3,4] f h) ∧
 arun prog K i c n d (.region 5 (rg f36 5) false) f h = regR (aops prog c (rg f36 5) [0,1,2] f h) ∧
 arun prog K i c n d (.region 10 (rg f36 10) false) f h = regR (aops prog c (rg f36 10) [0,1] f h) := by
  repeat' apply And.intro
  all_goals kernel_rfl
theorem S36 (c : ACall) (f : List AV) (h : AH) :
 astep prog c (rg f36 0) 0 f h = heapS (boxV (f.getD 0 .top) h) f 1 ∧
 astep prog c (rg f36 0) 1 f h = pureS (some (.nilSl)) f 2 h ∧
 astep prog c (rg f36 1) 0 f h = pureS (some (.nilSl)) f 3 h ∧
 astep prog c (rg f36 2) 0 f h = pureS (ldV prog 49 (f.getD 1 .top) h) f 8 h ∧
 astep prog c (rg f36 2) 1 f h = heapS (callV c (.fn (.func 31) [] []) [(f.getD 8 .top)] h) f 9 ∧
 astep prog c (rg f36 2) 2 f h = pureS (some (f.getD 9 .top)) f 4 h ∧
 astep prog c (rg f36 3) 0 f h = pureS (some (.int .i64 0)) f 5 h ∧
 astep prog c (rg f36 4) 0 f h = pureS (some (f.getD 5 .top)) f 10 h ∧
 astep prog c (rg f36 4) 1 f h = pureS (some (f.getD 4 .top)) f 11 h ∧
 astep prog c (rg f36 4) 2 f h = pureS (lenV (alen prog 47 (f.getD 11 .top))) f 12 h ∧
 astep prog c (rg f36 4) 3 f h = pureS (abin prog .lss 3 (.tmp 10) (.tmp 12) (f.getD 10 .top) (f.getD 12 .top)) f 13 h ∧
 astep prog c (rg f36 6) 0 f h = pureS (some (f.getD 4 .top)) f 16 h ∧
 astep prog c (rg f36 6) 1 f h = pureS (some (f.getD 5 .top)) f 17 h ∧
 astep prog c (rg f36 6) 2 f h = pureS (aindexAt prog 47 (f.getD 16 .top) (f.getD 17 .top)) f 18 h ∧
 astep prog c (rg f36 6) 3 f h = pureS (afieldAt prog 49 (f.getD 18 .top) 0) f 19 h ∧
 astep prog c (rg f36 6) 4 f h = pureS (ldV prog 3 (f.getD 19 .top) h) f 20 h ∧
 astep prog c (rg f36 6) 5 f h = pureS (abin prog .neq 3 (.tmp 20) (.const (.int .i64 4)) (f.getD 20 .top) (.int .i64 4)) f 21 h ∧
 astep prog c (rg f36 6) 6 f h = pureS (some (f.getD 21 .top)) f 22 h ∧
 astep prog c (rg f36 6) 7 f h = gdS (f.getD 22 .top) false (some (f.set 23 (.tup []),h)) (pureS (some (f.getD 4 .top)) f 23 h) ∧
 astep prog c (rg f36 6) 8 f h = gdS (f.getD 22 .top) false (some (f.set 24 (.tup []),h)) (pureS (some (f.getD 5 .top)) f 24 h) ∧
 astep prog c (rg f36 6) 9 f h = gdS (f.getD 22 .top) false (some (f.set 25 (.tup []),h)) (pureS (aindexAt prog 47 (f.getD 23 .top) (f.getD 24 .top)) f 25 h) ∧
 astep prog c (rg f36 6) 10 f h = gdS (f.getD 22 .top) false (some (f.set 26 (.tup []),h)) (pureS (afieldAt prog 49 (f.getD 25 .top) 6) f 26 h) ∧
 astep prog c (rg f36 6) 11 f h = gdS (f.getD 22 .top) false (some (f.set 27 (.tup []),h)) (pureS (ldV prog 44 (f.getD 26 .top) h) f 27 h) ∧
 astep prog c (rg f36 6) 12 f h = gdS (f.getD 22 .top) false (some (f.set 28 (.tup []),h)) (pureS (lenV (alen prog 44 (f.getD 27 .top))) f 28 h) ∧
 astep prog c (rg f36 6) 13 f h = gdS (f.getD 22 .top) false (some (f.set 29 (.tup []),h)) (pureS (abin prog .eql 3 (.tmp 28) (.const (.int .i64 0)) (f.getD 28 .top) (.int .i64 0)) f 29 h) ∧
 astep prog c (rg f36 6) 14 f h = pureS (pickV (f.getD 22 .top) (.bool true) (f.getD 29 .top)) f 30 h ∧
 astep prog c (rg f36 7) 0 f h = pureS (some (f.getD 4 .top)) f 32 h ∧
 astep prog c (rg f36 7) 1 f h = pureS (some (f.getD 5 .top)) f 33 h ∧
 astep prog c (rg f36 7) 2 f h = pureS (aindexAt prog 47 (f.getD 32 .top) (f.getD 33 .top)) f 34 h ∧
 astep prog c (rg f36 7) 3 f h = pureS (afieldAt prog 49 (f.getD 34 .top) 6) f 35 h ∧
 astep prog c (rg f36 7) 4 f h = pureS (ldV prog 44 (f.getD 35 .top) h) f 36 h ∧
 astep prog c (rg f36 7) 5 f h = pureS (aindexAt prog 44 (f.getD 36 .top) (.int .i64 0)) f 37 h ∧
 astep prog c (rg f36 7) 6 f h = pureS (ldV prog 60 (f.getD 37 .top) h) f 38 h ∧
 astep prog c (rg f36 7) 7 f h = heapS (callV c (.fn (.func 59) [] []) [(f.getD 38 .top)] h) f 39 ∧
 astep prog c (rg f36 7) 8 f h = pureS (some (f.getD 39 .top)) f 31 h ∧
 astep prog c (rg f36 7) 9 f h = pureS (extV (f.getD 31 .top) 0) f 40 h ∧
 astep prog c (rg f36 7) 10 f h = pureS (extV (f.getD 31 .top) 1) f 41 h ∧
 astep prog c (rg f36 7) 11 f h = pureS (some (f.getD 40 .top)) f 6 h ∧
 astep prog c (rg f36 7) 12 f h = pureS (some (f.getD 41 .top)) f 7 h ∧
 astep prog c (rg f36 8) 0 f h = pureS (some (f.getD 7 .top)) f 42 h ∧
 astep prog c (rg f36 9) 0 f h = pureS (some (f.getD 3 .top)) f 43 h ∧
 astep prog c (rg f36 9) 1 f h = pureS (some (f.getD 6 .top)) f 44 h ∧
 astep prog c (rg f36 9) 2 f h = heapS (bslV prog 40 1 [(0,(f.getD 44 .top))] h) f 45 ∧
 astep prog c (rg f36 9) 3 f h = heapS (aappend prog 40 40 (f.getD 43 .top) (f.getD 45 .top) h) f 46 ∧
 astep prog c (rg f36 9) 4 f h = pureS (some (f.getD 46 .top)) f 3 h ∧
 astep prog c (rg f36 5) 0 f h = pureS (some (f.getD 5 .top)) f 14 h ∧
 astep prog c (rg f36 5) 1 f h = pureS (abin prog .add 3 (.tmp 14) (.const (.int .i64 1)) (f.getD 14 .top) (.int .i64 1)) f 15 h ∧
 astep prog c (rg f36 5) 2 f h = pureS (some (f.getD 15 .top)) f 5 h ∧
 astep prog c (rg f36 10) 0 f h = pureS (some (f.getD 3 .top)) f 47 h ∧
 astep prog c (rg f36 10) 1 f h = pureS (some (f.getD 47 .top)) f 2 h := by
  repeat' apply And.intro
  all_goals kernel_rfl

end Go.Proofs.Ytgnacecplaemlaa
namespace Go.Proofs.Ytgnacecplaemlaa
open AI Try
set_option linter.unusedVariables false
/-! ### 41: conch/walk.Heres -/
noncomputable def ra41_3 : Code := (.region 3 (rg f41 3) false)
noncomputable def lp41_5 : Code := (.seq (.region 5 (rg f41 5) false) (.seq (.cond (.tmp 14) .skip (.exit 2)) (.seq (.block 3 (.seq (.region 6 (rg f41 6) false) (.seq (.region 7 (rg f41 7) false) (.cond (.tmp 24) (.region 8 (rg f41 8) false) .skip)))) (.region 9 (rg f41 9) false))))
def C41_5 (x3 x11 x12 x13 : AV) : List AV := [.top,.top,.top,x3,.top,.top,.top,.top,.top,.top,.top,x11,x12,x13,.top,.top,.top,.top,.top,.top,.top,.top,.top,.top,.top,.top,.top,.top,.top,.top,.top,.top]
theorem cl41_5 (x0 x1 x2 x3 x4 x5 x6 x7 x8 x9 x10 x11 x12 x13 x14 x15 x16 x17 x18 x19 x20 x21 x22 x23 x24 x25 x26 x27 x28 x29 x30 x31 : AV) : aclear (HK 41) lp41_5 [x0,x1,x2,x3,x4,x5,x6,x7,x8,x9,x10,x11,x12,x13,x14,x15,x16,x17,x18,x19,x20,x21,x22,x23,x24,x25,x26,x27,x28,x29,x30,x31] = C41_5 x3 x11 x12 x13 := by kernel_rfl
noncomputable def rb41_4 : Code := (.block 1 (.seq (.region 4 (rg f41 4) false) (.block 2 (.loop lp41_5))))
noncomputable def cd41 : Code := (.seq (.region 0 (rg f41 0) false) (.seq (.region 1 (rg f41 1) false) (.seq (.seq (.region 2 (rg f41 2) false) (.block 0 (.rangeFunc (.tmp 8) #[9] ra41_3 rb41_4))) (.seq (.region 10 (rg f41 10) false) .ret))))
theorem ent41 (n : Nat) (a0 : AV) (h : AH) : X (n + 1) (.func 41) [a0] h = nrm h (fin1 (arun prog (HK 41) 41 (X n) n none cd41 [a0,.tup [],.tup [],.tup [],.tup [],.tup [],.tup [],.tup [],.tup [],.tup [],.tup [],.tup [],.tup [],.tup [],.tup [],.tup [],.tup [],.tup [],.tup [],.tup [],.tup [],.tup [],.tup [],.tup [],.tup [],.tup [],.tup [],.tup [],.tup [],.tup [],.tup [],.tup []] h) 2) := by kernel_rfl
section
variable (K : Hint) (fid : FuncId) (call : ACall) (lf : Nat) (rd : Option Nat) (fr : List AV) (h : AH)
end
theorem R41 (K : Hint) (i : FuncId) (c : ACall) (n : Nat) (d : Option Nat) (f : List AV) (h : AH) :
 arun prog K i c n d (.region 0 (rg f41 0) false) f h = regR (aops prog c (rg f41 0) [0,1] f h) ∧
 arun prog K i c n d (.region 1 (rg f41 1) false) f h = regR (aops prog c (rg f41 1) [0] f h) ∧
 arun prog K i c n d (.region 2 (rg f41 2) false) f h = regR (aops prog c (rg f41 2) [0,1] f h) ∧
 arun prog K i c n d (.region 3 (rg f41 3) false) f h = regR (aops prog c (rg f41 3) [0,1] f h) ∧
 arun prog K i c n d (.region 4 (rg f41 4) false) f h = regR (aops prog c (rg f41 4) [0,1,2,3] f h) ∧
 arun prog K i c n d (.region 5 (rg f41 5) false) f h = regR (aops prog c (rg f41 5) [0] f h) ∧
 arun prog K i c n d (.region 6 (rg f41 6) false) f h = regR (aops prog c (rg f41 6) [0,1,2,3] f h) ∧
 arun prog K i c n d (.region 7 (rg f41 7) false) f h = regR (aops prog c (rg f41 7) [0,1,2,3,4,5,6,7] f h) ∧
 arun prog K i c n d (.region 8 (rg f41 8) false) f h = regR (aops prog c (rg f41 8) [0,1,2,3,4,5] f h) ∧
 arun prog K i c n d (.region 9 (rg f41 9) false) f h = regR (aops prog c (rg f41 9) [0,1] f h) ∧
 arun prog K i c n d (.region 10 (rg f41 10) false) f h = regR (aops prog c (rg f41 10) [0,1] f h) := by
  repeat' apply And.intro
  all_goals kernel_rfl
theorem S41 (c : ACall) (f : List AV) (h : AH) :
 astep prog c (rg f41 0) 0 f h = heapS (boxV (f.getD 0 .top) h) f 1 ∧
 astep prog c (rg f41 0) 1 f h = pureS (some (.nilSl)) f 2 h ∧
 astep prog c (rg f41 1) 0 f h = heapS (newV prog 40 h) f 3 ∧
 astep prog c (rg f41 2) 0 f h = pureS (ldV prog 49 (f.getD 1 .top) h) f 7 h ∧
 astep prog c (rg f41 2) 1 f h = heapS (callV c (.fn (.func 51) [] []) [(f.getD 7 .top)] h) f 8 ∧
 astep prog c (rg f41 3) 0 f h = heapS (newV prog 49 h) f 4 ∧
 astep prog c (rg f41 3) 1 f h = heapN (stV prog 49 (f.getD 4 .top) (f.getD 9 .top) h) f ∧
 astep prog c (rg f41 4) 0 f h = pureS (afieldAt prog 49 (f.getD 4 .top) 7) f 10 h ∧
 astep prog c (rg f41 4) 1 f h = pureS (ldV prog 45 (f.getD 10 .top) h) f 11 h ∧
 astep prog c (rg f41 4) 2 f h = pureS (lenV (alen prog 45 (f.getD 11 .top))) f 12 h ∧
 astep prog c (rg f41 4) 3 f h = pureS (some (.int .i64 0)) f 13 h ∧
 astep prog c (rg f41 5) 0 f h = pureS (abin prog .lss 3 (.tmp 13) (.tmp 12) (f.getD 13 .top) (f.getD 12 .top)) f 14 h ∧
 astep prog c (rg f41 6) 0 f h = pureS (aindexAt prog 45 (f.getD 11 .top) (f.getD 13 .top)) f 15 h ∧
 astep prog c (rg f41 6) 1 f h = pureS (ldV prog 73 (f.getD 15 .top) h) f 16 h ∧
 astep prog c (rg f41 6) 2 f h = heapS (newV prog 73 h) f 6 ∧
 astep prog c (rg f41 6) 3 f h = heapN (stV prog 73 (f.getD 6 .top) (f.getD 16 .top) h) f ∧
 astep prog c (rg f41 7) 0 f h = pureS (afieldAt prog 73 (f.getD 6 .top) 1) f 17 h ∧
 astep prog c (rg f41 7) 1 f h = pureS (ldV prog 3 (f.getD 17 .top) h) f 18 h ∧
 astep prog c (rg f41 7) 2 f h = pureS (abin prog .eql 3 (.tmp 18) (.const (.int .i64 12)) (f.getD 18 .top) (.int .i64 12)) f 19 h ∧
 astep prog c (rg f41 7) 3 f h = pureS (some (f.getD 19 .top)) f 20 h ∧
 astep prog c (rg f41 7) 4 f h = gdS (f.getD 20 .top) false (some (f.set 21 (.tup []),h)) (pureS (afieldAt prog 73 (f.getD 6 .top) 1) f 21 h) ∧
 astep prog c (rg f41 7) 5 f h = gdS (f.getD 20 .top) false (some (f.set 22 (.tup []),h)) (pureS (ldV prog 3 (f.getD 21 .top) h) f 22 h) ∧
 astep prog c (rg f41 7) 6 f h = gdS (f.getD 20 .top) false (some (f.set 23 (.tup []),h)) (pureS (abin prog .eql 3 (.tmp 22) (.const (.int .i64 13)) (f.getD 22 .top) (.int .i64 13)) f 23 h) ∧
 astep prog c (rg f41 7) 7 f h = pureS (pickV (f.getD 20 .top) (.bool true) (f.getD 23 .top)) f 24 h ∧
 astep prog c (rg f41 8) 0 f h = pureS (ldV prog 40 (f.getD 3 .top) h) f 25 h ∧
 astep prog c (rg f41 8) 1 f h = pureS (afieldAt prog 73 (f.getD 6 .top) 3) f 26 h ∧
 astep prog c (rg f41 8) 2 f h = pureS (ldV prog 9 (f.getD 26 .top) h) f 27 h ∧
 astep prog c (rg f41 8) 3 f h = heapS (bslV prog 40 1 [(0,(f.getD 27 .top))] h) f 28 ∧
 astep prog c (rg f41 8) 4 f h = heapS (aappend prog 40 40 (f.getD 25 .top) (f.getD 28 .top) h) f 29 ∧
 astep prog c (rg f41 8) 5 f h = heapN (stV prog 40 (f.getD 3 .top) (f.getD 29 .top) h) f ∧
 astep prog c (rg f41 9) 0 f h = pureS (abin prog .add 3 (.tmp 13) (.const (.int .i64 1)) (f.getD 13 .top) (.int .i64 1)) f 30 h ∧
 astep prog c (rg f41 9) 1 f h = pureS (some (f.getD 30 .top)) f 13 h ∧
 astep prog c (rg f41 10) 0 f h = pureS (ldV prog 40 (f.getD 3 .top) h) f 31 h ∧
 astep prog c (rg f41 10) 1 f h = pureS (some (f.getD 31 .top)) f 2 h := by
  repeat' apply And.intro
  all_goals kernel_rfl

end Go.Proofs.Ytgnacecplaemlaa
namespace Go.Proofs.Ytgnacecplaemlaa
open AI Try
set_option linter.unusedVariables false
/-! ### 42: conch/conchref42.Heres -/
noncomputable def lp42_7 : Code := (.seq (.seq (.region 7 (rg f42 7) false) (.cond (.tmp 23) .skip (.exit 2))) (.seq (.block 3 (.seq (.region 9 (rg f42 9) false) (.seq (.region 10 (rg f42 10) false) (.cond (.tmp 41) (.region 11 (rg f42 11) false) .skip)))) (.region 8 (rg f42 8) false)))
def C42_7 (x3 x4 x5 x6 : AV) : List AV := [.top,.top,.top,x3,x4,x5,x6,.top,.top,.top,.top,.top,.top,.top,.top,.top,.top,.top,.top,.top,.top,.top,.top,.top,.top,.top,.top,.top,.top,.top,.top,.top,.top,.top,.top,.top,.top,.top,.top,.top,.top,.top,.top,.top,.top,.top,.top,.top]
theorem cl42_7 (x0 x1 x2 x3 x4 x5 x6 x7 x8 x9 x10 x11 x12 x13 x14 x15 x16 x17 x18 x19 x20 x21 x22 x23 x24 x25 x26 x27 x28 x29 x30 x31 x32 x33 x34 x35 x36 x37 x38 x39 x40 x41 x42 x43 x44 x45 x46 x47 : AV) : aclear (HK 42) lp42_7 [x0,x1,x2,x3,x4,x5,x6,x7,x8,x9,x10,x11,x12,x13,x14,x15,x16,x17,x18,x19,x20,x21,x22,x23,x24,x25,x26,x27,x28,x29,x30,x31,x32,x33,x34,x35,x36,x37,x38,x39,x40,x41,x42,x43,x44,x45,x46,x47] = C42_7 x3 x4 x5 x6 := by kernel_rfl
noncomputable def lp42_4 : Code := (.seq (.seq (.region 4 (rg f42 4) false) (.cond (.tmp 13) .skip (.exit 0))) (.seq (.block 1 (.seq (.region 6 (rg f42 6) false) (.block 2 (.loop lp42_7)))) (.region 5 (rg f42 5) false)))
def C42_4 (x3 x4 x5 : AV) : List AV := [.top,.top,.top,x3,x4,x5,.top,.top,.top,.top,.top,.top,.top,.top,.top,.top,.top,.top,.top,.top,.top,.top,.top,.top,.top,.top,.top,.top,.top,.top,.top,.top,.top,.top,.top,.top,.top,.top,.top,.top,.top,.top,.top,.top,.top,.top,.top,.top]
theorem cl42_4 (x0 x1 x2 x3 x4 x5 x6 x7 x8 x9 x10 x11 x12 x13 x14 x15 x16 x17 x18 x19 x20 x21 x22 x23 x24 x25 x26 x27 x28 x29 x30 x31 x32 x33 x34 x35 x36 x37 x38 x39 x40 x41 x42 x43 x44 x45 x46 x47 : AV) : aclear (HK 42) lp42_4 [x0,x1,x2,x3,x4,x5,x6,x7,x8,x9,x10,x11,x12,x13,x14,x15,x16,x17,x18,x19,x20,x21,x22,x23,x24,x25,x26,x27,x28,x29,x30,x31,x32,x33,x34,x35,x36,x37,x38,x39,x40,x41,x42,x43,x44,x45,x46,x47] = C42_4 x3 x4 x5 := by kernel_rfl
noncomputable def cd42 : Code := (.seq (.region 0 (rg f42 0) false) (.seq (.region 1 (rg f42 1) false) (.seq (.region 2 (rg f42 2) false) (.seq (.seq (.region 3 (rg f42 3) false) (.block 0 (.loop lp42_4))) (.seq (.region 12 (rg f42 12) false) .ret)))))
theorem ent42 (n : Nat) (a0 : AV) (h : AH) : X (n + 1) (.func 42) [a0] h = nrm h (fin1 (arun prog (HK 42) 42 (X n) n none cd42 [a0,.tup [],.tup [],.tup [],.tup [],.tup [],.tup [],.tup [],.tup [],.tup [],.tup [],.tup [],.tup [],.tup [],.tup [],.tup [],.tup [],.tup [],.tup [],.tup [],.tup [],.tup [],.tup [],.tup [],.tup [],.tup [],.tup [],.tup [],.tup [],.tup [],.tup [],.tup [],.tup [],.tup [],.tup [],.tup [],.tup [],.tup [],.tup [],.tup [],.tup [],.tup [],.tup [],.tup [],.tup [],.tup [],.tup [],.tup []] h) 2) := by kernel_rfl
section
variable (K : Hint) (fid : FuncId) (call : ACall) (lf : Nat) (rd : Option Nat) (fr : List AV) (h : AH)
end
theorem R42 (K : Hint) (i : FuncId) (c : ACall) (n : Nat) (d : Option Nat) (f : List AV) (h : AH) :
 arun prog K i c n d (.region 0 (rg f42 0) false) f h = regR (aops prog c (rg f42 0) [0,1] f h) ∧
 arun prog K i c n d (.region 1 (rg f42 1) false) f h = regR (aops prog c (rg f42 1) [0] f h) ∧
 arun prog K i c n d (.region 2 (rg f42 2) false) f h = regR (aops prog c (rg f42 2) [0,1,2] f h) ∧
 arun prog K i c n d (.region 3 (rg f42 3) false) f h = regR (aops prog c (rg f42 3) [0] f h) ∧
 arun prog K i c n d (.region 4 (rg f42 4) false) f h = regR (aops prog c (rg f42 4) [0,1,2,3] f h) ∧
 arun prog K i c n d (.region 6 (rg f42 6) false) f h = regR (aops prog c (rg f42 6) [0] f h) ∧
 arun prog K i c n d (.region 7 (rg f42 7) false) f h = regR (aops prog c (rg f42 7) [0,1,2,3,4,5,6,7] f h) ∧
 arun prog K i c n d (.region 9 (rg f42 9) false) f h = regR (aops prog c (rg f42 9) [0,1,2,3,4,5,6,7,8,9] f h) ∧
 arun prog K i c n d (.region 10 (rg f42 10) false) f h = regR (aops prog c (rg f42 10) [0,1,2,3,4,5,6,7] f h) ∧
 arun prog K i c n d (.region 11 (rg f42 11) false) f h = regR (aops prog c (rg f42 11) [0,1,2,3,4,5] f h) ∧
 arun prog K i c n d (.region 8 (rg f42 8) false) f h = regR (aops prog c (rg f42 8) [0,1,2] f h) ∧
 arun prog K i c n d (.region 5 (rg f42 5) false) f h = regR (aops prog c (rg f42 5) [0,1,2] f h) ∧
 arun prog K i c n d (.region 12 (rg f42 12) false) f h = regR (aops prog c (rg f42 12) [0,1] f h) := by
  repeat' apply And.intro
  all_goals kernel_rfl
theorem S42 (c : ACall) (f : List AV) (h : AH) :
 astep prog c (rg f42 0) 0 f h = heapS (boxV (f.getD 0 .top) h) f 1 ∧
 astep prog c (rg f42 0) 1 f h = pureS (some (.nilSl)) f 2 h ∧
 astep prog c (rg f42 1) 0 f h = pureS (some (.nilSl)) f 3 h ∧
 astep prog c (rg f42 2) 0 f h = pureS (ldV prog 49 (f.getD 1 .top) h) f 8 h ∧
 astep prog c (rg f42 2) 1 f h = heapS (callV c (.fn (.func 31) [] []) [(f.getD 8 .top)] h) f 9 ∧
 astep prog c (rg f42 2) 2 f h = pureS (some (f.getD 9 .top)) f 4 h ∧
 astep prog c (rg f42 3) 0 f h = pureS (some (.int .i64 0)) f 5 h ∧
 astep prog c (rg f42 4) 0 f h = pureS (some (f.getD 5 .top)) f 10 h ∧
 astep prog c (rg f42 4) 1 f h = pureS (some (f.getD 4 .top)) f 11 h ∧
 astep prog c (rg f42 4) 2 f h = pureS (lenV (alen prog 47 (f.getD 11 .top))) f 12 h ∧
 astep prog c (rg f42 4) 3 f h = pureS (abin prog .lss 3 (.tmp 10) (.tmp 12) (f.getD 10 .top) (f.getD 12 .top)) f 13 h ∧
 astep prog c (rg f42 6) 0 f h = pureS (some (.int .i64 0)) f 6 h ∧
 astep prog c (rg f42 7) 0 f h = pureS (some (f.getD 6 .top)) f 16 h ∧
 astep prog c (rg f42 7) 1 f h = pureS (some (f.getD 4 .top)) f 17 h ∧
 astep prog c (rg f42 7) 2 f h = pureS (some (f.getD 5 .top)) f 18 h ∧
 astep prog c (rg f42 7) 3 f h = pureS (aindexAt prog 47 (f.getD 17 .top) (f.getD 18 .top)) f 19 h ∧
 astep prog c (rg f42 7) 4 f h = pureS (afieldAt prog 49 (f.getD 19 .top) 7) f 20 h ∧
 astep prog c (rg f42 7) 5 f h = pureS (ldV prog 45 (f.getD 20 .top) h) f 21 h ∧
 astep prog c (rg f42 7) 6 f h = pureS (lenV (alen prog 45 (f.getD 21 .top))) f 22 h ∧
 astep prog c (rg f42 7) 7 f h = pureS (abin prog .lss 3 (.tmp 16) (.tmp 22) (f.getD 16 .top) (f.getD 22 .top)) f 23 h ∧
 astep prog c (rg f42 9) 0 f h = pureS (some (f.getD 4 .top)) f 26 h ∧
 astep prog c (rg f42 9) 1 f h = pureS (some (f.getD 5 .top)) f 27 h ∧
 astep prog c (rg f42 9) 2 f h = pureS (aindexAt prog 47 (f.getD 26 .top) (f.getD 27 .top)) f 28 h ∧
 astep prog c (rg f42 9) 3 f h = pureS (afieldAt prog 49 (f.getD 28 .top) 7) f 29 h ∧
 astep prog c (rg f42 9) 4 f h = pureS (ldV prog 45 (f.getD 29 .top) h) f 30 h ∧
 astep prog c (rg f42 9) 5 f h = pureS (some (f.getD 6 .top)) f 31 h ∧
 astep prog c (rg f42 9) 6 f h = pureS (aindexAt prog 45 (f.getD 30 .top) (f.getD 31 .top)) f 32 h ∧
 astep prog c (rg f42 9) 7 f h = pureS (ldV prog 73 (f.getD 32 .top) h) f 33 h ∧
 astep prog c (rg f42 9) 8 f h = heapS (newV prog 73 h) f 7 ∧
 astep prog c (rg f42 9) 9 f h = heapN (stV prog 73 (f.getD 7 .top) (f.getD 33 .top) h) f ∧
 astep prog c (rg f42 10) 0 f h = pureS (afieldAt prog 73 (f.getD 7 .top) 1) f 34 h ∧
 astep prog c (rg f42 10) 1 f h = pureS (ldV prog 3 (f.getD 34 .top) h) f 35 h ∧
 astep prog c (rg f42 10) 2 f h = pureS (abin prog .eql 3 (.tmp 35) (.const (.int .i64 12)) (f.getD 35 .top) (.int .i64 12)) f 36 h ∧
 astep prog c (rg f42 10) 3 f h = pureS (some (f.getD 36 .top)) f 37 h ∧
 astep prog c (rg f42 10) 4 f h = gdS (f.getD 37 .top) false (some (f.set 38 (.tup []),h)) (pureS (afieldAt prog 73 (f.getD 7 .top) 1) f 38 h) ∧
 astep prog c (rg f42 10) 5 f h = gdS (f.getD 37 .top) false (some (f.set 39 (.tup []),h)) (pureS (ldV prog 3 (f.getD 38 .top) h) f 39 h) ∧
 astep prog c (rg f42 10) 6 f h = gdS (f.getD 37 .top) false (some (f.set 40 (.tup []),h)) (pureS (abin prog .eql 3 (.tmp 39) (.const (.int .i64 13)) (f.getD 39 .top) (.int .i64 13)) f 40 h) ∧
 astep prog c (rg f42 10) 7 f h = pureS (pickV (f.getD 37 .top) (.bool true) (f.getD 40 .top)) f 41 h ∧
 astep prog c (rg f42 11) 0 f h = pureS (some (f.getD 3 .top)) f 42 h ∧
 astep prog c (rg f42 11) 1 f h = pureS (afieldAt prog 73 (f.getD 7 .top) 3) f 43 h ∧
 astep prog c (rg f42 11) 2 f h = pureS (ldV prog 9 (f.getD 43 .top) h) f 44 h ∧
 astep prog c (rg f42 11) 3 f h = heapS (bslV prog 40 1 [(0,(f.getD 44 .top))] h) f 45 ∧
 astep prog c (rg f42 11) 4 f h = heapS (aappend prog 40 40 (f.getD 42 .top) (f.getD 45 .top) h) f 46 ∧
 astep prog c (rg f42 11) 5 f h = pureS (some (f.getD 46 .top)) f 3 h ∧
 astep prog c (rg f42 8) 0 f h = pureS (some (f.getD 6 .top)) f 24 h ∧
 astep prog c (rg f42 8) 1 f h = pureS (abin prog .add 3 (.tmp 24) (.const (.int .i64 1)) (f.getD 24 .top) (.int .i64 1)) f 25 h ∧
 astep prog c (rg f42 8) 2 f h = pureS (some (f.getD 25 .top)) f 6 h ∧
 astep prog c (rg f42 5) 0 f h = pureS (some (f.getD 5 .top)) f 14 h ∧
 astep prog c (rg f42 5) 1 f h = pureS (abin prog .add 3 (.tmp 14) (.const (.int .i64 1)) (f.getD 14 .top) (.int .i64 1)) f 15 h ∧
 astep prog c (rg f42 5) 2 f h = pureS (some (f.getD 15 .top)) f 5 h ∧
 astep prog c (rg f42 12) 0 f h = pureS (some (f.getD 3 .top)) f 47 h ∧
 astep prog c (rg f42 12) 1 f h = pureS (some (f.getD 47 .top)) f 2 h := by
  repeat' apply And.intro
  all_goals kernel_rfl

end Go.Proofs.Ytgnacecplaemlaa
namespace Go.Proofs.Ytgnacecplaemlaa
open AI Try
set_option linter.unusedVariables false
/-! ### 43: conch/conchref42.Deep -/
noncomputable def lp43_4 : Code := (.seq (.seq (.region 4 (rg f43 4) false) (.cond (.tmp 11) .skip (.exit 0))) (.seq (.block 1 (.region 6 (rg f43 6) false)) (.region 5 (rg f43 5) false)))
def C43_4 (x3 x4 x5 : AV) : List AV := [.top,.top,.top,x3,x4,x5,.top,.top,.top,.top,.top,.top,.top,.top,.top,.top,.top,.top,.top,.top,.top,.top,.top]
theorem cl43_4 (x0 x1 x2 x3 x4 x5 x6 x7 x8 x9 x10 x11 x12 x13 x14 x15 x16 x17 x18 x19 x20 x21 x22 : AV) : aclear (HK 43) lp43_4 [x0,x1,x2,x3,x4,x5,x6,x7,x8,x9,x10,x11,x12,x13,x14,x15,x16,x17,x18,x19,x20,x21,x22] = C43_4 x3 x4 x5 := by kernel_rfl
noncomputable def cd43 : Code := (.seq (.region 0 (rg f43 0) false) (.seq (.region 1 (rg f43 1) false) (.seq (.region 2 (rg f43 2) false) (.seq (.seq (.region 3 (rg f43 3) false) (.block 0 (.loop lp43_4))) (.seq (.region 7 (rg f43 7) false) .ret)))))
theorem ent43 (n : Nat) (a0 : AV) (h : AH) : X (n + 1) (.func 43) [a0] h = nrm h (fin1 (arun prog (HK 43) 43 (X n) n none cd43 [a0,.tup [],.tup [],.tup [],.tup [],.tup [],.tup [],.tup [],.tup [],.tup [],.tup [],.tup [],.tup [],.tup [],.tup [],.tup [],.tup [],.tup [],.tup [],.tup [],.tup [],.tup [],.tup []] h) 2) := by kernel_rfl
section
variable (K : Hint) (fid : FuncId) (call : ACall) (lf : Nat) (rd : Option Nat) (fr : List AV) (h : AH)
end
theorem R43 (K : Hint) (i : FuncId) (c : ACall) (n : Nat) (d : Option Nat) (f : List AV) (h : AH) :
 arun prog K i c n d (.region 0 (rg f43 0) false) f h = regR (aops prog c (rg f43 0) [0,1] f h) ∧
 arun prog K i c n d (.region 1 (rg f43 1) false) f h = regR (aops prog c (rg f43 1) [0] f h) ∧
 arun prog K i c n d (.region 2 (rg f43 2) false) f h = regR (aops prog c (rg f43 2) [0,1,2] f h) ∧
 arun prog K i c n d (.region 3 (rg f43 3) false) f h = regR (aops prog c (rg f43 3) [0] f h) ∧
 arun prog K i c n d (.region 4 (rg f43 4) false) f h = regR (aops prog c (rg f43 4) [0,1,2,3] f h) ∧
 arun prog K i c n d (.region 6 (rg f43 6) false) f h = regR (aops prog c (rg f43 6) [0,1,2,3,4,5,6,7] f h) ∧
 arun prog K i c n d (.region 5 (rg f43 5) false) f h = regR (aops prog c (rg f43 5) [0,1,2] f h) ∧
 arun prog K i c n d (.region 7 (rg f43 7) false) f h = regR (aops prog c (rg f43 7) [0,1,2] f h) := by
  repeat' apply And.intro
  all_goals kernel_rfl
theorem S43 (c : ACall) (f : List AV) (h : AH) :
 astep prog c (rg f43 0) 0 f h = heapS (boxV (f.getD 0 .top) h) f 1 ∧
 astep prog c (rg f43 0) 1 f h = pureS (some (.int .i64 0)) f 2 h ∧
 astep prog c (rg f43 1) 0 f h = pureS (some (.int .i64 0)) f 3 h ∧
 astep prog c (rg f43 2) 0 f h = pureS (ldV prog 49 (f.getD 1 .top) h) f 6 h ∧
 astep prog c (rg f43 2) 1 f h = heapS (callV c (.fn (.func 55) [] []) [(f.getD 6 .top)] h) f 7 ∧
 astep prog c (rg f43 2) 2 f h = pureS (some (f.getD 7 .top)) f 4 h ∧
 astep prog c (rg f43 3) 0 f h = pureS (some (.int .i64 0)) f 5 h ∧
 astep prog c (rg f43 4) 0 f h = pureS (some (f.getD 5 .top)) f 8 h ∧
 astep prog c (rg f43 4) 1 f h = pureS (some (f.getD 4 .top)) f 9 h ∧
 astep prog c (rg f43 4) 2 f h = pureS (lenV (alen prog 47 (f.getD 9 .top))) f 10 h ∧
 astep prog c (rg f43 4) 3 f h = pureS (abin prog .lss 3 (.tmp 8) (.tmp 10) (f.getD 8 .top) (f.getD 10 .top)) f 11 h ∧
 astep prog c (rg f43 6) 0 f h = pureS (some (f.getD 3 .top)) f 14 h ∧
 astep prog c (rg f43 6) 1 f h = pureS (some (f.getD 4 .top)) f 15 h ∧
 astep prog c (rg f43 6) 2 f h = pureS (some (f.getD 5 .top)) f 16 h ∧
 astep prog c (rg f43 6) 3 f h = pureS (aindexAt prog 47 (f.getD 15 .top) (f.getD 16 .top)) f 17 h ∧
 astep prog c (rg f43 6) 4 f h = pureS (ldV prog 49 (f.getD 17 .top) h) f 18 h ∧
 astep prog c (rg f43 6) 5 f h = heapS (callV c (.fn (.func 43) [] []) [(f.getD 18 .top)] h) f 19 ∧
 astep prog c (rg f43 6) 6 f h = pureS (maxV [(f.getD 14 .top),(f.getD 19 .top)]) f 20 h ∧
 astep prog c (rg f43 6) 7 f h = pureS (some (f.getD 20 .top)) f 3 h ∧
 astep prog c (rg f43 5) 0 f h = pureS (some (f.getD 5 .top)) f 12 h ∧
 astep prog c (rg f43 5) 1 f h = pureS (abin prog .add 3 (.tmp 12) (.const (.int .i64 1)) (f.getD 12 .top) (.int .i64 1)) f 13 h ∧
 astep prog c (rg f43 5) 2 f h = pureS (some (f.getD 13 .top)) f 5 h ∧
 astep prog c (rg f43 7) 0 f h = pureS (some (f.getD 3 .top)) f 21 h ∧
 astep prog c (rg f43 7) 1 f h = pureS (abin prog .add 3 (.const (.int .i64 1)) (.tmp 21) (.int .i64 1) (f.getD 21 .top)) f 22 h ∧
 astep prog c (rg f43 7) 2 f h = pureS (some (f.getD 22 .top)) f 2 h := by
  repeat' apply And.intro
  all_goals kernel_rfl

end Go.Proofs.Ytgnacecplaemlaa
namespace Go.Proofs.Ytgnacecplaemlaa
open AI Try
set_option linter.unusedVariables false
/-! ### 55: conch/conchref42.below -/
noncomputable def lp55_8 : Code := (.seq (.seq (.region 8 (rg f55 8) false) (.cond (.tmp 26) .skip (.exit 2))) (.seq (.block 3 (.region 10 (rg f55 10) false)) (.region 9 (rg f55 9) false)))
def C55_8 (x1 x3 x4 x5 x6 x7 : AV) : List AV := [.top,x1,.top,x3,x4,x5,x6,x7,.top,.top,.top,.top,.top,.top,.top,.top,.top,.top,.top,.top,.top,.top,.top,.top,.top,.top,.top,.top,.top,.top,.top,.top,.top,.top,.top,.top,.top,.top,.top,.top,.top,.top,.top,.top,.top,.top,.top,.top,.top,.top,.top,.top,.top,.top,.top]
theorem cl55_8 (x0 x1 x2 x3 x4 x5 x6 x7 x8 x9 x10 x11 x12 x13 x14 x15 x16 x17 x18 x19 x20 x21 x22 x23 x24 x25 x26 x27 x28 x29 x30 x31 x32 x33 x34 x35 x36 x37 x38 x39 x40 x41 x42 x43 x44 x45 x46 x47 x48 x49 x50 x51 x52 x53 x54 : AV) : aclear (HK 55) lp55_8 [x0,x1,x2,x3,x4,x5,x6,x7,x8,x9,x10,x11,x12,x13,x14,x15,x16,x17,x18,x19,x20,x21,x22,x23,x24,x25,x26,x27,x28,x29,x30,x31,x32,x33,x34,x35,x36,x37,x38,x39,x40,x41,x42,x43,x44,x45,x46,x47,x48,x49,x50,x51,x52,x53,x54] = C55_8 x1 x3 x4 x5 x6 x7 := by kernel_rfl
noncomputable def lp55_4 : Code := (.seq (.seq (.region 4 (rg f55 4) false) (.cond (.tmp 14) .skip (.exit 0))) (.seq (.block 1 (.seq (.region 6 (rg f55 6) false) (.seq (.region 7 (rg f55 7) false) (.block 2 (.loop lp55_8))))) (.region 5 (rg f55 5) false)))
def C55_4 (x1 x3 x4 x5 : AV) : List AV := [.top,x1,.top,x3,x4,x5,.top,.top,.top,.top,.top,.top,.top,.top,.top,.top,.top,.top,.top,.top,.top,.top,.top,.top,.top,.top,.top,.top,.top,.top,.top,.top,.top,.top,.top,.top,.top,.top,.top,.top,.top,.top,.top,.top,.top,.top,.top,.top,.top,.top,.top,.top,.top,.top,.top]
theorem cl55_4 (x0 x1 x2 x3 x4 x5 x6 x7 x8 x9 x10 x11 x12 x13 x14 x15 x16 x17 x18 x19 x20 x21 x22 x23 x24 x25 x26 x27 x28 x29 x30 x31 x32 x33 x34 x35 x36 x37 x38 x39 x40 x41 x42 x43 x44 x45 x46 x47 x48 x49 x50 x51 x52 x53 x54 : AV) : aclear (HK 55) lp55_4 [x0,x1,x2,x3,x4,x5,x6,x7,x8,x9,x10,x11,x12,x13,x14,x15,x16,x17,x18,x19,x20,x21,x22,x23,x24,x25,x26,x27,x28,x29,x30,x31,x32,x33,x34,x35,x36,x37,x38,x39,x40,x41,x42,x43,x44,x45,x46,x47,x48,x49,x50,x51,x52,x53,x54] = C55_4 x1 x3 x4 x5 := by kernel_rfl
noncomputable def lp55_12 : Code := (.seq (.seq (.region 12 (rg f55 12) false) (.cond (.tmp 39) .skip (.exit 4))) (.seq (.block 5 (.region 14 (rg f55 14) false)) (.region 13 (rg f55 13) false)))
def C55_12 (x1 x3 x8 : AV) : List AV := [.top,x1,.top,x3,.top,.top,.top,.top,x8,.top,.top,.top,.top,.top,.top,.top,.top,.top,.top,.top,.top,.top,.top,.top,.top,.top,.top,.top,.top,.top,.top,.top,.top,.top,.top,.top,.top,.top,.top,.top,.top,.top,.top,.top,.top,.top,.top,.top,.top,.top,.top,.top,.top,.top,.top]
theorem cl55_12 (x0 x1 x2 x3 x4 x5 x6 x7 x8 x9 x10 x11 x12 x13 x14 x15 x16 x17 x18 x19 x20 x21 x22 x23 x24 x25 x26 x27 x28 x29 x30 x31 x32 x33 x34 x35 x36 x37 x38 x39 x40 x41 x42 x43 x44 x45 x46 x47 x48 x49 x50 x51 x52 x53 x54 : AV) : aclear (HK 55) lp55_12 [x0,x1,x2,x3,x4,x5,x6,x7,x8,x9,x10,x11,x12,x13,x14,x15,x16,x17,x18,x19,x20,x21,x22,x23,x24,x25,x26,x27,x28,x29,x30,x31,x32,x33,x34,x35,x36,x37,x38,x39,x40,x41,x42,x43,x44,x45,x46,x47,x48,x49,x50,x51,x52,x53,x54] = C55_12 x1 x3 x8 := by kernel_rfl
noncomputable def cd55 : Code := (.seq (.region 0 (rg f55 0) false) (.seq (.region 1 (rg f55 1) false) (.seq (.region 2 (rg f55 2) false) (.seq (.seq (.region 3 (rg f55 3) false) (.block 0 (.loop lp55_4))) (.seq (.seq (.region 11 (rg f55 11) false) (.block 4 (.loop lp55_12))) (.seq (.region 15 (rg f55 15) false) .ret))))))
theorem ent55 (n : Nat) (a0 : AV) (h : AH) : X (n + 1) (.func 55) [a0] h = nrm h (fin1 (arun prog (HK 55) 55 (X n) n none cd55 [a0,.tup [],.tup [],.tup [],.tup [],.tup [],.tup [],.tup [],.tup [],.tup [],.tup [],.tup [],.tup [],.tup [],.tup [],.tup [],.tup [],.tup [],.tup [],.tup [],.tup [],.tup [],.tup [],.tup [],.tup [],.tup [],.tup [],.tup [],.tup [],.tup [],.tup [],.tup [],.tup [],.tup [],.tup [],.tup [],.tup [],.tup [],.tup [],.tup [],.tup [],.tup [],.tup [],.tup [],.tup [],.tup [],.tup [],.tup [],.tup [],.tup [],.tup [],.tup [],.tup [],.tup [],.tup []] h) 2) := by kernel_rfl
section
variable (K : Hint) (fid : FuncId) (call : ACall) (lf : Nat) (rd : Option Nat) (fr : List AV) (h : AH)
end
theorem R55 (K : Hint) (i : FuncId) (c : ACall) (n : Nat) (d : Option Nat) (f : List AV) (h : AH) :
 arun prog K i c n d (.region 0 (rg f55 0) false) f h = regR (aops prog c (rg f55 0) [0,1] f h) ∧
 arun prog K i c n d (.region 1 (rg f55 1) false) f h = regR (aops prog c (rg f55 1) [0] f h) ∧
 arun prog K i c n d (.region 2 (rg f55 2) false) f h = regR (aops prog c (rg f55 2) [0,1,2] f h) ∧
 arun prog K i c n d (.region 3 (rg f55 3) false) f h = regR (aops prog c (rg f55 3) [0] f h) ∧
 arun prog K i c n d (.region 4 (rg f55 4) false) f h = regR (aops prog c (rg f55 4) [0,1,2,3] f h) ∧
 arun prog K i c n d (.region 6 (rg f55 6) false) f h = regR (aops prog c (rg f55 6) [0,1,2,3,4,5,6] f h) ∧
 arun prog K i c n d (.region 7 (rg f55 7) false) f h = regR (aops prog c (rg f55 7) [0] f h) ∧
 arun prog K i c n d (.region 8 (rg f55 8) false) f h = regR (aops prog c (rg f55 8) [0,1,2,3] f h) ∧
 arun prog K i c n d (.region 10 (rg f55 10) false) f h = regR (aops prog c (rg f55 10) [0,1,2,3,4,5,6] f h) ∧
 arun prog K i c n d (.region 9 (rg f55 9) false) f h = regR (aops prog c (rg f55 9) [0,1,2] f h) ∧
 arun prog K i c n d (.region 5 (rg f55 5) false) f h = regR (aops prog c (rg f55 5) [0,1,2] f h) ∧
 arun prog K i c n d (.region 11 (rg f55 11) false) f h = regR (aops prog c (rg f55 11) [0] f h) ∧
 arun prog K i c n d (.region 12 (rg f55 12) false) f h = regR (aops prog c (rg f55 12) [0,1,2,3,4] f h) ∧
 arun prog K i c n d (.region 14 (rg f55 14) false) f h = regR (aops prog c (rg f55 14) [0,1,2,3,4,5,6,7,8,9] f h) ∧
 arun prog K i c n d (.region 13 (rg f55 13) false) f h = regR (aops prog c (rg f55 13) [0,1,2] f h) ∧
 arun prog K i c n d (.region 15 (rg f55 15) false) f h = regR (aops prog c (rg f55 15) [0,1,2,3,4] f h) := by
  repeat' apply And.intro
  all_goals kernel_rfl
theorem S55 (c : ACall) (f : List AV) (h : AH) :
 astep prog c (rg f55 0) 0 f h = heapS (boxV (f.getD 0 .top) h) f 1 ∧
 astep prog c (rg f55 0) 1 f h = pureS (some (.nilSl)) f 2 h ∧
 astep prog c (rg f55 1) 0 f h = pureS (some (.nilSl)) f 3 h ∧
 astep prog c (rg f55 2) 0 f h = pureS (ldV prog 49 (f.getD 1 .top) h) f 9 h ∧
 astep prog c (rg f55 2) 1 f h = heapS (callV c (.fn (.func 58) [] []) [(f.getD 9 .top)] h) f 10 ∧
 astep prog c (rg f55 2) 2 f h = pureS (some (f.getD 10 .top)) f 4 h ∧
 astep prog c (rg f55 3) 0 f h = pureS (some (.int .i64 0)) f 5 h ∧
 astep prog c (rg f55 4) 0 f h = pureS (some (f.getD 5 .top)) f 11 h ∧
 astep prog c (rg f55 4) 1 f h = pureS (some (f.getD 4 .top)) f 12 h ∧
 astep prog c (rg f55 4) 2 f h = pureS (lenV (alen prog 44 (f.getD 12 .top))) f 13 h ∧
 astep prog c (rg f55 4) 3 f h = pureS (abin prog .lss 3 (.tmp 11) (.tmp 13) (f.getD 11 .top) (f.getD 13 .top)) f 14 h ∧
 astep prog c (rg f55 6) 0 f h = pureS (some (f.getD 4 .top)) f 17 h ∧
 astep prog c (rg f55 6) 1 f h = pureS (some (f.getD 5 .top)) f 18 h ∧
 astep prog c (rg f55 6) 2 f h = pureS (aindexAt prog 44 (f.getD 17 .top) (f.getD 18 .top)) f 19 h ∧
 astep prog c (rg f55 6) 3 f h = pureS (afieldAt prog 60 (f.getD 19 .top) 0) f 20 h ∧
 astep prog c (rg f55 6) 4 f h = pureS (ldV prog 58 (f.getD 20 .top) h) f 21 h ∧
 astep prog c (rg f55 6) 5 f h = heapS (callV c (.fn (.func 67) [] []) [(f.getD 21 .top)] h) f 22 ∧
 astep prog c (rg f55 6) 6 f h = pureS (some (f.getD 22 .top)) f 6 h ∧
 astep prog c (rg f55 7) 0 f h = pureS (some (.int .i64 0)) f 7 h ∧
 astep prog c (rg f55 8) 0 f h = pureS (some (f.getD 7 .top)) f 23 h ∧
 astep prog c (rg f55 8) 1 f h = pureS (some (f.getD 6 .top)) f 24 h ∧
 astep prog c (rg f55 8) 2 f h = pureS (lenV (alen prog 89 (f.getD 24 .top))) f 25 h ∧
 astep prog c (rg f55 8) 3 f h = pureS (abin prog .lss 3 (.tmp 23) (.tmp 25) (f.getD 23 .top) (f.getD 25 .top)) f 26 h ∧
 astep prog c (rg f55 10) 0 f h = pureS (some (f.getD 3 .top)) f 29 h ∧
 astep prog c (rg f55 10) 1 f h = pureS (some (f.getD 6 .top)) f 30 h ∧
 astep prog c (rg f55 10) 2 f h = pureS (some (f.getD 7 .top)) f 31 h ∧
 astep prog c (rg f55 10) 3 f h = pureS (aindexAt prog 89 (f.getD 30 .top) (f.getD 31 .top)) f 32 h ∧
 astep prog c (rg f55 10) 4 f h = pureS (ldV prog 47 (f.getD 32 .top) h) f 33 h ∧
 astep prog c (rg f55 10) 5 f h = heapS (aappend prog 47 47 (f.getD 29 .top) (f.getD 33 .top) h) f 34 ∧
 astep prog c (rg f55 10) 6 f h = pureS (some (f.getD 34 .top)) f 3 h ∧
 astep prog c (rg f55 9) 0 f h = pureS (some (f.getD 7 .top)) f 27 h ∧
 astep prog c (rg f55 9) 1 f h = pureS (abin prog .add 3 (.tmp 27) (.const (.int .i64 1)) (f.getD 27 .top) (.int .i64 1)) f 28 h ∧
 astep prog c (rg f55 9) 2 f h = pureS (some (f.getD 28 .top)) f 7 h ∧
 astep prog c (rg f55 5) 0 f h = pureS (some (f.getD 5 .top)) f 15 h ∧
 astep prog c (rg f55 5) 1 f h = pureS (abin prog .add 3 (.tmp 15) (.const (.int .i64 1)) (f.getD 15 .top) (.int .i64 1)) f 16 h ∧
 astep prog c (rg f55 5) 2 f h = pureS (some (f.getD 16 .top)) f 5 h ∧
 astep prog c (rg f55 11) 0 f h = pureS (some (.int .i64 0)) f 8 h ∧
 astep prog c (rg f55 12) 0 f h = pureS (some (f.getD 8 .top)) f 35 h ∧
 astep prog c (rg f55 12) 1 f h = pureS (afieldAt prog 49 (f.getD 1 .top) 8) f 36 h ∧
 astep prog c (rg f55 12) 2 f h = pureS (ldV prog 46 (f.getD 36 .top) h) f 37 h ∧
 astep prog c (rg f55 12) 3 f h = pureS (lenV (alen prog 46 (f.getD 37 .top))) f 38 h ∧
 astep prog c (rg f55 12) 4 f h = pureS (abin prog .lss 3 (.tmp 35) (.tmp 38) (f.getD 35 .top) (f.getD 38 .top)) f 39 h ∧
 astep prog c (rg f55 14) 0 f h = pureS (some (f.getD 3 .top)) f 42 h ∧
 astep prog c (rg f55 14) 1 f h = pureS (afieldAt prog 49 (f.getD 1 .top) 8) f 43 h ∧
 astep prog c (rg f55 14) 2 f h = pureS (ldV prog 46 (f.getD 43 .top) h) f 44 h ∧
 astep prog c (rg f55 14) 3 f h = pureS (some (f.getD 8 .top)) f 45 h ∧
 astep prog c (rg f55 14) 4 f h = pureS (aindexAt prog 46 (f.getD 44 .top) (f.getD 45 .top)) f 46 h ∧
 astep prog c (rg f55 14) 5 f h = pureS (afieldAt prog 76 (f.getD 46 .top) 1) f 47 h ∧
 astep prog c (rg f55 14) 6 f h = pureS (ldV prog 49 (f.getD 47 .top) h) f 48 h ∧
 astep prog c (rg f55 14) 7 f h = heapS (bslV prog 47 1 [(0,(f.getD 48 .top))] h) f 49 ∧
 astep prog c (rg f55 14) 8 f h = heapS (aappend prog 47 47 (f.getD 42 .top) (f.getD 49 .top) h) f 50 ∧
 astep prog c (rg f55 14) 9 f h = pureS (some (f.getD 50 .top)) f 3 h ∧
 astep prog c (rg f55 13) 0 f h = pureS (some (f.getD 8 .top)) f 40 h ∧
 astep prog c (rg f55 13) 1 f h = pureS (abin prog .add 3 (.tmp 40) (.const (.int .i64 1)) (f.getD 40 .top) (.int .i64 1)) f 41 h ∧
 astep prog c (rg f55 13) 2 f h = pureS (some (f.getD 41 .top)) f 8 h ∧
 astep prog c (rg f55 15) 0 f h = pureS (some (f.getD 3 .top)) f 51 h ∧
 astep prog c (rg f55 15) 1 f h = pureS (afieldAt prog 49 (f.getD 1 .top) 9) f 52 h ∧
 astep prog c (rg f55 15) 2 f h = pureS (ldV prog 47 (f.getD 52 .top) h) f 53 h ∧
 astep prog c (rg f55 15) 3 f h = heapS (aappend prog 47 47 (f.getD 51 .top) (f.getD 53 .top) h) f 54 ∧
 astep prog c (rg f55 15) 4 f h = pureS (some (f.getD 54 .top)) f 2 h := by
  repeat' apply And.intro
  all_goals kernel_rfl

end Go.Proofs.Ytgnacecplaemlaa
