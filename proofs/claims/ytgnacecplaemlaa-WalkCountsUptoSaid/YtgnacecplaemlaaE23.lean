/-
  The interpreter at this program: hints, which calls are brought to the short form, what is known of it.
-/
import Derived.Test.YtgnacecplaemlaaE21
namespace Go.Proofs.Ytgnacecplaemlaa
open AI
/-- The hints: the slots that are live at the heads of loops; the steps of open regions that leave the heap as it is (1000000 and the number). -/
def HK : FuncId → Hint
  | 25, 3 => some [1, 3, 4]
  | 25, 7 => some [1, 3, 5]
  | 25, 1000001 => some [1, 2, 3, 4, 5, 6, 7, 8, 9, 10, 11, 12, 13, 14, 15, 16, 17, 18, 19]
  | 25, 1000005 => some [3, 4, 5, 6, 7, 8, 9, 10, 11, 12, 13, 14, 15, 16, 17, 18, 19, 20, 21, 22, 23, 24, 25, 26]
  | 25, 1000009 => some [8, 9, 10, 11, 12, 13, 14]
  | 27, 3 => some [1, 3, 4]
  | 27, 7 => some [1, 3, 5]
  | 27, 1000001 => some [2, 3, 4, 5, 6, 7, 8]
  | 27, 1000009 => some [7, 8, 9, 10, 11, 12, 13]
  | 29, 1000004 => some [0, 1, 2]
  | 46, 3 => some [0, 3, 4]
  | 47, 3 => some [0, 3, 4]
  | 48, 4 => some [3, 4, 5]
  | 49, 3 => some [0, 3, 4]
  | 50, 3 => some [0, 3, 4]
  | 50, 7 => some [0, 3, 4, 5, 6]
  | 57, 3 => some [1, 3, 15, 16, 17]
  | 57, 8 => some [3, 28, 29, 30]
  | 65, 3 => some [0, 3, 4]
  | 65, 1000005 => some [5, 6, 7, 8, 9, 10, 11, 12, 13, 14, 15, 16, 17, 18, 19, 20, 21, 22, 23, 24, 25, 26, 27, 28, 29]
  | 66, 3 => some [0, 3, 4]
  | 67, 3 => some [0, 3, 4]
  | 69, 1 => some [0, 1, 14, 15, 16]
  | 69, 4 => some [0, 1, 14, 15, 16, 21, 22, 23]
  | 69, 7 => some [0, 1, 14, 15, 16, 21, 22, 23, 27, 28, 29]
  | 69, 14 => some [0, 1, 41, 42, 43]
  | 69, 19 => some [0, 54, 55, 56]
  | 74, 3 => some [0, 3, 9, 10, 11]
  | 74, 11 => some [6, 25, 26, 27]
  | 82, 1 => some [1, 6, 7, 8]
  | _, _ => none
/-- The functions whose calls turn nothing old: all but the iterators and what they call. -/
def pu : FuncId → Bool := fun g => !([51, 52, 53, 68, 69, 75, 82, 83, 86, 87] : List Nat).any (Nat.beq g)
def ovA : FuncId → List AV → AH → Option (AV × AH) := fun g args h =>
  match closedOv [(26, .bool true)] g args h with
  | some r => some r
  | none => ovX g args h
theorem ovA_ok : ∀ g args h a h', ovA g args h = some (a, h') → ∀ B f w (vs : Array Value), HR B f h w → VRs f vs.toList args → FnRuns Try.prog g vs w (HPost B f w h' a) := by
  intro g args h a h' h0
  unfold ovA at h0
  split at h0
  · rename_i r hr
    injection h0 with h0
    subst h0
    refine closed_ok [(26, .bool true)] (fun p hp => ?_) g args h a h' hr
    simp only [List.mem_singleton] at hp
    subst hp
    exact ⟨⟨_, bexec_ok (by kernel_rfl) (fun _ _ => none) ovX_ok 60, okTrue_ex awake42⟩, true, rfl⟩
  · exact ovX_ok g args h a h' h0
/-- The interpreter. -/
noncomputable def X : Nat → ACall := cexec Try.prog HK ovA pu
theorem X_ok (n : Nat) : CallOK Try.prog (X n) := cexec_ok (by kernel_rfl) HK pu ovA_ok n
theorem X_awake (n : Nat) (h : AH) : X (n + 1) (.func 26) [] h = some (.bool true, h) := rfl
theorem X_yield (n id : Nat) (args : List AV) (h : AH) : X (n + 1) (.yield id) args h = ayield Try.prog HK (X n) n id args h := rfl
end Go.Proofs.Ytgnacecplaemlaa
