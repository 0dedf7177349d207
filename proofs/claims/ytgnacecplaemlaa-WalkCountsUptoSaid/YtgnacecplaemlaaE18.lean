/-
  The interpreter at this program: the library's stand-in for strings.IndexByte; chapter 42's guard, run.
-/
import Derived.Test.YtgnacecplaemlaaE17
import Derived.Test.YtgnacecplaemlaaProg
import Derived.KernelRfl
import Derived.Lib.Bytealg
import Derived.Laws.StandIn
namespace Go.Proofs.Ytgnacecplaemlaa
open AI
/-- The first place of a byte, from a number on. -/
def ixb (c : Nat) : List Nat → Nat → Int
  | [], _ => -1
  | b :: l, k => bif Nat.beq b c then (k : Int) else ixb c l (k + 1)
theorem ixb_eq (c : UInt8) : ∀ (l : List UInt8) (k : Nat), ixb c.toNat (l.map UInt8.toNat) k = if Lib.indexByte l c = -1 then -1 else Lib.indexByte l c + k
  | [], k => by simp [ixb, Lib.indexByte]
  | b :: l, k => by
    have hd : Lib.indexByte (b :: l) c = if (b == c) = true then 0 else if (Lib.indexByte l c == -1) = true then -1 else Lib.indexByte l c + 1 := rfl
    rw [hd]
    show (bif Nat.beq b.toNat c.toNat then (k : Int) else ixb c.toNat (l.map UInt8.toNat) (k + 1)) = _
    by_cases h : b = c
    · subst h
      have e : Nat.beq b.toNat b.toNat = true := Nat.beq_eq.mpr rfl
      rw [e]; simp
    · have e : Nat.beq b.toNat c.toNat = false := by
        cases hx : Nat.beq b.toNat c.toNat with
        | false => rfl
        | true => exact absurd (UInt8.toNat_inj.mp (Nat.beq_eq.mp hx)) h
      have e2 : (b == c) = false := by simpa using h
      simp only [e2]
      rw [e, cond_false, ixb_eq c l (k + 1)]
      simp only [Bool.false_eq_true, if_false]
      have hg := Lib.indexByte_ge l c
      by_cases h1 : Lib.indexByte l c = -1
      · simp [h1]
      · have h2 : (Lib.indexByte l c == -1) = false := by simpa using h1
        rw [if_neg h1, h2]
        simp only [Bool.false_eq_true, if_false]
        rw [if_neg (by omega)]
        omega
/-- What the library's function without a body answers. -/
def ovX : FuncId → List AV → AH → Option (AV × AH) := fun g args h =>
  match Nat.beq g 101, args with
  | true, [.str s, .int .u8 c] => if 0 ≤ c ∧ c < 256 then some (.int .i64 (ixb c.toNat s 0), h) else none
  | _, _ => none
theorem ovX_ok : ∀ g args h a h', ovX g args h = some (a, h') → ∀ B f w (vs : Array Value), HR B f h w → VRs f vs.toList args → FnRuns Try.prog g vs w (HPost B f w h' a) := by
  intro g args h a h' h0 B f w vs H hv
  unfold ovX at h0
  split at h0
  · rename_i s c hg
    split at h0
    · rename_i hc
      injection h0 with h0
      injection h0 with h1 h2
      subst h1 h2
      obtain rfl := Nat.eq_of_beq_eq_true hg
      obtain ⟨vl⟩ := vs
      cases hv with
      | cons v1 _ vl' _ g1 g2 => cases g2 with
        | cons v2 _ vl2 _ g3 g4 =>
          cases g4
          obtain ⟨b, rfl, rfl⟩ := g1.str_inv
          obtain rfl := g3.int_inv
          have hr := run_callFunc_indexByte (P := Try.prog) (f := 101) (fn := Try.f101) (by kernel_rfl) (by kernel_rfl) (by kernel_rfl) (by kernel_rfl) (by kernel_rfl) #[.string b, .int .u8 c] w
          rw [Lib.run_indexByteString] at hr
          refine .inl ⟨_, w, hr, f, Ext.refl f, H, Kept.refl B w, ?_⟩
          have hcc : (c.toNat.toUInt8).toNat = c.toNat := by
            have : c.toNat < 256 := by omega
            simp only [Nat.toUInt8, UInt8.toNat_ofNat']
            omega
          have e := ixb_eq c.toNat.toUInt8 b.data.toList 0
          rw [hcc] at e
          have e2 : ixb c.toNat (nats b) 0 = Lib.indexByte b.data.toList c.toNat.toUInt8 := by
            show ixb c.toNat (b.data.toList.map UInt8.toNat) 0 = _
            rw [e]
            split
            · rename_i h; exact h.symm
            · simp
          rw [e2]
          exact .int _ _
    · simp at h0
  · simp at h0
def okTrue : Option (AV × AH) → Bool
  | some (.bool true, _) => true
  | _ => false
theorem okTrue_ex {x : Option (AV × AH)} (h : okTrue x = true) : ∃ h', x = some (.bool true, h') := by
  unfold okTrue at h
  split at h
  · exact ⟨_, rfl⟩
  · simp at h
theorem awake42 : okTrue (bexec Try.prog (fun _ _ => none) ovX 60 (.func 26) [] AH.empty) = true := by kernel_rfl
end Go.Proofs.Ytgnacecplaemlaa
