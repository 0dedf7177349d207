/-
  The abstract interpreter with contracts: calls that a table answers are not entered.
-/
import Derived.Test.YtgnacecplaemlaaA17
namespace Go.Proofs.Ytgnacecplaemlaa.AI
open Go.RowKit
/-- The interpreter, where some calls are answered by a table. -/
noncomputable def bexec (P : Program) (K : FuncId → Hint) (ov : FuncId → List AV → AH → Option (AV × AH)) : Nat → FuncId → List AV → AH → Option (AV × AH)
  | 0, _, _, _ => none
  | n + 1, g, args, h =>
    match ov g args h with
    | some r => some r
    | none => afn P K (bexec P K ov n) n g args h
section
variable {P : Program}
theorem afn_ok (hm : P.follows .mixedOrders = true) (K : FuncId → Hint) {call : FuncId → List AV → AH → Option (AV × AH)} (hc : CallOK P call) (n : Nat) : CallOK P (fun g args h => afn P K call n g args h) :=
  fun g args h r h' h0 => by
    simp only [afn] at h0
    split at h0
    · rename_i fn hfn
      split at h0
      · rename_i c hb
        split at h0
        · simp at h0
        · rename_i hname
          refine ⟨fun vs w => ?_, fun B f w vs H hv => ?_⟩
          · have hname' : ¬ fn.name = "runtime.NumGoroutine" := by simpa using hname
            simp [callFunc, hfn, hname', hb]
          · refine calls_of_wp hfn hb ?_
            have hsz : vs.size = args.length := by have := hv.length; simpa using this
            have S0 : SR B f (args ++ List.replicate (fn.ntmps - args.length) (.tup [])) h { tmps := vs ++ Array.replicate (fn.ntmps - vs.size) undef, defers := [] } w := by
              have hall : VRs f (vs ++ Array.replicate (fn.ntmps - vs.size) undef).toList (args ++ List.replicate (fn.ntmps - args.length) (.tup [])) := by
                rw [Array.toList_append, Array.toList_replicate, hsz]
                refine hv.append (VRs.of_get (by simp) fun i v b h1 h2 => ?_)
                have e1 := List.eq_of_mem_replicate (List.mem_of_getElem? h1)
                have e2 := List.eq_of_mem_replicate (List.mem_of_getElem? h2)
                subst e1 e2
                exact .tup _ _ (by exact .nil)
              refine ⟨⟨by have := hall.length; simpa using this, fun t b hb => ?_⟩, H, rfl⟩
              obtain ⟨v, h1, h2⟩ := hall.get t b hb
              exact ⟨v, by rw [← Array.getElem?_toList]; exact h1, h2⟩
            have fin : ∀ (ex : AEx) (fr' : List AV) (hh : AH), (ex = .normal ∨ ex = .ret) → arun P (K g) (call) n c (args ++ List.replicate (fn.ntmps - args.length) (.tup [])) h = some (ex, fr', hh) →
                (aresultL P fr' hh fn.results.toList).map (fun l => (aone l, hh)) = some (r, h') →
                c.wp P (bodyPost P fn (fun e w' => ∃ v, e = .returned v ∧ HPost B f w h' r v w')) { tmps := vs ++ Array.replicate (fn.ntmps - vs.size) undef, defers := [] } w := by
              intro ex fr' hh hex hrun hres
              cases hl : aresultL P fr' hh fn.results.toList with
              | none => simp [hl] at hres
              | some l =>
                simp [hl] at hres
                obtain ⟨rfl, rfl⟩ := hres
                refine arun_sound hm (hc) c S0 hrun fun f' a' w' e s b => ?_
                obtain ⟨u, q1, q2⟩ := results_sound s hl
                rcases hex with rfl | rfl
                · exact ⟨s.nd, u, q2, u, rfl, f', e, s.hr, b, q1⟩
                · exact ⟨s.nd, u, q2, u, rfl, f', e, s.hr, b, q1⟩
            split at h0
            · rename_i fr' hh hrun
              exact fin .normal fr' hh (.inl rfl) hrun h0
            · rename_i fr' hh hrun
              exact fin .ret fr' hh (.inr rfl) hrun h0
            · simp at h0
      · simp at h0
    · simp at h0
theorem bexec_ok (hm : P.follows .mixedOrders = true) (K : FuncId → Hint) {ov : FuncId → List AV → AH → Option (AV × AH)} (ho : CallOK P ov) : ∀ n, CallOK P (bexec P K ov n)
  | 0 => fun g args h a h' h0 => by simp [bexec] at h0
  | n + 1 => fun g args h r h' h0 => by
    simp only [bexec] at h0
    split at h0
    · rename_i x hx
      injection h0 with h0
      subst h0
      exact ho g args h r h' hx
    · exact afn_ok hm K (bexec_ok hm K ho n) n g args h r h' h0
/-- What lies below a run's blocks stands. -/
theorem HR.below {B : Nat} {f : Inj} {h : AH} {w w' : World} (H : HR B f h w) (b : Below w.heap.size w w') : HR B f h w' :=
  ⟨fun id x hb => by
    obtain ⟨r, c, e, fz, h1, h2, h3⟩ := H.blk id x hb
    refine ⟨r, c, e, fz, h1, ?_, h3⟩
    rw [b.block _ (Array.getElem?_eq_some_iff.mp h2).1]
    exact h2, H.apart, H.fresh, H.ffresh, Nat.le_trans H.le b.size⟩
/-- Functions without arguments that were run over the empty heap: each answers the same wherever it is called. -/
def closedOv (t : List (FuncId × AV)) : FuncId → List AV → AH → Option (AV × AH) := fun g args h =>
  match args with
  | [] => match t.find? (fun p => Nat.beq p.1 g) with | some p => some (p.2, h) | none => none
  | _ => none
theorem closed_ok (hm : P.follows .mixedOrders = true) (K : FuncId → Hint) (t : List (FuncId × AV)) (ht : ∀ p ∈ t, (∃ n h', aexec P K n p.1 [] AH.empty = some (p.2, h')) ∧ ((∃ b, p.2 = .bool b))) : CallOK P (closedOv t) := by
  intro g args h a h' h0
  unfold closedOv at h0
  split at h0
  · split at h0
    · rename_i p hp
      injection h0 with h0
      injection h0 with h1 h2
      subst h1 h2
      have hg : p.1 = g := by have := List.find?_some hp; exact Nat.eq_of_beq_eq_true this
      obtain ⟨⟨n, hh, hr⟩, bb, hbb⟩ := ht p (List.mem_of_find?_eq_some hp)
      have hok := aexec_ok hm K n p.1 [] AH.empty _ _ hr
      rw [hg] at hok
      refine ⟨hok.1, fun B f w vs H hv => ?_⟩
      have hv0 : vs.toList = [] := List.eq_nil_of_length_eq_zero (by simpa using hv.length)
      have hr0 : VRs (fun _ => none) vs.toList [] := by rw [hv0]; exact .nil
      refine (hok.2 w.heap.size _ w vs (HR.empty w) hr0).mono fun e w' ⟨v, he, f', _, _, hb', hvr⟩ => ?_
      rw [hbb] at hvr ⊢
      exact ⟨v, he, f, fun _ _ h => h, H.below hb', hb'.mono H.le, by rw [hvr.bool_inv]; exact .bool _⟩
    · simp at h0
  · simp at h0
end
end Go.Proofs.Ytgnacecplaemlaa.AI
