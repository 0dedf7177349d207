/-
  An abstract interpreter for the model's code, part 7: an operation that looks at no memory comes to what the model's run comes to.
-/
import Derived.Test.YtgnacecplaemlaaE6
namespace Go.Proofs.Ytgnacecplaemlaa.AI
section
variable {P : Program} {f : Inj} {ρ : Operand → Value} {ρ' : Operand → AV}

theorem VRs.map (hρ : ∀ x, VR f (ρ x) (ρ' x)) : ∀ l : List Operand, VRs f (l.map ρ) (l.map ρ')
  | [] => .nil
  | x :: l => .cons _ _ _ _ (hρ x) (VRs.map hρ l)

/-- The operation comes, in every world, to a value related to 'a', and leaves the world alone. -/
def OpGives (P : Program) (f : Inj) (ρ : Operand → Value) (o : Oper) (a : AV) : Prop := ∃ v, VR f v a ∧ ∀ w, (execOp ρ o).run P w = .ok (.value v) w

theorem afold2_min : ∀ (l : List Value) (l' : List AV) (v : Value) (x r : AV), VR f v x → VRs f l l' → isInt x = true → afold2 (fun a b => b < a) x l' = some r →
    ∃ z, VR f z r ∧ ∀ w, (l.foldlM Builtin.min2 v).run P w = .ok z w
  | [], l', v, x, r, hv, hl, hi, h => by
    cases hl
    simp [afold2] at h
    subst h
    exact ⟨v, hv, fun w => by simp⟩
  | u :: l, l', v, x, r, hv, hl, hi, h => by
    cases hl with
    | cons _ y _ l' hu hl =>
      cases x <;> simp [isInt] at hi
      rename_i k a
      cases y <;> simp only [afold2] at h <;> first | (simp at h; done) | skip
      rename_i k' b
      obtain rfl := hv.int_inv
      obtain rfl := hu.int_inv
      obtain ⟨z, h1, h2⟩ := afold2_min l l' (.int k (if b < a then b else a)) (.int k (if b < a then b else a)) r (.int _ _) hl rfl (by simpa using h)
      exact ⟨z, h1, fun w => by simp [List.foldlM_cons, Builtin.min2, h2]⟩
theorem afold2_max : ∀ (l : List Value) (l' : List AV) (v : Value) (x r : AV), VR f v x → VRs f l l' → isInt x = true → afold2 (fun a b => b > a) x l' = some r →
    ∃ z, VR f z r ∧ ∀ w, (l.foldlM Builtin.max2 v).run P w = .ok z w
  | [], l', v, x, r, hv, hl, hi, h => by
    cases hl
    simp [afold2] at h
    subst h
    exact ⟨v, hv, fun w => by simp⟩
  | u :: l, l', v, x, r, hv, hl, hi, h => by
    cases hl with
    | cons _ y _ l' hu hl =>
      cases x <;> simp [isInt] at hi
      rename_i k a
      cases y <;> simp only [afold2] at h <;> first | (simp at h; done) | skip
      rename_i k' b
      obtain rfl := hv.int_inv
      obtain rfl := hu.int_inv
      obtain ⟨z, h1, h2⟩ := afold2_max l l' (.int k (if b > a then b else a)) (.int k (if b > a then b else a)) r (.int _ _) hl rfl (by simpa using h)
      exact ⟨z, h1, fun w => by simp [List.foldlM_cons, Builtin.max2, h2]⟩

theorem apure_sound (hρ : ∀ x, VR f (ρ x) (ρ' x)) {o : Oper} {r : AV} (h : apure P ρ' o = some r) : OpGives P f ρ o r := by
  obtain ⟨dst, op, type, pos, after, guard⟩ := o
  have lift : ∀ {s : Sem Value}, Gives P f s r → (∀ w, (execOp ρ ⟨dst, op, type, pos, after, guard⟩).run P w = (s.run P w).andThen fun v w' => .ok (.value v) w') → OpGives P f ρ ⟨dst, op, type, pos, after, guard⟩ r := by
    rintro s ⟨v, hv, hr⟩ he
    exact ⟨v, hv, fun w => by rw [he w, hr w]; rfl⟩
  cases op <;> simp only [apure] at h <;> try (simp at h; done)
  case move x => injection h with h; subst h; exact ⟨_, hρ x, fun w => by simp [execOp]⟩
  case assign x => injection h with h; subst h; exact ⟨_, hρ x, fun w => by simp [execOp]⟩
  case pick c a b =>
    split at h
    · rename_i t ht
      have hc := hρ c
      rw [ht] at hc
      have hc := hc.bool_inv
      injection h with h
      subst h
      cases t
      · exact ⟨_, hρ b, fun w => by simp [execOp, hc, asBool]⟩
      · exact ⟨_, hρ a, fun w => by simp [execOp, hc, asBool]⟩
    · simp at h
  case nilCheck x => exact anilCheck_sound (hρ x) h _ rfl rfl
  case binOp op xt x y yt => exact lift (abin_sound (hρ x) (hρ y) h) (fun w => by simp only [execOp, Sem.run_bind, Sem.run_pure])
  case unOp op t x => exact lift (aun_sound (hρ x) h) (fun w => by simp [execOp])
  case convert src dst x => exact lift (aconv_sound (hρ x) h) (fun w => by simp [execOp])
  case makeInterface t x =>
    split at h
    · simp at h
    · simp at h
    · rename_i d hn hd
      injection h with h
      subst h
      refine ⟨.iface t (ρ x), .iface _ _ _ (hρ x), fun w => ?_⟩
      have : P.concrete t = true := by
        unfold Program.concrete
        rw [hd]
        cases d <;> first | rfl | exact absurd rfl (hn _)
      simp [execOp, run_makeInterface w t (ρ x) this]
  case makeFunc fn first captured =>
    split at h <;> try (simp at h; done)
    rename_i g
    injection h with h
    subst h
    refine ⟨.func (.func g) (first.map ρ) (captured.map ρ), .fn _ _ _ _ _ ?_ ?_, fun w => by simp [execOp, Instr.makeFunc]⟩
    · rw [Array.toList_map]; exact VRs.map hρ _
    · rw [Array.toList_map]; exact VRs.map hρ _
  case slice t x lo hi mx =>
    have : aslice P t (ρ' x) (lo.map ρ') (hi.map ρ') (mx.map ρ') = some r := by
      split at h
      · exact h
      · exact h
      · simp at h
    exact lift (aslice_sound hρ (hρ x) this) (fun w => by simp [execOp])
  case fieldAddr s x i => exact lift (afieldAt_sound (hρ x) h) (fun w => by simp [execOp])
  case field t x i =>
    split at h
    · rename_i fields cs ht hx
      split at h
      · rename_i fd hfd
        have hc := hρ x
        rw [hx] at hc
        obtain ⟨c, e, hc⟩ := hc.agg_inv
        obtain ⟨v, hv, hr⟩ := apart_sound hc h
        exact ⟨v, hv, fun w => by simp [execOp, Instr.field, run_underlying ht, hfd, e, asAgg, hr]⟩
      · simp at h
    · simp at h
  case indexAddr t x i => exact lift (aindexAt_sound (hρ x) (hρ i) h) (fun w => by simp [execOp])
  case index t x i => exact lift (aindex_sound (hρ x) (hρ i) h) (fun w => by simp [execOp])
  case extract t i =>
    split at h
    · rename_i l hl
      have hc := hρ t
      rw [hl] at hc
      obtain ⟨c, e, hc⟩ := hc.tup_inv
      obtain ⟨v, hv, hr⟩ := hc.get i r h
      have hv' : c[i]? = some v := by simpa using hv
      exact ⟨v, hr, fun w => by simp [execOp, Instr.extract, e, hv']⟩
    · simp at h
  case build t parts =>
    obtain ⟨l⟩ := parts
    refine lift (abuild_sound (ps := l) hρ h) (fun w => ?_)
    simp [execOp]
  case call c =>
    obtain ⟨callee, args, argTypes⟩ := c
    cases callee with
    | value x => simp at h
    | invoke x m => simp at h
    | builtin b =>
      obtain ⟨args⟩ := args
      cases b <;> simp only [] at h <;> try (simp at h; done)
      case len =>
        split at h
        · rename_i t x ht hx
          cases hn : alen P t (ρ' x) with
          | none => simp [hn] at h
          | some n =>
            simp [hn] at h
            subst h
            refine ⟨_, .int _ _, fun w => ?_⟩
            have := alen_sound (hρ x) hn argTypes (args.map ρ).toArray ht (by simp; exact ⟨x, by simpa using hx, rfl⟩) type w
            simp [execOp, resolve, invoke, builtin, this]
        · simp at h
      case cap =>
        split at h
        · rename_i t x ht hx
          cases hn : acap P t (ρ' x) with
          | none => simp [hn] at h
          | some n =>
            simp [hn] at h
            subst h
            refine ⟨_, .int _ _, fun w => ?_⟩
            have := acap_sound (hρ x) hn argTypes (args.map ρ).toArray ht (by simp; exact ⟨x, by simpa using hx, rfl⟩) type w
            simp [execOp, resolve, invoke, builtin, this]
        · simp at h
      case min =>
        cases args with
        | nil => simp at h
        | cons x args =>
          simp only [List.map_cons] at h
          split at h
          · rename_i hi
            obtain ⟨z, h1, h2⟩ := afold2_min (P := P) (args.map ρ) (args.map ρ') (ρ x) (ρ' x) r (hρ x) (VRs.map hρ args) hi h
            exact ⟨z, h1, fun w => by simp [execOp, resolve, invoke, builtin, Builtin.min_, h2]⟩
          · simp at h
      case max =>
        cases args with
        | nil => simp at h
        | cons x args =>
          simp only [List.map_cons] at h
          split at h
          · rename_i hi
            obtain ⟨z, h1, h2⟩ := afold2_max (P := P) (args.map ρ) (args.map ρ') (ρ x) (ρ' x) r (hρ x) (VRs.map hρ args) hi h
            exact ⟨z, h1, fun w => by simp [execOp, resolve, invoke, builtin, Builtin.max_, h2]⟩
          · simp at h
end
end Go.Proofs.Ytgnacecplaemlaa.AI
