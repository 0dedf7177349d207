/-
  An abstract interpreter for the model's code, part 14: frames; one operation of a region; a region in the text's order.
-/
import Derived.Test.YtgnacecplaemlaaE13
namespace Go.Proofs.Ytgnacecplaemlaa.AI
open Go.RowKit

theorem FR.ev {f : Inj} {a : Act} {fr : List AV} (h : FR f a.tmps fr) (x : Operand) : VR f (a.eval x) (aev fr x) := by
  cases x with
  | tmp t =>
    show VR f (a.tmps.getD t undef) (fr.getD t .top)
    cases ha : fr[t]? with
    | none => rw [List.getD_eq_getElem?_getD, ha]; exact .top _
    | some b =>
      obtain ⟨v, h1, h2⟩ := h.get t b ha
      rw [List.getD_eq_getElem?_getD, ha, Array.getD_eq_getD_getElem?, h1]
      exact h2
  | const v => exact VR.ofConst f v
  | global g => exact .top _
  | func g => exact .fn _ _ _ _ _ .nil .nil
theorem FR.put {f : Inj} {a : Act} {fr : List AV} (h : FR f a.tmps fr) (dst : Option Tmp) {v : Value} {b : AV} (hv : VR f v b) : FR f (a.put dst v).tmps (aput fr dst b) := by
  cases dst with
  | none => exact h
  | some d =>
    refine ⟨by simp [Act.put, aput, h.size], fun t c hc => ?_⟩
    simp only [Act.put, aput] at hc ⊢
    by_cases hd : d = t
    · subst hd
      have hlt : d < fr.length := by
        rcases Nat.lt_or_ge d fr.length with h' | h'
        · exact h'
        · rw [List.getElem?_eq_none (by simpa using h')] at hc; simp at hc
      rw [List.getElem?_set_self hlt] at hc
      injection hc with hc
      subst hc
      exact ⟨v, by rw [Array.getElem?_setIfInBounds_self, if_pos (by rw [h.size]; exact hlt)], hv⟩
    · rw [List.getElem?_set_ne hd] at hc
      obtain ⟨u, h1, h2⟩ := h.get t c hc
      exact ⟨u, by rw [Array.getElem?_setIfInBounds_ne hd]; exact h1, h2⟩
theorem wanted_of {f : Inj} {a : Act} {fr : List AV} {ops : Array Oper} {o : Oper} {b : Bool}
    (hslot : ∀ j want d, o.guard = some (j, want) → (ops[j]?).bind (·.dst) = some d → VR f (a.tmps.getD d undef) (fr.getD d .top))
    (hw : awanted ops fr o = some b) : Region.wanted o (yielded ops a.tmps) = b := by
  unfold awanted at hw
  unfold Region.wanted
  split at hw
  · rename_i hg; injection hw with hw; simp [hg, hw]
  · rename_i j want hg
    simp only [hg]
    split at hw
    · rename_i hd
      injection hw with hw
      subst hw
      have : yielded ops a.tmps j = none := by unfold yielded; rw [hd]; rfl
      rw [this]; rfl
    · rename_i d hd
      have hy : yielded ops a.tmps j = match a.tmps[d]? with | some (.bool b) => some b | _ => none := by unfold yielded; rw [hd]; rfl
      rw [hy]
      have hev' : VR f (a.tmps.getD d undef) (fr.getD d .top) := hslot j want d hg hd
      split at hw
      · rename_i c hc
        rw [hc] at hev'
        have := hev'.bool_inv
        injection hw with hw
        subst hw
        cases ht : a.tmps[d]? with
        | none => rw [Array.getD_eq_getD_getElem?, ht] at this; simp [undef] at this
        | some u =>
          rw [Array.getD_eq_getD_getElem?, ht] at this
          simp at this
          subst this
          rfl
      · rename_i hc
        rw [hc] at hev'
        obtain ⟨cs, e, _⟩ := hev'.tup_inv
        injection hw with hw
        subst hw
        cases ht : a.tmps[d]? with
        | none => rfl
        | some u =>
          rw [Array.getD_eq_getD_getElem?, ht] at e
          simp at e
          subst e
          rfl
      · simp at hw
theorem FR.wanted {f : Inj} {a : Act} {fr : List AV} (h : FR f a.tmps fr) {ops : Array Oper} {o : Oper} {b : Bool} (hw : awanted ops fr o = some b) : Region.wanted o (yielded ops a.tmps) = b :=
  wanted_of (fun _ _ d _ _ => h.ev (.tmp d)) hw

/-- The marks of the loops over functions that a function has been through. -/
def Marks (D : Nat) (ds : List Deferred) (w : World) : Prop :=
  D ≤ w.heap.size ∧ ∃ bs : List Nat, ds = bs.map (fun r => { target := .collected r, args := #[] }) ∧ bs.Nodup ∧ ∀ r ∈ bs, D ≤ r ∧ w.heap[r]? = some (.deferred (some []))
theorem Marks.nil {D : Nat} {w : World} (h : D ≤ w.heap.size) : Marks D [] w := ⟨h, [], rfl, List.nodup_nil, by simp⟩
theorem Marks.kept {D B : Nat} {ds : List Deferred} {w w' : World} (m : Marks D ds w) (k : Kept B w w') : Marks D ds w' := by
  obtain ⟨h0, bs, h1, h2, h3⟩ := m
  exact ⟨Nat.le_trans h0 k.bel.size, bs, h1, h2, fun r hr => ⟨(h3 r hr).1, k.dfr r _ (h3 r hr).2⟩⟩
/-- One mark more. -/
theorem Marks.cons {D k : Nat} {ds : List Deferred} {w w' : World} (m : Marks D ds w) (hk : w.heap.size ≤ k) (hw : w.heap.size ≤ w'.heap.size) (hrow : w'.heap[k]? = some (.deferred (some [])))
    (hkeep : ∀ (j : Nat) x, w.heap[j]? = some (.deferred x) → w'.heap[j]? = some (.deferred x)) : Marks D ({ target := .collected k, args := #[] } :: ds) w' := by
  obtain ⟨h0, bs, h1, h2, h3⟩ := m
  refine ⟨Nat.le_trans h0 hw, k :: bs, by rw [h1]; rfl, List.nodup_cons.mpr ⟨fun hm => ?_, h2⟩, fun r hr => ?_⟩
  · have := (Array.getElem?_eq_some_iff.1 (h3 k hm).2).1
    omega
  · simp only [List.mem_cons] at hr
    rcases hr with rfl | hr
    · exact ⟨by omega, hrow⟩
    · exact ⟨(h3 r hr).1, hkeep r _ (h3 r hr).2⟩
/-- What is known between two operations. -/
structure SR (B D : Nat) (f : Inj) (fr : List AV) (h : AH) (a : Act) (w : World) : Prop where
  fr : FR f a.tmps fr
  hr : HR B f h w
  dm : Marks D a.defers w

/-- A call of a function: its value at once, or what its body comes to. -/
def FnRuns (P : Program) (g : FuncId) (vs : Array Value) (w : World) (Φ : Value → World → Prop) : Prop :=
  (∃ v w', (callFunc g vs).run P w = .ok (.value v) w' ∧ Φ v w') ∨
  ((callFunc g vs).run P w = .ok (.enter g vs) w ∧ Calls P g vs w (fun e w' => ∃ v, e = .returned v ∧ Φ v w'))
/-- A call of the function that a loop hands on. -/
def YRuns (P : Program) (l : Nat) (vs : Array Value) (w : World) (Φ : Value → World → Prop) : Prop :=
  ∃ fn tmps asg body, (Instr.yield l vs).run P w = .ok (.round l fn tmps asg body) w ∧ ∀ n, RoundIn Fence.wide n P l fn tmps asg body w (fun e w' => ∃ v, e = .returned v ∧ Φ v w')
/-- The abstract calls stand for calls. -/
structure CallOK (P : Program) (call : ACall) : Prop where
  fn : ∀ g args h a h', call (.func g) args h = some (a, h') → ∀ B f w (vs : Array Value), HR B f h w → VRs f vs.toList args → FnRuns P g vs w (HPost B f w h' a)
  yl : ∀ id args h a h', call (.yield id) args h = some (a, h') → ∀ B f w (vs : Array Value) r, HR B f h w → VRs f vs.toList args → f id = some r → YRuns P r.blk vs w (HPost B f w h' a)
/-- The fence: all functions; whose round it is. -/
abbrev FW (ro : Option Nat) : Fence := { fn := fun _ => True, depth := none, alive := false, round := ro }

section
variable {P : Program} {B D : Nat} {f : Inj} {fr : List AV} {h : AH} {a : Act} {w : World} {call : ACall} {ops : Array Oper} {ro : Option Nat} {n : Nat}

theorem Act.put_tmps_defers (a : Act) (dst : Option Tmp) (v : Value) : (a.put dst v).defers = a.defers := by cases dst <;> rfl

/-- What an operation's run comes to. -/
def OpRuns (P : Program) (ρ : Operand → Value) (o : Oper) (w : World) (Φ : Value → World → Prop) : Prop :=
  (∃ v w', Comes1 P ρ o w v w' ∧ Φ v w') ∨
  (∃ g vs, (execOp ρ o).run P w = .ok (.enter g vs) w ∧ Calls P g vs w (fun e w' => ∃ v, e = .returned v ∧ Φ v w')) ∨
  ∃ l fn tmps asg body, (execOp ρ o).run P w = .ok (.round l fn tmps asg body) w ∧ ∀ n, RoundIn Fence.wide n P l fn tmps asg body w (fun e w' => ∃ v, e = .returned v ∧ Φ v w')
theorem OpRuns.wp {o : Oper} {Φ : Value → World → Prop} {ρ : Operand → Value} (hr : OpRuns P ρ o w Φ) (he : execOp a.eval o = execOp ρ o) (hd : ∀ c, o.op ≠ .defer c) {K : Act → World → Prop} {Q : Exit → Act → World → Prop}
    (hK : ∀ v w', Φ v w' → K (a.put o.dst v) w') : o.wpIn (FW ro) n P a w K Q := by
  unfold Oper.wpIn
  refine ⟨fun _ _ => trivial, ?_⟩
  rw [Oper.semAt_eq _ _ _ hd, he]
  rcases hr with ⟨v, w', h1, h2⟩ | ⟨g, vs, h1, h2⟩ | ⟨l, fn, tmps, asg, body, h1, h2⟩
  · rcases h1 with h1 | ⟨h1, rfl⟩
    · rw [h1]; exact hK v w' h2
    · rw [h1]; exact hK undef w' h2
  · rw [h1]
    refine ⟨fun h => by simp at h, ?_⟩
    have h3 : CallsIn (FW none) (n - 1) P g vs w (fun e w' => ∃ v, e = .returned v ∧ Φ v w') := callsIn_wide.2 h2
    have h4 : CallsIn (FW ro) (n - 1) P g vs w (fun e w' => ∃ v, e = .returned v ∧ Φ v w') := h3
    refine h4.mono ?_
    rintro e w' ⟨v, rfl, hp⟩
    exact hK v w' hp
  · rw [h1]
    refine ⟨fun h => by simp at h, ?_⟩
    have h4 : RoundIn (FW ro) (n - 1) P l fn tmps asg body w (fun e w' => ∃ v, e = .returned v ∧ Φ v w') := h2 (n - 1)
    refine h4.mono ?_
    rintro e w' ⟨v, rfl, hp⟩
    exact hK v w' hp
theorem aop_nodefer {ρ' : Operand → AV} {o : Oper} {r : AV × AH} (h0 : aop P call ρ' o h = some r) : ∀ c, o.op ≠ .defer c := by
  intro c hc
  unfold aop cls apure at h0
  simp [hc] at h0
/-- One operation. -/
theorem aop_run (hc : CallOK P call) (H : HR B f h w) {ρ : Operand → Value} {ρ' : Operand → AV} (hρ : ∀ x, VR f (ρ x) (ρ' x)) {o : Oper} {r : AV} {h' : AH} (h0 : aop P call ρ' o h = some (r, h')) :
    OpRuns P ρ o w (HPost B f w h' r) := by
  unfold aop at h0
  split at h0
  · cases hp : apure P ρ' o with
    | none => simp [hp] at h0
    | some v =>
      simp [hp] at h0
      obtain ⟨rfl, rfl⟩ := h0
      obtain ⟨v', h1, h2⟩ := apure_sound hρ hp
      exact .inl ⟨v', w, .inl (h2 w), f, Ext.refl f, H, Kept.refl B w, h1⟩
  · cases hp : aload P ρ' o h with
    | none => simp [hp] at h0
    | some v =>
      simp [hp] at h0
      obtain ⟨rfl, rfl⟩ := h0
      obtain ⟨v', h1, h2⟩ := aload_sound H hρ hp
      exact .inl ⟨v', w, .inl h2, f, Ext.refl f, H, Kept.refl B w, h1⟩
  · by_cases hn : notCall o
    · exact .inl (aheap_sound H hρ hn h0)
    · obtain ⟨dst, op, type, pos, after, guard⟩ := o
      have hn' : ∃ g as ts, op = .call { callee := .value g, args := as, argTypes := ts } := by
        apply Classical.byContradiction
        intro hx
        exact hn fun g as ts e => hx ⟨g, as, ts, e⟩
      obtain ⟨g, as, ts, rfl⟩ := hn'
      simp only [aheap] at h0
      split at h0
      · rename_i k first captured hg
        have hv := hρ g
        rw [hg] at hv
        obtain ⟨c1, c2, e, h1, h2⟩ := hv.fn_inv
        have hall : VRs f (c1 ++ as.map ρ ++ c2).toList (first ++ as.toList.map ρ' ++ captured) := by
          simp only [Array.toList_append, Array.toList_map]
          exact (h1.append (VRs.map hρ _)).append h2
        have hrun : (execOp ρ ⟨dst, .call { callee := .value g, args := as, argTypes := ts }, type, pos, after, guard⟩).run P w = (callFunc k (c1 ++ as.map ρ ++ c2)).run P w := by
          simp [execOp, resolve, e, Deferred.ofValue, invoke]
        rcases hc.fn _ _ _ _ _ h0 B f w _ H hall with ⟨v, w', q1, q2⟩ | ⟨q1, q2⟩
        · exact .inl ⟨v, w', .inl (hrun.trans q1), q2⟩
        · exact .inr (.inl ⟨_, _, hrun.trans q1, q2⟩)
      · rename_i id hg
        have hv := hρ g
        rw [hg] at hv
        obtain ⟨rg, hf, e⟩ := hv.yld_inv
        have hall : VRs f (as.map ρ).toList (as.toList.map ρ') := by
          simp only [Array.toList_map]
          exact VRs.map hρ _
        have hrun : (execOp ρ ⟨dst, .call { callee := .value g, args := as, argTypes := ts }, type, pos, after, guard⟩).run P w = (Instr.yield rg.blk (as.map ρ)).run P w := by
          simp [execOp, resolve, e, Deferred.ofValue, invoke]
        obtain ⟨fn, tmps, asg, body, q1, q2⟩ := hc.yl _ _ _ _ _ h0 B f w _ rg H hall hf
        exact .inr (.inr ⟨_, _, _, _, _, hrun.trans q1, q2⟩)
      · simp at h0
theorem aop_sound (hc : CallOK P call) (H : HR B f h w) (hρ : ∀ x, VR f (a.eval x) (aev fr x)) {o : Oper} {r : AV} {h' : AH} (h0 : aop P call (aev fr) o h = some (r, h'))
    {K : Act → World → Prop} {Q : Exit → Act → World → Prop} (hK : ∀ v w', HPost B f w h' r v w' → K (a.put o.dst v) w') : o.wpIn (FW ro) n P a w K Q :=
  (aop_run hc H hρ h0).wp rfl (aop_nodefer h0) hK

theorem astep_sound (hc : CallOK P call) (S : SR B D f fr h a w) {i : Nat} {fr' : List AV} {h' : AH} (h0 : astep P call ops i fr h = some (fr', h')) {K : Act → World → Prop} {Q : Exit → Act → World → Prop}
    (hK : ∀ f' a' w', Ext f f' → SR B D f' fr' h' a' w' → Kept B w w' → K a' w') : wpOpIn (FW ro) n P ops Q i K a w := by
  unfold astep at h0
  unfold wpOpIn
  split at h0
  · simp at h0
  · rename_i o ho
    simp only [ho]
    split at h0
    · simp at h0
    · rename_i hw
      injection h0 with h0
      injection h0 with e1 e2
      subst e1 e2
      rw [S.fr.wanted hw]
      exact ⟨fun _ _ => trivial, hK f _ w (Ext.refl f) ⟨S.fr.put o.dst (.tup _ _ (by exact .nil)), S.hr, by rw [Act.put_tmps_defers]; exact S.dm⟩ (Kept.refl B w)⟩
    · rename_i hw
      rw [S.fr.wanted hw]
      cases hp : aop P call (aev fr) o h with
      | none => simp [hp] at h0
      | some r =>
        obtain ⟨r, h2⟩ := r
        simp [hp] at h0
        obtain ⟨rfl, rfl⟩ := h0
        refine aop_sound hc S.hr S.fr.ev hp fun v w' ⟨f', g1, g2, g3, g4⟩ => ?_
        exact hK f' _ w' g1 ⟨(S.fr.mono g1).put o.dst g4, g2, by rw [Act.put_tmps_defers]; exact S.dm.kept g3⟩ g3

theorem aops_sound (hc : CallOK P call) {Q : Exit → Act → World → Prop} : ∀ (l : List Nat) {f : Inj} {fr : List AV} {h : AH} {a : Act} {w : World}, SR B D f fr h a w → ∀ {fr' : List AV} {h' : AH}, aops P call ops l fr h = some (fr', h') →
    (∀ f' a' w', Ext f f' → SR B D f' fr' h' a' w' → Kept B w w' → Q .normal a' w') → wpOpsIn (FW ro) n P ops Q l a w
  | [], f, fr, h, a, w, S, fr', h', h0, hQ => by
    simp only [aops, Option.some.injEq, Prod.mk.injEq] at h0
    obtain ⟨rfl, rfl⟩ := h0
    exact hQ f a w (Ext.refl f) S (Kept.refl B w)
  | i :: l, f, fr, h, a, w, S, fr', h', h0, hQ => by
    unfold aops at h0
    split at h0
    · simp at h0
    · rename_i fr1 h1 hs
      rw [wpOpsIn_cons]
      refine astep_sound hc S hs fun f1 a1 w1 e1 S1 b1 => ?_
      exact aops_sound hc l S1 h0 fun f2 a2 w2 e2 S2 b2 => hQ f2 a2 w2 (e1.trans e2) S2 (b1.trans b2)
end
end Go.Proofs.Ytgnacecplaemlaa.AI
