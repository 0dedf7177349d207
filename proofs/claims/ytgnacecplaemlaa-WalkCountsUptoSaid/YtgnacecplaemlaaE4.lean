/-
  An abstract interpreter for the model's code, part 4: operations that look at no memory, each as the model runs it.
-/
import Derived.Test.YtgnacecplaemlaaE3
namespace Go.Proofs.Ytgnacecplaemlaa.AI
section
variable {P : Program} {f : Inj}

theorem isCst_matches (x : Operand) : (x matches .const _) = isCst x := by cases x <;> rfl
theorem eqGuard_other (op : BinOp) (t : TypeId) (xo yo : Operand) (v u : Value) (w : World) (h1 : ¬ (v = .nilIface ∧ u = .nilIface)) (h2 : ¬ ((∃ c, v = .agg c) ∧ ∃ c, u = .agg c)) :
    (eqGuard op t xo yo v u).run P w = .ok () w := by
  unfold eqGuard
  cases op <;> (try (simp; done)) <;> (simp only []; split <;> first | (simp_all; done) | simp)
theorem aguard_sound (op : BinOp) (t : TypeId) (xo yo : Operand) {v u : Value} {x y : AV} (hv : VR f v x) (hu : VR f u y) (h : aguard P t xo yo x y = true) (hx : x.isTop = false) (hy : y.isTop = false) (w : World) :
    (eqGuard op t xo yo v u).run P w = .ok () w := by
  by_cases h1 : v = .nilIface ∧ u = .nilIface
  · obtain ⟨rfl, rfl⟩ := h1
    have ex : x = .nilIface := by cases hv <;> first | rfl | simp [AV.isTop] at hx
    have ey : y = .nilIface := by cases hu <;> first | rfl | simp [AV.isTop] at hy
    subst ex ey
    simp only [aguard] at h
    unfold eqGuard
    cases xo <;> cases yo <;> cases op <;> simp_all [isCst]
  · by_cases h2 : (∃ c, v = .agg c) ∧ ∃ c, u = .agg c
    · obtain ⟨⟨c, rfl⟩, ⟨c', rfl⟩⟩ := h2
      have ex : ∃ l, x = .agg l := by cases hv <;> first | exact ⟨_, rfl⟩ | simp [AV.isTop] at hx
      have ey : ∃ l, y = .agg l := by cases hu <;> first | exact ⟨_, rfl⟩ | simp [AV.isTop] at hy
      obtain ⟨l, rfl⟩ := ex
      obtain ⟨l', rfl⟩ := ey
      simp only [aguard, Bool.not_eq_true'] at h
      unfold eqGuard
      cases op <;> simp [h]
    · exact eqGuard_other op t xo yo v u w h1 h2

theorem aeq_not_top {d : Nat} {t : TypeId} {x y : AV} {b : Bool} (h : aeq P d t x y = some b) : x.isTop = false ∧ y.isTop = false := by
  cases d with
  | zero => simp [aeq] at h
  | succ d =>
    change aeq1 P (aeq P d) t x y = some b at h
    unfold aeq1 at h
    split at h <;> first | exact ⟨rfl, rfl⟩ | simp at h

theorem binOp_eql_other (t : TypeId) {v u : Value} {x y : AV} (hv : VR f v x) (hu : VR f u y) {b : Bool} (h : aeq P Op.maxDepth t x y = some b)
    (hi : ¬ ∃ k a k' b, x = .int k a ∧ y = .int k' b) (hs : ¬ ∃ a b, x = .str a ∧ y = .str b) (w : World) :
    (binOp .eql t v u).run P w = .ok (.bool b) w ∧ (binOp .neq t v u).run P w = .ok (.bool (!b)) w := by
  have he := aeq_sound _ _ _ _ _ _ _ hv hu h w
  obtain ⟨hx, hy⟩ := aeq_not_top h
  have e : (Op.equal t v u).run P w = .ok b w := he
  cases hv <;> first | (simp [AV.isTop] at hx; done) | skip
  all_goals (cases hu <;> first | (simp [AV.isTop] at hy; done) | skip)
  all_goals first
    | (exact absurd ⟨_, _, _, _, rfl, rfl⟩ hi)
    | (exact absurd ⟨_, _, rfl, rfl⟩ hs)
    | (constructor <;> simp [binOp, e])
end
end Go.Proofs.Ytgnacecplaemlaa.AI
