/-
  An abstract interpreter for the model's code, part 5: the operations that look at no memory, one lemma each; together.
-/
import Derived.Test.YtgnacecplaemlaaE4
namespace Go.Proofs.Ytgnacecplaemlaa.AI
section
variable {P : Program} {f : Inj}

/-- 's' comes, in every world, to a value related to 'a', and leaves the world alone. -/
def Gives (P : Program) (f : Inj) (s : Sem Value) (a : AV) : Prop := ∃ v, VR f v a ∧ ∀ w, s.run P w = .ok v w
theorem Gives.of {s : Sem Value} {a : AV} (v : Value) (h : VR f v a) (hr : ∀ w, s.run P w = .ok v w) : Gives P f s a := ⟨v, h, hr⟩

theorem aIntOp_sound {op : BinOp} {k : IntKind} {a b : Int} {r : AV} (h : aIntOp op k a b = some r) (t : TypeId) (xo yo : Operand) :
    Gives P f (do eqGuard op t xo yo (.int k a) (.int k b); binOp op t (.int k a) (.int k b)) r := by
  have hg : ∀ w, (eqGuard op t xo yo (.int k a) (.int k b)).run P w = .ok () w := fun w => eqGuard_other op t xo yo _ _ w (by simp) (by simp)
  unfold aIntOp at h
  cases op <;> simp only [] at h
  case quo => split at h <;> simp at h; subst h; rename_i hb; exact .of _ (.int _ _) fun w => by simp [hg, binOp, Op.intDiv, hb]
  case rem => split at h <;> simp at h; subst h; rename_i hb; exact .of _ (.int _ _) fun w => by simp [hg, binOp, Op.intDiv, hb]
  case shl => simp at h
  case shr => simp at h
  all_goals (injection h with h; subst h)
  all_goals first
    | exact .of _ (.int _ _) fun w => by simp [hg, binOp, Op.intArith, Op.intBits]
    | exact .of _ (.bool _) fun w => by simp [hg, binOp, Op.intCmp]

theorem aStrOp_sound {op : BinOp} {s s' : ByteArray} {r : AV} (h : aStrOp op (nats s) (nats s') = some r) (t : TypeId) (xo yo : Operand) :
    Gives P f (do eqGuard op t xo yo (.string s) (.string s'); binOp op t (.string s) (.string s')) r := by
  have hg : ∀ w, (eqGuard op t xo yo (.string s) (.string s')).run P w = .ok () w := fun w => eqGuard_other op t xo yo _ _ w (by simp) (by simp)
  unfold aStrOp at h
  rw [natsEq_nats, natsLess_nats] at h
  have hm : IntKind.i64.max = 9223372036854775807 := by decide
  cases op <;> simp only [] at h
  case add =>
    split at h <;> simp at h
    subst h
    rename_i hl
    rw [length_nats, length_nats] at hl
    refine .of _ (.str (s ++ s') _ (nats_append s s').symm) fun w => ?_
    have h2 : ¬ ((s.size + s'.size : Nat) : Int) > IntKind.i64.max := by rw [hm]; omega
    simp only [Sem.run_bind, hg, Result.andThen_ok, binOp, Op.stringOp, if_neg h2, Sem.run_pure]
  case lss => injection h with h; subst h; exact .of _ (.bool _) fun w => by simp [hg, binOp, Op.stringOp]
  all_goals first
    | (simp at h; done)
    | (injection h with h; subst h; exact .of _ (.bool _) fun w => by simp [hg, binOp, Op.stringOp])

theorem abin_sound {op : BinOp} {t : TypeId} {xo yo : Operand} {v u : Value} {x y r : AV} (hv : VR f v x) (hu : VR f u y) (h : abin P op t xo yo x y = some r) :
    Gives P f (do eqGuard op t xo yo v u; binOp op t v u) r := by
  unfold abin at h
  split at h
  · rename_i k a k' b
    obtain rfl := hv.int_inv
    obtain rfl := hu.int_inv
    split at h
    · split at h <;> simp at h
      subst h
      rename_i hb
      have hg : ∀ w, (eqGuard .shl t xo yo (.int k a) (.int k' b)).run P w = .ok () w := fun w => eqGuard_other _ t xo yo _ _ w (by simp) (by simp)
      exact .of _ (.int _ _) fun w => by simp [hg, binOp, Op.shift, hb]
    · split at h <;> simp at h
      subst h
      rename_i hb
      have hg : ∀ w, (eqGuard .shr t xo yo (.int k a) (.int k' b)).run P w = .ok () w := fun w => eqGuard_other _ t xo yo _ _ w (by simp) (by simp)
      exact .of _ (.int _ _) fun w => by simp [hg, binOp, Op.shift, hb]
    · split at h
      · rename_i hk; subst hk; exact aIntOp_sound h t xo yo
      · simp at h
  · obtain ⟨s, rfl, rfl⟩ := hv.str_inv
    obtain ⟨s', rfl, rfl⟩ := hu.str_inv
    exact aStrOp_sound h t xo yo
  · rename_i hn1 hn2
    have hi : ¬ ∃ k a k' b, x = .int k a ∧ y = .int k' b := by rintro ⟨k, a, k', b, rfl, rfl⟩; exact hn1 _ _ _ _ rfl rfl
    have hs : ¬ ∃ a b, x = .str a ∧ y = .str b := by rintro ⟨a, b, rfl, rfl⟩; exact hn2 _ _ rfl rfl
    split at h
    · split at h
      · rename_i hg
        cases he : aeq P Op.maxDepth t x y with
        | none => simp [he] at h
        | some b =>
          simp [he] at h
          subst h
          obtain ⟨hx, hy⟩ := aeq_not_top he
          exact .of _ (.bool _) fun w => by simp [aguard_sound .eql t xo yo hv hu hg hx hy, (binOp_eql_other t hv hu he hi hs w).1]
      · simp at h
    · split at h
      · rename_i hg
        cases he : aeq P Op.maxDepth t x y with
        | none => simp [he] at h
        | some b =>
          simp [he] at h
          subst h
          obtain ⟨hx, hy⟩ := aeq_not_top he
          exact .of _ (.bool _) fun w => by simp [aguard_sound .neq t xo yo hv hu hg hx hy, (binOp_eql_other t hv hu he hi hs w).2]
      · simp at h
    · simp at h

theorem aun_sound {op : UnOp} {v : Value} {x r : AV} (hv : VR f v x) (h : aun op x = some r) : Gives P f (Op.unary op v) r := by
  unfold aun at h
  split at h
  · obtain rfl := hv.bool_inv; injection h with h; subst h; exact .of _ (.bool _) fun w => by simp [Op.unary]
  · obtain rfl := hv.int_inv; injection h with h; subst h; exact .of _ (.int _ _) fun w => by simp [Op.unary, Op.intArith]
  · obtain rfl := hv.int_inv; injection h with h; subst h; exact .of _ (.int _ _) fun w => by simp [Op.unary, Op.intBits]
  · simp at h

theorem aIx_sound {v : Value} {x : AV} {most n : Nat} (hv : VR f v x) (h : aIx x most = some n) (code : BoundsCode) (w : World) :
    ∀ cap, most ≤ cap → (Instr.sliceBound v cap code).run P w = .ok n w ∧ n ≤ most := by
  intro cap hc
  unfold aIx at h
  split at h
  · rename_i k i
    obtain rfl := hv.int_inv
    split at h
    · rename_i hi
      injection h with h
      subst h
      have h2 : 0 ≤ i ∧ i ≤ (cap : Int) := ⟨hi.1, by omega⟩
      refine ⟨by simp [Instr.sliceBound, asIntOf, h2], by omega⟩
    · simp at h
  · simp at h


theorem sliceBounds_none {low high : Option Operand} {ρ : Operand → Value} {ρ' : Operand → AV} (hρ : ∀ x, VR f (ρ x) (ρ' x)) {isSlice : Bool} {len cap most l h : Nat}
    (hm : most ≤ cap) (hh : abound (high.map ρ') most len = some h) (hl : abound (low.map ρ') h 0 = some l) (w : World) :
    (Instr.sliceBounds isSlice len cap (low.map ρ) (high.map ρ) none).run P w = .ok (l, h, cap) w := by
  cases high with
  | none =>
    simp only [Option.map_none, abound, Option.some.injEq] at hh
    subst hh
    cases low with
    | none => simp only [Option.map_none, abound, Option.some.injEq] at hl; subst hl; simp [Instr.sliceBounds]
    | some x =>
      simp only [Option.map_some, abound] at hl
      have h1 := (aIx_sound (P := P) (hρ x) hl .sliceB w _ (Nat.le_refl _)).1
      simp [Instr.sliceBounds, h1]
  | some y =>
    simp only [Option.map_some, abound] at hh
    have h2 := fun code => (aIx_sound (P := P) (hρ y) hh code w _ hm).1
    cases low with
    | none => simp only [Option.map_none, abound, Option.some.injEq] at hl; subst hl; simp [Instr.sliceBounds, h2]
    | some x =>
      simp only [Option.map_some, abound] at hl
      have h1 := (aIx_sound (P := P) (hρ x) hl .sliceB w _ (Nat.le_refl _)).1
      simp [Instr.sliceBounds, h1, h2]

theorem sliceBounds_some {low : Option Operand} {high mx : Operand} {ρ : Operand → Value} {ρ' : Operand → AV} (hρ : ∀ x, VR f (ρ x) (ρ' x)) {isSlice : Bool} {len cap most l h m dflt : Nat}
    (hm : most ≤ cap) (hx : aIx (ρ' mx) most = some m) (hh : abound (some (ρ' high)) m dflt = some h) (hl : abound (low.map ρ') h 0 = some l) (w : World) :
    (Instr.sliceBounds isSlice len cap (low.map ρ) (some (ρ high)) (some (ρ mx))).run P w = .ok (l, h, m) w := by
  have h3 := fun code => (aIx_sound (P := P) (hρ mx) hx code w _ hm).1
  simp only [abound] at hh
  have h2 := fun code => (aIx_sound (P := P) (hρ high) hh code w _ (Nat.le_refl _)).1
  cases low with
  | none => simp only [Option.map_none, abound, Option.some.injEq] at hl; subst hl; simp [Instr.sliceBounds, h2, h3]
  | some x =>
    simp only [Option.map_some, abound] at hl
    have h1 := (aIx_sound (P := P) (hρ x) hl .slice3C w _ (Nat.le_refl _)).1
    simp [Instr.sliceBounds, h1, h2, h3]

theorem abound_le {x : Option AV} {most dflt n : Nat} (h : abound x most dflt = some n) (hd : dflt ≤ most) : n ≤ most := by
  unfold abound at h
  split at h
  · injection h with h; omega
  · unfold aIx at h
    split at h
    · split at h
      · injection h with h; omega
      · simp at h
    · simp at h
theorem aIx_le {x : AV} {most n : Nat} (h : aIx x most = some n) : n ≤ most := by
  unfold aIx at h
  split at h
  · split at h
    · injection h with h; omega
    · simp at h
  · simp at h

theorem sliceAt_eq {t : TypeId} {d : TypeDesc} (ht : P.underlying t = some d) (hn : ∀ n e, d ≠ .array n e) (x : Value) (lo hi mx : Option Value) (w : World) :
    (Instr.sliceAt t x lo hi mx).run P w = (Instr.slice t x lo hi mx).run P w := by
  unfold Instr.sliceAt
  rw [Sem.run_bind, run_underlying ht, Result.andThen_ok]
  cases d <;> first | rfl | exact absurd rfl (hn _ _)

theorem aslice_sound {t : TypeId} {v : Value} {x r : AV} {lo hi mx : Option Operand} {ρ : Operand → Value} {ρ' : Operand → AV} (hρ : ∀ x, VR f (ρ x) (ρ' x)) (hv : VR f v x)
    (h : aslice P t x (lo.map ρ') (hi.map ρ') (mx.map ρ') = some r) : Gives P f (Instr.sliceAt t v (lo.map ρ) (hi.map ρ) (mx.map ρ)) r := by
  unfold aslice at h
  split at h
  · rename_i s ht
    obtain ⟨b, rfl, rfl⟩ := hv.str_inv
    cases mx with
    | some m => simp at h
    | none =>
      simp only [Option.map_none, Option.isSome_none, Bool.false_eq_true, if_false] at h
      split at h
      · simp at h
      · rename_i hh hb
        split at h
        · simp at h
        · rename_i ll hl
          injection h with h
          subst h
          rw [length_nats] at hb
          refine .of (.string (b.extract ll hh)) (.str _ _ (nats_extract b ll hh).symm) fun w => ?_
          rw [sliceAt_eq ht (by simp)]
          have := sliceBounds_none (P := P) (isSlice := false) (low := lo) hρ (Nat.le_refl b.size) hb hl w
          simp [Instr.slice, run_underlying ht, this]
  · rename_i e ht
    obtain rfl := hv.nilSl_inv
    split at h
    · rename_i n m hn hm
      split at h
      · simp at h
      · rename_i hh hb
        split at h
        · simp at h
        · rename_i ll hl
          split at h
          · simp at h
          · rename_i hc
            injection h with h
            subst h
            refine .of (.slice none 0 0) .nilSl fun w => ?_
            rw [sliceAt_eq ht (by simp)]
            cases mx with
            | none =>
              simp only [Option.map_none, abound, Option.some.injEq] at hm
              subst hm
              have := sliceBounds_none (P := P) (isSlice := true) (low := lo) hρ (Nat.le_refl 0) hb hl w
              have h1 : hh ≤ 0 := abound_le hb (Nat.le_refl 0)
              simp [Instr.slice, run_underlying ht, this, run_sizeOf hn]
              omega
            | some mo =>
              cases hi with
              | none => simp at hc
              | some ho =>
                simp only [Option.map_some, abound] at hm
                have hm0 : m ≤ 0 := aIx_le hm
                have := sliceBounds_some (P := P) (isSlice := true) (len := 0) (low := lo) hρ (Nat.le_refl 0) hm hb hl w
                have h1 : hh ≤ m := abound_le hb (Nat.zero_le _)
                simp [Instr.slice, run_underlying ht, this, run_sizeOf hn]
                omega
    · simp at h
  · rename_i e id off len es c ht
    obtain ⟨rg, O, cap, sp, hf, hlo, hlen, hO, hc, hsp, rfl⟩ := hv.sl_inv
    split at h
    · simp at h
    · rename_i n hn
      split at h
      · simp at h
      · rename_i hne
        have hne : n = es := by simpa using hne
        subst hne
        have hcg : c.getD len ≤ cap := by
          cases c with
          | none => simpa using hlen
          | some k => simp [hc k rfl]
        split at h
        · rename_i hmx
          have hmx : mx = none := by cases mx <;> simp_all
          subst hmx
          split at h
          · simp at h
          · rename_i hh hb
            split at h
            · simp at h
            · rename_i ll hl
              injection h with h
              subst h
              have h1 : hh ≤ c.getD len := abound_le hb (by cases c with | none => simp | some k => have := hc k rfl; simp; omega)
              have h2 : ll ≤ hh := abound_le hl (Nat.zero_le _)
              refine .of (.slice (some ⟨rg.blk, if cap = ll then O else O + ll * n, sp⟩) (hh - ll) (cap - ll)) ?_ fun w => ?_
              · refine .sl id (off + ll * n) (hh - ll) n _ rg _ _ hf (by omega) (by omega) ?_ ?_ sp (hsp.imp_left fun h => by omega)
                · by_cases h3 : cap = ll
                  · left; omega
                  · right
                    rcases hO with hO | ⟨hO1, hO2⟩
                    · omega
                    · rw [if_neg h3, Nat.sub_mul]
                      have := Nat.mul_le_mul_right n (show ll ≤ cap by omega)
                      omega
                · intro k hk
                  cases c with
                  | none => simp at hk
                  | some k' => simp at hk; have := hc k' rfl; omega
              · rw [sliceAt_eq ht (by simp)]
                have := sliceBounds_none (P := P) (isSlice := true) (low := lo) hρ hcg hb hl w
                simp only [Instr.slice, Sem.run_bind, run_underlying ht, Result.andThen_ok, Option.map_none, this, run_sizeOf hn, Sem.run_pure]
                by_cases h3 : cap = ll
                · simp [h3]
                · obtain rfl : sp = none := hsp.resolve_left (by omega)
                  simp only [h3, if_false, Option.map_some, Addr.add]
                  by_cases h4 : ll * n = 0
                  · simp [h4]
                  · simp [h4]
        · rename_i mo hmx
          obtain ⟨mo, rfl, rfl⟩ : ∃ m, mx = some m ∧ ρ' m = mo := by cases mx <;> simp_all
          split at h
          · simp at h
          · rename_i hhs
            obtain ⟨ho, rfl⟩ : ∃ o, hi = some o := by cases hi <;> simp_all
            split at h
            · simp at h
            · rename_i m hm
              split at h
              · simp at h
              · rename_i hh hb
                split at h
                · simp at h
                · rename_i ll hl
                  injection h with h
                  subst h
                  have h0 : m ≤ c.getD len := aIx_le hm
                  have h1 : hh ≤ m := abound_le hb (Nat.zero_le _)
                  have h2 : ll ≤ hh := abound_le hl (Nat.zero_le _)
                  refine .of (.slice (some ⟨rg.blk, if m = ll then O else O + ll * n, sp⟩) (hh - ll) (m - ll)) ?_ fun w => ?_
                  · refine .sl id (off + ll * n) (hh - ll) n _ rg _ _ hf (by omega) (by omega) ?_ (by intro k hk; simp at hk; exact hk) sp (hsp.imp_left fun h => by omega)
                    by_cases h3 : m = ll
                    · left; omega
                    · right
                      rcases hO with hO | ⟨hO1, hO2⟩
                      · omega
                      · rw [if_neg h3, Nat.sub_mul]
                        have h5 := Nat.mul_le_mul_right n (show ll ≤ m by omega)
                        have h6 := Nat.mul_le_mul_right n (show m ≤ cap by omega)
                        omega
                  · rw [sliceAt_eq ht (by simp)]
                    have := sliceBounds_some (P := P) (isSlice := true) (len := len) (low := lo) hρ hcg hm hb hl w
                    simp only [Instr.slice, Sem.run_bind, run_underlying ht, Result.andThen_ok, Option.map_some, this, run_sizeOf hn, Sem.run_pure]
                    by_cases h3 : m = ll
                    · simp [h3]
                    · obtain rfl : sp = none := hsp.resolve_left (by omega)
                      simp only [h3, if_false, Addr.add]
                      by_cases h4 : ll * n = 0
                      · simp [h4]
                      · simp [h4]
  · simp at h
end
end Go.Proofs.Ytgnacecplaemlaa.AI
