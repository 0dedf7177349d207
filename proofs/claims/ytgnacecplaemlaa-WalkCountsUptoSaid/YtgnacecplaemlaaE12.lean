/-
  An abstract interpreter for the model's code, part 12: an operation that makes or writes memory comes to what the model's run comes to.
-/
import Derived.Test.YtgnacecplaemlaaE11
namespace Go.Proofs.Ytgnacecplaemlaa.AI
open Go.RowKit
section
variable {P : Program} {B : Nat} {f : Inj} {h : AH} {w : World} {ρ : Operand → Value} {ρ' : Operand → AV}

theorem not_blt {a b : Nat} (h : ¬ Nat.blt a b = true) : b ≤ a := by
  rcases Nat.lt_or_ge a b with h1 | h1
  · exact absurd (Nat.blt_eq.mpr h1) h
  · exact h1

theorem aappend_sound (H : HR B f h w) {ts : Array TypeId} {as : Array Value} {t0 t1 ty : TypeId} {v u : Value} {x y : AV} {a : AV} {h' : AH}
    (ht0 : ts[0]? = some t0) (ht1 : ts[1]? = some t1) (ha0 : as[0]? = some v) (ha1 : as[1]? = some u) (hv : VR f v x) (hu : VR f u y) (h0 : aappend P t0 t1 x y h = some (a, h')) :
    ∃ v' w', (Builtin.append_ ts ty as).run P w = .ok v' w' ∧ HPost B f w h' a v' w' := by
  have same : ∀ {v' : Value}, VR f v' a → h' = h → (Builtin.append_ ts ty as).run P w = .ok v' w → ∃ v' w', (Builtin.append_ ts ty as).run P w = .ok v' w' ∧ HPost B f w h' a v' w' :=
    fun hv' e hr => ⟨_, w, hr, f, Ext.refl f, by rw [e]; exact H, Kept.refl B w, hv'⟩
  unfold aappend at h0
  split at h0
  · rename_i e ki hu0 hu1
    unfold azeros at h0
    split at h0
    · rename_i kk q
      split at h0
      · simp at h0
      · rename_i i hi
        split at h0
        · simp at h0
        · rename_i z hz
          split at h0
          · simp at h0
          · rename_i hc
            simp only [Bool.or_eq_true, decide_eq_true_eq, bne_iff_ne, ne_eq, not_or, Decidable.not_not, Bool.not_eq_true] at hc
            obtain ⟨⟨⟨⟨⟨c1, c2⟩, c3⟩, c4⟩, c5⟩, c6⟩ := hc
            have c6 : (IntKind.i64.wrap q).toNat * i.bytes ≤ 140737488355328 := not_blt (by simp [c6])
            injection h0 with h0
            injection h0 with e1 e2
            subst e1 e2
            obtain rfl := hv.nilSl_inv
            obtain rfl := hu.int_inv
            have hnt : ofConst z ≠ .top := by intro h; rw [h] at c1; simp [AV.isTop] at c1
            have hzc := (VR.ofConst f z).cells hnt
            have hzl : z.cells.size = i.size := by have := hzc.length; simp at this; omega
            have hrun := run_app_zeros (w := w) (ty := ty) ht0 ht1 ha0 ha1 hu0 hu1 hi hz c3 c4 (by omega) c6
            have hge := grownCap_ge w (IntKind.i64.wrap q).toNat 0 e
            have hrep := hzc.arep (by omega) (IntKind.i64.wrap q).toNat
            have H' : HR B f h w.drew := H.of_heap rfl
            have hsz : (Builtin.zeroCells z.cells (IntKind.i64.wrap q).toNat ++ Builtin.zeroCells z.cells (grownCap w (IntKind.i64.wrap q).toNat 0 e - (IntKind.i64.wrap q).toNat)).size = grownCap w (IntKind.i64.wrap q).toNat 0 e * i.size := by
              simp only [Array.size_append, size_zeroCells', hzl]
              rw [← Nat.add_mul]
              congr 1; omega
            have := H'.newSl (cs := Builtin.zeroCells z.cells (IntKind.i64.wrap q).toNat ++ Builtin.zeroCells z.cells (grownCap w (IntKind.i64.wrap q).toNat 0 e - (IntKind.i64.wrap q).toNat)) (l := arep (ofConst z).cells (IntKind.i64.wrap q).toNat) (e := e)
              (len := (IntKind.i64.wrap q).toNat) (cap := grownCap w (IntKind.i64.wrap q).toNat 0 e) (es := i.size) (c := none)
              (by rw [hsz, length_arep, c2]; exact Nat.mul_le_mul_right _ hge)
              (fun j a ha => by
                obtain ⟨x, hx1, hx2⟩ := hrep.get j a ha
                refine ⟨x, ?_, hx2⟩
                have hj : j < (Builtin.zeroCells z.cells (IntKind.i64.wrap q).toNat).size := by
                  have := (List.getElem?_eq_some_iff.mp ha).1
                  rw [length_arep, c2] at this
                  rw [size_zeroCells', hzl]; exact this
                rw [Array.getElem?_append_left hj, ← hx1, Array.getElem?_toList]
                rfl)
              (by rw [hsz]; exact Nat.le_refl _) hge (by simp)
            obtain ⟨f', g1, g2, g3, g4⟩ := this
            exact ⟨_, _, hrun, f', g1, g2, Kept.trans ((Kept.refl B w).drew) g3, g4⟩
    · simp at h0
  · rename_i e d1 _ hu0 hu1
    split at h0
    · simp at h0
    · rename_i hseq
      have hseq : isSeq d1 = true := by simpa using hseq
      split at h0
      · simp at h0
      · rename_i i hi
        split at h0
        · rename_i z n hz hn
          split at h0
          · simp at h0
          · rename_i hc
            simp only [Bool.or_eq_true, decide_eq_true_eq, bne_iff_ne, ne_eq, not_or, Decidable.not_not] at hc
            obtain ⟨⟨hc1, hc2⟩, hc3⟩ := hc
            have A := AppArgs.mk (v := v) (u := u) ht0 ht1 ha0 ha1 hu0 hu1 hseq hi hz
            have H' : HR B f h w.drew := H.of_heap rfl
            split at h0
            · obtain rfl := hv.nilSl_inv
              split at h0
              · rename_i hn0
                subst hn0
                injection h0 with h0
                injection h0 with e1 e2
                subst e1 e2
                refine same .nilSl rfl ?_
                have hl : (Builtin.lenOf u).run P w = .ok 0 w := by
                  cases y <;> simp only [alenOf, Option.some.injEq] at hn <;> first | (simp at hn; done) | skip
                  · obtain ⟨b, rfl, hb⟩ := hu.str_inv; rw [hb, length_nats] at hn; simp [Builtin.lenOf, hn]
                  · obtain rfl := hu.nilSl_inv; simp [Builtin.lenOf]
                  · obtain ⟨r, O, cap, sp, _, _, _, _, _, _, rfl⟩ := hu.sl_inv; subst hn; simp [Builtin.lenOf]
                have hfc : (Builtin.firstCells i.size 0 u).run P w = .ok #[] w := by
                  cases y <;> simp only [alenOf, Option.some.injEq] at hn <;> first | (simp at hn; done) | skip
                  · obtain ⟨b, rfl, hb⟩ := hu.str_inv; simp [Builtin.firstCells]
                  · obtain rfl := hu.nilSl_inv; simp [Builtin.firstCells]
                  · obtain ⟨r, O, cap, sp, _, _, _, _, _, _, rfl⟩ := hu.sl_inv; simp [Builtin.firstCells, loadCells, loadCellsFrom]
                exact run_app_none A hl hfc
              · rename_i hn0
                split at h0
                · simp at h0
                · rename_i hbl
                  split at h0
                  · simp at h0
                  · rename_i new hnew
                    injection h0 with h0
                    injection h0 with e1 e2
                    subst e1 e2
                    obtain ⟨q1, q2, _, _, _⟩ := afirst_sound H hu hn hnew
                    obtain ⟨_, _, vs, q3, q4⟩ := afirst_sound (P := P) H' hu hn hnew
                    have := grow_sound (ty := ty) H A (n := n) (new := vs) (old := []) (lnew := new) (lold := []) (by omega) (by simpa using not_blt hbl) hc2 hc3 q1 q4 (by simp [Builtin.firstCells]) q3 .nil q2 (by simp)
                    simpa using this
            · rename_i id off len es c
              obtain ⟨r, O, cap, sp, hf, hlo, hlen, hO, hcp, hsp, rfl⟩ := hv.sl_inv
              split at h0
              · simp at h0
              · rename_i hes
                have hes : es = i.size := by simpa using hes
                subst hes
                split at h0
                · rename_i hn0
                  subst hn0
                  injection h0 with h0
                  injection h0 with e1 e2
                  subst e1 e2
                  refine same hv rfl ?_
                  have hl : (Builtin.lenOf u).run P w = .ok 0 w := by
                    cases y <;> simp only [alenOf, Option.some.injEq] at hn <;> first | (simp at hn; done) | skip
                    · obtain ⟨b, rfl, hb⟩ := hu.str_inv; rw [hb, length_nats] at hn; simp [Builtin.lenOf, hn]
                    · obtain rfl := hu.nilSl_inv; simp [Builtin.lenOf]
                    · obtain ⟨r, O, cap, sp, _, _, _, _, _, _, rfl⟩ := hu.sl_inv; subst hn; simp [Builtin.lenOf]
                  have hfc : (Builtin.firstCells i.size 0 u).run P w = .ok #[] w := by
                    cases y <;> simp only [alenOf, Option.some.injEq] at hn <;> first | (simp at hn; done) | skip
                    · obtain ⟨b, rfl, hb⟩ := hu.str_inv; simp [Builtin.firstCells]
                    · obtain rfl := hu.nilSl_inv; simp [Builtin.firstCells]
                    · obtain ⟨r, O, cap, sp, _, _, _, _, _, _, rfl⟩ := hu.sl_inv; simp [Builtin.firstCells, loadCells, loadCellsFrom]
                  exact run_app_zero hlen A hl hfc
                · rename_i hn0
                  split at h0
                  · simp at h0
                  · rename_i hbl
                    have hbl := not_blt hbl
                    split at h0
                    · rename_i new old hnew hold
                      obtain ⟨q1, q2, vs1, q5, q6⟩ := afirst_sound (P := P) H hu hn hnew
                      obtain ⟨_, _, vs, q3, q4⟩ := afirst_sound (P := P) H' hu hn hnew
                      have hold' : afirst h i.size (.sl id off len i.size c) = some old := by simp [afirst, hold]
                      obtain ⟨_, p2, vo, p3, p4⟩ := afirst_sound (P := P) H' hv rfl hold'
                      have grow : cap < len + n → ∃ v' w', (Builtin.append_ ts ty as).run P w = .ok v' w' ∧ HPost B f w (h.alloc (old ++ new)) (.sl h.next 0 (len + n) i.size none) v' w' := fun hlt =>
                        grow_sound (ty := ty) H A (n := n) (new := vs) (old := vo) (lnew := new) (lold := old) hlt hbl hc2 hc3 q1 q4 p4 q3 p3 q2 p2
                      have growM : ∀ h'' : AH, aappend.amove h id off len n i.size new = some (a, h'') → cap < len + n → ∃ v' w', (Builtin.append_ ts ty as).run P w = .ok v' w' ∧ HPost B f w h'' a v' w' := by
                        intro h'' hm hlt
                        unfold aappend.amove at hm
                        split at hm
                        · simp at hm
                        · rename_i b hb
                          split at hm
                          · simp at hm
                          · rename_i hro
                            simp only [Bool.or_eq_true, Bool.not_eq_true', not_or, Bool.not_eq_true, Bool.not_eq_false] at hro
                            injection hm with hm
                            injection hm with e1 e2
                            subst e1 e2
                            exact growM_sound (ty := ty) H A (n := n) (new := vs) (old := vo) (lnew := new) (lold := old) hlt hbl hc2 hc3 q1 q4 p4 q3 p3 q2 p2 hb hold
                      have moveM : ∀ h'' : AH, aappend.amove h id off len n i.size new = some (a, h'') → len + n ≤ cap → ∃ v' w', (Builtin.append_ ts ty as).run P w = .ok v' w' ∧ HPost B f w h'' a v' w' := by
                        intro h'' hm hle
                        unfold aappend.amove at hm
                        split at hm
                        · simp at hm
                        · rename_i b hb
                          split at hm
                          · simp at hm
                          · rename_i hro
                            simp only [Bool.or_eq_true, Bool.not_eq_true', not_or, Bool.not_eq_true, Bool.not_eq_false] at hro
                            injection hm with hm
                            injection hm with e1 e2
                            subst e1 e2
                            obtain rfl : sp = none := hsp.resolve_left (by omega)
                            rcases hO with hO | ⟨hO, hext⟩
                            · omega
                            · obtain ⟨c0, et, m1, m2, m3⟩ := move_sound H hf hb hro.1 hlo hO hext hle q5 q2 hold
                              exact ⟨_, _, run_app_room A hle q1 q6 m1 m2 (atoms_one q5 hro.2), m3⟩
                      have anyM : ∀ h'' : AH, aappend.amove h id off len n i.size new = some (a, h'') → ∃ v' w', (Builtin.append_ ts ty as).run P w = .ok v' w' ∧ HPost B f w h'' a v' w' := by
                        intro h'' hm
                        rcases Nat.lt_or_ge cap (len + n) with hlt | hle
                        · exact growM h'' hm hlt
                        · exact moveM h'' hm hle
                      split at h0
                      · rename_i k
                        split at h0
                        · rename_i hk
                          injection h0 with h0
                          injection h0 with e1 e2
                          subst e1 e2
                          have := hcp k rfl
                          exact grow (by rw [this]; exact Nat.blt_eq.mp hk)
                        · exact anyM _ h0
                      · exact anyM _ h0
                    · simp at h0
            · simp at h0
        · simp at h0
  · simp at h0
end
end Go.Proofs.Ytgnacecplaemlaa.AI
