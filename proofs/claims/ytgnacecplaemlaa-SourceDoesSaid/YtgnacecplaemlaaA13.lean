/-
  An abstract interpreter for the model's code, part 13: an operation that makes or writes memory and is no call, together; any operation.
-/
import Derived.Test.YtgnacecplaemlaaA12
namespace Go.Proofs.Ytgnacecplaemlaa.AI
open Go.RowKit
section
variable {P : Program} {B : Nat} {f : Inj} {h : AH} {w : World} {ρ : Operand → Value} {ρ' : Operand → AV}

theorem acopy_sound (H : HR B f h w) {ts : Array TypeId} {as : Array Value} {t0 ty : TypeId} {v u : Value} {x y : AV} {a : AV} {h' : AH}
    (ht0 : ts[0]? = some t0) (ha0 : as[0]? = some v) (ha1 : as[1]? = some u) (hv : VR f v x) (hu : VR f u y) (h0 : acopy P t0 x y h = some (a, h')) :
    ∃ v' w', (Builtin.copy_ ts ty as).run P w = .ok v' w' ∧ HPost B f w h' a v' w' := by
  have same : ∀ {v' : Value}, VR f v' a → h' = h → (Builtin.copy_ ts ty as).run P w = .ok v' w → ∃ v' w', (Builtin.copy_ ts ty as).run P w = .ok v' w' ∧ HPost B f w h' a v' w' :=
    fun hv' e hr => ⟨_, w, hr, f, Ext.refl f, by rw [e]; exact H, Below.refl B w, hv'⟩
  unfold acopy at h0
  split at h0
  · rename_i e hu0
    split at h0
    · rename_i es hes
      have hes' := run_sizeOf hes
      split at h0
      · obtain rfl := hv.nilSl_inv
        obtain rfl := hu.nilSl_inv
        injection h0 with h0; injection h0 with e1 e2; subst e1 e2
        exact same (.int .i64 0) rfl (by simp [Builtin.copy_, ht0, ha0, ha1, run_underlying hu0, Builtin.lenOf, hes', Builtin.firstCells, goInt])
      · obtain rfl := hv.nilSl_inv
        obtain ⟨r, O, cap, _, _, _, _, _, rfl⟩ := hu.sl_inv
        injection h0 with h0; injection h0 with e1 e2; subst e1 e2
        exact same (.int .i64 0) rfl (by simp [Builtin.copy_, ht0, ha0, ha1, run_underlying hu0, Builtin.lenOf, hes', Builtin.firstCells, goInt, loadCells, loadCellsFrom])
      · obtain ⟨r, O, cap, _, _, _, _, _, rfl⟩ := hv.sl_inv
        obtain rfl := hu.nilSl_inv
        injection h0 with h0; injection h0 with e1 e2; subst e1 e2
        exact same (.int .i64 0) rfl (by simp [Builtin.copy_, ht0, ha0, ha1, run_underlying hu0, Builtin.lenOf, hes', Builtin.firstCells, goInt, storeCells])
      · rename_i id off len es1 c id2 off2 n es2 c2
        obtain ⟨r, O, cap, hf, hlo, hlen, hO, hcp, rfl⟩ := hv.sl_inv
        obtain ⟨r2, O2, cap2, hf2, hlo2, hlen2, hO2, hcp2, rfl⟩ := hu.sl_inv
        split at h0
        · simp at h0
        · rename_i hne
          simp only [ne_eq, not_or, Decidable.not_not] at hne
          obtain ⟨rfl, hne2⟩ := hne
          subst hne2
          split at h0
          · rename_i hk
            injection h0 with h0; injection h0 with e1 e2; subst e1 e2
            have hk' : Nat.min n len = 0 := hk
            exact same (.int .i64 0) rfl (by simp [Builtin.copy_, ht0, ha0, ha1, run_underlying hu0, Builtin.lenOf, hes', Builtin.firstCells, goInt, hk', loadCells, loadCellsFrom, storeCells])
          · rename_i hk
            split at h0
            · simp at h0
            · rename_i l hl
              split at h0
              · simp at h0
              · rename_i hat
                have hat : atoms l = true := by simpa using hat
                split at h0
                · simp at h0
                · rename_i h2 hw
                  injection h0 with h0; injection h0 with e1 e2; subst e1 e2
                  obtain ⟨vs, q1, q2, q3⟩ := H.cells hl hf2 hlo2
                  obtain ⟨cc, et, m1, m2, m3, m4⟩ := H.write hw hf q2
                  have hO' : O = r.base + (off - r.lo) := by rcases hO with h | h <;> omega
                  have hO2' : O2 = r2.base + (off2 - r2.lo) := by rcases hO2 with h | h <;> omega
                  subst hO' hO2'
                  have hload := run_loadCells_list (P := P) w _ vs q3
                  rw [q1] at hload
                  have hst := run_storeCells_at P r.blk (r.base + (off - r.lo)) et vs 0 cc w m1 (by simpa using m2) (atoms_one q2 hat)
                  simp only [Nat.add_zero] at hst
                  refine ⟨.int .i64 (min n len : Nat), _, ?_, f, Ext.refl f, m3, m4, .int _ _⟩
                  have e3 : Nat.min n len = min n len := rfl
                  simp [Builtin.copy_, ht0, ha0, ha1, run_underlying hu0, Builtin.lenOf, hes', Builtin.firstCells, goInt, hload, hst, e3]
      · simp at h0
    · simp at h0
  · simp at h0

/-- Not a call of a function of the program. -/
def notCall (o : Oper) : Prop := ∀ f as ts, o.op ≠ .call { callee := .value f, args := as, argTypes := ts }

theorem aheap_sound (H : HR B f h w) (hρ : ∀ x, VR f (ρ x) (ρ' x)) {call : FuncId → List AV → AH → Option (AV × AH)} {o : Oper} {a : AV} {h' : AH} (hnc : notCall o)
    (h0 : aheap P call ρ' o h = some (a, h')) : ∃ v w', Comes1 P ρ o w v w' ∧ HPost B f w h' a v w' := by
  obtain ⟨dst, op, type, pos, after, guard⟩ := o
  cases op <;> simp only [aheap] at h0 <;> try (simp at h0; done)
  case alloc e =>
    split at h0
    · rename_i z hz
      split at h0
      · simp at h0
      · rename_i hzt
        injection h0 with h0; injection h0 with e1 e2; subst e1 e2
        obtain ⟨zv, hzv, hzr⟩ := run_zeroValue hz f
        have hnt : z ≠ .top := by rintro rfl; simp [AV.isTop] at hzt
        exact ⟨_, _, .inl (by simp [execOp, Instr.alloc, hzr, newVar, newRow]), H.new (hzv.cells hnt) e⟩
    · simp at h0
  case box e x =>
    split at h0
    · simp at h0
    · rename_i hxt
      injection h0 with h0; injection h0 with e1 e2; subst e1 e2
      have hnt : ρ' x ≠ .top := by intro e; rw [e] at hxt; simp [AV.isTop] at hxt
      exact ⟨_, _, .inl (by simp [execOp, Instr.box, newVar, newRow]), H.new ((hρ x).cells hnt) e⟩
  case buildSlice t len parts =>
    obtain ⟨parts⟩ := parts
    split at h0
    · rename_i e ht
      split at h0
      · rename_i n z hn hz
        by_cases hl0 : len = 0
        · subst hl0
          rw [if_pos rfl] at h0
          split at h0
          · rename_i hpe
            injection h0 with h0; injection h0 with e1 e2; subst e1 e2
            have hp0 : parts = [] := by simpa using hpe
            subst hp0
            refine ⟨_, _, .inl ?_, H.newSl (cs := #[]) (l := []) (e := e) (len := 0) (cap := 0) (es := n) (c := some 0) (by simp) (fun i a ha => by simp at ha) (by omega) (Nat.le_refl _) (by simp)⟩
            simp [execOp, Instr.buildSlice, run_underlying ht, run_sizeOf hn, Instr.fill, newRow]
            rw [show Array.range 0 = #[] from rfl, Array.map_empty]
          · simp at h0
        rw [if_neg hl0] at h0
        split at h0
        · simp at h0
        · rename_i hc
          simp only [Bool.or_eq_true, decide_eq_true_eq, bne_iff_ne, ne_eq, not_or, Decidable.not_not] at hc
          obtain ⟨⟨⟨⟨hc1, hc2⟩, hc3⟩, hc4⟩, hc5⟩ := hc
          split at h0
          · simp at h0
          · rename_i l hl
            injection h0 with h0; injection h0 with e1 e2; subst e1 e2
            obtain ⟨zv, hzv, hzr⟩ := run_zeroValue hz f
            have hnt : z ≠ .top := by rintro rfl; simp [AV.isTop] at hc1
            have hzc := hzv.cells hnt
            have hzl : zv.cells.size = n := by have := hzc.length; simp at this; omega
            have hrep := hzc.arep (by omega) len
            rw [hzl] at hrep
            obtain ⟨cs', h1, h2⟩ := afill_sound hρ hrep hl
            have h5 : len * n ≤ 16777216 := not_blt hc5
            have hlen : l.length = cs'.size := by have := h2.length; simpa using this.symm
            have hfl : l.length = len * n := by
              have : ∀ (place : Nat → Option (Nat × Nat)) (ps : List (Nat × AV)) (c r : List AV), afill place c ps = some r → r.length = c.length := by
                intro place ps
                induction ps with
                | nil => intro c r hh; simp [afill] at hh; subst hh; rfl
                | cons p ps ih =>
                  intro c r hh
                  simp only [afill] at hh
                  split at hh
                  · simp at hh
                  · rename_i off size hp
                    split at hh
                    · simp at hh
                    · rename_i hcc
                      simp only [Bool.or_eq_true, not_or, Bool.not_eq_true, bne_eq_false_iff_eq] at hcc
                      have h9 : off + size ≤ c.length := not_blt (by simp [hcc.2])
                      rw [ih _ _ hh]
                      simp only [List.length_append, List.length_take, List.length_drop]
                      omega
              rw [this _ _ _ _ hl, length_arep]
              congr 1
            refine ⟨_, _, .inl ?_, H.newSl (cs := cs') (l := l) (e := e) (len := len) (cap := len) (es := n) (c := some len) (by omega) (fun i a ha => ?_) (by omega) (Nat.le_refl _) (by simp)⟩
            · have h6 : ¬ 2 ^ 24 < len * n := by omega
              have h7 : ¬ 16777216 < len * n := by omega
              have h8 : ¬ len * n = 0 := fun e => by rcases Nat.mul_eq_zero.mp e with e | e <;> omega
              simp only at h1 ⊢
              simp [execOp, Instr.buildSlice, run_underlying ht, run_sizeOf hn, hzr, h8, h1, newRow, hzl, h7]
            · obtain ⟨v, e1, e2⟩ := h2.get i a ha
              exact ⟨v, by simpa using e1, e2⟩
      · simp at h0
    · simp at h0
  case makeSlice t lo co =>
    split at h0
    · rename_i e k l k' c ht hl hc
      split at h0
      · simp at h0
      · rename_i i hi
        split at h0
        · simp at h0
        · rename_i z hz
          split at h0
          · simp at h0
          · rename_i hcc
            simp only [Bool.or_eq_true, decide_eq_true_eq, bne_iff_ne, ne_eq, not_or, Decidable.not_not] at hcc
            obtain ⟨⟨⟨⟨⟨hc1, hc2⟩, hc3⟩, hc4⟩, hc5⟩, hc6⟩ := hcc
            have hc6 := not_blt hc6
            injection h0 with h0; injection h0 with e1 e2; subst e1 e2
            have hlo := hρ lo
            rw [hl] at hlo
            have hlo := hlo.int_inv
            have hco := hρ co
            rw [hc] at hco
            have hco := hco.int_inv
            cases hzz : i.zero with
            | none => simp [hzz] at hz
            | some zv =>
              simp [hzz] at hz
              have hzv : VR f zv z := by rw [← hz]; exact VR.ofConst f zv
              have hnt : z ≠ .top := by rintro rfl; simp [AV.isTop] at hc1
              have hzc := hzv.cells hnt
              have hzl : zv.cells.size = i.size := by have := hzc.length; simp at this; omega
              have hrep := hzc.arep (by omega) (IntKind.i64.wrap c).toNat
              have hrl := hrep.length
              have hcs : ((Array.range ((IntKind.i64.wrap c).toNat * zv.cells.size)).map fun j => zv.cells[j % zv.cells.size]!).size = (IntKind.i64.wrap c).toNat * i.size := by rw [Array.size_map, Array.size_range, hzl]
              refine ⟨_, _, .inl ?_, H.newSl (e := e) (cs := (Array.range ((IntKind.i64.wrap c).toNat * zv.cells.size)).map fun j => zv.cells[j % zv.cells.size]!) (l := arep z.cells (IntKind.i64.wrap c).toNat) (len := (IntKind.i64.wrap l).toNat) (cap := (IntKind.i64.wrap c).toNat) (es := i.size) (c := some (IntKind.i64.wrap c).toNat)
                (by rw [← hrl, Array.length_toList]; exact Nat.le_refl _) (fun j a ha => ?_) (by omega) (by omega) (by simp)⟩
              · have t1 : ¬ (IntKind.i64.wrap c < 0) := by omega
                have t2 : ¬ ((i.bytes : Int) * IntKind.i64.wrap c > 281474976710656) := by
                  have t4 : (IntKind.i64.wrap c).toNat * i.bytes ≤ 140737488355328 := hc6
                  have t5 : ((IntKind.i64.wrap c).toNat : Int) = IntKind.i64.wrap c := Int.toNat_of_nonneg (by omega)
                  have t6 := Int.ofNat_le.mpr t4
                  rw [Int.natCast_mul, t5] at t6
                  rw [Int.mul_comm]
                  omega
                have t3 : (decide (IntKind.i64.wrap c < 0) || decide ((i.bytes : Int) * IntKind.i64.wrap c > 2 ^ 48)) = false := by simp; omega
                have t7 : ((decide (IntKind.i64.wrap c < 0) || decide ((i.bytes : Int) * IntKind.i64.wrap c > 2 ^ 48)) || decide (IntKind.i64.wrap l < 0) || decide (IntKind.i64.wrap l > IntKind.i64.wrap c)) = false := by
                  rw [t3]; simp; omega
                have hcn : (zeroValue e).run P w = .ok zv w := by simp [zeroValue, typeInfo, hi, hzz]
                simp only [execOp, Instr.makeSlice, hlo, hco, Sem.run_bind, run_underlying ht, Result.andThen_ok, asInt, asIntOf, Sem.run_pure, typeInfo, run_program, hi, sizeOf]
                rw [if_neg (by simpa using t7)]
                simp only [Sem.run_bind, run_askRoom, Result.andThen_ok, Sem.run_pure, run_program, hi]
                by_cases hz0 : (IntKind.i64.wrap c).toNat * i.size = 0
                · have hr0 : Array.range ((IntKind.i64.wrap c).toNat * i.size) = #[] := by rw [hz0]; rfl
                  simp only [hzl, hr0]
                  simp [hz0, newRow]
                · simp [hz0, hcn, newRow, hzl]
              · obtain ⟨v, e1, e2⟩ := hrep.get j a ha
                exact ⟨v, by rw [← e1, Array.getElem?_toList], e2⟩
    · simp at h0
  case store t x y =>
    split at h0
    · rename_i id off n hx hn
      split at h0
      · simp at h0
      · rename_i hc
        simp only [Bool.or_eq_true, bne_iff_ne, ne_eq, not_or, Decidable.not_not, Bool.not_eq_true', Bool.not_eq_false, Bool.not_eq_true] at hc
        obtain ⟨⟨hc1, hc2⟩, hc3⟩ := hc
        cases hw : h.write id off (ρ' y).cells with
        | none => simp [hw] at h0
        | some h2 =>
          simp [hw] at h0
          obtain ⟨rfl, rfl⟩ := h0
          have hp := hρ x
          rw [hx] at hp
          obtain ⟨w', h1, h2, h3⟩ := store_sound (P := P) H hp (hρ y) hn hc1 hc2 hc3 hw
          exact ⟨undef, w', .inr ⟨by simp [execOp, h1], rfl⟩, f, Ext.refl f, h2, h3, .tup _ _ (by exact .nil)⟩
    · simp at h0
  case call c =>
    obtain ⟨callee, args, argTypes⟩ := c
    cases callee with
    | value x => exact absurd rfl (hnc x args argTypes)
    | invoke x m => simp at h0
    | builtin b =>
      obtain ⟨args⟩ := args
      cases b <;> simp only [] at h0 <;> try (simp at h0; done)
      case append =>
        split at h0
        · rename_i t0 t1 s x g0 g1 g2 g3
          obtain ⟨v, w', h1, h2⟩ := aappend_sound (P := P) (ty := type) (as := (args.map ρ).toArray) H g0 g1 (v := ρ s) (u := ρ x) (by simp at g2; simp [g2]) (by simp at g3; simp [g3]) (hρ s) (hρ x) h0
          exact ⟨v, w', .inl (by simp [execOp, resolve, invoke, builtin, h1]), h2⟩
        · simp at h0
      case copy =>
        split at h0
        · rename_i t0 s x g0 g2 g3
          obtain ⟨v, w', h1, h2⟩ := acopy_sound (P := P) (ty := type) (as := (args.map ρ).toArray) H g0 (v := ρ s) (u := ρ x) (by simp at g2; simp [g2]) (by simp at g3; simp [g3]) (hρ s) (hρ x) h0
          exact ⟨v, w', .inl (by simp [execOp, resolve, invoke, builtin, h1]), h2⟩
        · simp at h0
end
end Go.Proofs.Ytgnacecplaemlaa.AI
