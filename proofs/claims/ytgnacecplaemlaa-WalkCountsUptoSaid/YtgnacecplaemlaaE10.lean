/-
  An abstract interpreter for the model's code, part 10: the operations that make or write memory.
-/
import Derived.Test.YtgnacecplaemlaaE9
namespace Go.Proofs.Ytgnacecplaemlaa.AI
open Go.RowKit
section
variable {P : Program} {B : Nat} {f : Inj} {h : AH} {w : World} {ρ : Operand → Value} {ρ' : Operand → AV}

theorem seg_get {α : Type} (c vs : List α) (k p : Nat) (hk : k + vs.length ≤ c.length) :
    (c.take k ++ vs ++ c.drop (k + vs.length))[p]? = if p < k then c[p]? else if p < k + vs.length then vs[p - k]? else c[p]? := by
  have h1 : (c.take k).length = k := by rw [List.length_take]; omega
  by_cases a : p < k
  · rw [if_pos a, List.append_assoc, List.getElem?_append_left (by rw [h1]; exact a), List.getElem?_take, if_pos a]
  · rw [if_neg a, List.append_assoc, List.getElem?_append_right (by rw [h1]; omega), h1]
    by_cases b : p < k + vs.length
    · rw [if_pos b, List.getElem?_append_left (by omega)]
    · rw [if_neg b, List.getElem?_append_right (by omega), List.getElem?_drop]
      congr 1; omega

theorem write_inv {id off : Nat} {l : List AV} {h' : AH} (hw : h.write id off l = some h') :
    ∃ b, h.blk? id = some b ∧ b.ro = false ∧ b.lo ≤ off ∧ off + l.length ≤ b.hi ∧ h' = h.put id (some { b with cells := putCells l off b.cells }) := by
  unfold AH.write at hw
  split at hw
  · rename_i b hb
    split at hw
    · rename_i hc
      injection hw with hw
      simp only [Bool.and_eq_true, Bool.not_eq_true'] at hc
      exact ⟨b, hb, hc.1.1, Nat.ble_eq.mp hc.1.2, Nat.ble_eq.mp hc.2, hw.symm⟩
    · simp at hw
  · simp at hw

theorem HR.write (H : HR B f h w) {id off : Nat} {l : List AV} {h' : AH} {r : Reg} {vs : List Value} (hw : h.write id off l = some h') (hf : f id = some r) (hv : VRs f vs l) :
    ∃ c e, w.heap[r.blk]? = some (.cells c e (0, 0)) ∧ r.base + (off - r.lo) + vs.length ≤ c.size ∧
      HR B f h' (w.setRow r.blk (c.toList.take (r.base + (off - r.lo)) ++ vs ++ c.toList.drop (r.base + (off - r.lo) + vs.length)).toArray) ∧
      Kept B w (w.setRow r.blk (c.toList.take (r.base + (off - r.lo)) ++ vs ++ c.toList.drop (r.base + (off - r.lo) + vs.length)).toArray) := by
  obtain ⟨b, hb, hro, h1, h2, rfl⟩ := write_inv hw
  obtain ⟨r', c, e, fz, hf', hc, hin, hlo, hhi, hown, _, hlive⟩ := H.blk id b hb
  obtain rfl : r' = r := by rw [hf] at hf'; injection hf' with e; exact e.symm
  obtain ⟨hB, rfl⟩ := hown hro
  have hlen := hv.length
  have hk : r'.base + (off - r'.lo) + vs.length ≤ c.toList.length := by rw [show c.toList.length = c.size from Array.length_toList]; omega
  have hidn : id < h.next := by
    rcases Nat.lt_or_ge id h.next with h3 | h3
    · exact h3
    · rw [H.fresh id h3] at hb; simp at hb
  refine ⟨c, e, hc, by simpa using hk, ?_⟩
  refine H.replace hb hro hf hc (c' := (c.toList.take (r'.base + (off - r'.lo)) ++ vs ++ c.toList.drop (r'.base + (off - r'.lo) + vs.length)).toArray) (by rw [List.size_toArray]; simp only [List.length_append, List.length_take, List.length_drop, Array.length_toList] at hk ⊢; omega) (fun j hj => ?_)
    (id' := id) (b' := { b with cells := putCells l off b.cells }) (r' := r') (h' := h.put id (some { b with cells := putCells l off b.cells })) (fun j => ?_) (fun _ => rfl)
    (.inl rfl) hidn (Nat.le_refl _) (Ext.refl f) H.ffresh hf rfl (Nat.le_refl _) (Nat.le_refl _) hlo hhi hro (fun o a ha => ?_)
  · rw [List.getElem?_toArray, seg_get _ _ _ _ hk]
    have : c.toList[j]? = c[j]? := by simp
    rw [this]
    rcases hj with hj | hj
    · rw [if_pos (by omega)]
    · rw [if_neg (by omega), if_neg (by omega)]
  · rw [AH.blk?_put]
    by_cases hj : j = id
    · rw [if_pos hj, if_pos hj]
    · rw [if_neg hj, if_neg hj, if_neg hj]
  · obtain ⟨g1, g2⟩ := Blk.get_lo ha
    simp only at g1 g2
    rw [Blk.get_eq, if_pos ⟨g1, g2⟩] at ha
    simp only [get_putCells] at ha
    dsimp only
    rw [List.getElem?_toArray, seg_get _ _ _ _ hk]
    by_cases hin2 : off ≤ o ∧ o < off + l.length
    · rw [if_pos hin2] at ha
      obtain ⟨v, hv1, hv2⟩ := hv.get _ a ha
      refine ⟨v, ?_, hv2⟩
      rw [if_neg (by omega), if_pos (by omega), ← hv1]
      congr 1; omega
    · rw [if_neg hin2] at ha
      obtain ⟨v, hv1, hv2⟩ := hlive o a (by rw [Blk.get_eq, if_pos ⟨g1, g2⟩]; exact ha)
      refine ⟨v, ?_, hv2⟩
      have e2 : c.toList[r'.base + (o - b.lo)]? = some v := by simpa using hv1
      by_cases hlt : r'.base + (o - b.lo) < r'.base + (off - r'.lo)
      · rw [if_pos hlt]; exact e2
      · rw [if_neg hlt, if_neg (by omega)]; exact e2

theorem atoms_one {l : List AV} {vs : List Value} (hv : VRs f vs l) (ha : atoms l = true) : ∀ v ∈ vs, v.oneCell' = true := by
  induction l generalizing vs with
  | nil => cases hv; simp
  | cons a l ih =>
    cases hv with
    | cons v _ vs _ h1 h2 =>
      simp only [atoms, Bool.and_eq_true] at ha
      intro u hu
      simp at hu
      rcases hu with rfl | hu
      · exact (h1.atom ha.1).1
      · exact ih h2 ha.2 u hu

theorem store_sound (H : HR B f h w) {t : TypeId} {v u : Value} {id off n : Nat} {y : AV} {h' : AH} (hp : VR f v (.ptr id off)) (hu : VR f u y) (hn : asize P t = some n)
    (hy : y.isTop = false) (hl : y.cells.length = n) (ha : atoms y.cells = true) (hw : h.write id off y.cells = some h') :
    ∃ w', (Instr.storeAt t v u).run P w = .ok () w' ∧ HR B f h' w' ∧ Kept B w w' := by
  obtain ⟨r, hf, hlo, rfl⟩ := hp.ptr_inv
  have hnt : y ≠ .top := by rintro rfl; simp [AV.isTop] at hy
  have hc := hu.cells hnt
  obtain ⟨c, e, hg, hin, h1, h2⟩ := H.write hw hf hc
  have hst := run_storeCells_at P r.blk (r.base + (off - r.lo)) e u.cells.toList 0 c w hg (by simpa using hin) (atoms_one hc ha)
  have hsz : u.cells.size = n := by have := hc.length; simp at this; omega
  refine ⟨_, ?_, h1, h2⟩
  simp only [Nat.add_zero] at hst
  simp [Instr.storeAt, Instr.sureAddr, storeVar, run_sizeOf hn, hsz, hst]

theorem afirst_sound (H : HR B f h w) {es n : Nat} {v : Value} {x : AV} {l : List AV} (hv : VR f v x) (hn : alenOf x = some n) (h0 : afirst h es x = some l) :
    (Builtin.lenOf v).run P w = .ok n w ∧ l.length = n * es ∧ ∃ vs : List Value, VRs f vs l ∧ (Builtin.firstCells es n v).run P w = .ok vs.toArray w := by
  unfold afirst at h0
  split at h0
  · rename_i id off len es' c
    split at h0
    · rename_i he
      subst he
      simp only [alenOf, Option.some.injEq] at hn
      subst hn
      obtain ⟨r, O, cap, sp, hf, hlo, hlen, hO, hc, hsp, rfl⟩ := hv.sl_inv
      obtain ⟨vs, hl, hvs, hcell⟩ := H.cells h0 hf hlo
      have hload := run_loadCells_list (P := P) w _ vs hcell
      rw [hl] at hload
      refine ⟨by simp [Builtin.lenOf], by rw [← hvs.length, hl], vs, hvs, ?_⟩
      by_cases hz : cap = 0
      · have h0 : len = 0 := by omega
        subst h0
        have e3 : vs = [] := List.eq_nil_of_length_eq_zero (by simpa using hl)
        subst e3
        simp [Builtin.firstCells, loadCells, loadCellsFrom]
      · obtain rfl : sp = none := hsp.resolve_left hz
        have hO' : O = r.base + (off - r.lo) := by rcases hO with h | h <;> omega
        subst hO'
        simpa [Builtin.firstCells] using hload
    · simp at h0
  · injection h0 with h0
    subst h0
    simp only [alenOf, Option.some.injEq] at hn
    subst hn
    obtain rfl := hv.nilSl_inv
    exact ⟨by simp [Builtin.lenOf], by simp, [], .nil, by simp [Builtin.firstCells]⟩
  · rename_i s
    split at h0
    · rename_i he
      subst he
      injection h0 with h0
      subst h0
      simp only [alenOf, Option.some.injEq] at hn
      subst hn
      obtain ⟨b, rfl, rfl⟩ := hv.str_inv
      refine ⟨by simp [Builtin.lenOf, length_nats], by simp, b.data.toList.map (fun c : UInt8 => Value.int .u8 (c.toNat : Int)), ?_, ?_⟩
      · unfold nats
        rw [List.map_map]
        generalize b.data.toList = bl
        induction bl with
        | nil => exact .nil
        | cons c bl ih => exact .cons _ _ _ _ (.int _ _) ih
      · have hx : b.extract 0 (nats b).length = b := by rw [length_nats]; exact ByteArray.extract_zero_size
        simp only [Builtin.firstCells, hx, Sem.run_pure]
        congr 1
        rw [← List.map_toArray, Array.toArray_toList]
    · simp at h0
  · simp at h0
end
end Go.Proofs.Ytgnacecplaemlaa.AI
