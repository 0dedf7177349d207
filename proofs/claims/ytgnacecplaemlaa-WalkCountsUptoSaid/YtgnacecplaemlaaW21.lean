/-
  What comes in, as the abstract heap holds it.
-/
import Derived.Test.YtgnacecplaemlaaW3
import Derived.Test.YtgnacecplaemlaaRows
import Derived.WalkKit
import Derived.ProofKit
import Derived.OpenShut
import Derived.Deep.Slices
namespace Go.Proofs.Ytgnacecplaemlaa
open AI
set_option linter.unusedVariables false
/-! ### Blocks that came in -/
noncomputable def addRo (h : AH) (l : List AV) : AH := { m := h.m.set (some { lo := 0, hi := l.length, ro := true, cells := putCells l 0 .nil }) h.next, ob := h.ob, next := h.next + 1 }
def addNone (h : AH) : AH := { m := h.m, ob := h.ob, next := h.next + 1 }
theorem blk?_addRo (h : AH) (l : List AV) (j : Nat) : (addRo h l).blk? j = if j = h.next then some { lo := 0, hi := l.length, ro := true, cells := putCells l 0 .nil } else h.blk? j := by
  unfold AH.blk? addRo
  simp only [Tr.get_set]
  by_cases hj : j = h.next
  · rw [if_pos hj, if_pos hj]
  · rw [if_neg hj, if_neg hj]
theorem quiet_addRo (h : AH) (l : List AV) : Quiet h (addRo h l) := ⟨Nat.le_succ _, fun j hj _ => by rw [blk?_addRo, if_neg (by omega)], fun _ _ _ => rfl⟩
theorem quiet_addNone (h : AH) : Quiet h (addNone h) := ⟨Nat.le_succ _, fun _ _ _ => rfl, fun _ _ _ => rfl⟩
theorem has_addRo (h : AH) (l : List AV) : Has (addRo h l) h.next 0 l := by
  refine ⟨Nat.lt_succ_self _, _, by rw [blk?_addRo, if_pos rfl], fun i v hi => ?_⟩
  have hlt := (List.getElem?_eq_some_iff.mp hi).1
  rw [Nat.zero_add, Blk.get_eq, if_pos ⟨Nat.zero_le _, hlt⟩]
  show (putCells l 0 .nil).get i = some v
  rw [get_putCells, if_pos ⟨Nat.zero_le _, by simpa using hlt⟩, Nat.sub_zero]
  exact hi
section
variable {W : World} {f : Inj} {h : AH}
theorem HR_addNone (H : HR W.heap.size f h W) (r : Reg) : HR W.heap.size (upd f h.next r) (addNone h) W := by
  have hx : Ext f (upd f h.next r) := Ext.upd (H.ffresh _ (Nat.le_refl _)) _
  have hb : ∀ j, (addNone h).blk? j = h.blk? j := fun _ => rfl
  refine ⟨fun id b hb => ?_, fun id id' b b' r1 r2 hne' hb hb' hro hro' hr1 hr2 => ?_, fun id hid => ?_, fun id hid => ?_, H.le, H.objs.keep hx (fun _ => rfl) (Nat.le_succ _) (fun _ _ _ h _ => h)⟩
  · obtain ⟨r1, c1, e1, fz, q1, q2, q3, q4, q5, q6, q7, q8⟩ := H.blk id b hb
    exact ⟨r1, c1, e1, fz, hx _ _ q1, q2, q3, q4, q5, q6, q7, fun o a ha => let ⟨v, k1, k2⟩ := q8 o a ha; ⟨v, k1, k2.mono hx⟩⟩
  · obtain ⟨_, _, _, _, p1, _⟩ := H.blk id b hb
    obtain ⟨_, _, _, _, p2, _⟩ := H.blk id' b' hb'
    have e1 := hx _ _ p1
    have e2 := hx _ _ p2
    rw [hr1] at e1
    rw [hr2] at e2
    injection e1 with e1
    injection e2 with e2
    subst e1 e2
    exact H.apart id id' b b' _ _ hne' hb hb' hro hro' p1 p2
  · have hid : h.next + 1 ≤ id := hid
    exact H.fresh id (by omega)
  · have hid : h.next + 1 ≤ id := hid
    unfold upd
    rw [if_neg (by omega)]
    exact H.ffresh id (by omega)
theorem HR_addRo (H : HR W.heap.size f h W) {r : Reg} {c : Array Value} {e : TypeId} {fz : Nat × Nat} {l : List AV} (hc : W.heap[r.blk]? = some (.cells c e fz)) (hin : r.base + r.ext ≤ c.size) (hlo : r.lo = 0) (hl : l.length ≤ r.ext)
    (hv : ∀ i a, l[i]? = some a → ∃ v, c[r.base + i]? = some v ∧ VR f v a) : HR W.heap.size (upd f h.next r) (addRo h l) W := by
  have hx : Ext f (upd f h.next r) := Ext.upd (H.ffresh _ (Nat.le_refl _)) _
  refine ⟨fun id b hb => ?_, fun id id' b b' r1 r2 hne' hb hb' hro hro' hr1 hr2 => ?_, fun id hid => ?_, fun id hid => ?_, H.le, H.objs.keep hx (fun _ => rfl) (Nat.le_succ _) (fun _ _ _ h _ => h)⟩
  · rw [blk?_addRo] at hb
    split at hb
    · rename_i hid
      injection hb with hb
      subst hid hb
      refine ⟨r, c, e, fz, upd_same _ _ _, hc, hin, hlo, by simpa using hl, fun h => by simp at h, fun _ => (Array.getElem?_eq_some_iff.mp hc).1, fun o a ha => ?_⟩
      obtain ⟨h1, h2⟩ := Blk.get_lo ha
      rw [Blk.get_eq, if_pos ⟨h1, h2⟩] at ha
      simp only [get_putCells, Tr.get_nil] at ha
      simp only at h1 h2
      rw [if_pos ⟨h1, by omega⟩] at ha
      obtain ⟨v, k1, k2⟩ := hv o a (by simpa using ha)
      exact ⟨v, by simpa using k1, k2.mono hx⟩
    · obtain ⟨r1, c1, e1, fz, q1, q2, q3, q4, q5, q6, q7, q8⟩ := H.blk id b hb
      exact ⟨r1, c1, e1, fz, hx _ _ q1, q2, q3, q4, q5, q6, q7, fun o a ha => let ⟨v, k1, k2⟩ := q8 o a ha; ⟨v, k1, k2.mono hx⟩⟩
  · rw [blk?_addRo] at hb hb'
    split at hb
    · injection hb with hb
      subst hb
      simp at hro
    · split at hb'
      · injection hb' with hb'
        subst hb'
        simp at hro'
      · obtain ⟨_, _, _, _, p1, _⟩ := H.blk id b hb
        obtain ⟨_, _, _, _, p2, _⟩ := H.blk id' b' hb'
        have e1 := hx _ _ p1
        have e2 := hx _ _ p2
        rw [hr1] at e1
        rw [hr2] at e2
        injection e1 with e1
        injection e2 with e2
        subst e1 e2
        exact H.apart id id' b b' _ _ hne' hb hb' hro hro' p1 p2
  · have hid : h.next + 1 ≤ id := hid
    rw [blk?_addRo, if_neg (by omega)]
    exact H.fresh id (by omega)
  · have hid : h.next + 1 ≤ id := hid
    unfold upd
    rw [if_neg (by omega)]
    exact H.ffresh id (by omega)
end

/-! ### Reading -/
theorem cell_plain {W : World} {a : Addr} {v : Value} (h : W.cell? a = some v) : a.spot = none ∧ ∃ c e fz, W.heap[a.block]? = some (.cells c e fz) ∧ c[a.off]? = some v := by
  unfold World.cell? at h
  split at h
  · rename_i c e fz hb
    split at h
    · simp at h
    · rename_i hs
      exact ⟨by simpa using hs, c, e, fz, hb, h⟩
  · simp at h
theorem bulk_all {H : Type} (l : List (DataW H)) : Rows.uptoBulkAll l = (l.map Rows.uptoBulk).sum := by
  induction l with
  | nil => rfl
  | cons a l ih => simp only [Rows.uptoBulkAll, List.map_cons, List.sum_cons, ih]
section
variable {H : Type} (enc : TypeId × Value → H) (W : World)
def Rd {α : Type} (e : TypeId) (cells : α → List AV) (ok : AH → α → Prop) (size : α → Nat) (M : Nat) : Prop :=
  ∀ (n : Nat) (cs : List Value) (x : DataW H × List MemPlace) (f : Inj) (h : AH), DataW.trod enc Try.prog W 0 (fun _ => true) true n e cs = some x → Rows.uptoBulk x.1 ≤ M → HR W.heap.size f h W →
    ∃ a f' h', HR W.heap.size f' h' W ∧ Ext f f' ∧ Quiet h h' ∧ VRs f' cs (cells a) ∧ ok h' a ∧ size a ≤ Rows.uptoBulk x.1
variable {enc W}
theorem add_plain (b o n : Nat) : (⟨b, o, none⟩ : Addr).add n = ⟨b, o + n, none⟩ := by
  unfold Addr.add
  split
  · subst_vars; rfl
  · rfl
set_option maxRecDepth 100000 in
theorem read_sl {α : Type} {t e : TypeId} {es M : Nat} {cells : α → List AV} {ok : AH → α → Prop} {size : α → Nat} (ht : Try.prog.underlying t = some (.slice e)) (ce : Try.prog.cellsOf e = es) (h1 : 1 ≤ es) (clen : ∀ x, (cells x).length = es)
    (okq : ∀ h h' x, Quiet h h' → ok h x → ok h' x) (rd : Rd enc W e cells ok size M) {n : Nat} {cs : List Value} {x : DataW H × List MemPlace} {f : Inj} {h : AH} (hx : DataW.trod enc Try.prog W 0 (fun _ => true) true n t cs = some x)
    (hM : Rows.uptoBulk x.1 ≤ M + 1) (hr : HR W.heap.size f h W) :
    ∃ (s : AV) (L : List α) (f' : Inj) (h' : AH), HR W.heap.size f' h' W ∧ Ext f f' ∧ Quiet h h' ∧ (∃ v, cs = [v] ∧ VR f' v s) ∧ Sl h' s es (L.map cells) ∧ (∀ x ∈ L, ok h' x) ∧ (L.map size).sum + 1 ≤ Rows.uptoBulk x.1 := by
  rcases Go.Deep.open_slice ht hx with ⟨rfl, rfl⟩ | ⟨a, len, cap, m, n, D, Pl, rfl, _, hl, _, hm, rfl, hy⟩
  · exact ⟨.nilSl, [], f, h, hr, Ext.refl _, Other.refl _ _, ⟨_, rfl, .nilSl⟩, Sl.nil, by simp, by simp [Rows.uptoBulk]⟩
  · simp only [if_true] at hm
    rw [hm, ce] at hy
    clear hx
    simp only [Rows.uptoBulk] at hM ⊢
    have hbk : Rows.uptoBulkAll ((List.range len).map D) = ((List.range len).map fun i => Rows.uptoBulk (D i)).sum := by rw [bulk_all, List.map_map]; rfl
    rw [hbk] at hM ⊢
    have key : ∀ k, k ≤ len → ∃ (L : List α) (f' : Inj) (h' : AH), L.length = k ∧ HR W.heap.size f' h' W ∧ Ext f f' ∧ Quiet h h' ∧
        (∀ i, i < k → ∃ y cs', L[i]? = some y ∧ W.cells? 0 (a.add (i * es)) es = some cs' ∧ VRs f' cs' (cells y)) ∧ (∀ y ∈ L, ok h' y) ∧ (L.map size).sum ≤ ((List.range k).map fun i => Rows.uptoBulk (D i)).sum := by
      intro k
      induction k with
      | zero => intro _; exact ⟨[], f, h, rfl, hr, Ext.refl _, Other.refl _ _, fun i hi => absurd hi (Nat.not_lt_zero _), by simp, by simp⟩
      | succ k ih =>
        intro hk
        obtain ⟨L, f1, h1', l1, l2, l3, l4, l5, l6, l7⟩ := ih (by omega)
        obtain ⟨cs', c1, c2⟩ := hy k (by omega)
        have hle : Rows.uptoBulk (D k) ≤ M := by
          have hmem : Rows.uptoBulk (D k) ∈ (List.range len).map fun i => Rows.uptoBulk (D i) := List.mem_map.mpr ⟨k, by simp; omega, rfl⟩
          have : ∀ (l : List Nat) (a : Nat), a ∈ l → a ≤ l.sum := fun l a ha => by
            induction l with
            | nil => simp at ha
            | cons b l ih =>
              rw [List.sum_cons]
              rcases List.mem_cons.mp ha with rfl | ha
              · omega
              · have := ih ha; omega
          have := this _ _ hmem
          omega
        obtain ⟨y, f2, h2, m1, m2, m3, m4, m5, m6⟩ := rd n cs' (D k, Pl k) f1 h1' c2 hle l2
        refine ⟨L ++ [y], f2, h2, by simp [l1], m1, l3.trans m2, l4.trans m3, fun i hi => ?_, fun z hz => ?_, ?_⟩
        · by_cases hik : i < k
          · obtain ⟨z, cs2, q1, q2, q3⟩ := l5 i hik
            exact ⟨z, cs2, by rw [List.getElem?_append_left (by omega)]; exact q1, q2, q3.mono m2⟩
          · obtain rfl : i = k := by omega
            exact ⟨y, cs', by rw [List.getElem?_append_right (by omega), l1]; simp, c1, m4⟩
        · rcases List.mem_append.mp hz with hz | hz
          · exact okq _ _ _ m3 (l6 z hz)
          · simp only [List.mem_singleton] at hz; subst hz; exact m5
        · rw [List.range_succ, List.map_append, List.map_append, List.sum_append, List.sum_append]
          simp only [List.map_cons, List.map_nil, List.sum_cons, List.sum_nil]
          have m6 : size y ≤ Rows.uptoBulk (D k) := m6
          omega
    obtain ⟨L, f1, h1', l1, l2, l3, l4, l5, l6, l7⟩ := key len (Nat.le_refl _)
    -- the places
    have place : ∀ i, i < cap → ∀ q, q < es → ∃ u, W.cell? ((a.add (i * es)).add q) = some u := fun i hi q hq => by
      obtain ⟨cs', c1, _⟩ := hy i hi
      obtain ⟨_, k1, k2⟩ := World.cells?_some c1
      have := k2 q hq
      rw [List.getElem?_eq_getElem (by omega)] at this
      exact ⟨_, this⟩
    have hsp : cap = 0 ∨ a.spot = none := by
      by_cases hc : cap = 0
      · exact .inl hc
      · obtain ⟨u, hu⟩ := place 0 (by omega) 0 (by omega)
        rw [Nat.zero_mul] at hu
        exact .inr (cell_plain hu).1
    obtain ⟨b, o, sp⟩ := a
    by_cases hz : len = 0
    · subst hz
      have e : L = [] := List.eq_nil_of_length_eq_zero l1
      subst e
      refine ⟨.sl h1'.next 0 0 es none, [], _, _, HR_addNone l2 ⟨b, o, 0, cap * es⟩, l3.trans (Ext.upd (l2.ffresh _ (Nat.le_refl _)) _), l4.trans (quiet_addNone _), ⟨_, rfl, ?_⟩, ⟨by simp, .inl ⟨rfl, .inr ⟨_, _, _, rfl, Nat.lt_succ_self _⟩⟩⟩, by simp, by simp⟩
      exact .sl h1'.next 0 0 es none ⟨b, o, 0, cap * es⟩ o cap (upd_same _ _ _) (Nat.le_refl _) (Nat.zero_le _) (.inr ⟨rfl, by simp⟩) (by simp) sp hsp
    · obtain rfl : sp = none := hsp.resolve_left (by omega)
      obtain ⟨u0, hu0⟩ := place 0 (by omega) 0 (by omega)
      obtain ⟨_, c, et, fz, hb, _⟩ := cell_plain hu0
      rw [add_plain, add_plain] at hb
      dsimp only at hb
      have inb : ∀ j u, W.cell? ⟨b, j, none⟩ = some u → c[j]? = some u := fun j u hj => by
        obtain ⟨_, c', e', fz', hb', h'⟩ := cell_plain hj
        dsimp only at hb'
        rw [hb] at hb'
        injection hb' with hb'
        injection hb' with q1
        subst q1
        exact h'
      have hsz : o + cap * es ≤ c.size := by
        obtain ⟨u, hu⟩ := place (cap - 1) (by omega) (es - 1) (by omega)
        rw [add_plain, add_plain] at hu
        have hu := (Array.getElem?_eq_some_iff.mp (inb _ _ hu)).1
        have e1 : (cap - 1) * es + es = cap * es := by rw [← Nat.succ_mul]; congr 1; omega
        omega
      have hcl : ∀ x ∈ L.map cells, x.length = es := fun x hx => by obtain ⟨y, _, rfl⟩ := List.mem_map.mp hx; exact clen y
      have hfl : (L.map cells).flatten.length = len * es := by rw [Sl.flat_len hcl, List.length_map, l1]
      have Hn := HR_addRo l2 (r := ⟨b, o, 0, cap * es⟩) (l := (L.map cells).flatten) hb hsz rfl (by rw [hfl]; exact Nat.mul_le_mul_right _ hl) (fun i v hi => by
        have hlt : i < len * es := by have := (List.getElem?_eq_some_iff.mp hi).1; omega
        have hdm := Nat.div_add_mod i es
        have hq : i % es < es := Nat.mod_lt _ (by omega)
        have hd : i / es < len := Nat.div_lt_of_lt_mul (by rw [Nat.mul_comm]; exact hlt)
        obtain ⟨y, cs', q1, q2, q3⟩ := l5 (i / es) hd
        obtain ⟨p1, p2, e1, e2⟩ := flatten_split (es := es) (i := i / es) (x := cells y) (by rw [List.getElem?_map, q1]; rfl) hcl
        have hmc : i / es * es = es * (i / es) := Nat.mul_comm _ _
        have hg : (cells y)[i % es]? = some v := by
          rw [e1, List.getElem?_append_left (by rw [List.length_append, clen y]; omega), List.getElem?_append_right (by omega)] at hi
          rw [← hi]
          congr 1
          omega
        obtain ⟨u, hu1, hu2⟩ := q3.get _ v hg
        obtain ⟨_, _, k2⟩ := World.cells?_some q2
        have k3 := k2 (i % es) hq
        rw [hu1, add_plain, add_plain] at k3
        have k4 := inb _ _ k3
        refine ⟨u, ?_, hu2⟩
        rw [← k4]
        congr 1
        dsimp only
        omega)
      refine ⟨.sl h1'.next 0 len es none, L, _, _, Hn, l3.trans (Ext.upd (l2.ffresh _ (Nat.le_refl _)) _), l4.trans (quiet_addRo _ _), ⟨_, rfl, ?_⟩, ?_, fun y hy => okq _ _ _ (quiet_addRo _ _) (l6 y hy), by omega⟩
      · exact .sl h1'.next 0 len es none ⟨b, o, 0, cap * es⟩ o cap (upd_same _ _ _) (Nat.le_refl _) hl (.inr ⟨rfl, by simp⟩) (by simp)
      · have := Sl.of_has (c := none) hcl (has_addRo h1' (L.map cells).flatten)
        rwa [List.length_map, l1] at this
end
end Go.Proofs.Ytgnacecplaemlaa
