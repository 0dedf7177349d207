/-
  Part 9 of 9 of the proof of WalkTells: what follows.
-/
import Derived.Deep.Slices
import Derived.OpenShut
import Derived.ProofKit
import Derived.Test.YtgnacecplaemlaaRows
import Derived.WalkKit
import Derived.Test.YtgnacecplaemlaaN8
/-
  What comes in, as the abstract heap holds it.
-/
namespace Go.Proofs.Ytgnacecplaemlaa
open AI
set_option linter.unusedVariables false
/-! ### Blocks that came in -/
noncomputable def addRo (h : AH) (l : List AV) : AH := { m := h.m.set (some { lo := 0, hi := l.length, ro := true, cells := putCells l 0 .nil }) h.next, ob := h.ob, next := h.next + 1 }
def addNone (h : AH) : AH := { m := h.m, ob := h.ob, next := h.next + 1 }
theorem blk?_addRo (h : AH) (l : List AV) (j : Nat) : (addRo h l).blk? j = if j = h.next then some { lo := 0, hi := l.length, ro := true, cells := putCells l 0 .nil } else h.blk? j := by
  unfold AH.blk? addRo
  simp only [Tr.get_set]
  by_cases hj : j = h.next
  · rw [if_pos hj, if_pos hj]
  · rw [if_neg hj, if_neg hj]
theorem quiet_addRo (h : AH) (l : List AV) : Quiet h (addRo h l) := ⟨Nat.le_succ _, fun j hj _ => by rw [blk?_addRo, if_neg (by omega)], fun _ _ _ => rfl⟩
theorem quiet_addNone (h : AH) : Quiet h (addNone h) := ⟨Nat.le_succ _, fun _ _ _ => rfl, fun _ _ _ => rfl⟩
theorem has_addRo (h : AH) (l : List AV) : Has (addRo h l) h.next 0 l := by
  refine ⟨Nat.lt_succ_self _, _, by rw [blk?_addRo, if_pos rfl], fun i v hi => ?_⟩
  have hlt := (List.getElem?_eq_some_iff.mp hi).1
  rw [Nat.zero_add, Blk.get_eq, if_pos ⟨Nat.zero_le _, hlt⟩]
  show (putCells l 0 .nil).get i = some v
  rw [get_putCells, if_pos ⟨Nat.zero_le _, by simpa using hlt⟩, Nat.sub_zero]
  exact hi
section
variable {W : World} {f : Inj} {h : AH}
theorem HR_addNone (H : HR W.heap.size f h W) (r : Reg) : HR W.heap.size (upd f h.next r) (addNone h) W := by
  have hx : Ext f (upd f h.next r) := Ext.upd (H.ffresh _ (Nat.le_refl _)) _
  have hb : ∀ j, (addNone h).blk? j = h.blk? j := fun _ => rfl
  refine ⟨fun id b hb => ?_, fun id id' b b' r1 r2 hne' hb hb' hro hro' hr1 hr2 => ?_, fun id hid => ?_, fun id hid => ?_, H.le, H.objs.keep hx (fun _ => rfl) (Nat.le_succ _) (fun _ _ _ h _ => h)⟩
  · obtain ⟨r1, c1, e1, fz, q1, q2, q3, q4, q5, q6, q7, q8⟩ := H.blk id b hb
    exact ⟨r1, c1, e1, fz, hx _ _ q1, q2, q3, q4, q5, q6, q7, fun o a ha => let ⟨v, k1, k2⟩ := q8 o a ha; ⟨v, k1, k2.mono hx⟩⟩
  · obtain ⟨_, _, _, _, p1, _⟩ := H.blk id b hb
    obtain ⟨_, _, _, _, p2, _⟩ := H.blk id' b' hb'
    have e1 := hx _ _ p1
    have e2 := hx _ _ p2
    rw [hr1] at e1
    rw [hr2] at e2
    injection e1 with e1
    injection e2 with e2
    subst e1 e2
    exact H.apart id id' b b' _ _ hne' hb hb' hro hro' p1 p2
  · have hid : h.next + 1 ≤ id := hid
    exact H.fresh id (by omega)
  · have hid : h.next + 1 ≤ id := hid
    unfold upd
    rw [if_neg (by omega)]
    exact H.ffresh id (by omega)
theorem HR_addRo (H : HR W.heap.size f h W) {r : Reg} {c : Array Value} {e : TypeId} {fz : Nat × Nat} {l : List AV} (hc : W.heap[r.blk]? = some (.cells c e fz)) (hin : r.base + r.ext ≤ c.size) (hlo : r.lo = 0) (hl : l.length ≤ r.ext)
    (hv : ∀ i a, l[i]? = some a → ∃ v, c[r.base + i]? = some v ∧ VR f v a) : HR W.heap.size (upd f h.next r) (addRo h l) W := by
  have hx : Ext f (upd f h.next r) := Ext.upd (H.ffresh _ (Nat.le_refl _)) _
  refine ⟨fun id b hb => ?_, fun id id' b b' r1 r2 hne' hb hb' hro hro' hr1 hr2 => ?_, fun id hid => ?_, fun id hid => ?_, H.le, H.objs.keep hx (fun _ => rfl) (Nat.le_succ _) (fun _ _ _ h _ => h)⟩
  · rw [blk?_addRo] at hb
    split at hb
    · rename_i hid
      injection hb with hb
      subst hid hb
      refine ⟨r, c, e, fz, upd_same _ _ _, hc, hin, hlo, by simpa using hl, fun h => by simp at h, fun _ => (Array.getElem?_eq_some_iff.mp hc).1, fun o a ha => ?_⟩
      obtain ⟨h1, h2⟩ := Blk.get_lo ha
      rw [Blk.get_eq, if_pos ⟨h1, h2⟩] at ha
      simp only [get_putCells, Tr.get_nil] at ha
      simp only at h1 h2
      rw [if_pos ⟨h1, by omega⟩] at ha
      obtain ⟨v, k1, k2⟩ := hv o a (by simpa using ha)
      exact ⟨v, by simpa using k1, k2.mono hx⟩
    · obtain ⟨r1, c1, e1, fz, q1, q2, q3, q4, q5, q6, q7, q8⟩ := H.blk id b hb
      exact ⟨r1, c1, e1, fz, hx _ _ q1, q2, q3, q4, q5, q6, q7, fun o a ha => let ⟨v, k1, k2⟩ := q8 o a ha; ⟨v, k1, k2.mono hx⟩⟩
  · rw [blk?_addRo] at hb hb'
    split at hb
    · injection hb with hb
      subst hb
      simp at hro
    · split at hb'
      · injection hb' with hb'
        subst hb'
        simp at hro'
      · obtain ⟨_, _, _, _, p1, _⟩ := H.blk id b hb
        obtain ⟨_, _, _, _, p2, _⟩ := H.blk id' b' hb'
        have e1 := hx _ _ p1
        have e2 := hx _ _ p2
        rw [hr1] at e1
        rw [hr2] at e2
        injection e1 with e1
        injection e2 with e2
        subst e1 e2
        exact H.apart id id' b b' _ _ hne' hb hb' hro hro' p1 p2
  · have hid : h.next + 1 ≤ id := hid
    rw [blk?_addRo, if_neg (by omega)]
    exact H.fresh id (by omega)
  · have hid : h.next + 1 ≤ id := hid
    unfold upd
    rw [if_neg (by omega)]
    exact H.ffresh id (by omega)
end

/-! ### Reading -/
theorem cell_plain {W : World} {a : Addr} {v : Value} (h : W.cell? a = some v) : a.spot = none ∧ ∃ c e fz, W.heap[a.block]? = some (.cells c e fz) ∧ c[a.off]? = some v := by
  unfold World.cell? at h
  split at h
  · rename_i c e fz hb
    split at h
    · simp at h
    · rename_i hs
      exact ⟨by simpa using hs, c, e, fz, hb, h⟩
  · simp at h
theorem bulk_all {H : Type} (l : List (DataW H)) : Rows.uptoBulkAll l = (l.map Rows.uptoBulk).sum := by
  induction l with
  | nil => rfl
  | cons a l ih => simp only [Rows.uptoBulkAll, List.map_cons, List.sum_cons, ih]
section
variable {H : Type} (enc : TypeId × Value → H) (W : World)
def Rd {α : Type} (e : TypeId) (cells : α → List AV) (ok : AH → α → Prop) (size : α → Nat) (M : Nat) : Prop :=
  ∀ (n : Nat) (cs : List Value) (x : DataW H × List MemPlace) (f : Inj) (h : AH), DataW.trod enc Try.prog W 0 (fun _ => true) true n e cs = some x → Rows.uptoBulk x.1 ≤ M → HR W.heap.size f h W →
    ∃ a f' h', HR W.heap.size f' h' W ∧ Ext f f' ∧ Quiet h h' ∧ VRs f' cs (cells a) ∧ ok h' a ∧ size a ≤ Rows.uptoBulk x.1
variable {enc W}
theorem add_plain (b o n : Nat) : (⟨b, o, none⟩ : Addr).add n = ⟨b, o + n, none⟩ := by
  unfold Addr.add
  split
  · subst_vars; rfl
  · rfl
set_option maxRecDepth 100000 in
theorem read_sl {α : Type} {t e : TypeId} {es M : Nat} {cells : α → List AV} {ok : AH → α → Prop} {size : α → Nat} (ht : Try.prog.underlying t = some (.slice e)) (ce : Try.prog.cellsOf e = es) (h1 : 1 ≤ es) (clen : ∀ x, (cells x).length = es)
    (okq : ∀ h h' x, Quiet h h' → ok h x → ok h' x) (rd : Rd enc W e cells ok size M) {n : Nat} {cs : List Value} {x : DataW H × List MemPlace} {f : Inj} {h : AH} (hx : DataW.trod enc Try.prog W 0 (fun _ => true) true n t cs = some x)
    (hM : Rows.uptoBulk x.1 ≤ M + 1) (hr : HR W.heap.size f h W) :
    ∃ (s : AV) (L : List α) (f' : Inj) (h' : AH), HR W.heap.size f' h' W ∧ Ext f f' ∧ Quiet h h' ∧ (∃ v, cs = [v] ∧ VR f' v s) ∧ Sl h' s es (L.map cells) ∧ (∀ x ∈ L, ok h' x) ∧ (L.map size).sum + 1 ≤ Rows.uptoBulk x.1 := by
  rcases Go.Deep.open_slice ht hx with ⟨rfl, rfl⟩ | ⟨a, len, cap, m, n, D, Pl, rfl, _, hl, _, hm, rfl, hy⟩
  · exact ⟨.nilSl, [], f, h, hr, Ext.refl _, Other.refl _ _, ⟨_, rfl, .nilSl⟩, Sl.nil, by simp, by simp [Rows.uptoBulk]⟩
  · simp only [if_true] at hm
    rw [hm, ce] at hy
    clear hx
    simp only [Rows.uptoBulk] at hM ⊢
    have hbk : Rows.uptoBulkAll ((List.range len).map D) = ((List.range len).map fun i => Rows.uptoBulk (D i)).sum := by rw [bulk_all, List.map_map]; rfl
    rw [hbk] at hM ⊢
    have key : ∀ k, k ≤ len → ∃ (L : List α) (f' : Inj) (h' : AH), L.length = k ∧ HR W.heap.size f' h' W ∧ Ext f f' ∧ Quiet h h' ∧
        (∀ i, i < k → ∃ y cs', L[i]? = some y ∧ W.cells? 0 (a.add (i * es)) es = some cs' ∧ VRs f' cs' (cells y)) ∧ (∀ y ∈ L, ok h' y) ∧ (L.map size).sum ≤ ((List.range k).map fun i => Rows.uptoBulk (D i)).sum := by
      intro k
      induction k with
      | zero => intro _; exact ⟨[], f, h, rfl, hr, Ext.refl _, Other.refl _ _, fun i hi => absurd hi (Nat.not_lt_zero _), by simp, by simp⟩
      | succ k ih =>
        intro hk
        obtain ⟨L, f1, h1', l1, l2, l3, l4, l5, l6, l7⟩ := ih (by omega)
        obtain ⟨cs', c1, c2⟩ := hy k (by omega)
        have hle : Rows.uptoBulk (D k) ≤ M := by
          have hmem : Rows.uptoBulk (D k) ∈ (List.range len).map fun i => Rows.uptoBulk (D i) := List.mem_map.mpr ⟨k, by simp; omega, rfl⟩
          have : ∀ (l : List Nat) (a : Nat), a ∈ l → a ≤ l.sum := fun l a ha => by
            induction l with
            | nil => simp at ha
            | cons b l ih =>
              rw [List.sum_cons]
              rcases List.mem_cons.mp ha with rfl | ha
              · omega
              · have := ih ha; omega
          have := this _ _ hmem
          omega
        obtain ⟨y, f2, h2, m1, m2, m3, m4, m5, m6⟩ := rd n cs' (D k, Pl k) f1 h1' c2 hle l2
        refine ⟨L ++ [y], f2, h2, by simp [l1], m1, l3.trans m2, l4.trans m3, fun i hi => ?_, fun z hz => ?_, ?_⟩
        · by_cases hik : i < k
          · obtain ⟨z, cs2, q1, q2, q3⟩ := l5 i hik
            exact ⟨z, cs2, by rw [List.getElem?_append_left (by omega)]; exact q1, q2, q3.mono m2⟩
          · obtain rfl : i = k := by omega
            exact ⟨y, cs', by rw [List.getElem?_append_right (by omega), l1]; simp, c1, m4⟩
        · rcases List.mem_append.mp hz with hz | hz
          · exact okq _ _ _ m3 (l6 z hz)
          · simp only [List.mem_singleton] at hz; subst hz; exact m5
        · rw [List.range_succ, List.map_append, List.map_append, List.sum_append, List.sum_append]
          simp only [List.map_cons, List.map_nil, List.sum_cons, List.sum_nil]
          have m6 : size y ≤ Rows.uptoBulk (D k) := m6
          omega
    obtain ⟨L, f1, h1', l1, l2, l3, l4, l5, l6, l7⟩ := key len (Nat.le_refl _)
    -- the places
    have place : ∀ i, i < cap → ∀ q, q < es → ∃ u, W.cell? ((a.add (i * es)).add q) = some u := fun i hi q hq => by
      obtain ⟨cs', c1, _⟩ := hy i hi
      obtain ⟨_, k1, k2⟩ := World.cells?_some c1
      have := k2 q hq
      rw [List.getElem?_eq_getElem (by omega)] at this
      exact ⟨_, this⟩
    have hsp : cap = 0 ∨ a.spot = none := by
      by_cases hc : cap = 0
      · exact .inl hc
      · obtain ⟨u, hu⟩ := place 0 (by omega) 0 (by omega)
        rw [Nat.zero_mul] at hu
        exact .inr (cell_plain hu).1
    obtain ⟨b, o, sp⟩ := a
    by_cases hz : len = 0
    · subst hz
      have e : L = [] := List.eq_nil_of_length_eq_zero l1
      subst e
      refine ⟨.sl h1'.next 0 0 es none, [], _, _, HR_addNone l2 ⟨b, o, 0, cap * es⟩, l3.trans (Ext.upd (l2.ffresh _ (Nat.le_refl _)) _), l4.trans (quiet_addNone _), ⟨_, rfl, ?_⟩, ⟨by simp, .inl ⟨rfl, .inr ⟨_, _, _, rfl, Nat.lt_succ_self _⟩⟩⟩, by simp, by simp⟩
      exact .sl h1'.next 0 0 es none ⟨b, o, 0, cap * es⟩ o cap (upd_same _ _ _) (Nat.le_refl _) (Nat.zero_le _) (.inr ⟨rfl, by simp⟩) (by simp) sp hsp
    · obtain rfl : sp = none := hsp.resolve_left (by omega)
      obtain ⟨u0, hu0⟩ := place 0 (by omega) 0 (by omega)
      obtain ⟨_, c, et, fz, hb, _⟩ := cell_plain hu0
      rw [add_plain, add_plain] at hb
      dsimp only at hb
      have inb : ∀ j u, W.cell? ⟨b, j, none⟩ = some u → c[j]? = some u := fun j u hj => by
        obtain ⟨_, c', e', fz', hb', h'⟩ := cell_plain hj
        dsimp only at hb'
        rw [hb] at hb'
        injection hb' with hb'
        injection hb' with q1
        subst q1
        exact h'
      have hsz : o + cap * es ≤ c.size := by
        obtain ⟨u, hu⟩ := place (cap - 1) (by omega) (es - 1) (by omega)
        rw [add_plain, add_plain] at hu
        have hu := (Array.getElem?_eq_some_iff.mp (inb _ _ hu)).1
        have e1 : (cap - 1) * es + es = cap * es := by rw [← Nat.succ_mul]; congr 1; omega
        omega
      have hcl : ∀ x ∈ L.map cells, x.length = es := fun x hx => by obtain ⟨y, _, rfl⟩ := List.mem_map.mp hx; exact clen y
      have hfl : (L.map cells).flatten.length = len * es := by rw [Sl.flat_len hcl, List.length_map, l1]
      have Hn := HR_addRo l2 (r := ⟨b, o, 0, cap * es⟩) (l := (L.map cells).flatten) hb hsz rfl (by rw [hfl]; exact Nat.mul_le_mul_right _ hl) (fun i v hi => by
        have hlt : i < len * es := by have := (List.getElem?_eq_some_iff.mp hi).1; omega
        have hdm := Nat.div_add_mod i es
        have hq : i % es < es := Nat.mod_lt _ (by omega)
        have hd : i / es < len := Nat.div_lt_of_lt_mul (by rw [Nat.mul_comm]; exact hlt)
        obtain ⟨y, cs', q1, q2, q3⟩ := l5 (i / es) hd
        obtain ⟨p1, p2, e1, e2⟩ := flatten_split (es := es) (i := i / es) (x := cells y) (by rw [List.getElem?_map, q1]; rfl) hcl
        have hmc : i / es * es = es * (i / es) := Nat.mul_comm _ _
        have hg : (cells y)[i % es]? = some v := by
          rw [e1, List.getElem?_append_left (by rw [List.length_append, clen y]; omega), List.getElem?_append_right (by omega)] at hi
          rw [← hi]
          congr 1
          omega
        obtain ⟨u, hu1, hu2⟩ := q3.get _ v hg
        obtain ⟨_, _, k2⟩ := World.cells?_some q2
        have k3 := k2 (i % es) hq
        rw [hu1, add_plain, add_plain] at k3
        have k4 := inb _ _ k3
        refine ⟨u, ?_, hu2⟩
        rw [← k4]
        congr 1
        dsimp only
        omega)
      refine ⟨.sl h1'.next 0 len es none, L, _, _, Hn, l3.trans (Ext.upd (l2.ffresh _ (Nat.le_refl _)) _), l4.trans (quiet_addRo _ _), ⟨_, rfl, ?_⟩, ?_, fun y hy => okq _ _ _ (quiet_addRo _ _) (l6 y hy), by omega⟩
      · exact .sl h1'.next 0 len es none ⟨b, o, 0, cap * es⟩ o cap (upd_same _ _ _) (Nat.le_refl _) hl (.inr ⟨rfl, by simp⟩) (by simp)
      · have := Sl.of_has (c := none) hcl (has_addRo h1' (L.map cells).flatten)
        rwa [List.length_map, l1] at this
end
end Go.Proofs.Ytgnacecplaemlaa
/-
  What comes in: commands, and all that is in them.
-/
namespace Go.Proofs.Ytgnacecplaemlaa
open AI
set_option linter.unusedVariables false
theorem cells49 : Try.prog.cellsOf 49 = 10 := by kernel_rfl
theorem cells78 : Try.prog.cellsOf 78 = 5 := by kernel_rfl
theorem cells60 : Try.prog.cellsOf 60 = 1 := by kernel_rfl
theorem cells73 : Try.prog.cellsOf 73 = 4 := by kernel_rfl
theorem cells76 : Try.prog.cellsOf 76 = 11 := by kernel_rfl
theorem cells3 : Try.prog.cellsOf 3 = 1 := by kernel_rfl
theorem cells4 : Try.prog.cellsOf 4 = 1 := by kernel_rfl
theorem cells9 : Try.prog.cellsOf 9 = 1 := by kernel_rfl
theorem cells43 : Try.prog.cellsOf 43 = 1 := by kernel_rfl
theorem cells44 : Try.prog.cellsOf 44 = 1 := by kernel_rfl
theorem cells45 : Try.prog.cellsOf 45 = 1 := by kernel_rfl
theorem cells46 : Try.prog.cellsOf 46 = 1 := by kernel_rfl
theorem cells47 : Try.prog.cellsOf 47 = 1 := by kernel_rfl
theorem cells58 : Try.prog.cellsOf 58 = 1 := by kernel_rfl
theorem okP_of {h : AH} : ∀ {l : List Pt}, (∀ p ∈ l, p.ok h) → okP h l
  | [], _ => by simp only [okP]
  | p :: l, hl => by simp only [okP]; exact ⟨hl p (by simp), okP_of fun q hq => hl q (by simp [hq])⟩
theorem okW_of {h : AH} : ∀ {l : List Wd}, (∀ p ∈ l, p.ok h) → okW h l
  | [], _ => by simp only [okW]
  | p :: l, hl => by simp only [okW]; exact ⟨hl p (by simp), okW_of fun q hq => hl q (by simp [hq])⟩
theorem okR_of {h : AH} : ∀ {l : List Rdr}, (∀ p ∈ l, p.ok h) → okR h l
  | [], _ => by simp only [okR]
  | p :: l, hl => by simp only [okR]; exact ⟨hl p (by simp), okR_of fun q hq => hl q (by simp [hq])⟩
theorem okM_of {h : AH} : ∀ {l : List Am}, (∀ p ∈ l, p.ok h) → okM h l
  | [], _ => by simp only [okM]
  | p :: l, hl => by simp only [okM]; exact ⟨hl p (by simp), okM_of fun q hq => hl q (by simp [hq])⟩
theorem okN_of {h : AH} : ∀ {l : List Nd}, (∀ p ∈ l, p.ok h) → okN h l
  | [], _ => by simp only [okN]
  | p :: l, hl => by simp only [okN]; exact ⟨hl p (by simp), okN_of fun q hq => hl q (by simp [hq])⟩
theorem szP_sum (l : List Pt) : szP l = (l.map Pt.sz).sum := by
  induction l with
  | nil => simp [szP]
  | cons p l ih => simp only [szP, List.map_cons, List.sum_cons, ih]
theorem szW_sum (l : List Wd) : szW l = (l.map Wd.sz).sum := by
  induction l with
  | nil => simp [szW]
  | cons p l ih => simp only [szW, List.map_cons, List.sum_cons, ih]
theorem szR_sum (l : List Rdr) : szR l = (l.map Rdr.sz).sum := by
  induction l with
  | nil => simp [szR]
  | cons p l ih => simp only [szR, List.map_cons, List.sum_cons, ih]
theorem szM_sum (l : List Am) : szM l = (l.map Am.sz).sum := by
  induction l with
  | nil => simp [szM]
  | cons p l ih => simp only [szM, List.map_cons, List.sum_cons, ih]
theorem szN_sum (l : List Nd) : szN l = (l.map Nd.sz).sum := by
  induction l with
  | nil => simp [szN]
  | cons p l ih => simp only [szN, List.map_cons, List.sum_cons, ih]
section
variable {H : Type} {enc : TypeId × Value → H} {W : World}
/-- Readers of all that a command is made of, up to a bulk. -/
structure Rds (enc : TypeId × Value → H) (W : World) (M : Nat) : Prop where
  pt : Rd enc W 78 Pt.cells (fun h x => x.ok h) Pt.sz M
  wd : Rd enc W 60 Wd.cells (fun h x => x.ok h) Wd.sz M
  rdr : Rd enc W 73 Rdr.cells (fun h x => x.ok h) Rdr.sz M
  am : Rd enc W 76 Am.cells (fun h x => x.ok h) Am.sz M
  nd : Rd enc W 49 Nd.cells (fun h x => x.ok h) Nd.sz M
def Tr (enc : TypeId × Value → H) (W : World) (n : Nat) (t : TypeId) (cs : List Value) (y : DataW H × List MemPlace) : Prop := DataW.trod enc Try.prog W 0 (fun _ => true) true n t cs = some y
theorem fld {n : Nat} {t : TypeId} {k : Nat} {l c : List Value} {y : DataW H × List MemPlace} (hc : Try.prog.cellsOf t = k) (h : Tr enc W n t (l.take (Try.prog.cellsOf t)) y) (e : l.take k = c) : DataW.trod enc Try.prog W 0 (fun _ => true) true n t c = some y := by
  rw [hc, e] at h
  exact h
theorem rd_int (M : Nat) : Rd enc W 3 (fun k : Int => [.int .i64 k]) (fun _ _ => True) (fun _ => 1) M := by
  intro n cs x f h hx hM hr
  obtain ⟨k, rfl, rfl, _⟩ := DataW.trod_int Try.underlying3 hx
  exact ⟨k, f, h, hr, Ext.refl _, Other.refl _ _, .cons _ _ _ _ (.int _ _) .nil, trivial, by simp [Rows.uptoBulk]⟩
set_option maxRecDepth 100000 in
theorem rd_pt {M : Nat} (R : Rds enc W M) : Rd enc W 78 Pt.cells (fun h x => x.ok h) Pt.sz (M + 1) := by
  intro n cs x f h hx hM hr
  obtain ⟨xs, n', _, rfl, hl, hlen, hf⟩ := DataW.trod_struct Try.underlying78 hx
  rw [cells78] at hl
  match cs, hl, xs, hlen, hf, hM with
  | [c0, c1, c2, c3, c4], _, [y0, y1, y2, y3, y4], _, hf, hM =>
    have t0 := fld (enc := enc) (W := W) (n := n') (y := y0) (c := [c0]) cells3 (hf 0 _ rfl) rfl
    have t1 := fld (enc := enc) (W := W) (n := n') (y := y1) (c := [c1]) cells9 (hf 1 _ rfl) rfl
    have t2 := fld (enc := enc) (W := W) (n := n') (y := y2) (c := [c2]) cells9 (hf 2 _ rfl) rfl
    have t3 := fld (enc := enc) (W := W) (n := n') (y := y3) (c := [c3]) cells58 (hf 3 _ rfl) rfl
    have t4 := fld (enc := enc) (W := W) (n := n') (y := y4) (c := [c4]) cells47 (hf 4 _ rfl) rfl
    simp only [List.map_cons, List.map_nil, Rows.uptoBulk, Rows.uptoBulkAll] at hM ⊢
    obtain ⟨k, e0, rfl, _⟩ := DataW.trod_int Try.underlying3 t0
    obtain ⟨s1, e1, rfl, _⟩ := DataW.trod_string Try.underlying9 t1
    obtain ⟨s2, e2, rfl, _⟩ := DataW.trod_string Try.underlying9 t2
    simp only [List.cons.injEq, and_true] at e0 e1 e2
    subst e0 e1 e2
    obtain ⟨a3, L3, f3, h3, p1, p2, p3, ⟨v3, e3, p4⟩, p5, p6, p7⟩ := read_sl u58 cells78 (by omega) Pt.cells_len (fun _ _ _ q o => o.quiet q) R.pt t3 (by omega) hr
    obtain ⟨a4, L4, f4, h4, q1, q2, q3, ⟨v4, e4, q4⟩, q5, q6, q7⟩ := read_sl u47 cells49 (by omega) Nd.cells_len (fun _ _ _ q o => o.quiet q) R.nd t4 (by omega) p1
    simp only [List.cons.injEq, and_true] at e3 e4
    subst e3 e4
    refine ⟨.mk k (nats s1) (nats s2) a3 L3 a4 L4, f4, h4, q1, p2.trans q2, p3.trans q3, ?_, ?_, ?_⟩
    · exact .cons _ _ _ _ (.int _ _) (.cons _ _ _ _ (.str _ _ rfl) (.cons _ _ _ _ (.str _ _ rfl) (.cons _ _ _ _ (p4.mono q2) (.cons _ _ _ _ q4 .nil))))
    · simp only [Pt.ok]
      exact ⟨p5.quiet q3, okP_of fun p hp => (p6 p hp).quiet q3, q5, okN_of q6⟩
    · have hs : s1.data.toList.length = s1.size := by rw [Array.length_toList]; rfl
      simp only [Pt.sz, szP_sum, szN_sum, Rows.uptoBulk, length_nats] at *
      omega
set_option maxRecDepth 100000 in
theorem rd_wd {M : Nat} (R : Rds enc W M) : Rd enc W 60 Wd.cells (fun h x => x.ok h) Wd.sz (M + 1) := by
  intro n cs x f h hx hM hr
  obtain ⟨xs, n', _, rfl, hl, hlen, hf⟩ := DataW.trod_struct Try.underlying60 hx
  rw [cells60] at hl
  match cs, hl, xs, hlen, hf, hM with
  | [c0], _, [y0], _, hf, hM =>
    have t0 := fld (enc := enc) (W := W) (n := n') (y := y0) (c := [c0]) cells58 (hf 0 _ rfl) rfl
    simp only [List.map_cons, List.map_nil, Rows.uptoBulk, Rows.uptoBulkAll] at hM ⊢
    obtain ⟨a3, L3, f3, h3, p1, p2, p3, ⟨v3, e3, p4⟩, p5, p6, p7⟩ := read_sl u58 cells78 (by omega) Pt.cells_len (fun _ _ _ q o => o.quiet q) R.pt t0 (by omega) hr
    simp only [List.cons.injEq, and_true] at e3
    subst e3
    refine ⟨.mk a3 L3, f3, h3, p1, p2, p3, .cons _ _ _ _ p4 .nil, ?_, ?_⟩
    · simp only [Wd.ok]
      exact ⟨p5, okP_of p6⟩
    · simp only [Wd.sz, szP_sum]
      omega
set_option maxRecDepth 100000 in
theorem rd_rdr {M : Nat} (R : Rds enc W M) : Rd enc W 73 Rdr.cells (fun h x => x.ok h) Rdr.sz (M + 1) := by
  intro n cs x f h hx hM hr
  obtain ⟨xs, n', _, rfl, hl, hlen, hf⟩ := DataW.trod_struct Try.underlying73 hx
  rw [cells73] at hl
  match cs, hl, xs, hlen, hf, hM with
  | [c0, c1, c2, c3], _, [y0, y1, y2, y3], _, hf, hM =>
    have t0 := fld (enc := enc) (W := W) (n := n') (y := y0) (c := [c0]) cells9 (hf 0 _ rfl) rfl
    have t1 := fld (enc := enc) (W := W) (n := n') (y := y1) (c := [c1]) cells3 (hf 1 _ rfl) rfl
    have t2 := fld (enc := enc) (W := W) (n := n') (y := y2) (c := [c2]) cells60 (hf 2 _ rfl) rfl
    have t3 := fld (enc := enc) (W := W) (n := n') (y := y3) (c := [c3]) cells9 (hf 3 _ rfl) rfl
    simp only [List.map_cons, List.map_nil, Rows.uptoBulk, Rows.uptoBulkAll] at hM ⊢
    obtain ⟨s0, e0, rfl, _⟩ := DataW.trod_string Try.underlying9 t0
    obtain ⟨k, e1, rfl, _⟩ := DataW.trod_int Try.underlying3 t1
    obtain ⟨s3, e3, rfl, _⟩ := DataW.trod_string Try.underlying9 t3
    simp only [List.cons.injEq, and_true] at e0 e1 e3
    subst e0 e1 e3
    obtain ⟨⟨s, ps⟩, f3, h3, p1, p2, p3, p4, p5, p6⟩ := R.wd n' _ y2 f h t2 (by omega) hr
    simp only [Wd.cells] at p4
    cases p4 with
    | cons _ _ _ _ p4 _ =>
    simp only [Wd.ok] at p5
    simp only [Wd.sz] at p6
    refine ⟨.mk (nats s0) k s ps (nats s3), f3, h3, p1, p2, p3, .cons _ _ _ _ (.str _ _ rfl) (.cons _ _ _ _ (.int _ _) (.cons _ _ _ _ p4 (.cons _ _ _ _ (.str _ _ rfl) .nil))), ?_, ?_⟩
    · simp only [Rdr.ok]
      exact p5
    · simp only [Rdr.sz]
      omega
set_option maxRecDepth 100000 in
theorem rd_am {M : Nat} (R : Rds enc W M) : Rd enc W 76 Am.cells (fun h x => x.ok h) Am.sz (M + 1) := by
  intro n cs x f h hx hM hr
  obtain ⟨xs, n', _, rfl, hl, hlen, hf⟩ := DataW.trod_struct Try.underlying76 hx
  rw [cells76] at hl
  match cs, hl, xs, hlen, hf, hM with
  | c0 :: r, hl, [y0, y1], _, hf, hM =>
    have hr10 : r.length = 10 := by simpa using hl
    have t0 := fld (enc := enc) (W := W) (n := n') (y := y0) (c := [c0]) cells44 (hf 0 _ rfl) rfl
    have t1 := fld (enc := enc) (W := W) (n := n') (y := y1) (c := r) cells49 (hf 1 _ rfl) (show List.take 10 r = r from List.take_of_length_le (by omega))
    simp only [List.map_cons, List.map_nil, Rows.uptoBulk, Rows.uptoBulkAll] at hM ⊢
    obtain ⟨a3, L3, f3, h3, p1, p2, p3, ⟨v3, e3, p4⟩, p5, p6, p7⟩ := read_sl u44 cells60 (by omega) Wd.cells_len (fun _ _ _ q o => o.quiet q) R.wd t0 (by omega) hr
    simp only [List.cons.injEq, and_true] at e3
    subst e3
    obtain ⟨T, f4, h4, q1, q2, q3, q4, q5, q6⟩ := R.nd n' _ y1 f3 h3 t1 (by omega) p1
    refine ⟨.mk a3 L3 T, f4, h4, q1, p2.trans q2, p3.trans q3, .cons _ _ _ _ (p4.mono q2) q4, ?_, ?_⟩
    · simp only [Am.ok]
      exact ⟨p5.quiet q3, okW_of fun p hp => (p6 p hp).quiet q3, q5⟩
    · simp only [Am.sz, szW_sum]
      omega
set_option maxRecDepth 100000 in
theorem rd_nd {M : Nat} (R : Rds enc W M) : Rd enc W 49 Nd.cells (fun h x => x.ok h) Nd.sz (M + 1) := by
  intro n cs x f h hx hM hr
  obtain ⟨xs, n', _, rfl, hl, hlen, hf⟩ := DataW.trod_struct Try.underlying49 hx
  rw [cells49] at hl
  match cs, hl, xs, hlen, hf, hM with
  | [c0, c1, c2, c3, c4, c5, c6, c7, c8, c9], _, [y0, y1, y2, y3, y4, y5, y6, y7, y8, y9], _, hf, hM =>
    have t0 := fld (enc := enc) (W := W) (n := n') (y := y0) (c := [c0]) cells3 (hf 0 _ rfl) rfl
    have t1 := fld (enc := enc) (W := W) (n := n') (y := y1) (c := [c1]) cells9 (hf 1 _ rfl) rfl
    have t2 := fld (enc := enc) (W := W) (n := n') (y := y2) (c := [c2]) cells4 (hf 2 _ rfl) rfl
    have t3 := fld (enc := enc) (W := W) (n := n') (y := y3) (c := [c3]) cells4 (hf 3 _ rfl) rfl
    have t4 := fld (enc := enc) (W := W) (n := n') (y := y4) (c := [c4]) cells43 (hf 4 _ rfl) rfl
    have t5 := fld (enc := enc) (W := W) (n := n') (y := y5) (c := [c5]) cells44 (hf 5 _ rfl) rfl
    have t6 := fld (enc := enc) (W := W) (n := n') (y := y6) (c := [c6]) cells44 (hf 6 _ rfl) rfl
    have t7 := fld (enc := enc) (W := W) (n := n') (y := y7) (c := [c7]) cells45 (hf 7 _ rfl) rfl
    have t8 := fld (enc := enc) (W := W) (n := n') (y := y8) (c := [c8]) cells46 (hf 8 _ rfl) rfl
    have t9 := fld (enc := enc) (W := W) (n := n') (y := y9) (c := [c9]) cells47 (hf 9 _ rfl) rfl
    simp only [List.map_cons, List.map_nil, Rows.uptoBulk, Rows.uptoBulkAll] at hM ⊢
    obtain ⟨k, e0, rfl, _⟩ := DataW.trod_int Try.underlying3 t0
    obtain ⟨s1, e1, rfl, _⟩ := DataW.trod_string Try.underlying9 t1
    obtain ⟨b2, e2, rfl⟩ := DataW.trod_bool Try.underlying4 t2
    obtain ⟨b3, e3, rfl⟩ := DataW.trod_bool Try.underlying4 t3
    simp only [List.cons.injEq, and_true] at e0 e1 e2 e3
    subst e0 e1 e2 e3
    obtain ⟨a4, L4, f4, h4, i1, i2, i3, ⟨v4, e4, i4⟩, i5, i6, i7⟩ := read_sl (M := M) u43 cells3 (by omega) (fun _ => rfl) (fun _ _ _ _ _ => trivial) (rd_int M) t4 (by omega) hr
    obtain ⟨a5, L5, f5, h5, j1, j2, j3, ⟨v5, e5, j4⟩, j5, j6, j7⟩ := read_sl u44 cells60 (by omega) Wd.cells_len (fun _ _ _ q o => o.quiet q) R.wd t5 (by omega) i1
    obtain ⟨a6, L6, f6, h6, k1, k2, k3, ⟨v6, e6, k4⟩, k5, k6, k7⟩ := read_sl u44 cells60 (by omega) Wd.cells_len (fun _ _ _ q o => o.quiet q) R.wd t6 (by omega) j1
    obtain ⟨a7, L7, f7, h7, l1, l2, l3, ⟨v7, e7, l4⟩, l5, l6, l7⟩ := read_sl u45 cells73 (by omega) Rdr.cells_len (fun _ _ _ q o => o.quiet q) R.rdr t7 (by omega) k1
    obtain ⟨a8, L8, f8, h8, m1, m2, m3, ⟨v8, e8, m4⟩, m5, m6, m7⟩ := read_sl u46 cells76 (by omega) Am.cells_len (fun _ _ _ q o => o.quiet q) R.am t8 (by omega) l1
    obtain ⟨a9, L9, f9, h9, n1, n2, n3, ⟨v9, e9, n4⟩, n5, n6, n7⟩ := read_sl u47 cells49 (by omega) Nd.cells_len (fun _ _ _ q o => o.quiet q) R.nd t9 (by omega) m1
    simp only [List.cons.injEq, and_true] at e4 e5 e6 e7 e8 e9
    subst e4 e5 e6 e7 e8 e9
    have x8 := n2
    have x7 := m2.trans x8
    have x6 := l2.trans x7
    have x5 := k2.trans x6
    have x4 := j2.trans x5
    have w8 := n3
    have w7 := m3.trans w8
    have w6 := l3.trans w7
    have w5 := k3.trans w6
    have w4 := j3.trans w5
    refine ⟨.mk k (nats s1) b2 b3 a4 L4 a5 L5 a6 L6 a7 L7 a8 L8 a9 L9, f9, h9, n1, i2.trans x4, i3.trans w4, ?_, ?_, ?_⟩
    · exact .cons _ _ _ _ (.int _ _) (.cons _ _ _ _ (.str _ _ rfl) (.cons _ _ _ _ (.bool _) (.cons _ _ _ _ (.bool _) (.cons _ _ _ _ (i4.mono x4) (.cons _ _ _ _ (j4.mono x5) (.cons _ _ _ _ (k4.mono x6) (.cons _ _ _ _ (l4.mono x7) (.cons _ _ _ _ (m4.mono x8) (.cons _ _ _ _ n4 .nil)))))))))
    · simp only [Nd.ok]
      exact ⟨i5.quiet w4, ⟨j5.quiet w5, okW_of fun p hp => (j6 p hp).quiet w5⟩, ⟨k5.quiet w6, okW_of fun p hp => (k6 p hp).quiet w6⟩, ⟨l5.quiet w7, okR_of fun p hp => (l6 p hp).quiet w7⟩, ⟨m5.quiet w8, okM_of fun p hp => (m6 p hp).quiet w8⟩, n5, okN_of n6⟩
    · have hops : (L4.map fun _ => 1).sum = L4.length := by
        clear i5 i6 i7
        induction L4 with
        | nil => rfl
        | cons a l ih => simp only [List.map_cons, List.sum_cons, ih, List.length_cons]; omega
      simp only [Nd.sz, szW_sum, szR_sum, szM_sum, szN_sum]
      omega
theorem bulk_pos (d : DataW H) : 1 ≤ Rows.uptoBulk d := by
  cases d with
  | lit l => cases l <;> simp [Rows.uptoBulk]
  | _ => simp [Rows.uptoBulk]
theorem rds : ∀ M, Rds enc W M
  | 0 => by
    have z : ∀ {α : Type} {e : TypeId} {cells : α → List AV} {ok : AH → α → Prop} {size : α → Nat}, Rd enc W e cells ok size 0 := fun n cs x f h _ hM => absurd (bulk_pos x.1) (by omega)
    exact ⟨z, z, z, z, z⟩
  | M + 1 => ⟨rd_pt (rds M), rd_wd (rds M), rd_rdr (rds M), rd_am (rds M), rd_nd (rds M)⟩
end
end Go.Proofs.Ytgnacecplaemlaa
