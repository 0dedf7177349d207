/-
  An abstract interpreter for the model's code, part 8: how an abstract heap stands to a world.
-/
import Derived.Test.YtgnacecplaemlaaE7
import Derived.Laws.CopyRow
import Derived.RangeFuncNested
import Derived.LoopNIn
import Derived.OrdersIn
namespace Go.Proofs.Ytgnacecplaemlaa.AI
open Go.RowKit

/-- The frame 'fr' stands for the slots 'tmps'. -/
structure FR (f : Inj) (tmps : Array Value) (fr : List AV) : Prop where
  size : tmps.size = fr.length
  get : ∀ (t : Nat) (a : AV), fr[t]? = some a → ∃ v, tmps[t]? = some v ∧ VR f v a
theorem FR.mono {f f' : Inj} {tmps : Array Value} {fr : List AV} (h : FR f tmps fr) (he : Ext f f') : FR f' tmps fr :=
  ⟨h.size, fun t a ha => let ⟨v, h1, h2⟩ := h.get t a ha; ⟨v, h1, h2.mono he⟩⟩
def LSt.state : LSt → LoopState
  | .ready => .ready
  | .busy => .busy
  | .ret | .exit _ => .done
def LSt.pend : LSt → Option Code
  | .ready | .busy => none
  | .ret => some .ret
  | .exit id => some (.exit id)
/-- An abstract object stands for a row that is no cells. -/
def ObR (f : Inj) (o : AObj) (r : Reg) (x : Obj) : Prop :=
  match o with
  | .loop L => ∃ R, x = .loop R ∧ R.state = L.st.state ∧ R.pending = L.st.pend ∧ FR f R.tmps L.fr ∧ R.params = L.ps ∧ R.assign = L.asg ∧ R.body = L.body
  | .iter s pos => ∃ b, x = .stringIter b pos ∧ s = nats b ∧ r.base = 0 ∧ r.lo = 0
theorem ObR.mono {f f' : Inj} {o : AObj} {r : Reg} {x : Obj} (h : ObR f o r x) (he : Ext f f') : ObR f' o r x := by
  cases o with
  | loop L => obtain ⟨R, h1, h2, h3, h4, h5⟩ := h; exact ⟨R, h1, h2, h3, h4.mono he, h5⟩
  | iter s pos => exact h
/-- A row of cells, or a block for deferred calls: no abstract object stands for it. -/
def Obj.other : Obj → Bool
  | .loop _ | .stringIter _ _ => true
  | _ => false
theorem ObR.other {f : Inj} {o : AObj} {r : Reg} {x : Obj} (h : ObR f o r x) : Obj.other x = true := by
  cases o with
  | loop L => obtain ⟨R, rfl, _⟩ := h; rfl
  | iter s pos => obtain ⟨b, rfl, _⟩ := h; rfl
/-- The objects that are no cells. -/
structure OR (B : Nat) (f : Inj) (h : AH) (w : World) : Prop where
  obj : ∀ id o, h.ob? id = some o → ∃ r x, f id = some r ∧ B ≤ r.blk ∧ w.heap[r.blk]? = some x ∧ ObR f o r x
  oapart : ∀ id id' o o' r r', id ≠ id' → h.ob? id = some o → h.ob? id' = some o' → f id = some r → f id' = some r' → r.blk ≠ r'.blk
  ofresh : ∀ id, h.next ≤ id → h.ob? id = none
/-- They stand where no row of theirs has turned. -/
theorem OR.keep {B : Nat} {f f' : Inj} {h h' : AH} {w w' : World} (H : OR B f h w) (he : Ext f f') (hob : ∀ j, h'.ob? j = h.ob? j) (hn : h.next ≤ h'.next)
    (hw : ∀ (k : Nat) (x : Obj), B ≤ k → w.heap[k]? = some x → Obj.other x = true → w'.heap[k]? = some x) : OR B f' h' w' := by
  refine ⟨fun id o ho => ?_, fun id id' o o' r r' hne ho ho' hr hr' => ?_, fun id hid => by rw [hob]; exact H.ofresh id (by omega)⟩
  · rw [hob] at ho
    obtain ⟨r, x, h1, h2, h3, h4⟩ := H.obj id o ho
    exact ⟨r, x, he _ _ h1, h2, hw _ _ h2 h3 h4.other, h4.mono he⟩
  · rw [hob] at ho ho'
    obtain ⟨r1, _, h1, _⟩ := H.obj id o ho
    obtain ⟨r2, _, h2, _⟩ := H.obj id' o' ho'
    have e1 := he _ _ h1
    have e2 := he _ _ h2
    rw [hr] at e1
    rw [hr'] at e2
    injection e1 with e1
    injection e2 with e2
    subst e1 e2
    exact H.oapart id id' o o' r r' hne ho ho' h1 h2

/-- What lies below B stands, and every block for deferred calls. -/
structure Kept (B : Nat) (w w' : World) : Prop where
  bel : Below B w w'
  dfr : ∀ (k : Nat) ds, w.heap[k]? = some (.deferred ds) → w'.heap[k]? = some (.deferred ds)
theorem Kept.refl (B : Nat) (w : World) : Kept B w w := ⟨Below.refl B w, fun _ _ h => h⟩
theorem Kept.trans {B : Nat} {a b c : World} (x : Kept B a b) (y : Kept B b c) : Kept B a c := ⟨x.bel.trans y.bel, fun k ds h => y.dfr k ds (x.dfr k ds h)⟩
theorem Kept.mono {B B' : Nat} {w w' : World} (x : Kept B w w') (hB : B' ≤ B) : Kept B' w w' := ⟨x.bel.mono hB, x.dfr⟩
theorem Kept.drew {B : Nat} {a w : World} (x : Kept B a w) : Kept B a w.drew := ⟨x.bel.drew, x.dfr⟩
theorem Kept.alloc {B : Nat} {a w : World} (x : Kept B a w) (hB : B ≤ w.heap.size) (o : Obj) : Kept B a (w.alloc o) :=
  ⟨x.bel.alloc hB o, fun k ds h => by rw [Below.heap_alloc _ _ _ (Array.getElem?_eq_some_iff.1 (x.dfr k ds h)).1]; exact x.dfr k ds h⟩
theorem Kept.of_heap {B : Nat} {w w' w2 : World} (hb : Kept B w w') (e1 : w2.heap = w'.heap) (e2 : w2.os = w'.os) (e3 : w2.tape = w'.tape) (e4 : w2.output = w'.output) : Kept B w w2 :=
  ⟨⟨e2.trans hb.bel.os, e3.trans hb.bel.tape, e4.trans hb.bel.output, by rw [e1]; exact hb.bel.size, fun k hk => by rw [e1]; exact hb.bel.block k hk⟩, fun k ds h => by rw [e1]; exact hb.dfr k ds h⟩

/-- The abstract heap 'h' stands for what the world 'w' holds; blocks from number B on are the call's own. -/
structure HR (B : Nat) (f : Inj) (h : AH) (w : World) : Prop where
  blk : ∀ id b, h.blk? id = some b → ∃ r c e fz, f id = some r ∧ w.heap[r.blk]? = some (.cells c e fz) ∧ r.base + r.ext ≤ c.size ∧ r.lo = b.lo ∧ b.hi - b.lo ≤ r.ext ∧
    (b.ro = false → B ≤ r.blk ∧ fz = (0, 0)) ∧ (b.ro = true → r.blk < B) ∧ ∀ o a, b.get o = some a → ∃ v, c[r.base + (o - b.lo)]? = some v ∧ VR f v a
  apart : ∀ id id' b b' r r', id ≠ id' → h.blk? id = some b → h.blk? id' = some b' → b.ro = false → b'.ro = false → f id = some r → f id' = some r' →
    r.blk ≠ r'.blk ∨ r.base + r.ext ≤ r'.base ∨ r'.base + r'.ext ≤ r.base
  fresh : ∀ id, h.next ≤ id → h.blk? id = none
  ffresh : ∀ id, h.next ≤ id → f id = none
  le : B ≤ w.heap.size
  objs : OR B f h w

section
variable {B : Nat} {f : Inj} {h : AH} {w : World}

theorem HR.of_heap (H : HR B f h w) {w' : World} (e : w'.heap = w.heap) : HR B f h w' :=
  ⟨fun id b hb => by rw [e]; exact H.blk id b hb, H.apart, H.fresh, H.ffresh, by rw [e]; exact H.le, H.objs.keep (Ext.refl f) (fun _ => rfl) (Nat.le_refl _) (fun k x _ hx _ => by rw [e]; exact hx)⟩

theorem Blk.get_lo {b : Blk} {o : Nat} {a : AV} (hg : b.get o = some a) : b.lo ≤ o ∧ o < b.hi := by
  rw [Blk.get_eq] at hg
  split at hg
  · assumption
  · simp at hg

/-- A cell that the abstract heap has. -/
theorem HR.cell (H : HR B f h w) {id off : Nat} {a : AV} {r : Reg} (hc : h.cell? id off = some a) (hf : f id = some r) :
    ∃ v, w.cell? ⟨r.blk, r.base + (off - r.lo), none⟩ = some v ∧ VR f v a := by
  rw [AH.cell?_eq] at hc
  obtain ⟨b, hb, hg⟩ := Option.bind_eq_some_iff.mp hc
  obtain ⟨r', c, e, fz, hf', hw, _, hlo, _, _, _, hv⟩ := H.blk id b hb
  obtain rfl : r' = r := by rw [hf] at hf'; injection hf' with e; exact e.symm
  obtain ⟨v, h1, h2⟩ := hv off a hg
  exact ⟨v, by simp only [World.cell?, hw]; rw [hlo]; simpa using h1, h2⟩

theorem HR.cells (H : HR B f h w) {id n off : Nat} {l : List AV} {r : Reg} (hc : h.cells? id n off = some l) (hf : f id = some r) (hlo : r.lo ≤ off) :
    ∃ vs : List Value, vs.length = n ∧ VRs f vs l ∧ ∀ j v, vs[j]? = some v → w.cell? ((⟨r.blk, r.base + (off - r.lo), none⟩ : Addr).add j) = some v := by
  obtain ⟨hl, hg⟩ := AH.cells?_spec h id n off l hc
  have key : ∀ i, i < l.length → ∃ v, w.cell? ⟨r.blk, r.base + (off - r.lo) + i, none⟩ = some v ∧ ∀ a, l[i]? = some a → VR f v a := by
    intro i hi
    obtain ⟨v, h1, h2⟩ := H.cell (hg i l[i] (by simp [hi])) hf
    refine ⟨v, by rw [← h1]; congr 2; omega, fun a ha => ?_⟩
    rw [List.getElem?_eq_getElem hi] at ha
    injection ha with ha
    subst ha
    exact h2
  refine ⟨(List.range l.length).map (fun i => ((w.cell? ⟨r.blk, r.base + (off - r.lo) + i, none⟩).getD undef)), by simp [hl], ?_, ?_⟩
  · refine VRs.of_get (by simp) (fun i v a h1 h2 => ?_)
    have hi : i < l.length := by
      rcases Nat.lt_or_ge i l.length with h' | h'
      · exact h'
      · rw [List.getElem?_eq_none h'] at h2; simp at h2
    obtain ⟨u, hu1, hu2⟩ := key i hi
    simp [hi, hu1] at h1
    subst h1
    exact hu2 a h2
  · intro j v hj
    have hi : j < l.length := by
      rcases Nat.lt_or_ge j l.length with h' | h'
      · exact h'
      · rw [List.getElem?_eq_none (by simpa using h')] at hj; simp at hj
    obtain ⟨u, hu1, _⟩ := key j hi
    simp [hi, hu1] at hj
    subst hj
    rw [Addr.add_plain]; exact hu1

/-- f, and one more. -/
def upd (f : Inj) (id : Nat) (r : Reg) : Inj := fun j => if j = id then some r else f j
theorem upd_same (f : Inj) (id : Nat) (r : Reg) : upd f id r id = some r := by simp [upd]
theorem Ext.upd {f : Inj} {id : Nat} (hn : f id = none) (r : Reg) : Ext f (upd f id r) := by
  intro j r' hj
  unfold AI.upd
  by_cases h : j = id
  · subst h; rw [hn] at hj; simp at hj
  · rw [if_neg h]; exact hj

/-- A block is forgotten. -/
theorem HR.forget (H : HR B f h w) (id : Nat) : HR B f (h.put id none) w := by
  have old : ∀ j bj, (h.put id none).blk? j = some bj → h.blk? j = some bj := by
    intro j bj hj
    rw [AH.blk?_put] at hj
    split at hj
    · simp at hj
    · exact hj
  refine ⟨fun j bj hj => H.blk j bj (old j bj hj), fun j k bj bk rj rk hne hj hk => H.apart j k bj bk rj rk hne (old j bj hj) (old k bk hk), fun j hj => ?_, H.ffresh, H.le, H.objs.keep (Ext.refl f) (fun _ => rfl) (Nat.le_refl _) (fun _ _ _ hx _ => hx)⟩
  rw [AH.blk?_put]
  split
  · rfl
  · exact H.fresh j hj
/-- A new block, whatever the abstract heap calls its places. -/
theorem HR.allocG (H : HR B f h w) {cs : Array Value} {b' : Blk} {h' : AH} (hro' : b'.ro = false) (hl : b'.hi - b'.lo ≤ cs.size)
    (hh : ∀ j, h'.blk? j = if j = h.next then some b' else h.blk? j) (hob : ∀ j, h'.ob? j = h.ob? j) (hnx : h'.next = h.next + 1)
    (hv : ∀ (o : Nat) (a : AV), b'.get o = some a → ∃ v, cs[o - b'.lo]? = some v ∧ VR f v a) (e : TypeId) :
    HR B (upd f h.next ⟨w.heap.size, 0, b'.lo, cs.size⟩) h' (w.alloc (.cells cs e)) ∧ Ext f (upd f h.next ⟨w.heap.size, 0, b'.lo, cs.size⟩) ∧ Kept B w (w.alloc (.cells cs e)) := by
  have hx : Ext f (upd f h.next ⟨w.heap.size, 0, b'.lo, cs.size⟩) := Ext.upd (H.ffresh _ (Nat.le_refl _)) _
  have hblt : ∀ id b r, h.blk? id = some b → f id = some r → r.blk < w.heap.size := by
    intro id b r hb hf
    obtain ⟨r', c, e, fz, hf', hw, _⟩ := H.blk id b hb
    rw [hf] at hf'
    injection hf' with e'
    subst e'
    exact (Array.getElem?_eq_some_iff.1 hw).1
  refine ⟨⟨fun id b hb => ?_, fun id id' b b2 r r' hne hb hb' hro hro2 hf hf' => ?_, fun id hid => ?_, fun id hid => ?_, ?_, H.objs.keep hx hob (by omega) (fun k x _ h1 _ => (Below.heap_alloc _ _ _ (Array.getElem?_eq_some_iff.1 h1).1).trans h1)⟩, hx, (Kept.refl B w).alloc H.le _⟩
  · rw [hh] at hb
    split at hb
    · rename_i hid
      subst hid
      injection hb with hb
      subst hb
      refine ⟨_, cs, e, (0, 0), upd_same _ _ _, ?_, by simp, rfl, hl, fun _ => ⟨H.le, rfl⟩, by simp [hro'], fun o a ha => ?_⟩
      · exact heap_alloc_new w _
      · obtain ⟨v, hv1, hv2⟩ := hv o a ha
        exact ⟨v, by simpa using hv1, hv2.mono hx⟩
    · rename_i hid
      obtain ⟨r, c, e', fz, hf, hw, h1, h2, h3, h4, h5, h6⟩ := H.blk id b hb
      refine ⟨r, c, e', fz, hx _ _ hf, ?_, h1, h2, h3, h4, h5, fun o a ha => ?_⟩
      · rw [← hw]
        exact Below.heap_alloc _ _ _ (hblt id b r hb hf)
      · obtain ⟨v, hv1, hv2⟩ := h6 o a ha
        exact ⟨v, hv1, hv2.mono hx⟩
  · rw [hh] at hb hb'
    unfold upd at hf hf'
    split at hb
    · rename_i hid
      subst hid
      rw [if_neg (Ne.symm hne)] at hb' hf'
      rw [if_pos rfl] at hf
      injection hf with hf
      subst hf
      left
      exact Nat.ne_of_gt (hblt id' b2 r' hb' hf')
    · rename_i hid
      rw [if_neg hid] at hf
      split at hb'
      · rename_i hid'
        subst hid'
        rw [if_pos rfl] at hf'
        injection hf' with hf'
        subst hf'
        left
        exact Nat.ne_of_lt (hblt id b r hb hf)
      · rename_i hid'
        rw [if_neg hid'] at hf'
        exact H.apart id id' b b2 r r' hne hb hb' hro hro2 hf hf'
  · rw [hnx] at hid
    rw [hh, if_neg (by omega)]
    exact H.fresh id (by omega)
  · rw [hnx] at hid
    unfold upd
    rw [if_neg (by omega)]
    exact H.ffresh id (by omega)
  · have := H.le
    simp
    omega
/-- A new block, of which the abstract heap knows the first cells. -/
theorem HR.alloc (H : HR B f h w) {cs : Array Value} {l : List AV} (hl : l.length ≤ cs.size) (hv : ∀ (i : Nat) (a : AV), l[i]? = some a → ∃ v, cs[i]? = some v ∧ VR f v a) (e : TypeId) :
    HR B (upd f h.next ⟨w.heap.size, 0, 0, cs.size⟩) (h.alloc l) (w.alloc (.cells cs e)) ∧ Ext f (upd f h.next ⟨w.heap.size, 0, 0, cs.size⟩) ∧ Kept B w (w.alloc (.cells cs e)) :=
  H.allocG (b' := { lo := 0, hi := l.length, ro := false, cells := putCells l 0 .nil }) rfl (by simpa using hl) (fun j => AH.blk?_alloc h l j) (fun _ => rfl) rfl
    (fun o a ha => by
      obtain ⟨h1, h2⟩ := Blk.get_lo ha
      rw [Blk.get_eq, if_pos ⟨h1, h2⟩] at ha
      simp only [get_putCells, Tr.get_nil] at ha
      simp only at h1 h2
      rw [if_pos ⟨h1, by omega⟩] at ha
      obtain ⟨v, hv1, hv2⟩ := hv o a (by simpa using ha)
      exact ⟨v, by simpa using hv1, hv2⟩) e

/-- One block's cells are turned; it may get another name, and a smaller place. -/
theorem HR.replace (H : HR B f h w) {id : Nat} {b : Blk} {r : Reg} {c c' : Array Value} {e : TypeId} (hb : h.blk? id = some b) (hro : b.ro = false) (hf : f id = some r)
    (hc : w.heap[r.blk]? = some (.cells c e (0, 0))) (hs : c'.size = c.size) (hout : ∀ j, j < r.base ∨ r.base + r.ext ≤ j → c'[j]? = c[j]?)
    {f' : Inj} {h' : AH} {id' : Nat} {b' : Blk} {r' : Reg} (hh : ∀ j, h'.blk? j = if j = id' then some b' else if j = id then none else h.blk? j) (hob : ∀ j, h'.ob? j = h.ob? j)
    (hid : id' = id ∨ h.next ≤ id') (hid2 : id' < h'.next) (hn : h.next ≤ h'.next) (hext : Ext f f') (hff : ∀ j, h'.next ≤ j → f' j = none) (hf' : f' id' = some r')
    (hrb : r'.blk = r.blk) (hr1 : r.base ≤ r'.base) (hr2 : r'.base + r'.ext ≤ r.base + r.ext) (hlo : r'.lo = b'.lo) (hhi : b'.hi - b'.lo ≤ r'.ext) (hro' : b'.ro = false)
    (hlive : ∀ o a, b'.get o = some a → ∃ v, c'[r'.base + (o - b'.lo)]? = some v ∧ VR f' v a) :
    HR B f' h' (w.setRow r.blk c') ∧ Kept B w (w.setRow r.blk c') := by
  have hb0 := H.blk id b hb
  obtain ⟨r0, c0, e0, fz0, hf0, hw0, hin0, _, _, hown0, _, _⟩ := hb0
  obtain rfl : r0 = r := by rw [hf] at hf0; injection hf0 with e; exact e.symm
  have hB := (hown0 hro).1
  have hrow : (w.setRow r0.blk c').heap[r0.blk]? = some (.cells c' e (0, 0)) := setRow_heap w r0.blk c c' e (0, 0) hc
  have hother : ∀ k, k ≠ r0.blk → (w.setRow r0.blk c').heap[k]? = w.heap[k]? := fun k hk => setRow_other w r0.blk k c' hk
  have hsz : (w.setRow r0.blk c').heap.size = w.heap.size := by simp [World.setRow]
  have hc0 : c0 = c := by rw [hc] at hw0; injection hw0 with e; injection e with e1 _ _; exact e1.symm
  subst hc0
  refine ⟨⟨fun j bj hj => ?_, fun j k bj bk rj rk hne hj hk roj rok hfj hfk => ?_, fun j hj => ?_, hff, by rw [hsz]; exact H.le, H.objs.keep hext hob hn (fun k x _ h1 h2 => ?_)⟩,
    ⟨⟨rfl, rfl, rfl, by rw [hsz]; exact Nat.le_refl _, fun k hk => hother k (by omega)⟩, fun k ds hk => ?_⟩⟩
  rotate_left 3
  · rw [hother k ?_]
    · exact h1
    · rintro rfl; rw [hc] at h1; injection h1 with h1; subst h1; simp [Obj.other] at h2
  · rw [hother k ?_]
    · exact hk
    · rintro rfl; rw [hc] at hk; injection hk with hk; cases hk
  · rw [hh] at hj
    split at hj
    · rename_i e1
      subst e1
      injection hj with hj
      subst hj
      exact ⟨r', c', e, (0, 0), hf', by rw [hrb]; exact hrow, by omega, hlo, hhi, fun _ => ⟨by omega, rfl⟩, by simp [hro'], hlive⟩
    · split at hj
      · simp at hj
      · rename_i e1 e2
        obtain ⟨rj, cj, ej, fzj, h1, h2, h3, h4, h5, h6, h7, h8⟩ := H.blk j bj hj
        by_cases hblk : rj.blk = r0.blk
        · have hcj : cj = c0 ∧ ej = e ∧ fzj = (0, 0) := by rw [hblk, hc] at h2; injection h2 with e; injection e with e1 e2 e3; exact ⟨e1.symm, e2.symm, e3.symm⟩
          obtain ⟨rfl, rfl, rfl⟩ := hcj
          refine ⟨rj, c', ej, (0, 0), hext _ _ h1, by rw [hblk]; exact hrow, by omega, h4, h5, h6, h7, fun o a ha => ?_⟩
          obtain ⟨v, hv1, hv2⟩ := h8 o a ha
          refine ⟨v, ?_, hv2.mono hext⟩
          rw [hout _ ?_]
          · exact hv1
          · obtain ⟨g1, g2⟩ := Blk.get_lo ha
            cases hroj : bj.ro with
            | true => have := h7 hroj; omega
            | false =>
              rcases H.apart j id bj b rj r0 e2 hj hb hroj hro h1 hf with h9 | h9 | h9
              · exact absurd hblk h9
              · left; omega
              · right; omega
        · refine ⟨rj, cj, ej, fzj, hext _ _ h1, by rw [hother _ hblk]; exact h2, h3, h4, h5, h6, h7, fun o a ha => ?_⟩
          obtain ⟨v, hv1, hv2⟩ := h8 o a ha
          exact ⟨v, hv1, hv2.mono hext⟩
  · have old : ∀ j bj rj, j ≠ id' → (if j = id' then some b' else if j = id then none else h.blk? j) = some bj → f' j = some rj → j ≠ id ∧ h.blk? j = some bj ∧ f j = some rj := by
      intro j bj rj hj1 hj2 hj3
      rw [if_neg hj1] at hj2
      split at hj2
      · simp at hj2
      · rename_i hj4
        obtain ⟨r1, _, _, _, h1, _⟩ := H.blk j bj hj2
        have := hext _ _ h1
        rw [hj3] at this
        injection this with this
        subst this
        exact ⟨hj4, hj2, h1⟩
    rw [hh] at hj hk
    by_cases e1 : j = id'
    · subst e1
      have e2 : k ≠ j := Ne.symm hne
      obtain ⟨k1, k2, k3⟩ := old k bk rk e2 hk hfk
      rw [hf'] at hfj
      injection hfj with hfj
      subst hfj
      rw [if_pos rfl] at hj
      rcases H.apart id k b bk r0 rk (Ne.symm k1) hb k2 hro rok hf k3 with h9 | h9 | h9
      · left; rw [hrb]; exact h9
      · right; left; omega
      · right; right; omega
    · obtain ⟨j1, j2, j3⟩ := old j bj rj e1 hj hfj
      by_cases e2 : k = id'
      · subst e2
        rw [hf'] at hfk
        injection hfk with hfk
        subst hfk
        rcases H.apart j id bj b rj r0 j1 j2 hb roj hro j3 hf with h9 | h9 | h9
        · left; rw [hrb]; exact h9
        · right; left; omega
        · right; right; omega
      · obtain ⟨k1, k2, k3⟩ := old k bk rk e2 hk hfk
        exact H.apart j k bj bk rj rk hne j2 k2 roj rok j3 k3
  · rw [hh]
    have h1 : j ≠ id' := by omega
    rw [if_neg h1]
    split
    · rfl
    · exact H.fresh j (by omega)
end
end Go.Proofs.Ytgnacecplaemlaa.AI
