/-
  The interpreter, where what a call leaves behind is brought to a short form: a call that turned nothing old leaves the heap as it was, or with the one block that it hands back.
-/
import Derived.Test.YtgnacecplaemlaaE17
namespace Go.Proofs.Ytgnacecplaemlaa.AI
open Go.RowKit

/-- At most the blocks and objects of F have changed; there may be new ones. -/
structure Other (F : Nat → Prop) (h h' : AH) : Prop where
  next : h.next ≤ h'.next
  blk : ∀ j, j < h.next → ¬ F j → h'.blk? j = h.blk? j
  ob : ∀ j, j < h.next → ¬ F j → h'.ob? j = h.ob? j
/-- Nothing old has changed. -/
abbrev Quiet (h h' : AH) : Prop := Other (fun _ => False) h h'
theorem Other.refl (F : Nat → Prop) (h : AH) : Other F h h := ⟨Nat.le_refl _, fun _ _ _ => rfl, fun _ _ _ => rfl⟩
theorem Other.trans {F : Nat → Prop} {a b c : AH} (x : Other F a b) (y : Other F b c) : Other F a c :=
  ⟨Nat.le_trans x.next y.next, fun j hj hf => (y.blk j (Nat.lt_of_lt_of_le hj x.next) hf).trans (x.blk j hj hf), fun j hj hf => (y.ob j (Nat.lt_of_lt_of_le hj x.next) hf).trans (x.ob j hj hf)⟩
theorem Other.mono {F G : Nat → Prop} {a b : AH} (x : Other F a b) (hFG : ∀ j, j < a.next → F j → G j) : Other G a b :=
  ⟨x.next, fun j hj hg => x.blk j hj fun hf => hg (hFG j hj hf), fun j hj hg => x.ob j hj fun hf => hg (hFG j hj hf)⟩
theorem Other.any {F : Nat → Prop} {a b : AH} (x : Quiet a b) : Other F a b := x.mono fun _ _ h => h.elim
/-- A second step that turns what the first has made, and F. -/
theorem Other.plus {F G : Nat → Prop} {a b c : AH} (x : Other F a b) (y : Other G b c) (hG : ∀ j, G j → F j ∨ a.next ≤ j) : Other F a c :=
  ⟨Nat.le_trans x.next y.next, fun j hj hf => (y.blk j (Nat.lt_of_lt_of_le hj x.next) (fun h => (hG j h).elim hf (by omega))).trans (x.blk j hj hf),
    fun j hj hf => (y.ob j (Nat.lt_of_lt_of_le hj x.next) (fun h => (hG j h).elim hf (by omega))).trans (x.ob j hj hf)⟩
theorem Other.alloc (F : Nat → Prop) (h : AH) (l : List AV) : Other F h (h.alloc l) :=
  ⟨Nat.le_succ _, fun j hj _ => by rw [AH.blk?_alloc, if_neg (by omega)], fun _ _ _ => rfl⟩

/-! ### Values that speak of no block -/
def flat0 : AV → Bool
  | .bool _ | .int .. | .str _ | .nilp | .nilSl | .nilMap | .nilFn | .nilIface | .top => true
  | _ => false
def forget0 (a : AV) : AV := if flat0 a then a else .top
/-- A value of a cell that speaks of blocks below m alone. -/
def oldAV (m : Nat) : AV → Bool
  | .ptr id _ => Nat.blt id m
  | .sl id _ _ _ _ => Nat.blt id m
  | a => flat0 a
theorem VR.flat0 {f g : Inj} {v : Value} {a : AV} (h : VR f v a) (ha : flat0 a = true) : VR g v a := by
  cases h <;> first | (simp [AI.flat0] at ha; done) | (constructor; done) | (constructor; assumption)
theorem VR.forget0 {f g : Inj} {v : Value} {a : AV} (h : VR f v a) : VR g v (forget0 a) := by
  unfold AI.forget0
  split
  · rename_i ha; exact h.flat0 ha
  · exact .top _
theorem VRs.forget0 {f g : Inj} : ∀ {vs : List Value} {l : List AV}, VRs f vs l → VRs g vs (l.map AI.forget0)
  | _, _, .nil => .nil
  | _, _, .cons _ _ _ _ h hs => .cons _ _ _ _ h.forget0 (VRs.forget0 hs)
theorem VR.old {f g : Inj} {m : Nat} {v : Value} {a : AV} (h : VR f v a) (ha : oldAV m a = true) (hfg : ∀ id, id < m → g id = f id) : VR g v a := by
  cases h with
  | ptr id off r h hlo => exact .ptr id off r (by rw [hfg id (Nat.blt_eq.mp ha)]; exact h) hlo
  | sl id off len es c r O cap h hlo hlen hO hc sp hsp => exact .sl id off len es c r O cap (by rw [hfg id (Nat.blt_eq.mp ha)]; exact h) hlo hlen hO hc sp hsp
  | _ => first | (simp [oldAV, AI.flat0] at ha; done) | (constructor; done) | (constructor; assumption)
mutual
/-- What stood for a value ahead of the call stands for one behind it, in few words. -/
theorem VR.restrict {f f' g : Inj} (hg : ∀ id r, f id = some r → g id = f' id) {v0 v : Value} {a : AV} (h0 : VR f v0 a) (h : VR f' v a) : VR g v a := by
  cases h with
  | top => exact .top _
  | bool => exact .bool _
  | int => exact .int _ _
  | str s l h => exact .str s l h
  | nilp => exact .nilp
  | ptr id off r h hlo => cases h0 with | ptr _ _ r0 h1 _ => exact .ptr id off r (by rw [hg _ _ h1]; exact h) hlo
  | nilSl => exact .nilSl
  | sl id off len es c r O cap h hlo hlen hO hc sp hsp => cases h0 with | sl _ _ _ _ _ r0 _ _ h1 => exact .sl id off len es c r O cap (by rw [hg _ _ h1]; exact h) hlo hlen hO hc sp hsp
  | nilMap => exact .nilMap
  | fn k first captured l1 l2 h1 h2 => cases h0 with | fn _ _ _ _ _ q1 q2 => exact .fn k _ _ _ _ (VRs.restrict hg q1 h1) (VRs.restrict hg q2 h2)
  | yld id r h => cases h0 with | yld _ r0 h1 => exact .yld id r (by rw [hg _ _ h1]; exact h)
  | nilFn => exact .nilFn
  | iface t v a h => cases h0 with | iface _ _ _ q => exact .iface t _ _ (VR.restrict hg q h)
  | nilIface => exact .nilIface
  | agg cs l h => cases h0 with | agg _ _ q => exact .agg cs _ (VRs.restrict hg q h)
  | tup cs l h => cases h0 with | tup _ _ q => exact .tup cs _ (VRs.restrict hg q h)
theorem VRs.restrict {f f' g : Inj} (hg : ∀ id r, f id = some r → g id = f' id) {vs0 vs : List Value} {as : List AV} (h0 : VRs f vs0 as) (h : VRs f' vs as) : VRs g vs as := by
  cases h with
  | nil => exact .nil
  | cons v a vs as h hs => cases h0 with | cons _ _ _ _ q qs => exact .cons _ _ _ _ (VR.restrict hg q h) (VRs.restrict hg qs hs)
end

/-! ### The short form -/
/-- f', as far as it speaks of blocks below m. -/
def cutInj (f' : Inj) (m : Nat) : Inj := fun j => if j < m then f' j else none
section
variable {B : Nat} {f f' : Inj} {h h' : AH} {w w' : World}
theorem HR.lt (H : HR B f h w) {id : Nat} {r : Reg} (hf : f id = some r) : id < h.next := by
  rcases Nat.lt_or_ge id h.next with q | q
  · exact q
  · rw [H.ffresh id q] at hf; simp at hf
theorem HR.cutExt (H : HR B f h w) (e : Ext f f') : Ext f (cutInj f' h.next) := fun id r hr => by
  unfold cutInj
  rw [if_pos (H.lt hr)]
  exact e id r hr
theorem HR.cutEq (H : HR B f h w) : ∀ id r, f id = some r → cutInj f' h.next id = f' id := fun id r hr => by
  unfold cutInj
  rw [if_pos (H.lt hr)]
theorem HR.cut (H : HR B f h w) (H' : HR B f' h' w') (q : Quiet h h') : HR B (cutInj f' h.next) h w' := by
  have hlt : ∀ id b, h.blk? id = some b → id < h.next := fun id b hb => by
    rcases Nat.lt_or_ge id h.next with c | c
    · exact c
    · rw [H.fresh id c] at hb; simp at hb
  have hlo : ∀ id o, h.ob? id = some o → id < h.next := fun id o ho => by
    rcases Nat.lt_or_ge id h.next with c | c
    · exact c
    · rw [H.objs.ofresh id c] at ho; simp at ho
  have hc : ∀ id, id < h.next → cutInj f' h.next id = f' id := fun id hid => by unfold cutInj; rw [if_pos hid]
  refine ⟨fun id b hb => ?_, fun id id' b b' r r' hne hb hb' hro hro' hr hr' => ?_, H.fresh, fun id hid => by unfold cutInj; rw [if_neg (by omega)], H'.le, ⟨fun id o ho => ?_, fun id id' o o' r r' hne ho ho' hr hr' => ?_, H.objs.ofresh⟩⟩
  · have hid := hlt id b hb
    obtain ⟨r, c, e, fz, h1, h2, h3, h4, h5, h6, h7, h8⟩ := H'.blk id b (by rw [q.blk id hid (fun x => x)]; exact hb)
    obtain ⟨_, _, _, _, _, _, _, _, _, _, _, g8⟩ := H.blk id b hb
    refine ⟨r, c, e, fz, by rw [hc id hid]; exact h1, h2, h3, h4, h5, h6, h7, fun o a ha => ?_⟩
    obtain ⟨v, k1, k2⟩ := h8 o a ha
    obtain ⟨v0, _, k4⟩ := g8 o a ha
    exact ⟨v, k1, VR.restrict H.cutEq k4 k2⟩
  · rw [hc id (hlt id b hb)] at hr
    rw [hc id' (hlt id' b' hb')] at hr'
    exact H'.apart id id' b b' r r' hne (by rw [q.blk id (hlt id b hb) (fun x => x)]; exact hb) (by rw [q.blk id' (hlt id' b' hb') (fun x => x)]; exact hb') hro hro' hr hr'
  · have hid := hlo id o ho
    obtain ⟨r, x, h1, h2, h3, h4⟩ := H'.objs.obj id o (by rw [q.ob id hid (fun x => x)]; exact ho)
    obtain ⟨_, x0, _, _, _, g4⟩ := H.objs.obj id o ho
    refine ⟨r, x, by rw [hc id hid]; exact h1, h2, h3, ?_⟩
    cases o with
    | loop L =>
      obtain ⟨R, e1, e2, e3, e4, e5⟩ := h4
      obtain ⟨R0, _, _, _, e6, _⟩ := g4
      refine ⟨R, e1, e2, e3, ⟨e4.size, fun t a ha => ?_⟩, e5⟩
      obtain ⟨v, k1, k2⟩ := e4.get t a ha
      obtain ⟨v0, _, k4⟩ := e6.get t a ha
      exact ⟨v, k1, VR.restrict H.cutEq k4 k2⟩
    | iter s pos => exact h4
  · rw [hc id (hlo id o ho)] at hr
    rw [hc id' (hlo id' o' ho')] at hr'
    exact H'.objs.oapart id id' o o' r r' hne (by rw [q.ob id (hlo id o ho) (fun x => x)]; exact ho) (by rw [q.ob id' (hlo id' o' ho') (fun x => x)]; exact ho') hr hr'

/-- A part of a block that no abstract block stands for. -/
theorem HR.addBlk (H : HR B f h w) {r : Reg} {c : Array Value} {e : TypeId} {l : List AV} (hB : B ≤ r.blk) (hc : w.heap[r.blk]? = some (.cells c e (0, 0))) (hin : r.base + r.ext ≤ c.size) (hlo : r.lo = 0) (hl : l.length ≤ r.ext)
    (hap : ∀ id b r', h.blk? id = some b → b.ro = false → f id = some r' → r'.blk ≠ r.blk ∨ r'.base + r'.ext ≤ r.base ∨ r.base + r.ext ≤ r'.base)
    (hv : ∀ i a, l[i]? = some a → ∃ v, c[r.base + i]? = some v ∧ VR f v a) : HR B (upd f h.next r) (h.alloc l) w := by
  have hx : Ext f (upd f h.next r) := Ext.upd (H.ffresh _ (Nat.le_refl _)) _
  have hne : ∀ id b, h.blk? id = some b → id ≠ h.next := fun id b hb e => by rw [e, H.fresh _ (Nat.le_refl _)] at hb; simp at hb
  refine ⟨fun id b hb => ?_, fun id id' b b' r1 r2 hne' hb hb' hro hro' hr1 hr2 => ?_, fun id hid => ?_, fun id hid => ?_, H.le, H.objs.keep hx (fun _ => rfl) (Nat.le_succ _) (fun _ _ _ h _ => h)⟩
  · rw [AH.blk?_alloc] at hb
    split at hb
    · rename_i hid
      injection hb with hb
      subst hid hb
      refine ⟨r, c, e, (0, 0), upd_same _ _ _, hc, hin, hlo, by simpa using hl, fun _ => ⟨hB, rfl⟩, fun h => by simp at h, fun o a ha => ?_⟩
      obtain ⟨h1, h2⟩ := Blk.get_lo ha
      rw [Blk.get_eq, if_pos ⟨h1, h2⟩] at ha
      simp only [get_putCells, Tr.get_nil] at ha
      simp only at h1 h2
      rw [if_pos ⟨h1, by omega⟩] at ha
      obtain ⟨v, k1, k2⟩ := hv o a (by simpa using ha)
      exact ⟨v, by simpa using k1, k2.mono hx⟩
    · obtain ⟨r1, c1, e1, fz, q1, q2, q3, q4, q5, q6, q7, q8⟩ := H.blk id b hb
      exact ⟨r1, c1, e1, fz, hx _ _ q1, q2, q3, q4, q5, q6, q7, fun o a ha => let ⟨v, k1, k2⟩ := q8 o a ha; ⟨v, k1, k2.mono hx⟩⟩
  · rw [AH.blk?_alloc] at hb hb'
    unfold upd at hr1 hr2
    split at hb
    · rename_i hid
      subst hid
      rw [if_neg (Ne.symm hne')] at hb' hr2
      rw [if_pos rfl] at hr1
      injection hr1 with hr1
      subst hr1
      rcases hap id' b' r2 hb' hro' hr2 with q | q | q
      · exact .inl (Ne.symm q)
      · exact .inr (.inr q)
      · exact .inr (.inl q)
    · rename_i hid
      rw [if_neg hid] at hr1
      split at hb'
      · rename_i hid'
        subst hid'
        rw [if_pos rfl] at hr2
        injection hr2 with hr2
        subst hr2
        exact hap id b r1 hb hro hr1
      · rename_i hid'
        rw [if_neg hid'] at hr2
        exact H.apart id id' b b' r1 r2 hne' hb hb' hro hro' hr1 hr2
  · have hid : h.next + 1 ≤ id := hid
    rw [AH.blk?_alloc, if_neg (by omega)]
    exact H.fresh id (by omega)
  · have hid : h.next + 1 ≤ id := hid
    unfold upd
    rw [if_neg (by omega)]
    exact H.ffresh id (by omega)
end

def shortV : AV → AV
  | .tup l => .tup (l.map forget0)
  | a => a
def isTup : AV → Bool
  | .tup _ => true
  | _ => false
/-- The short form of what a call over h has left. -/
def Nrm (h : AH) (v : AV) (h' : AH) (v2 : AV) (h2 : AH) : Prop :=
  Quiet h h' ∧ (((flat0 v = true ∨ isTup v = true) ∧ v2 = shortV v ∧ h2 = h) ∨
    ∃ id off len es c b l, v = .sl id off len es c ∧ h.next ≤ id ∧ h'.blk? id = some b ∧ b.ro = false ∧ b.lo ≤ off ∧ off + len * es ≤ b.hi ∧ h'.cells? id (len * es) off = some l ∧ (∀ a ∈ l, oldAV h.next a = true) ∧
      v2 = .sl h.next 0 len es none ∧ h2 = h.alloc l)
theorem Nrm.unique {h : AH} {v : AV} {h' : AH} {a b : AV} {x y : AH} (p : Nrm h v h' a x) (q : Nrm h v h' b y) : a = b ∧ x = y := by
  rcases p with ⟨_, ⟨p1, rfl, rfl⟩ | ⟨id, off, len, es, c, b1, l, rfl, _, _, _, _, _, p2, _, rfl, rfl⟩⟩
  · rcases q with ⟨_, ⟨_, rfl, rfl⟩ | ⟨id, off, len, es, c, b1, l, rfl, _⟩⟩
    · exact ⟨rfl, rfl⟩
    · simp [flat0, isTup] at p1
  · rcases q with ⟨_, ⟨q1, _⟩ | ⟨id', off', len', es', c', b2, l', e, _, _, _, _, _, q2, _, rfl, rfl⟩⟩
    · simp [flat0, isTup] at q1
    · injection e with e1 e2 e3 e4 e5
      subst e1 e2 e3 e4
      rw [p2] at q2
      injection q2 with q2
      subst q2
      exact ⟨rfl, rfl⟩
open Classical in
noncomputable def nrm (h : AH) (r : Option (AV × AH)) : Option (AV × AH) :=
  match r with
  | none => none
  | some (v, h') => if hx : ∃ p : AV × AH, Nrm h v h' p.1 p.2 then some (Classical.choose hx) else some (v, h')
open Classical in
theorem nrm_of {h : AH} {v : AV} {h' : AH} {v2 : AV} {h2 : AH} (p : Nrm h v h' v2 h2) : nrm h (some (v, h')) = some (v2, h2) := by
  have hx : ∃ p : AV × AH, Nrm h v h' p.1 p.2 := ⟨(v2, h2), p⟩
  show (if hx : ∃ p : AV × AH, Nrm h v h' p.1 p.2 then some (Classical.choose hx) else some (v, h')) = _
  rw [dif_pos hx]
  have := Nrm.unique (Classical.choose_spec hx) p
  congr 1
  exact Prod.ext this.1 this.2
theorem nrm_flat {h h' : AH} {v : AV} (q : Quiet h h') (hv : flat0 v = true) : nrm h (some (v, h')) = some (v, h) :=
  nrm_of ⟨q, .inl ⟨.inl hv, by cases v <;> first | rfl | simp [flat0] at hv, rfl⟩⟩
theorem nrm_tup {h h' : AH} {l : List AV} (q : Quiet h h') : nrm h (some (.tup l, h')) = some (.tup (l.map forget0), h) :=
  nrm_of ⟨q, .inl ⟨.inr rfl, rfl, rfl⟩⟩
theorem Nrm.sound {B : Nat} {f : Inj} {h h' h2 : AH} {w w' : World} {v v2 : AV} {u : Value} (H : HR B f h w) (p : Nrm h v h' v2 h2) (q : HPost B f w h' v u w') : HPost B f w h2 v2 u w' := by
  obtain ⟨f', e1, H', k, hv⟩ := q
  obtain ⟨qt, ⟨p1, rfl, rfl⟩ | ⟨id, off, len, es, c, b, l, rfl, p1, p2, p3, p4, p5, p6, p7, rfl, rfl⟩⟩ := p
  · refine ⟨cutInj f' h2.next, H.cutExt e1, H.cut H' qt, k, ?_⟩
    rcases p1 with p1 | p1
    · have : shortV v = v := by cases v <;> first | rfl | simp [flat0] at p1
      rw [this]
      exact hv.flat0 p1
    · cases v <;> simp [isTup] at p1
      obtain ⟨cs, rfl, hcs⟩ := hv.tup_inv
      exact .tup cs _ hcs.forget0
  · obtain ⟨r, O, cap, sp, hf, hlo, hlen, hO, _, hsp, rfl⟩ := hv.sl_inv
    obtain ⟨r', cc, e, fz, g1, g2, g3, g4, g5, g6, _, g8⟩ := H'.blk id b p2
    rw [hf] at g1
    injection g1 with g1
    subst g1
    obtain ⟨hB, rfl⟩ := g6 p3
    obtain ⟨hl, hg⟩ := AH.cells?_spec h' id (len * es) off l p6
    have Hc := H.cut H' qt
    have hne : ∀ j, j < h.next → j ≠ id := fun j hj e => by omega
    have hcut : ∀ j, j < h.next → cutInj f' h.next j = f' j := fun j hj => by unfold cutInj; rw [if_pos hj]
    have Ha := Hc.addBlk (r := ⟨r.blk, r.base + (off - r.lo), 0, r.ext - (off - r.lo)⟩) (c := cc) (e := e) (l := l) hB g2 (by dsimp only; omega) rfl (by dsimp only; omega)
      (fun j bj rj hj hro hrj => by
        have hjn : j < h.next := by
          rcases Nat.lt_or_ge j h.next with q | q
          · exact q
          · rw [H.fresh j q] at hj; simp at hj
        rw [hcut j hjn] at hrj
        dsimp only
        rcases H'.apart j id bj b rj r (hne j hjn) (by rw [qt.blk j hjn (fun x => x)]; exact hj) p2 hro p3 hrj hf with q | q | q
        · exact .inl q
        · exact .inr (.inl (by omega))
        · exact .inr (.inr (by omega)))
      (fun i a ha => by
        have hi := hg i a ha
        rw [AH.cell?_eq, p2] at hi
        simp only [Option.bind_some] at hi
        obtain ⟨x, k1, k2⟩ := g8 _ a hi
        have hle : i < l.length := (List.getElem?_eq_some_iff.mp ha).1
        refine ⟨x, ?_, k2.old (p7 a (List.mem_of_getElem? ha)) hcut⟩
        rw [← k1]
        dsimp only
        congr 1; omega)
    refine ⟨_, (H.cutExt e1).trans (Ext.upd (Hc.ffresh _ (Nat.le_refl _)) _), Ha, k, ?_⟩
    exact .sl h.next 0 len es none ⟨r.blk, r.base + (off - r.lo), 0, r.ext - (off - r.lo)⟩ O cap (upd_same _ _ _) (Nat.le_refl _) hlen
      (by rcases hO with q | ⟨q1, q2⟩
          · exact .inl q
          · exact .inr ⟨by simp [q1], by dsimp only; omega⟩) (by simp) sp hsp
theorem nrm_sound {B : Nat} {f : Inj} {h h2 : AH} {w : World} {r : Option (AV × AH)} {v2 : AV} (H : HR B f h w) (h0 : nrm h r = some (v2, h2)) :
    ∃ v h', r = some (v, h') ∧ ∀ u w', HPost B f w h' v u w' → HPost B f w h2 v2 u w' := by
  unfold nrm at h0
  split at h0
  · simp at h0
  · rename_i v h'
    split at h0
    · rename_i hx
      injection h0 with h0
      have hs := Classical.choose_spec hx
      rw [h0] at hs
      exact ⟨v, h', rfl, fun u w' q => Nrm.sound H hs q⟩
    · injection h0 with h0
      injection h0 with e1 e2
      subst e1 e2
      exact ⟨_, _, rfl, fun u w' q => q⟩

/-- The interpreter: some calls are answered by a table; what those of pu leave is brought to the short form. -/
noncomputable def cexec (P : Program) (K : FuncId → Hint) (ov : FuncId → List AV → AH → Option (AV × AH)) (pu : FuncId → Bool) : Nat → ACall
  | 0 => fun _ _ _ => none
  | n + 1 => fun t args h =>
    match t with
    | .func g =>
      match ov g args h with
      | some r => some r
      | none =>
        match pu g with
        | true => nrm h (afn P K (cexec P K ov pu n) n g args h)
        | false => afn P K (cexec P K ov pu n) n g args h
    | .yield id => ayield P K (cexec P K ov pu n) n id args h
    | _ => none
theorem FnRuns.mono {P : Program} {g : FuncId} {vs : Array Value} {w : World} {Φ Ψ : Value → World → Prop} (h : FnRuns P g vs w Φ) (hm : ∀ v w', Φ v w' → Ψ v w') : FnRuns P g vs w Ψ := by
  rcases h with ⟨v, w', h1, h2⟩ | ⟨h1, h2⟩
  · exact .inl ⟨v, w', h1, hm _ _ h2⟩
  · exact .inr ⟨h1, h2.mono fun e w' ⟨v, he, hp⟩ => ⟨v, he, hm _ _ hp⟩⟩
theorem cexec_ok {P : Program} (hm : P.follows .mixedOrders = true) (K : FuncId → Hint) (pu : FuncId → Bool) {ov : FuncId → List AV → AH → Option (AV × AH)}
    (ho : ∀ g args h a h', ov g args h = some (a, h') → ∀ B f w (vs : Array Value), HR B f h w → VRs f vs.toList args → FnRuns P g vs w (HPost B f w h' a)) : ∀ n, CallOK P (cexec P K ov pu n)
  | 0 => ⟨fun g args h a h' h0 => by simp [cexec] at h0, fun id args h a h' h0 => by simp [cexec] at h0⟩
  | n + 1 => by
    have ih := cexec_ok hm K pu ho n
    refine ⟨fun g args h a h' h0 B f w vs H hv => ?_, fun id args h a h' h0 B f w vs r H hv hf => ?_⟩
    · simp only [cexec] at h0
      split at h0
      · rename_i x hx
        injection h0 with h0
        subst h0
        exact ho g args h _ h' hx B f w vs H hv
      · split at h0
        · obtain ⟨v, h1, e, hp⟩ := nrm_sound H h0
          exact (afn_runs hm K ih e H hv).mono hp
        · exact afn_runs hm K ih h0 H hv
    · simp only [cexec] at h0
      exact ayield_runs hm K ih h0 H hv hf
end Go.Proofs.Ytgnacecplaemlaa.AI
