/-
  An abstract interpreter for the model's code, part 13: an operation that makes or writes memory and is no call, together; any operation.
-/
import Derived.Test.YtgnacecplaemlaaE12
namespace Go.Proofs.Ytgnacecplaemlaa.AI
open Go.RowKit
section
variable {P : Program} {B : Nat} {f : Inj} {h : AH} {w : World} {ρ : Operand → Value} {ρ' : Operand → AV}

theorem acopy_sound (H : HR B f h w) {ts : Array TypeId} {as : Array Value} {t0 ty : TypeId} {v u : Value} {x y : AV} {a : AV} {h' : AH}
    (ht0 : ts[0]? = some t0) (ha0 : as[0]? = some v) (ha1 : as[1]? = some u) (hv : VR f v x) (hu : VR f u y) (h0 : acopy P t0 x y h = some (a, h')) :
    ∃ v' w', (Builtin.copy_ ts ty as).run P w = .ok v' w' ∧ HPost B f w h' a v' w' := by
  have same : ∀ {v' : Value}, VR f v' a → h' = h → (Builtin.copy_ ts ty as).run P w = .ok v' w → ∃ v' w', (Builtin.copy_ ts ty as).run P w = .ok v' w' ∧ HPost B f w h' a v' w' :=
    fun hv' e hr => ⟨_, w, hr, f, Ext.refl f, by rw [e]; exact H, Kept.refl B w, hv'⟩
  unfold acopy at h0
  split at h0
  · rename_i e hu0
    split at h0
    · rename_i es hes
      have hes' := run_sizeOf hes
      split at h0
      · obtain rfl := hv.nilSl_inv
        obtain rfl := hu.nilSl_inv
        injection h0 with h0; injection h0 with e1 e2; subst e1 e2
        exact same (.int .i64 0) rfl (by simp [Builtin.copy_, ht0, ha0, ha1, run_underlying hu0, Builtin.lenOf, hes', Builtin.firstCells, goInt])
      · obtain rfl := hv.nilSl_inv
        obtain ⟨r, O, cap, sp, _, _, _, _, _, _, rfl⟩ := hu.sl_inv
        injection h0 with h0; injection h0 with e1 e2; subst e1 e2
        exact same (.int .i64 0) rfl (by simp [Builtin.copy_, ht0, ha0, ha1, run_underlying hu0, Builtin.lenOf, hes', Builtin.firstCells, goInt, loadCells, loadCellsFrom])
      · obtain ⟨r, O, cap, sp, _, _, _, _, _, _, rfl⟩ := hv.sl_inv
        obtain rfl := hu.nilSl_inv
        injection h0 with h0; injection h0 with e1 e2; subst e1 e2
        exact same (.int .i64 0) rfl (by simp [Builtin.copy_, ht0, ha0, ha1, run_underlying hu0, Builtin.lenOf, hes', Builtin.firstCells, goInt, storeCells])
      · rename_i id off len es1 c id2 off2 n es2 c2
        obtain ⟨r, O, cap, sp, hf, hlo, hlen, hO, hcp, hsp, rfl⟩ := hv.sl_inv
        obtain ⟨r2, O2, cap2, sp2, hf2, hlo2, hlen2, hO2, hcp2, hsp2, rfl⟩ := hu.sl_inv
        split at h0
        · simp at h0
        · rename_i hne
          simp only [ne_eq, not_or, Decidable.not_not] at hne
          obtain ⟨rfl, hne2⟩ := hne
          subst hne2
          split at h0
          · rename_i hk
            injection h0 with h0; injection h0 with e1 e2; subst e1 e2
            have hk' : Nat.min n len = 0 := hk
            exact same (.int .i64 0) rfl (by simp [Builtin.copy_, ht0, ha0, ha1, run_underlying hu0, Builtin.lenOf, hes', Builtin.firstCells, goInt, hk', loadCells, loadCellsFrom, storeCells])
          · rename_i hk
            split at h0
            · simp at h0
            · rename_i l hl
              split at h0
              · simp at h0
              · rename_i hat
                have hat : atoms l = true := by simpa using hat
                split at h0
                · simp at h0
                · rename_i h2 hw
                  injection h0 with h0; injection h0 with e1 e2; subst e1 e2
                  obtain ⟨vs, q1, q2, q3⟩ := H.cells hl hf2 hlo2
                  obtain ⟨cc, et, m1, m2, m3, m4⟩ := H.write hw hf q2
                  have hk0 : min n len ≠ 0 := hk
                  obtain rfl : sp = none := hsp.resolve_left (by omega)
                  obtain rfl : sp2 = none := hsp2.resolve_left (by omega)
                  have hO' : O = r.base + (off - r.lo) := by rcases hO with h | h <;> omega
                  have hO2' : O2 = r2.base + (off2 - r2.lo) := by rcases hO2 with h | h <;> omega
                  subst hO' hO2'
                  have hload := run_loadCells_list (P := P) w _ vs q3
                  rw [q1] at hload
                  have hst := run_storeCells_at P r.blk (r.base + (off - r.lo)) et vs 0 cc w m1 (by simpa using m2) (atoms_one q2 hat)
                  simp only [Nat.add_zero] at hst
                  refine ⟨.int .i64 (min n len : Nat), _, ?_, f, Ext.refl f, m3, m4, .int _ _⟩
                  have e3 : Nat.min n len = min n len := rfl
                  simp [Builtin.copy_, ht0, ha0, ha1, run_underlying hu0, Builtin.lenOf, hes', Builtin.firstCells, goInt, hload, hst, e3]
      · simp at h0
    · simp at h0
  · simp at h0

/-! ### Objects that are no cells -/
/-- A row more, which no abstract block or object stands for. -/
theorem HR.allocOther (H : HR B f h w) (x : Obj) : HR B f h (w.alloc x) ∧ Kept B w (w.alloc x) :=
  ⟨⟨fun id b hb => by
      obtain ⟨r, c, e, fz, h1, h2, h3⟩ := H.blk id b hb
      exact ⟨r, c, e, fz, h1, (Below.heap_alloc _ _ _ (Array.getElem?_eq_some_iff.1 h2).1).trans h2, h3⟩,
    H.apart, H.fresh, H.ffresh, by have := H.le; simp; omega, H.objs.keep (Ext.refl f) (fun _ => rfl) (Nat.le_refl _) (fun k y _ h1 _ => (Below.heap_alloc _ _ _ (Array.getElem?_eq_some_iff.1 h1).1).trans h1)⟩,
   (Kept.refl B w).alloc H.le x⟩
/-- A new object. -/
theorem HR.newOb (H : HR B f h w) {o : AObj} {x : Obj} (ho : ObR f o ⟨w.heap.size, 0, 0, 0⟩ x) :
    HR B (upd f h.next ⟨w.heap.size, 0, 0, 0⟩) (h.newOb o) (w.alloc x) ∧ Ext f (upd f h.next ⟨w.heap.size, 0, 0, 0⟩) ∧ Kept B w (w.alloc x) := by
  have hx : Ext f (upd f h.next ⟨w.heap.size, 0, 0, 0⟩) := Ext.upd (H.ffresh _ (Nat.le_refl _)) _
  have hold : ∀ (k : Nat) (y : Obj), w.heap[k]? = some y → (w.alloc x).heap[k]? = some y := fun k y hy => (Below.heap_alloc _ _ _ (Array.getElem?_eq_some_iff.1 hy).1).trans hy
  have hne : ∀ id b, h.blk? id = some b → id ≠ h.next := fun id b hb e => by rw [e, H.fresh _ (Nat.le_refl _)] at hb; simp at hb
  have hno : ∀ id b, h.ob? id = some b → id ≠ h.next := fun id b hb e => by rw [e, H.objs.ofresh _ (Nat.le_refl _)] at hb; simp at hb
  refine ⟨⟨fun id b hb => ?_, fun id id' b b' r r' hne' hb hb' hro hro' hr hr' => ?_, fun id hid => ?_, fun id hid => ?_, ?_, ⟨fun id o' ho' => ?_, fun id id' o1 o2 r r' hne' h1 h2 hr hr' => ?_, fun id hid => ?_⟩⟩, hx, (Kept.refl B w).alloc H.le x⟩
  · rw [AH.blk?_newOb] at hb
    obtain ⟨r, c, e, fz, h1, h2, h3, h4, h5, h6, h7, h8⟩ := H.blk id b hb
    exact ⟨r, c, e, fz, hx _ _ h1, hold _ _ h2, h3, h4, h5, h6, h7, fun o a ha => let ⟨v, q1, q2⟩ := h8 o a ha; ⟨v, q1, q2.mono hx⟩⟩
  · rw [AH.blk?_newOb] at hb hb'
    unfold upd at hr hr'
    rw [if_neg (hne _ _ hb)] at hr
    rw [if_neg (hne _ _ hb')] at hr'
    exact H.apart id id' b b' r r' hne' hb hb' hro hro' hr hr'
  · have hid : h.next + 1 ≤ id := hid
    rw [AH.blk?_newOb]
    exact H.fresh id (by omega)
  · have hid : h.next + 1 ≤ id := hid
    unfold upd
    rw [if_neg (by omega)]
    exact H.ffresh id (by omega)
  · have := H.le; simp; omega
  · rw [AH.ob?_newOb] at ho'
    split at ho'
    · rename_i hid
      injection ho' with ho'
      subst hid ho'
      exact ⟨_, x, upd_same _ _ _, H.le, World.alloc_heap_new w x, ho.mono hx⟩
    · obtain ⟨r, y, h1, h2, h3, h4⟩ := H.objs.obj id o' ho'
      exact ⟨r, y, hx _ _ h1, h2, hold _ _ h3, h4.mono hx⟩
  · have hlt : ∀ id o r, h.ob? id = some o → f id = some r → r.blk < w.heap.size := fun id o r h1 h2 => by
      obtain ⟨r', y, q1, _, q3, _⟩ := H.objs.obj id o h1
      rw [h2] at q1
      injection q1 with q1
      subst q1
      exact (Array.getElem?_eq_some_iff.1 q3).1
    rw [AH.ob?_newOb] at h1 h2
    unfold upd at hr hr'
    split at h1
    · rename_i hid
      subst hid
      rw [if_neg (Ne.symm hne')] at h2 hr'
      rw [if_pos rfl] at hr
      injection hr with hr
      subst hr
      exact Nat.ne_of_gt (hlt _ _ _ h2 hr')
    · rename_i hid
      rw [if_neg hid] at hr
      split at h2
      · rename_i hid'
        subst hid'
        rw [if_pos rfl] at hr'
        injection hr' with hr'
        subst hr'
        exact Nat.ne_of_lt (hlt _ _ _ h1 hr)
      · rename_i hid'
        rw [if_neg hid'] at hr'
        exact H.objs.oapart id id' o1 o2 r r' hne' h1 h2 hr hr'
  · have hid : h.next + 1 ≤ id := hid
    rw [AH.ob?_newOb, if_neg (by omega)]
    exact H.objs.ofresh id (by omega)
/-- An object is turned, or forgotten. -/
theorem HR.setOb (H : HR B f h w) {id : Nat} {r : Reg} {o0 : AObj} {o : Option AObj} {x0 x : Obj} (h0 : h.ob? id = some o0) (hf : f id = some r) (hx0 : w.heap[r.blk]? = some x0) (ho0 : Obj.other x0 = true)
    (ho : ∀ o', o = some o' → ObR f o' r x) : HR B f (h.putOb id o) (w.putObj r.blk x) ∧ Kept B w (w.putObj r.blk x) := by
  have hlt : r.blk < w.heap.size := (Array.getElem?_eq_some_iff.1 hx0).1
  have hB : B ≤ r.blk := by
    obtain ⟨r', y, q1, q2, _⟩ := H.objs.obj id o0 h0
    rw [hf] at q1
    injection q1 with q1
    subst q1
    exact q2
  have hcells : ∀ (k : Nat) (y : Obj), w.heap[k]? = some y → Obj.other y = false → (w.putObj r.blk x).heap[k]? = some y := fun k y hy hn => by
    rw [World.putObj_heap_other]
    · exact hy
    · rintro rfl; rw [hx0] at hy; injection hy with hy; subst hy; rw [ho0] at hn; simp at hn
  refine ⟨⟨fun j b hb => ?_, H.apart, H.fresh, H.ffresh, by rw [World.putObj_size]; exact H.le, ⟨fun j o' ho' => ?_, fun j j' o1 o2 r1 r2 hne h1 h2 hr1 hr2 => ?_, fun j hj => ?_⟩⟩,
    ⟨⟨rfl, rfl, rfl, by rw [World.putObj_size]; exact Nat.le_refl _, fun k hk => World.putObj_heap_other (by omega)⟩, fun k ds hk => hcells k _ hk rfl⟩⟩
  · obtain ⟨r', c, e, fz, h1, h2, h3⟩ := H.blk j b hb
    exact ⟨r', c, e, fz, h1, hcells _ _ h2 rfl, h3⟩
  · rw [AH.ob?_putOb] at ho'
    split at ho'
    · rename_i hj
      subst hj
      exact ⟨r, x, hf, hB, World.putObj_heap_same hlt, ho o' ho'⟩
    · rename_i hj
      obtain ⟨r', y, q1, q2, q3, q4⟩ := H.objs.obj j o' ho'
      exact ⟨r', y, q1, q2, by rw [World.putObj_heap_other (H.objs.oapart j id o' o0 r' r hj ho' h0 q1 hf)]; exact q3, q4⟩
  · rw [AH.ob?_putOb] at h1 h2
    have key : ∀ k o', (if k = id then o else h.ob? k) = some o' → ∃ o'', h.ob? k = some o'' := fun k o' hk => by
      split at hk
      · rename_i e; subst e; exact ⟨o0, h0⟩
      · exact ⟨o', hk⟩
    obtain ⟨p1, hp1⟩ := key j o1 h1
    obtain ⟨p2, hp2⟩ := key j' o2 h2
    exact H.objs.oapart j j' p1 p2 r1 r2 hne hp1 hp2 hr1 hr2
  · rw [AH.ob?_putOb]
    split
    · rename_i e
      subst e
      rw [H.objs.ofresh _ hj] at h0
      simp at h0
    · exact H.objs.ofresh j hj
/-- A block for deferred calls is shut. -/
theorem HR.shut (H : HR B f h w) {k : Nat} {ds : Option (List Deferred)} (hk : w.heap[k]? = some (.deferred ds)) (hB : B ≤ k) (x : Option (List Deferred)) :
    HR B f h (w.putObj k (.deferred x)) ∧ Below B w (w.putObj k (.deferred x)) := by
  have hoth : ∀ (j : Nat) (y : Obj), w.heap[j]? = some y → (∀ ds, y ≠ .deferred ds) → (w.putObj k (.deferred x)).heap[j]? = some y := fun j y hy hn => by
    rw [World.putObj_heap_other]
    · exact hy
    · rintro rfl; rw [hk] at hy; injection hy with hy; exact hn _ hy.symm
  refine ⟨⟨fun j b hb => ?_, H.apart, H.fresh, H.ffresh, by rw [World.putObj_size]; exact H.le, H.objs.keep (Ext.refl f) (fun _ => rfl) (Nat.le_refl _) (fun j y _ h1 h2 => hoth j y h1 (fun ds e => by rw [e] at h2; simp [Obj.other] at h2))⟩,
    ⟨rfl, rfl, rfl, by rw [World.putObj_size]; exact Nat.le_refl _, fun j hj => World.putObj_heap_other (by omega)⟩⟩
  obtain ⟨r', c, e, fz, h1, h2, h3⟩ := H.blk j b hb
  exact ⟨r', c, e, fz, h1, hoth _ _ h2 (fun _ h => by cases h), h3⟩

/-- Not a call of a function of the program. -/
def notCall (o : Oper) : Prop := ∀ f as ts, o.op ≠ .call { callee := .value f, args := as, argTypes := ts }

theorem decode_low (b : ByteArray) (pos : Nat) {u : UInt8} (hu : b[pos]? = some u) (hl : u.toNat < 128) : Utf8.decode b pos = (u.toNat, 1) := by
  have hlt : pos < b.size := by
    rcases Nat.lt_or_ge pos b.size with q | q
    · exact q
    · rw [getElem?_neg b pos (by omega)] at hu; simp at hu
  have hg : b.get! pos = u := by
    rw [getElem?_pos b pos hlt] at hu
    injection hu with hu
    rw [← hu]
    show b.data[pos]! = b.data[pos]
    rw [getElem!_pos b.data pos hlt]
  unfold Utf8.decode
  simp only [Nat.add_zero, hg]
  rw [if_pos hl]
theorem aheap_sound (H : HR B f h w) (hρ : ∀ x, VR f (ρ x) (ρ' x)) {call : ACall} {o : Oper} {a : AV} {h' : AH} (hnc : notCall o)
    (h0 : aheap P call ρ' o h = some (a, h')) : ∃ v w', Comes1 P ρ o w v w' ∧ HPost B f w h' a v w' := by
  obtain ⟨dst, op, type, pos, after, guard⟩ := o
  cases op <;> simp only [aheap] at h0 <;> try (simp at h0; done)
  case alloc e =>
    split at h0
    · rename_i z hz
      split at h0
      · simp at h0
      · rename_i hzt
        injection h0 with h0; injection h0 with e1 e2; subst e1 e2
        obtain ⟨zv, hzv, hzr⟩ := run_zeroValue hz f
        have hnt : z ≠ .top := by rintro rfl; simp [AV.isTop] at hzt
        exact ⟨_, _, .inl (by simp [execOp, Instr.alloc, hzr, newVar, newRow]), H.new (hzv.cells hnt) e⟩
    · simp at h0
  case box e x =>
    split at h0
    · simp at h0
    · rename_i hxt
      injection h0 with h0; injection h0 with e1 e2; subst e1 e2
      have hnt : ρ' x ≠ .top := by intro e; rw [e] at hxt; simp [AV.isTop] at hxt
      exact ⟨_, _, .inl (by simp [execOp, Instr.box, newVar, newRow]), H.new ((hρ x).cells hnt) e⟩
  case buildSlice t len parts =>
    obtain ⟨parts⟩ := parts
    split at h0
    · rename_i e ht
      split at h0
      · rename_i n z hn hz
        by_cases hl0 : len = 0
        · subst hl0
          rw [if_pos rfl] at h0
          split at h0
          · rename_i hpe
            injection h0 with h0; injection h0 with e1 e2; subst e1 e2
            have hp0 : parts = [] := by simpa using hpe
            subst hp0
            refine ⟨_, _, .inl ?_, H.newSl (cs := #[]) (l := []) (e := e) (len := 0) (cap := 0) (es := n) (c := some 0) (by simp) (fun i a ha => by simp at ha) (by omega) (Nat.le_refl _) (by simp)⟩
            simp [execOp, Instr.buildSlice, run_underlying ht, run_sizeOf hn, Instr.fill, newRow]
            rw [show Array.range 0 = #[] from rfl, Array.map_empty]
          · simp at h0
        rw [if_neg hl0] at h0
        split at h0
        · simp at h0
        · rename_i hc
          simp only [Bool.or_eq_true, decide_eq_true_eq, bne_iff_ne, ne_eq, not_or, Decidable.not_not] at hc
          obtain ⟨⟨⟨⟨hc1, hc2⟩, hc3⟩, hc4⟩, hc5⟩ := hc
          split at h0
          · simp at h0
          · rename_i l hl
            injection h0 with h0; injection h0 with e1 e2; subst e1 e2
            obtain ⟨zv, hzv, hzr⟩ := run_zeroValue hz f
            have hnt : z ≠ .top := by rintro rfl; simp [AV.isTop] at hc1
            have hzc := hzv.cells hnt
            have hzl : zv.cells.size = n := by have := hzc.length; simp at this; omega
            have hrep := hzc.arep (by omega) len
            rw [hzl] at hrep
            obtain ⟨cs', h1, h2⟩ := afill_sound hρ hrep hl
            have h5 : len * n ≤ 16777216 := not_blt hc5
            have hlen : l.length = cs'.size := by have := h2.length; simpa using this.symm
            have hfl : l.length = len * n := by
              have : ∀ (place : Nat → Option (Nat × Nat)) (ps : List (Nat × AV)) (c r : List AV), afill place c ps = some r → r.length = c.length := by
                intro place ps
                induction ps with
                | nil => intro c r hh; simp [afill] at hh; subst hh; rfl
                | cons p ps ih =>
                  intro c r hh
                  simp only [afill] at hh
                  split at hh
                  · simp at hh
                  · rename_i off size hp
                    split at hh
                    · simp at hh
                    · rename_i hcc
                      simp only [Bool.or_eq_true, not_or, Bool.not_eq_true, bne_eq_false_iff_eq] at hcc
                      have h9 : off + size ≤ c.length := not_blt (by simp [hcc.2])
                      rw [ih _ _ hh]
                      simp only [List.length_append, List.length_take, List.length_drop]
                      omega
              rw [this _ _ _ _ hl, length_arep]
              congr 1
            refine ⟨_, _, .inl ?_, H.newSl (cs := cs') (l := l) (e := e) (len := len) (cap := len) (es := n) (c := some len) (by omega) (fun i a ha => ?_) (by omega) (Nat.le_refl _) (by simp)⟩
            · have h6 : ¬ 2 ^ 24 < len * n := by omega
              have h7 : ¬ 16777216 < len * n := by omega
              have h8 : ¬ len * n = 0 := fun e => by rcases Nat.mul_eq_zero.mp e with e | e <;> omega
              simp only at h1 ⊢
              simp [execOp, Instr.buildSlice, run_underlying ht, run_sizeOf hn, hzr, h8, h1, newRow, hzl, h7]
            · obtain ⟨v, e1, e2⟩ := h2.get i a ha
              exact ⟨v, by simpa using e1, e2⟩
      · simp at h0
    · simp at h0
  case makeSlice t lo co =>
    split at h0
    · rename_i e k l k' c ht hl hc
      split at h0
      · simp at h0
      · rename_i i hi
        split at h0
        · simp at h0
        · rename_i z hz
          split at h0
          · simp at h0
          · rename_i hcc
            simp only [Bool.or_eq_true, decide_eq_true_eq, bne_iff_ne, ne_eq, not_or, Decidable.not_not] at hcc
            obtain ⟨⟨⟨⟨⟨hc1, hc2⟩, hc3⟩, hc4⟩, hc5⟩, hc6⟩ := hcc
            have hc6 := not_blt hc6
            injection h0 with h0; injection h0 with e1 e2; subst e1 e2
            have hlo := hρ lo
            rw [hl] at hlo
            have hlo := hlo.int_inv
            have hco := hρ co
            rw [hc] at hco
            have hco := hco.int_inv
            cases hzz : i.zero with
            | none => simp [hzz] at hz
            | some zv =>
              simp [hzz] at hz
              have hzv : VR f zv z := by rw [← hz]; exact VR.ofConst f zv
              have hnt : z ≠ .top := by rintro rfl; simp [AV.isTop] at hc1
              have hzc := hzv.cells hnt
              have hzl : zv.cells.size = i.size := by have := hzc.length; simp at this; omega
              have hrep := hzc.arep (by omega) (IntKind.i64.wrap c).toNat
              have hrl := hrep.length
              have hcs : ((Array.range ((IntKind.i64.wrap c).toNat * zv.cells.size)).map fun j => zv.cells[j % zv.cells.size]!).size = (IntKind.i64.wrap c).toNat * i.size := by rw [Array.size_map, Array.size_range, hzl]
              refine ⟨_, _, .inl ?_, H.newSl (e := e) (cs := (Array.range ((IntKind.i64.wrap c).toNat * zv.cells.size)).map fun j => zv.cells[j % zv.cells.size]!) (l := arep z.cells (IntKind.i64.wrap c).toNat) (len := (IntKind.i64.wrap l).toNat) (cap := (IntKind.i64.wrap c).toNat) (es := i.size) (c := some (IntKind.i64.wrap c).toNat)
                (by rw [← hrl, Array.length_toList]; exact Nat.le_refl _) (fun j a ha => ?_) (by omega) (by omega) (by simp)⟩
              · have t1 : ¬ (IntKind.i64.wrap c < 0) := by omega
                have t2 : ¬ ((i.bytes : Int) * IntKind.i64.wrap c > 281474976710656) := by
                  have t4 : (IntKind.i64.wrap c).toNat * i.bytes ≤ 140737488355328 := hc6
                  have t5 : ((IntKind.i64.wrap c).toNat : Int) = IntKind.i64.wrap c := Int.toNat_of_nonneg (by omega)
                  have t6 := Int.ofNat_le.mpr t4
                  rw [Int.natCast_mul, t5] at t6
                  rw [Int.mul_comm]
                  omega
                have t3 : (decide (IntKind.i64.wrap c < 0) || decide ((i.bytes : Int) * IntKind.i64.wrap c > 2 ^ 48)) = false := by simp; omega
                have t7 : ((decide (IntKind.i64.wrap c < 0) || decide ((i.bytes : Int) * IntKind.i64.wrap c > 2 ^ 48)) || decide (IntKind.i64.wrap l < 0) || decide (IntKind.i64.wrap l > IntKind.i64.wrap c)) = false := by
                  rw [t3]; simp; omega
                have hcn : (zeroValue e).run P w = .ok zv w := by simp [zeroValue, typeInfo, hi, hzz]
                simp only [execOp, Instr.makeSlice, hlo, hco, Sem.run_bind, run_underlying ht, Result.andThen_ok, asInt, asIntOf, Sem.run_pure, typeInfo, run_program, hi, sizeOf]
                rw [if_neg (by simpa using t7)]
                simp only [Sem.run_bind, run_askRoom, Result.andThen_ok, Sem.run_pure, run_program, hi]
                by_cases hz0 : (IntKind.i64.wrap c).toNat * i.size = 0
                · have hr0 : Array.range ((IntKind.i64.wrap c).toNat * i.size) = #[] := by rw [hz0]; rfl
                  simp only [hzl, hr0]
                  simp [hz0, newRow]
                · simp [hz0, hcn, newRow, hzl]
              · obtain ⟨v, e1, e2⟩ := hrep.get j a ha
                exact ⟨v, by rw [← e1, Array.getElem?_toList], e2⟩
    · simp at h0
  case store t x y =>
    split at h0
    · rename_i id off n hx hn
      split at h0
      · simp at h0
      · rename_i hc
        simp only [Bool.or_eq_true, bne_iff_ne, ne_eq, not_or, Decidable.not_not, Bool.not_eq_true', Bool.not_eq_false, Bool.not_eq_true] at hc
        obtain ⟨⟨hc1, hc2⟩, hc3⟩ := hc
        cases hw : h.write id off (ρ' y).cells with
        | none => simp [hw] at h0
        | some h2 =>
          simp [hw] at h0
          obtain ⟨rfl, rfl⟩ := h0
          have hp := hρ x
          rw [hx] at hp
          obtain ⟨w', h1, h2, h3⟩ := store_sound (P := P) H hp (hρ y) hn hc1 hc2 hc3 hw
          exact ⟨undef, w', .inr ⟨by simp [execOp, h1], rfl⟩, f, Ext.refl f, h2, h3, .tup _ _ (by exact .nil)⟩
    · simp at h0
  case range t x =>
    split at h0
    · rename_i s ht hx
      injection h0 with h0; injection h0 with e1 e2; subst e1 e2
      have hp := hρ x
      rw [hx] at hp
      obtain ⟨b, hb, rfl⟩ := hp.str_inv
      obtain ⟨g1, g2, g3⟩ := H.newOb (o := .iter (nats b) 0) (x := .stringIter b 0) ⟨b, rfl, rfl, rfl, rfl⟩
      refine ⟨_, _, .inl ?_, _, g2, g1, g3, VR.ptr h.next 0 ⟨w.heap.size, 0, 0, 0⟩ (upd_same _ _ _) (Nat.le_refl _)⟩
      simp [execOp, Instr.range, hb, run_underlying ht]
    · simp at h0
  case next it isS =>
    split at h0
    · rename_i id hi
      have hp := hρ it
      rw [hi] at hp
      unfold anext at h0
      split at h0
      · rename_i s pos hob
        obtain ⟨r, x, hf, hB, hx, b, rfl, rfl, hb0, hl0⟩ := H.objs.obj _ _ hob
        obtain ⟨r', hf', _, hv⟩ := hp.ptr_inv
        rw [hf] at hf'
        injection hf' with hf'
        subst hf'
        rw [hb0, hl0] at hv
        split at h0
        · rename_i c hc
          rw [nats_get] at hc
          cases hbc : b[pos]? with
          | none => simp [hbc] at hc
          | some u =>
            simp [hbc] at hc
            subst hc
            have hlt : pos < b.size := by
              rcases Nat.lt_or_ge pos b.size with q | q
              · exact q
              · rw [getElem?_neg b pos (by omega)] at hbc; simp at hbc
            split at h0
            · rename_i hu
              injection h0 with h0; injection h0 with e1 e2; subst e1 e2
              obtain ⟨g1, g2⟩ := H.setOb (o := some (.iter (nats b) (pos + 1))) (x := .stringIter b (pos + 1)) hob hf hx rfl (fun o' e => by injection e with e; subst e; exact ⟨b, rfl, rfl, hb0, hl0⟩)
              refine ⟨_, _, .inl ?_, f, Ext.refl f, g1, g2, .tup #[.bool true, .int .i64 (pos : Int), .int .i32 (u.toNat : Int)] _ (.cons _ _ _ _ (.bool _) (.cons _ _ _ _ (.int _ _) (.cons _ _ _ _ (.int _ _) .nil)))⟩
              have hdec := decode_low b pos hbc (Nat.blt_eq.mp hu)
              simp [execOp, Instr.next, hv, getObj, setObj, Sem.run, hx, hlt, hdec, Result.andThen, goInt, World.putObj]
            · simp at h0
        · rename_i hc
          injection h0 with h0; injection h0 with e1 e2; subst e1 e2
          rw [nats_get] at hc
          have hge : ¬ pos < b.size := fun hlt => by rw [getElem?_pos b pos hlt] at hc; simp at hc
          refine ⟨_, w, .inl ?_, f, Ext.refl f, H, Kept.refl B w, .tup #[.bool false] _ (.cons _ _ _ _ (.bool _) .nil)⟩
          simp [execOp, Instr.next, hv, getObj, Sem.run, hx, hge, Result.andThen]
      · simp at h0
    · simp at h0
  case call c =>
    obtain ⟨callee, args, argTypes⟩ := c
    cases callee with
    | value x => exact absurd rfl (hnc x args argTypes)
    | invoke x m => simp at h0
    | builtin b =>
      obtain ⟨args⟩ := args
      cases b <;> simp only [] at h0 <;> try (simp at h0; done)
      case append =>
        split at h0
        · rename_i t0 t1 s x g0 g1 g2 g3
          obtain ⟨v, w', h1, h2⟩ := aappend_sound (P := P) (ty := type) (as := (args.map ρ).toArray) H g0 g1 (v := ρ s) (u := ρ x) (by simp at g2; simp [g2]) (by simp at g3; simp [g3]) (hρ s) (hρ x) h0
          exact ⟨v, w', .inl (by simp [execOp, resolve, invoke, builtin, h1]), h2⟩
        · simp at h0
      case copy =>
        split at h0
        · rename_i t0 s x g0 g2 g3
          obtain ⟨v, w', h1, h2⟩ := acopy_sound (P := P) (ty := type) (as := (args.map ρ).toArray) H g0 (v := ρ s) (u := ρ x) (by simp at g2; simp [g2]) (by simp at g3; simp [g3]) (hρ s) (hρ x) h0
          exact ⟨v, w', .inl (by simp [execOp, resolve, invoke, builtin, h1]), h2⟩
        · simp at h0
end
end Go.Proofs.Ytgnacecplaemlaa.AI
