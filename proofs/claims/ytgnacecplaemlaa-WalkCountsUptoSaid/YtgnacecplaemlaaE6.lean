/-
  An abstract interpreter for the model's code, part 6: the rest of the operations that look at no memory, and all of them together.
-/
import Derived.Test.YtgnacecplaemlaaE5
namespace Go.Proofs.Ytgnacecplaemlaa.AI
section
variable {P : Program} {f : Inj}

theorem Addr.add_plain (b o n : Nat) : (⟨b, o, none⟩ : Addr).add n = ⟨b, o + n, none⟩ := by
  unfold Addr.add
  by_cases h : n = 0
  · simp [h]
  · simp [h]

theorem afieldAt_sound {s : TypeId} {v : Value} {x r : AV} {i : Nat} (hv : VR f v x) (h : afieldAt P s x i = some r) : Gives P f (Instr.fieldAt s v i) r := by
  unfold afieldAt at h
  split at h
  · rename_i fields id off hs
    obtain ⟨rg, hf, hlo, rfl⟩ := hv.ptr_inv
    split at h
    · simp at h
    · rename_i fd hfd
      split at h
      · rename_i n hn
        injection h with h
        subst h
        refine .of (.pointer (some ⟨rg.blk, rg.base + (off - rg.lo) + fd.offset, none⟩)) ?_ fun w => ?_
        · have := VR.ptr (f := f) id (off + fd.offset) rg hf (by omega)
          have e : rg.base + (off + fd.offset - rg.lo) = rg.base + (off - rg.lo) + fd.offset := by omega
          rwa [e] at this
        · simp [Instr.fieldAt, run_underlying hs, hfd, Instr.sureAddr, fieldPlace, run_sizeOf hn, Addr.add_plain]
      · simp at h
  · simp at h

theorem aindexAt_sound {t : TypeId} {v u : Value} {x y r : AV} (hv : VR f v x) (hu : VR f u y) (h : aindexAt P t x y = some r) : Gives P f (Instr.indexAt t v u) r := by
  unfold aindexAt at h
  split at h
  · rename_i e id off len es c k i ht
    obtain ⟨rg, O, cap, sp, hf, hlo, hlen, hO, hc, hsp, rfl⟩ := hv.sl_inv
    obtain rfl := hu.int_inv
    split at h
    · simp at h
    · rename_i n hn
      split at h
      · rename_i hi
        obtain ⟨rfl, hi1, hi2⟩ := hi
        injection h with h
        subst h
        obtain rfl : sp = none := hsp.resolve_left (by omega)
        rcases hO with hO | ⟨rfl, hO2⟩
        · omega
        · refine .of (.pointer (some ⟨rg.blk, rg.base + (off - rg.lo) + i.toNat * n, none⟩)) ?_ fun w => ?_
          · have := VR.ptr (f := f) id (off + i.toNat * n) rg hf (by omega)
            have e : rg.base + (off + i.toNat * n - rg.lo) = rg.base + (off - rg.lo) + i.toNat * n := by omega
            rwa [e] at this
          · simp [Instr.indexAt, asIntOf, run_underlying ht, hi1, hi2, run_sizeOf hn, Addr.add_plain]
      · simp at h
  · rename_i len e id off k i ht
    obtain ⟨rg, hf, hlo, rfl⟩ := hv.ptr_inv
    obtain rfl := hu.int_inv
    split at h
    · simp at h
    · rename_i n hn
      split at h
      · rename_i hi
        obtain ⟨hi1, hi2⟩ := hi
        injection h with h
        subst h
        refine .of (.pointer (some ⟨rg.blk, rg.base + (off - rg.lo) + i.toNat * n, none⟩)) ?_ fun w => ?_
        · have := VR.ptr (f := f) id (off + i.toNat * n) rg hf (by omega)
          have e : rg.base + (off + i.toNat * n - rg.lo) = rg.base + (off - rg.lo) + i.toNat * n := by omega
          rwa [e] at this
        · simp [Instr.indexAt, asIntOf, run_underlying ht, hi1, hi2, run_sizeOf hn, Addr.add_plain, Instr.sureAddr]
      · simp at h
  · simp at h

theorem nats_get (s : ByteArray) (i : Nat) : (nats s)[i]? = (s[i]?).map UInt8.toNat := by
  unfold nats
  rw [List.getElem?_map]
  congr 1
  by_cases h : i < s.size
  · have h1 : i < s.data.toList.length := h
    rw [List.getElem?_eq_getElem h1, getElem?_pos s i h]
    rfl
  · have h1 : s.data.toList.length ≤ i := Nat.le_of_not_lt h
    rw [List.getElem?_eq_none h1, getElem?_neg s i h]

theorem aindex_sound {t : TypeId} {v u : Value} {x y r : AV} (hv : VR f v x) (hu : VR f u y) (h : aindex P t x y = some r) : Gives P f (Instr.index t v u) r := by
  unfold aindex at h
  split at h
  · rename_i s k i ht
    obtain ⟨b, rfl, rfl⟩ := hv.str_inv
    obtain rfl := hu.int_inv
    split at h
    · rename_i hi
      rw [nats_get] at h
      cases hb : b[i.toNat]? with
      | none => simp [hb] at h
      | some c =>
        simp [hb] at h
        subst h
        exact .of _ (.int _ _) fun w => by simp [Instr.index, asIntOf, run_underlying ht, hi, hb]
    · simp at h
  · rename_i len e cs k i ht
    obtain ⟨c, rfl, hc⟩ := hv.agg_inv
    obtain rfl := hu.int_inv
    split at h
    · simp at h
    · rename_i n hn
      split at h
      · rename_i hi
        obtain ⟨w0, hw, hr⟩ := apart_sound hc h
        exact .of _ hw fun w => by simp [Instr.index, asIntOf, run_underlying ht, hi, run_sizeOf hn, hr]
      · simp at h
  · simp at h

theorem take_set_succ {α : Type} (l : List α) (i : Nat) (v : α) (h : i < l.length) : (l.set i v).take (i + 1) = l.take i ++ [v] := by
  rw [List.set_eq_take_append_cons_drop, if_pos h, List.take_append, List.take_of_length_le (by simp; omega), List.length_take, Nat.min_eq_left (Nat.le_of_lt h)]
  simp
theorem foldl_set (off : Nat) : ∀ (l : List Value) (k : Nat) (cs : Array Value), off + k + l.length ≤ cs.size →
    ((l.zipIdx k).foldl (fun cs (x : Value × Nat) => cs.setIfInBounds (off + x.2) x.1) cs).toList = cs.toList.take (off + k) ++ l ++ cs.toList.drop (off + k + l.length)
  | [], k, cs, h => by simp
  | v :: l, k, cs, h => by
    rw [List.zipIdx_cons, List.foldl_cons, foldl_set off l (k + 1) _ (by simp at h ⊢; omega)]
    simp only [Array.toList_setIfInBounds, List.length_cons]
    simp at h
    have h1 : off + k < cs.toList.length := by simp; omega
    have e1 : (cs.toList.set (off + k) v).take (off + (k + 1)) = cs.toList.take (off + k) ++ [v] := take_set_succ _ _ _ h1
    have e2 : (cs.toList.set (off + k) v).drop (off + (k + 1) + l.length) = cs.toList.drop (off + k + (l.length + 1)) := by
      rw [List.drop_set_of_lt (by omega)]; congr 1; omega
    rw [e1, e2]
    simp

theorem afill_sound {place : Nat → Option (Nat × Nat)} {ps : List (Nat × Operand)} {ρ : Operand → Value} {ρ' : Operand → AV} (hρ : ∀ x, VR f (ρ x) (ρ' x)) :
    ∀ {cs : Array Value} {l r : List AV}, VRs f cs.toList l → afill place l (ps.map fun p => (p.1, ρ' p.2)) = some r →
    ∃ cs', Instr.fill place cs (ps.map fun p => (p.1, ρ p.2)) = some cs' ∧ VRs f cs'.toList r := by
  induction ps with
  | nil => intro cs l r hv h; simp [afill] at h; subst h; exact ⟨cs, rfl, hv⟩
  | cons p ps ih =>
    intro cs l r hv h
    simp only [List.map_cons, afill] at h
    split at h
    · simp at h
    · rename_i off size hp
      split at h
      · simp at h
      · rename_i hc
        simp only [Bool.or_eq_true, not_or, Bool.not_eq_true, bne_eq_false_iff_eq] at hc
        obtain ⟨⟨hc1, hc2⟩, hc3⟩ := hc
        have hnt : ρ' p.2 ≠ .top := by intro e; rw [e] at hc1; simp [AV.isTop] at hc1
        have hcells := (hρ p.2).cells hnt
        have hlen : (ρ p.2).cells.size = size := by have := hcells.length; simp at this; omega
        have hle : off + size ≤ l.length := by
          rcases Nat.lt_or_ge l.length (off + size) with h' | h'
          · rw [Nat.blt_eq.mpr h'] at hc3; simp at hc3
          · exact h'
        have hcl : cs.size = l.length := by have := hv.length; simpa using this
        have hv' : VRs f ((ρ p.2).cells.zipIdx.foldl (fun cs (x : Value × Nat) => cs.setIfInBounds (off + x.2) x.1) cs).toList (l.take off ++ (ρ' p.2).cells ++ l.drop (off + size)) := by
          rw [← Array.foldl_toList, Array.toList_zipIdx, foldl_set off _ 0 cs (by rw [Array.length_toList]; omega)]
          simp only [Nat.add_zero, Array.length_toList, hlen]
          exact ((hv.take off).append hcells).append (hv.drop (off + size))
        obtain ⟨cs', h1, h2⟩ := ih hv' h
        refine ⟨cs', ?_, h2⟩
        simp only [List.map_cons, Instr.fill, hp]
        rw [if_neg (by first | (simp [hlen]; done) | (simp [hlen]; omega))]
        exact h1

theorem aplaces_sound {g : Field → Sem (Nat × Nat)} (hg : ∀ fd n, asize P fd.type = some n → ∀ w, (g fd).run P w = .ok (fd.offset, n) w) :
    ∀ {fs : List Field} {l : List (Nat × Nat)}, aplaces P fs = some l → ∀ w, (fs.mapM g).run P w = .ok l w
  | [], l, h, w => by simp [aplaces] at h; subst h; simp
  | fd :: fs, l, h, w => by
    simp only [aplaces] at h
    split at h
    · rename_i n l' hn hl
      injection h with h
      subst h
      rw [List.mapM_cons, Sem.run_bind, hg fd n hn, Result.andThen_ok, Sem.run_bind, aplaces_sound hg hl]
      rfl
    · simp at h

theorem abuild_sound {t : TypeId} {ps : List (Nat × Operand)} {r : AV} {ρ : Operand → Value} {ρ' : Operand → AV} (hρ : ∀ x, VR f (ρ x) (ρ' x))
    (h : abuild P t (ps.map fun p => (p.1, ρ' p.2)) = some r) : Gives P f (Instr.build t (ps.map fun p => (p.1, ρ p.2)).toArray) r := by
  unfold abuild at h
  split at h
  · rename_i z fields hz ht
    split at h
    · simp at h
    · rename_i hzt
      split at h
      · simp at h
      · rename_i places hp
        cases hfl : afill (places[·]?) z.cells (ps.map fun p => (p.1, ρ' p.2)) with
        | none => simp [hfl] at h
        | some l =>
          simp [hfl] at h
          subst h
          obtain ⟨zv, hzv, hzr⟩ := run_zeroValue hz f
          have hnt : z ≠ .top := by intro e; rw [e] at hzt; simp [AV.isTop] at hzt
          obtain ⟨cs', h1, h2⟩ := afill_sound hρ (hzv.cells hnt) hfl
          refine .of (.agg cs') (.agg _ _ h2) fun w => ?_
          have hm : ∀ (g : Field → Sem (Nat × Nat)), (∀ fd n, asize P fd.type = some n → ∀ w, (g fd).run P w = .ok (fd.offset, n) w) → ∀ w, (fields.mapM g).run P w = .ok places.toArray w := fun g hg w => by
            obtain ⟨fl⟩ := fields
            rw [List.mapM_toArray, Sem.run_map, aplaces_sound hg hp]
            rfl
          unfold Instr.build
          simp only [Sem.run_bind, hzr, run_underlying ht, Result.andThen_ok]
          rw [hm _ (fun fd n hn w => by simp only [Sem.run_bind, run_sizeOf hn, Result.andThen_ok, Sem.run_pure])]
          simp only [Result.andThen_ok]
          simp [h1]
  · rename_i z n e hz ht
    split at h
    · simp at h
    · rename_i hzt
      split at h
      · simp at h
      · rename_i sz hs
        cases hfl : afill (fun i => some (i * sz, sz)) z.cells (ps.map fun p => (p.1, ρ' p.2)) with
        | none => simp [hfl] at h
        | some l =>
          simp [hfl] at h
          subst h
          obtain ⟨zv, hzv, hzr⟩ := run_zeroValue hz f
          have hnt : z ≠ .top := by intro e; rw [e] at hzt; simp [AV.isTop] at hzt
          obtain ⟨cs', h1, h2⟩ := afill_sound hρ (hzv.cells hnt) hfl
          exact .of (.agg cs') (.agg _ _ h2) fun w => by simp [Instr.build, hzr, run_underlying ht, run_sizeOf hs, h1]
  · simp at h

theorem anilCheck_sound {v : Value} {x r : AV} (hv : VR f v x) (h : anilCheck x = some r) (o : Oper) {ρ : Operand → Value} {p : Operand} (ho : o.op = .nilCheck p) (hp : ρ p = v) :
    ∃ z, VR f z r ∧ ∀ w, (execOp ρ o).run P w = .ok (.value z) w := by
  unfold anilCheck at h
  split at h
  · injection h with h; subst h; obtain ⟨rg, _, _, rfl⟩ := hv.ptr_inv; exact ⟨_, hv, fun w => by simp [execOp, ho, hp]⟩
  · injection h with h; subst h; obtain ⟨c1, c2, rfl, _, _⟩ := hv.fn_inv; exact ⟨_, hv, fun w => by simp [execOp, ho, hp]⟩
  · injection h with h; subst h; obtain ⟨u, rfl, _⟩ := hv.iface_inv; exact ⟨_, hv, fun w => by simp [execOp, ho, hp]⟩
  · simp at h

theorem aconv_sound {src dst : TypeId} {v : Value} {x r : AV} (hv : VR f v x) (h : aconv P src dst x = some r) : Gives P f (convert src dst v) r := by
  unfold aconv at h
  split at h
  · rename_i k k' n hd hs
    obtain rfl := hv.int_inv
    injection h with h; subst h
    exact .of _ (.int _ _) fun w => by simp [convert, run_underlying hs, run_underlying hd, Conv.intToInt]
  · rename_i s hd hs
    obtain ⟨b, rfl, rfl⟩ := hv.str_inv
    injection h with h; subst h
    exact .of _ (.str _ _ rfl) fun w => by simp [convert, run_underlying hs, run_underlying hd]
  · simp at h

theorem alen_sound {t : TypeId} {v : Value} {x : AV} {n : Nat} (hv : VR f v x) (h : alen P t x = some n) (ts : Array TypeId) (as : Array Value) (ht : ts[0]? = some t) (ha : as[0]? = some v) (ty : TypeId) (w : World) :
    (Builtin.len_ ts ty as).run P w = .ok (.int .i64 (n : Int)) w := by
  unfold alen at h
  split at h
  · rename_i hd
    obtain ⟨b, rfl, rfl⟩ := hv.str_inv
    injection h with h; subst h
    simp [Builtin.len_, ht, ha, run_underlying hd, goInt, length_nats]
  · rename_i hd
    obtain ⟨rg, O, cap, sp, _, _, _, _, _, _, rfl⟩ := hv.sl_inv
    injection h with h; subst h
    simp [Builtin.len_, ht, ha, run_underlying hd, goInt]
  · rename_i hd
    obtain rfl := hv.nilSl_inv
    injection h with h; subst h
    simp [Builtin.len_, ht, ha, run_underlying hd, goInt]
  · rename_i hd
    obtain rfl := hv.nilMap_inv
    injection h with h; subst h
    simp [Builtin.len_, ht, ha, run_underlying hd, goInt]
  · simp at h
theorem acap_sound {t : TypeId} {v : Value} {x : AV} {n : Nat} (hv : VR f v x) (h : acap P t x = some n) (ts : Array TypeId) (as : Array Value) (ht : ts[0]? = some t) (ha : as[0]? = some v) (ty : TypeId) (w : World) :
    (Builtin.cap_ ts ty as).run P w = .ok (.int .i64 (n : Int)) w := by
  unfold acap at h
  split at h
  · rename_i hd
    obtain ⟨rg, O, cap, sp, _, _, _, _, hc, _, rfl⟩ := hv.sl_inv
    have := hc _ h
    subst this
    simp [Builtin.cap_, ht, ha, run_underlying hd, goInt]
  · rename_i hd
    obtain rfl := hv.nilSl_inv
    injection h with h; subst h
    simp [Builtin.cap_, ht, ha, run_underlying hd, goInt]
  · simp at h
end
end Go.Proofs.Ytgnacecplaemlaa.AI
