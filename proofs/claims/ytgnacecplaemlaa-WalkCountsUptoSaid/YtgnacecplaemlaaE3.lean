/-
  An abstract interpreter for the model's code, part 3: operations that look at no memory: what they come to is what the model's run comes to.
-/
import Derived.Test.YtgnacecplaemlaaE2
import Derived.WalkKit
import Derived.Laws.StructEq
namespace Go.Proofs.Ytgnacecplaemlaa.AI

/-! ### Reading a relation backwards -/
section
variable {f : Inj} {v : Value}
theorem VR.bool_inv {b : Bool} (h : VR f v (.bool b)) : v = .bool b := by cases h; rfl
theorem VR.int_inv {k : IntKind} {n : Int} (h : VR f v (.int k n)) : v = .int k n := by cases h; rfl
theorem VR.str_inv {l : List Nat} (h : VR f v (.str l)) : ∃ s, v = .string s ∧ l = nats s := by cases h; exact ⟨_, rfl, by assumption⟩
theorem VR.nilp_inv (h : VR f v .nilp) : v = .pointer none := by cases h; rfl
theorem VR.ptr_inv {id off : Nat} (h : VR f v (.ptr id off)) : ∃ r, f id = some r ∧ r.lo ≤ off ∧ v = .pointer (some ⟨r.blk, r.base + (off - r.lo), none⟩) := by
  cases h; exact ⟨_, by assumption, by assumption, rfl⟩
theorem VR.nilSl_inv (h : VR f v .nilSl) : v = .slice none 0 0 := by cases h; rfl
theorem VR.sl_inv {id off len es : Nat} {c : Option Nat} (h : VR f v (.sl id off len es c)) : ∃ r O cap sp, f id = some r ∧ r.lo ≤ off ∧ len ≤ cap ∧
    (cap = 0 ∨ (O = r.base + (off - r.lo) ∧ (off - r.lo) + cap * es ≤ r.ext)) ∧ (∀ k, c = some k → cap = k) ∧ (cap = 0 ∨ sp = none) ∧ v = .slice (some ⟨r.blk, O, sp⟩) len cap := by
  cases h; exact ⟨_, _, _, _, by assumption, by assumption, by assumption, by assumption, by assumption, by assumption, rfl⟩
theorem VR.nilMap_inv (h : VR f v .nilMap) : v = .map none := by cases h; rfl
theorem VR.fn_inv {g : FuncId} {l1 l2 : List AV} (h : VR f v (.fn (.func g) l1 l2)) : ∃ c1 c2, v = .func (.func g) c1 c2 ∧ VRs f c1.toList l1 ∧ VRs f c2.toList l2 := by
  cases h; exact ⟨_, _, rfl, by assumption, by assumption⟩
theorem VR.yld_inv {id : Nat} {l1 l2 : List AV} (h : VR f v (.fn (.yield id) l1 l2)) : ∃ r, f id = some r ∧ v = .func (.yield r.blk) #[] #[] := by
  cases h; exact ⟨_, by assumption, rfl⟩
theorem VR.fn_any {g : Fn} {l1 l2 : List AV} (h : VR f v (.fn g l1 l2)) : ∃ g' c1 c2, v = .func g' c1 c2 := by
  cases h <;> exact ⟨_, _, _, rfl⟩
theorem VR.nilFn_inv (h : VR f v .nilFn) : v = .nilFunc := by cases h; rfl
theorem VR.iface_inv {t : TypeId} {a : AV} (h : VR f v (.iface t a)) : ∃ u, v = .iface t u ∧ VR f u a := by cases h; exact ⟨_, rfl, by assumption⟩
theorem VR.nilIface_inv (h : VR f v .nilIface) : v = .nilIface := by cases h; rfl
theorem VR.agg_inv {l : List AV} (h : VR f v (.agg l)) : ∃ cs, v = .agg cs ∧ VRs f cs.toList l := by cases h; exact ⟨_, rfl, by assumption⟩
theorem VR.tup_inv {l : List AV} (h : VR f v (.tup l)) : ∃ cs, v = .tuple cs ∧ VRs f cs.toList l := by cases h; exact ⟨_, rfl, by assumption⟩
end

/-! ### Bytes as numbers -/
theorem length_nats (s : ByteArray) : (nats s).length = s.size := by
  unfold nats; rw [List.length_map]; rfl
theorem nats_append (s t : ByteArray) : nats (s ++ t) = nats s ++ nats t := by
  unfold nats; rw [ByteArray.data_append, Array.toList_append, List.map_append]
theorem nats_extract (s : ByteArray) (a b : Nat) : nats (s.extract a b) = ((nats s).drop a).take (b - a) := by
  unfold nats
  rw [ByteArray.data_extract, Array.toList_extract, List.extract_eq_take_drop, List.map_take, List.map_drop]
theorem natsEq_eq : ∀ x y : List UInt8, natsEq (x.map UInt8.toNat) (y.map UInt8.toNat) = (x == y)
  | [], [] => rfl
  | [], _ :: _ => rfl
  | _ :: _, [] => rfl
  | a :: x, b :: y => by
    show (Nat.beq a.toNat b.toNat && natsEq (x.map UInt8.toNat) (y.map UInt8.toNat)) = (a :: x == b :: y)
    rw [natsEq_eq x y, List.cons_beq_cons]
    congr 1
    rw [Bool.eq_iff_iff, Nat.beq_eq, beq_iff_eq]
    exact ⟨fun h => UInt8.toNat_inj.mp h, fun h => h ▸ rfl⟩
theorem natsLess_eq : ∀ x y : List UInt8, natsLess (x.map UInt8.toNat) (y.map UInt8.toNat) = Op.bytesLess x y
  | [], [] => rfl
  | [], _ :: _ => rfl
  | _ :: _, [] => rfl
  | a :: x, b :: y => by
    show (Nat.blt a.toNat b.toNat || (Nat.beq a.toNat b.toNat && natsLess (x.map UInt8.toNat) (y.map UInt8.toNat))) = (decide (a < b) || (a == b && Op.bytesLess x y))
    rw [natsLess_eq x y]
    congr 1
    · rw [Bool.eq_iff_iff, Nat.blt_eq, decide_eq_true_iff]; exact Iff.rfl
    · congr 1
      rw [Bool.eq_iff_iff, Nat.beq_eq, beq_iff_eq]
      exact ⟨fun h => UInt8.toNat_inj.mp h, fun h => h ▸ rfl⟩
theorem natsEq_nats (s t : ByteArray) : natsEq (nats s) (nats t) = (s.toList == t.toList) := by
  rw [ByteArray.toList_eq, ByteArray.toList_eq]; exact natsEq_eq _ _
theorem natsLess_nats (s t : ByteArray) : natsLess (nats s) (nats t) = Op.bytesLess s.toList t.toList := by
  rw [ByteArray.toList_eq, ByteArray.toList_eq]; exact natsLess_eq _ _

/-! ### Types -/
section
variable {P : Program}
theorem run_isAgg {t : TypeId} {b : Bool} (h : aisAgg P t = some b) (w : World) : (isAgg t).run P w = .ok b w := by
  unfold aisAgg at h
  cases hd : P.underlying t with
  | none => simp [hd] at h
  | some d => cases d <;> simp [hd] at h <;> subst h <;> simp [isAgg, run_underlying hd]
theorem run_sizeOf {t : TypeId} {n : Nat} (h : asize P t = some n) (w : World) : (sizeOf t).run P w = .ok n w := by
  unfold asize at h
  cases hi : P.info? t with
  | none => simp [hi] at h
  | some i => simp [hi] at h; subst h; simp [sizeOf, typeInfo, hi]
theorem run_zeroValue {t : TypeId} {a : AV} (h : azero P t = some a) (f : Inj) : ∃ v, VR f v a ∧ ∀ w, (zeroValue t).run P w = .ok v w := by
  unfold azero at h
  cases hi : P.info? t with
  | none => simp [hi] at h
  | some i =>
    cases hz : i.zero with
    | none => simp [hi, hz] at h
    | some z => simp [hi, hz] at h; subst h; exact ⟨z, VR.ofConst f z, fun w => by simp [zeroValue, typeInfo, hi, hz]⟩
variable {f : Inj}

theorem apart_sound {t : TypeId} {cs : Array Value} {l : List AV} {off : Nat} {a : AV} (hv : VRs f cs.toList l) (h : apart P t l off = some a) :
    ∃ v, VR f v a ∧ ∀ w, (part t cs off).run P w = .ok v w := by
  unfold apart at h
  split at h
  · rename_i n h1 h2
    split at h
    · injection h with h
      subst h
      refine ⟨.agg (cs.extract off (off + n)), .agg _ _ ?_, fun w => by simp [part, run_isAgg h1, run_sizeOf h2]⟩
      have e : (cs.extract off (off + n)).toList = (cs.toList.drop off).take n := by
        rw [Array.toList_extract, List.extract_eq_take_drop]; congr 1; omega
      rw [e]
      exact (hv.drop off).take n
    · simp at h
  · rename_i h1
    obtain ⟨v, hv1, hv2⟩ := hv.get off a h
    have e : cs[off]? = some v := by simpa using hv1
    exact ⟨v, hv2, fun w => by simp [part, run_isAgg h1, e]⟩
  · simp at h

/-! ### '==' -/
theorem aeq_sound : ∀ (d : Nat) (t : TypeId) (x y : AV) (v u : Value) (b : Bool), VR f v x → VR f u y → aeq P d t x y = some b →
    ∀ w, (Op.equalIn d t v u).run P w = .ok b w := by
  intro d
  induction d with
  | zero => intro t x y v u b _ _ h; simp [aeq] at h
  | succ d ih =>
    intro t x y v u b hv hu h w
    change aeq1 P (aeq P d) t x y = some b at h
    unfold aeq1 at h
    split at h
    case h_1 ht => obtain rfl := hv.bool_inv; obtain rfl := hu.bool_inv; injection h with h; subst h; simp [Op.equalIn, run_underlying ht]
    case h_2 ht =>
      obtain rfl := hv.int_inv; obtain rfl := hu.int_inv
      split at h
      · injection h with h; subst h; rename_i hk; simp [Op.equalIn, run_underlying ht, hk]
      · simp at h
    case h_3 ht =>
      obtain ⟨s, rfl, rfl⟩ := hv.str_inv; obtain ⟨s', rfl, rfl⟩ := hu.str_inv
      injection h with h; subst h
      rw [natsEq_nats]
      exact run_equalIn_string w d t s s' ht
    case h_4 ht => obtain rfl := hv.nilp_inv; obtain rfl := hu.nilp_inv; injection h with h; subst h; simp [Op.equalIn, run_underlying ht]
    case h_5 ht => obtain rfl := hv.nilp_inv; obtain ⟨r, _, _, rfl⟩ := hu.ptr_inv; injection h with h; subst h; simp [Op.equalIn, run_underlying ht]
    case h_6 ht => obtain rfl := hu.nilp_inv; obtain ⟨r, _, _, rfl⟩ := hv.ptr_inv; injection h with h; subst h; simp [Op.equalIn, run_underlying ht]
    case h_7 ht => obtain rfl := hv.nilSl_inv; obtain rfl := hu.nilSl_inv; injection h with h; subst h; simp [Op.equalIn, run_underlying ht]
    case h_8 ht => obtain rfl := hv.nilSl_inv; obtain ⟨r, O, cap, sp, _, _, _, _, _, _, rfl⟩ := hu.sl_inv; injection h with h; subst h; simp [Op.equalIn, run_underlying ht]
    case h_9 ht => obtain rfl := hu.nilSl_inv; obtain ⟨r, O, cap, sp, _, _, _, _, _, _, rfl⟩ := hv.sl_inv; injection h with h; subst h; simp [Op.equalIn, run_underlying ht]
    case h_10 ht => obtain rfl := hv.nilFn_inv; obtain rfl := hu.nilFn_inv; injection h with h; subst h; simp [Op.equalIn, run_underlying ht]
    case h_11 ht => obtain rfl := hv.nilFn_inv; obtain ⟨_, _, _, rfl⟩ := hu.fn_any; injection h with h; subst h; simp [Op.equalIn, run_underlying ht]
    case h_12 ht => obtain rfl := hu.nilFn_inv; obtain ⟨_, _, _, rfl⟩ := hv.fn_any; injection h with h; subst h; simp [Op.equalIn, run_underlying ht]
    case h_13 ht => obtain rfl := hv.nilIface_inv; obtain rfl := hu.nilIface_inv; injection h with h; subst h; simp [Op.equalIn, run_underlying ht]
    case h_14 ht => obtain rfl := hv.nilIface_inv; obtain ⟨_, rfl, _⟩ := hu.iface_inv; injection h with h; subst h; simp [Op.equalIn, run_underlying ht]
    case h_15 ht => obtain rfl := hu.nilIface_inv; obtain ⟨_, rfl, _⟩ := hv.iface_inv; injection h with h; subst h; simp [Op.equalIn, run_underlying ht]
    case h_16 ht => obtain rfl := hv.nilMap_inv; obtain rfl := hu.nilMap_inv; injection h with h; subst h; simp [Op.equalIn, run_underlying ht]
    case h_17 fields xs ys ht =>
      split at h
      · simp at h
      · rename_i hst
        obtain ⟨cx, rfl, hx⟩ := hv.agg_inv
        obtain ⟨cy, rfl, hy⟩ := hu.agg_inv
        have hf : P.fieldsOf t = fields := by simp [Program.fieldsOf, ht]
        rw [run_equalIn_struct w d t cx cy (by rw [hf]; exact ht) (by simpa using hst), hf]
        have key : ∀ fs : List Field, aeqFields P (aeq P d) xs ys fs = some b → (Op.eqFields d cx cy fs).run P w = .ok b w := by
          intro fs
          induction fs with
          | nil => intro h; simp [aeqFields] at h; subst h; simp [Op.eqFields]
          | cons fd fs ihf =>
            intro h
            rw [aeqFields] at h
            rw [Op.eqFields]
            by_cases hn : fd.name ≠ "_"
            · rw [if_pos hn] at h ⊢
              split at h
              · rename_i a1 b1 ha hb
                obtain ⟨va, hva, hra⟩ := apart_sound hx ha
                obtain ⟨vb, hvb, hrb⟩ := apart_sound hy hb
                split at h
                · rename_i he
                  simp [hra, hrb, ih _ _ _ _ _ _ hva hvb he, ihf h]
                · rename_i he
                  injection h with h; subst h
                  simp [hra, hrb, ih _ _ _ _ _ _ hva hvb he]
                · simp at h
              · simp at h
            · rw [if_neg hn] at h ⊢
              exact ihf h
        exact key _ h
    case h_18 => simp at h
end
end Go.Proofs.Ytgnacecplaemlaa.AI
