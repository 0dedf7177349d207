/-
  An abstract interpreter for the model's code, part 9: the operations that look at memory, and those that make or write it.
-/
import Derived.Test.YtgnacecplaemlaaE8
import Derived.Laws.BytesString
namespace Go.Proofs.Ytgnacecplaemlaa.AI
open Go.RowKit
section
variable {P : Program} {B : Nat} {f : Inj} {h : AH} {w : World} {ρ : Operand → Value} {ρ' : Operand → AV}

theorem nats_push (s : ByteArray) (b : UInt8) : nats (s.push b) = nats s ++ [b.toNat] := by
  unfold nats; rw [ByteArray.data_push, Array.toList_push, List.map_append]; rfl
theorem nats_empty : nats ByteArray.empty = [] := rfl
theorem nats_foldl : ∀ (ns : List Nat) (s : ByteArray), (∀ n ∈ ns, n < 256) →
    nats ((ns.map fun (n : Nat) => (n : Int)).foldl (fun r n => r.push (UInt8.ofNat n.toNat)) s) = nats s ++ ns
  | [], s, _ => by simp
  | n :: ns, s, hn => by
    rw [List.map_cons, List.foldl_cons, nats_foldl ns _ (fun m hm => hn m (by simp [hm])), nats_push]
    have : (UInt8.ofNat ((n : Int).toNat)).toNat = n := by simp; exact hn n (by simp)
    rw [this]
    simp
theorem toBytes_sound : ∀ {vs : List Value} {l : List AV} {ns : List Nat}, VRs f vs l → toBytes l = some ns →
    vs = (ns.map fun (n : Nat) => (n : Int)).map (Value.int .u8) ∧ ∀ n ∈ ns, n < 256
  | vs, [], ns, hv, ht => by cases hv; simp [toBytes] at ht; subst ht; simp
  | vs, a :: l, ns, hv, ht => by
    cases hv with
    | cons v _ vs _ h1 h2 =>
      unfold toBytes at ht
      split at ht
      · simp_all
      · rename_i n l' heq
        injection heq with e1 e2
        subst e1 e2
        split at ht
        · rename_i hn
          cases hb : toBytes l with
          | none => simp [hb] at ht
          | some ns' =>
            simp [hb] at ht
            subst ht
            obtain ⟨e, hlt⟩ := toBytes_sound h2 hb
            obtain rfl := h1.int_inv
            constructor
            · rw [List.map_cons, List.map_cons, ← e, Int.toNat_of_nonneg hn.1]
            · intro m hm
              simp at hm
              rcases hm with rfl | hm
              · omega
              · exact hlt m hm
        · simp at ht
      · simp at ht

theorem aload_sound (H : HR B f h w) (hρ : ∀ x, VR f (ρ x) (ρ' x)) {o : Oper} {a : AV} (h0 : aload P ρ' o h = some a) :
    ∃ v, VR f v a ∧ (execOp ρ o).run P w = .ok (.value v) w := by
  obtain ⟨dst, op, type, pos, after, guard⟩ := o
  cases op <;> simp only [aload] at h0 <;> try (simp at h0; done)
  case load t x =>
    split at h0
    · rename_i id off n hx ht hn
      have hp := hρ x
      rw [hx] at hp
      obtain ⟨r, hf, hlo, hv⟩ := hp.ptr_inv
      cases hc : h.cells? id n off with
      | none => simp [hc] at h0
      | some l =>
        simp [hc] at h0
        subst h0
        obtain ⟨vs, hl, hvs, hcell⟩ := H.cells hc hf hlo
        have := run_loadCells_list (P := P) w _ vs hcell
        rw [hl] at this
        exact ⟨.agg vs.toArray, .agg _ _ (by simpa using hvs), by simp [execOp, hv, Instr.loadAt, Instr.sureAddr, loadVar, run_isAgg ht, run_sizeOf hn, this]⟩
    · rename_i id off _ hx ht
      have hp := hρ x
      rw [hx] at hp
      obtain ⟨r, hf, hlo, hv⟩ := hp.ptr_inv
      obtain ⟨v, h1, h2⟩ := H.cell h0 hf
      exact ⟨v, h2, by simp [execOp, hv, Instr.loadAt, Instr.sureAddr, loadVar, run_isAgg ht, h1]⟩
    · simp at h0
  case convert src dst x =>
    split at h0
    · rename_i e id off len es c hs hd hx
      have hp := hρ x
      rw [hx] at hp
      obtain ⟨r, O, cap, sp, hf, hlo, hlen, hO, hcap, hsp, hv⟩ := hp.sl_inv
      split at h0
      · rename_i he
        split at h0
        · rename_i hes
          subst hes
          cases hc : h.cells? id len off with
          | none => simp [hc] at h0
          | some l =>
            simp [hc] at h0
            obtain ⟨ns, hb, h0⟩ := h0
            subst h0
            obtain ⟨vs, hl, hvs, hcell⟩ := H.cells hc hf hlo
            obtain ⟨e1, e2⟩ := toBytes_sound hvs hb
            have hload := run_loadCells_list (P := P) w _ vs hcell
            rw [hl] at hload
            refine ⟨.string ((ns.map fun (n : Nat) => (n : Int)).foldl (fun r n => r.push (UInt8.ofNat n.toNat)) ByteArray.empty), .str _ _ (by rw [nats_foldl ns _ e2, nats_empty]; rfl), ?_⟩
            by_cases h0c : len = 0
            · subst h0c
              have e3 : vs = [] := List.eq_nil_of_length_eq_zero hl
              have e4 : ns = [] := by rw [e3] at e1; exact List.map_eq_nil_iff.mp (List.map_eq_nil_iff.mp e1.symm)
              subst e4
              have h1 : (loadCells ⟨r.blk, O, sp⟩ 0).run P w = .ok ((([] : List Int).map (Value.int .u8)).toArray) w := rfl
              have h2 := run_bytesToString (P := P) w ⟨r.blk, O, sp⟩ 0 cap [] h1
              simp only [execOp, hv, Sem.run_bind, run_convert_bytes_string w src dst e _ _ _ hs he hd, h2]
              rfl
            · obtain rfl : sp = none := hsp.resolve_left (by omega)
              have hO' : O = r.base + (off - r.lo) := by rcases hO with h | h <;> omega
              subst hO'
              rw [e1] at hload
              have h2 := run_bytesToString (P := P) w _ len cap _ hload
              simp only [execOp, hv, Sem.run_bind, run_convert_bytes_string w src dst e _ _ _ hs he hd, h2]
              rfl
        · simp at h0
      · simp at h0
    · rename_i e hs hd hx
      have hp := hρ x
      rw [hx] at hp
      have hv := hp.nilSl_inv
      split at h0
      · rename_i he
        injection h0 with h0
        subst h0
        refine ⟨.string .empty, .str _ _ nats_empty.symm, ?_⟩
        simp only [execOp, hv, Sem.run_bind, run_convert_bytes_string w src dst e _ _ _ hs he hd]
        simp [Conv.bytesToString]
      · simp at h0
    · simp at h0

/-! ### Making and writing -/
/-- What is known behind an operation or a call that left the value 'v' in the world w'. -/
def HPost (B : Nat) (f : Inj) (w : World) (h' : AH) (a : AV) (v : Value) (w' : World) : Prop :=
  ∃ f', Ext f f' ∧ HR B f' h' w' ∧ Kept B w w' ∧ VR f' v a

/-- The run of the operation ends with the value v (or with none, v then being undef) in the world w'. -/
def Comes1 (P : Program) (ρ : Operand → Value) (o : Oper) (w : World) (v : Value) (w' : World) : Prop :=
  (execOp ρ o).run P w = .ok (.value v) w' ∨ ((execOp ρ o).run P w = .ok .skip w' ∧ v = undef)

/-- A new block of known cells. -/
theorem HR.new (H : HR B f h w) {cs : Array Value} {l : List AV} (hv : VRs f cs.toList l) (e : TypeId) :
    HPost B f w (h.alloc l) (.ptr h.next 0) (.pointer (some ⟨w.heap.size, 0, none⟩)) (w.alloc (.cells cs e)) := by
  have hlen : l.length = cs.size := by have := hv.length; simpa using this.symm
  obtain ⟨h1, h2, h3⟩ := H.alloc (cs := cs) (l := l) (by omega) (fun i a ha => by obtain ⟨v, e1, e2⟩ := hv.get i a ha; exact ⟨v, by simpa using e1, e2⟩) e
  exact ⟨_, h2, h1, h3, VR.ptr h.next 0 ⟨w.heap.size, 0, 0, cs.size⟩ (upd_same _ _ _) (Nat.le_refl _)⟩
theorem HR.newSl (H : HR B f h w) {cs : Array Value} {l : List AV} (hl : l.length ≤ cs.size) (hv : ∀ (i : Nat) (a : AV), l[i]? = some a → ∃ v, cs[i]? = some v ∧ VR f v a) (e : TypeId)
    {len cap es : Nat} {c : Option Nat} (hcap : cap * es ≤ cs.size) (hlen : len ≤ cap) (hc : ∀ k, c = some k → cap = k) :
    HPost B f w (h.alloc l) (.sl h.next 0 len es c) (.slice (some ⟨w.heap.size, 0, none⟩) len cap) (w.alloc (.cells cs e)) := by
  obtain ⟨h1, h2, h3⟩ := H.alloc hl hv e
  exact ⟨_, h2, h1, h3, VR.sl h.next 0 len es c ⟨w.heap.size, 0, 0, cs.size⟩ 0 cap (upd_same _ _ _) (Nat.le_refl _) hlen (.inr ⟨rfl, by simpa using hcap⟩) hc⟩

theorem length_arep (z : List AV) : ∀ n, (arep z n).length = n * z.length
  | 0 => by simp [arep]
  | n + 1 => by rw [arep, List.length_append, length_arep z n, Nat.succ_mul]; omega
theorem get_arep (z : List AV) (hz : 0 < z.length) : ∀ n i, i < n * z.length → (arep z n)[i]? = z[i % z.length]?
  | 0, i, hi => by simp at hi
  | n + 1, i, hi => by
    rw [arep]
    by_cases h1 : i < z.length
    · rw [List.getElem?_append_left h1, Nat.mod_eq_of_lt h1]
    · rw [List.getElem?_append_right (by omega), get_arep z hz n (i - z.length) (by rw [Nat.succ_mul] at hi; omega)]
      congr 1
      rw [Nat.mod_eq_sub_mod (by omega : i ≥ z.length)]
theorem VRs.arep {z : Array Value} {l : List AV} (hv : VRs f z.toList l) (hz : 0 < l.length) (n : Nat) :
    VRs f ((Array.range (n * z.size)).map fun i => z[i % z.size]!).toList (AI.arep l n) := by
  have hl : z.size = l.length := by have := hv.length; simpa using this
  refine VRs.of_get (by simp [length_arep, hl]) (fun i v a h1 h2 => ?_)
  have hi : i < n * l.length := by
    rcases Nat.lt_or_ge i (n * l.length) with h' | h'
    · exact h'
    · rw [List.getElem?_eq_none (by rw [length_arep]; exact h')] at h2; simp at h2
  rw [get_arep l hz n i hi] at h2
  obtain ⟨u, hu1, hu2⟩ := hv.get _ a h2
  have hi' : i < n * z.size := by rw [hl]; exact hi
  have hm : i % z.size < z.size := Nat.mod_lt _ (by omega)
  simp [hi'] at h1
  rw [← hl] at hu1
  simp [hm] at hu1
  rw [getElem!_pos z _ hm, hu1] at h1
  subst h1
  exact hu2
end
end Go.Proofs.Ytgnacecplaemlaa.AI
