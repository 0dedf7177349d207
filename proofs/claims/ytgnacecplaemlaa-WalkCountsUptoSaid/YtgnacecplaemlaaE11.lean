/-
  An abstract interpreter for the model's code, part 11: append and copy.
-/
import Derived.Test.YtgnacecplaemlaaE10
import Derived.Laws.Append
namespace Go.Proofs.Ytgnacecplaemlaa.AI
open Go.RowKit
section
variable {P : Program} {B : Nat} {f : Inj} {h : AH} {w : World}

structure AppArgs (P : Program) (ts : Array TypeId) (as : Array Value) (t0 t1 e : TypeId) (d1 : TypeDesc) (i : TypeInfo) (z v u : Value) : Prop where
  h0 : ts[0]? = some t0
  h1 : ts[1]? = some t1
  a0 : as[0]? = some v
  a1 : as[1]? = some u
  ht0 : P.underlying t0 = some (.slice e)
  ht1 : P.underlying t1 = some d1
  hd : isSeq d1 = true
  hi : P.info? e = some i
  hz : i.zero = some z

variable {ts : Array TypeId} {as : Array Value} {t0 t1 e ty : TypeId} {d1 : TypeDesc} {i : TypeInfo} {z v u : Value}

theorem run_app_none (A : AppArgs P ts as t0 t1 e d1 i z (.slice none 0 0) u) (hn : (Builtin.lenOf u).run P w = .ok 0 w) (hf : (Builtin.firstCells i.size 0 u).run P w = .ok #[] w) :
    (Builtin.append_ ts ty as).run P w = .ok (.slice none 0 0) w := by
  have hd := A.hd
  have h1t := A.ht1
  cases d1 <;> first | (simp [isSeq] at hd; done) | simp [Builtin.append_, A.h0, A.h1, A.a0, A.a1, run_underlying A.ht0, run_underlying h1t, sizeOf, typeInfo, A.hi, hn, hf]
theorem run_app_zero {a : Addr} {len cap : Nat} (hle : len ≤ cap) (A : AppArgs P ts as t0 t1 e d1 i z (.slice (some a) len cap) u) (hn : (Builtin.lenOf u).run P w = .ok 0 w) (hf : (Builtin.firstCells i.size 0 u).run P w = .ok #[] w) :
    (Builtin.append_ ts ty as).run P w = .ok (.slice (some a) len cap) w := by
  have hd := A.hd
  have h1t := A.ht1
  cases d1 <;> first | (simp [isSeq] at hd; done) | simp [Builtin.append_, A.h0, A.h1, A.a0, A.a1, run_underlying A.ht0, run_underlying h1t, sizeOf, typeInfo, A.hi, hn, hf, hle, storeCells]
theorem run_app_room {g o len cap n : Nat} (A : AppArgs P ts as t0 t1 e d1 i z (.slice (some ⟨g, o, none⟩) len cap) u) {c : Array Value} {et : TypeId} {new : List Value} (hroom : len + n ≤ cap)
    (hn : (Builtin.lenOf u).run P w = .ok n w) (hf : (Builtin.firstCells i.size n u).run P w = .ok new.toArray w) (hg : w.heap[g]? = some (.cells c et (0, 0)))
    (hfit : o + len * i.size + new.length ≤ c.size) (h1 : ∀ v ∈ new, v.oneCell' = true) :
    (Builtin.append_ ts ty as).run P w = .ok (.slice (some ⟨g, o, none⟩) (len + n) cap) (w.setRow g (c.toList.take (o + len * i.size) ++ new ++ c.toList.drop (o + len * i.size + new.length)).toArray) := by
  have hst := run_storeCells_at P g (o + len * i.size) et new 0 c w hg (by simpa using hfit) h1
  simp only [Nat.add_zero] at hst
  have hd := A.hd
  have h1t := A.ht1
  cases d1 <;> first | (simp [isSeq] at hd; done) | simp [Builtin.append_, A.h0, A.h1, A.a0, A.a1, run_underlying A.ht0, run_underlying h1t, sizeOf, typeInfo, A.hi, hn, hf, hroom, Addr.add_plain, hst]
theorem run_app_grow {base : Option Addr} {len cap n : Nat} (A : AppArgs P ts as t0 t1 e d1 i z (.slice base len cap) u) {new old : List Value} (hcap : cap < len + n)
    (hb : (len + n) * i.bytes ≤ 140737488355328) (hb0 : i.bytes ≠ 0)
    (hn : (Builtin.lenOf u).run P w = .ok n w) (hf : (Builtin.firstCells i.size n u).run P w.drew = .ok new.toArray w.drew)
    (ho : (Builtin.firstCells i.size len (.slice base len cap)).run P w.drew = .ok old.toArray w.drew) :
    (Builtin.append_ ts ty as).run P w = .ok (.slice (some ⟨w.heap.size, 0, none⟩) (len + n) (grownCap w (len + n) cap e))
      (w.drew.alloc (.cells (old.toArray ++ new.toArray ++ Builtin.zeroCells z.cells (grownCap w (len + n) cap e - (len + n))) e)) := by
  have h1 : ¬ (len + n ≤ cap) := by omega
  have h2 : ¬ (281474976710656 < Builtin.nextslicecap (len + n) cap * i.bytes) := by have := growslice_fits hcap hb; omega
  have hd := A.hd
  have h1t := A.ht1
  cases d1 <;> first | (simp [isSeq] at hd; done) | (simp [Builtin.append_, A.h0, A.h1, A.a0, A.a1, run_underlying A.ht0, run_underlying h1t, sizeOf, typeInfo, zeroValue, A.hi, A.hz, hn, hf, ho, h1, h2, hb0, Question.forced, newRow, grownCap]; congr 2; apply Array.ext'; simp [List.append_assoc])

theorem size_zeroCells' (z : Array Value) (n : Nat) : (Builtin.zeroCells z n).size = n * z.size := by simp [Builtin.zeroCells]

theorem run_app_zeros {k : IntKind} {q : Int} {kk : IntKind} (h0 : ts[0]? = some t0) (h1 : ts[1]? = some t1) (a0 : as[0]? = some (.slice none 0 0)) (a1 : as[1]? = some (.int kk q)) (ht0 : P.underlying t0 = some (.slice e)) (ht1 : P.underlying t1 = some (.int k))
    (hi : P.info? e = some i) (hz : i.zero = some z) (hs : i.size ≠ 0) (hb0 : i.bytes ≠ 0) (hq : 0 < IntKind.i64.wrap q) (hb : (IntKind.i64.wrap q).toNat * i.bytes ≤ 140737488355328) :
    (Builtin.append_ ts ty as).run P w = .ok (.slice (some ⟨w.heap.size, 0, none⟩) (IntKind.i64.wrap q).toNat (grownCap w (IntKind.i64.wrap q).toNat 0 e))
      (w.drew.alloc (.cells (Builtin.zeroCells z.cells (IntKind.i64.wrap q).toNat ++ Builtin.zeroCells z.cells (grownCap w (IntKind.i64.wrap q).toNat 0 e - (IntKind.i64.wrap q).toNat)) e)) := by
  obtain ⟨n, hn⟩ : ∃ n : Nat, n = (IntKind.i64.wrap q).toNat := ⟨_, rfl⟩
  have hn2 : IntKind.i64.wrap q = (n : Int) := by omega
  rw [← hn] at hb ⊢
  have hpos : 0 < n := by omega
  have t1' : ¬ ((n : Int) < 0) := by omega
  have t2 : ¬ (281474976710656 < (n : Int) * (i.bytes : Int)) := by
    have := Int.ofNat_le.mpr hb
    rw [Int.natCast_mul] at this
    omega
  have t3 : ¬ (n * i.size = 0) := by simp [Nat.mul_eq_zero]; omega
  have hle : n ≤ 140737488355328 := Nat.le_trans (Nat.le_mul_of_pos_right n (Nat.pos_of_ne_zero hb0)) hb
  have t5 : ¬ (9223372036854775807 < (n : Int)) := by omega
  have t6 : Builtin.nextslicecap n 0 = n := by simp [Builtin.nextslicecap, hpos]
  have t7 : ¬ (n * i.bytes > 2 ^ 48) := by omega
  simp [Builtin.append_, h0, h1, a0, a1, run_underlying ht0, run_underlying ht1, sizeOf, typeInfo, zeroValue, hi, hz, asInt, asIntOf, hn2, t1', t2, t3, t5, t6, t7, hb0, Builtin.firstCells, Question.forced, newRow, grownCap, Nat.ne_of_gt hpos]

/-- The slice has grown into a new block. -/
theorem grow_sound (H : HR B f h w) {base : Option Addr} {len cap n : Nat} (A : AppArgs P ts as t0 t1 e d1 i z (.slice base len cap) u) {new old : List Value} {lnew lold : List AV}
    (hcap : cap < len + n) (hb : (len + n) * i.bytes ≤ 140737488355328) (hb0 : i.bytes ≠ 0) (hz : z.cells.size = i.size)
    (hn : (Builtin.lenOf u).run P w = .ok n w) (hf : (Builtin.firstCells i.size n u).run P w.drew = .ok new.toArray w.drew)
    (ho : (Builtin.firstCells i.size len (.slice base len cap)).run P w.drew = .ok old.toArray w.drew)
    (hvn : VRs f new lnew) (hvo : VRs f old lold) (hln : lnew.length = n * i.size) (hlo : lold.length = len * i.size) :
    ∃ v w', (Builtin.append_ ts ty as).run P w = .ok v w' ∧ HPost B f w (h.alloc (lold ++ lnew)) (.sl h.next 0 (len + n) i.size none) v w' := by
  refine ⟨_, _, run_app_grow A hcap hb hb0 hn hf ho, ?_⟩
  have H' : HR B f h w.drew := H.of_heap rfl
  have hge := grownCap_ge w (len + n) cap e
  have hv := hvo.append hvn
  have hl := hv.length
  have hsz : (old.toArray ++ new.toArray ++ Builtin.zeroCells z.cells (grownCap w (len + n) cap e - (len + n))).size = grownCap w (len + n) cap e * i.size := by
    simp only [Array.size_append, List.size_toArray, size_zeroCells', hz]
    have h1 := hvo.length
    have h2 := hvn.length
    rw [h1, h2, hlo, hln, ← Nat.add_mul, ← Nat.add_mul]
    congr 1; omega
  have := H'.newSl (cs := old.toArray ++ new.toArray ++ Builtin.zeroCells z.cells (grownCap w (len + n) cap e - (len + n))) (l := lold ++ lnew) (e := e) (len := len + n) (cap := grownCap w (len + n) cap e) (es := i.size) (c := none)
    (by rw [hsz, List.length_append, hlo, hln, ← Nat.add_mul]; exact Nat.mul_le_mul_right _ hge)
    (fun j a ha => by
      obtain ⟨x, hx1, hx2⟩ := hv.get j a ha
      refine ⟨x, ?_, hx2⟩
      have hj : j < (old ++ new).length := (List.getElem?_eq_some_iff.mp hx1).1
      rw [Array.getElem?_append_left (by simpa using hj), ← hx1]
      simp)
    (by rw [hsz]; exact Nat.le_refl _) hge (by simp)
  obtain ⟨f', h1, h2, h3, h4⟩ := this
  exact ⟨f', h1, h2, Kept.trans ((Kept.refl B w).drew) h3, h4⟩

/-- The same, where the abstract heap gives the old block's cells on to the new one. -/
theorem growM_sound (H : HR B f h w) {base : Option Addr} {len cap n id off : Nat} {b : Blk} (A : AppArgs P ts as t0 t1 e d1 i z (.slice base len cap) u) {new old : List Value} {lnew lold : List AV}
    (hcap : cap < len + n) (hb : (len + n) * i.bytes ≤ 140737488355328) (hb0 : i.bytes ≠ 0) (hz : z.cells.size = i.size)
    (hn : (Builtin.lenOf u).run P w = .ok n w) (hf : (Builtin.firstCells i.size n u).run P w.drew = .ok new.toArray w.drew)
    (ho : (Builtin.firstCells i.size len (.slice base len cap)).run P w.drew = .ok old.toArray w.drew)
    (hvn : VRs f new lnew) (hvo : VRs f old lold) (hln : lnew.length = n * i.size) (hlo : lold.length = len * i.size)
    (hblk : h.blk? id = some b) (hold : h.cells? id (len * i.size) off = some lold) :
    ∃ v w', (Builtin.append_ ts ty as).run P w = .ok v w' ∧ HPost B f w { m := (h.put id none).m.set (some { lo := off, hi := off + (len + n) * i.size, ro := false, cells := putCells lnew (off + len * i.size) b.cells }) h.next, ob := h.ob, next := h.next + 1 }
      (.sl h.next off (len + n) i.size none) v w' := by
  refine ⟨_, _, run_app_grow A hcap hb hb0 hn hf ho, ?_⟩
  have H0 : HR B f h w.drew := H.of_heap rfl
  have H' : HR B f (h.put id none) w.drew := H0.forget id
  have hge := grownCap_ge w (len + n) cap e
  have hv := hvo.append hvn
  have hsz : (old.toArray ++ new.toArray ++ Builtin.zeroCells z.cells (grownCap w (len + n) cap e - (len + n))).size = grownCap w (len + n) cap e * i.size := by
    simp only [Array.size_append, List.size_toArray, size_zeroCells', hz]
    have h1 := hvo.length
    have h2 := hvn.length
    rw [h1, h2, hlo, hln, ← Nat.add_mul, ← Nat.add_mul]
    congr 1; omega
  have hol := hvo.length
  have hnl := hvn.length
  obtain ⟨hcl, hcg⟩ := AH.cells?_spec h id _ off lold hold
  have hm := Nat.mul_le_mul_right i.size hge
  obtain ⟨h1, h2, h3⟩ := H'.allocG (cs := old.toArray ++ new.toArray ++ Builtin.zeroCells z.cells (grownCap w (len + n) cap e - (len + n)))
    (b' := { lo := off, hi := off + (len + n) * i.size, ro := false, cells := putCells lnew (off + len * i.size) b.cells })
    (h' := { m := (h.put id none).m.set (some { lo := off, hi := off + (len + n) * i.size, ro := false, cells := putCells lnew (off + len * i.size) b.cells }) h.next, ob := h.ob, next := h.next + 1 })
    rfl (by rw [hsz]; dsimp only; omega)
    (fun j => by
      show AH.blk? { m := (h.put id none).m.set (some { lo := off, hi := off + (len + n) * i.size, ro := false, cells := putCells lnew (off + len * i.size) b.cells }) h.next, ob := h.ob, next := h.next + 1 } j =
          if j = h.next then some { lo := off, hi := off + (len + n) * i.size, ro := false, cells := putCells lnew (off + len * i.size) b.cells } else (h.put id none).blk? j
      unfold AH.blk?
      simp only [Tr.get_set]
      by_cases hj : j = h.next
      · rw [if_pos hj, if_pos hj]
      · rw [if_neg hj, if_neg hj])
    (fun _ => rfl) rfl
    (fun o a ha => by
      obtain ⟨g1, g2⟩ := Blk.get_lo ha
      dsimp only at g1 g2
      rw [Blk.get_eq, if_pos ⟨g1, g2⟩] at ha
      simp only [get_putCells] at ha
      rw [Nat.add_mul] at g2
      dsimp only
      have hidx : o - off < (old ++ new).length := by rw [List.length_append, hol, hnl]; omega
      have hget : (lold ++ lnew)[o - off]? = some a := by
        by_cases hin : off + len * i.size ≤ o ∧ o < off + len * i.size + lnew.length
        · rw [if_pos hin] at ha
          rw [List.getElem?_append_right (by omega), ← ha]
          congr 1; omega
        · rw [if_neg hin] at ha
          have h2 : o - off < lold.length := by omega
          rw [List.getElem?_append_left h2]
          have h3 := hcg _ _ (List.getElem?_eq_getElem h2)
          rw [show off + (o - off) = o by omega, AH.cell?_eq, hblk] at h3
          simp only [Option.bind_some] at h3
          obtain ⟨q1, q2⟩ := Blk.get_lo h3
          rw [Blk.get_eq, if_pos ⟨q1, q2⟩, ha] at h3
          rw [List.getElem?_eq_getElem h2]
          exact h3.symm
      obtain ⟨x, hx1, hx2⟩ := hv.get _ a hget
      refine ⟨x, ?_, hx2⟩
      rw [Array.getElem?_append_left (by simpa using hidx), ← hx1]
      simp) e
  refine ⟨_, h2, h1, Kept.trans ((Kept.refl B w).drew) h3, ?_⟩
  exact VR.sl h.next off (len + n) i.size none ⟨w.heap.size, 0, off, _⟩ 0 _ (upd_same _ _ _) (Nat.le_refl _) hge (.inr ⟨by simp, by dsimp only; rw [hsz]; omega⟩) (by simp)

/-- The slice has grown in place: its block has another name. -/
theorem move_sound (H : HR B f h w) {r : Reg} {b : Blk} {id off len cap n es O : Nat} {new : List Value} {lnew : List AV} (hf : f id = some r) (hb : h.blk? id = some b) (hro : b.ro = false)
    (hlo : r.lo ≤ off) (hO : O = r.base + (off - r.lo)) (hcap : (off - r.lo) + cap * es ≤ r.ext) (hroom : len + n ≤ cap) (hv : VRs f new lnew) (hln : lnew.length = n * es)
    {lold : List AV} (hold : h.cells? id (len * es) off = some lold) :
    ∃ c et, w.heap[r.blk]? = some (.cells c et (0, 0)) ∧ O + len * es + new.length ≤ c.size ∧
      HPost B f w { m := (h.put id none).m.set (some { lo := off, hi := off + (len + n) * es, ro := false, cells := putCells lnew (off + len * es) b.cells }) h.next, ob := h.ob, next := h.next + 1 }
        (.sl h.next off (len + n) es none) (.slice (some ⟨r.blk, O, none⟩) (len + n) cap)
        (w.setRow r.blk (c.toList.take (O + len * es) ++ new ++ c.toList.drop (O + len * es + new.length)).toArray) := by
  subst hO
  obtain ⟨r', c, e, fz, hf', hc, hin, hlo', hhi, hown, _, hlive⟩ := H.blk id b hb
  obtain rfl : r' = r := by rw [hf] at hf'; injection hf' with e; exact e.symm
  obtain ⟨hB, rfl⟩ := hown hro
  have hnl := hv.length
  have hm1 : (len + n) * es ≤ cap * es := Nat.mul_le_mul_right _ hroom
  rw [Nat.add_mul] at hm1
  have hk : r'.base + (off - r'.lo) + len * es + new.length ≤ c.toList.length := by rw [show c.toList.length = c.size from Array.length_toList]; omega
  have hidn : id < h.next := by
    rcases Nat.lt_or_ge id h.next with h3 | h3
    · exact h3
    · rw [H.fresh id h3] at hb; simp at hb
  obtain ⟨hol, hog⟩ := AH.cells?_spec h id (len * es) off lold hold
  have hx : Ext f (upd f h.next ⟨r'.blk, r'.base + (off - r'.lo), off, r'.ext - (off - r'.lo)⟩) := Ext.upd (H.ffresh _ (Nat.le_refl _)) _
  obtain ⟨g1, g2⟩ := H.replace hb hro hf hc (c' := (c.toList.take (r'.base + (off - r'.lo) + len * es) ++ new ++ c.toList.drop (r'.base + (off - r'.lo) + len * es + new.length)).toArray)
    (by rw [List.size_toArray]; simp only [List.length_append, List.length_take, List.length_drop] at hk ⊢; have : c.toList.length = c.size := Array.length_toList; omega)
    (fun j hj => by
      rw [List.getElem?_toArray, seg_get _ _ _ _ hk]
      have : c.toList[j]? = c[j]? := by simp
      rw [this]
      rcases hj with hj | hj
      · rw [if_pos (by omega)]
      · rw [if_neg (by omega), if_neg (by omega)])
    (f' := upd f h.next ⟨r'.blk, r'.base + (off - r'.lo), off, r'.ext - (off - r'.lo)⟩) (id' := h.next) (b' := { lo := off, hi := off + (len + n) * es, ro := false, cells := putCells lnew (off + len * es) b.cells })
    (r' := ⟨r'.blk, r'.base + (off - r'.lo), off, r'.ext - (off - r'.lo)⟩)
    (h' := { m := (h.put id none).m.set (some { lo := off, hi := off + (len + n) * es, ro := false, cells := putCells lnew (off + len * es) b.cells }) h.next, ob := h.ob, next := h.next + 1 })
    (fun j => by
      have e1 : AH.blk? { m := (h.put id none).m.set (some { lo := off, hi := off + (len + n) * es, ro := false, cells := putCells lnew (off + len * es) b.cells }) h.next, ob := h.ob, next := h.next + 1 } j =
          if j = h.next then some { lo := off, hi := off + (len + n) * es, ro := false, cells := putCells lnew (off + len * es) b.cells } else (h.put id none).blk? j := by
        unfold AH.blk?
        simp only [Tr.get_set]
        by_cases hj : j = h.next
        · rw [if_pos hj, if_pos hj]
        · rw [if_neg hj, if_neg hj]
      rw [e1, AH.blk?_put])
    (fun _ => rfl)
    (.inr (Nat.le_refl _)) (Nat.lt_succ_self _) (Nat.le_succ _) hx
    (fun j hj => by have hj : h.next + 1 ≤ j := hj; unfold upd; rw [if_neg (by omega)]; exact H.ffresh j (by omega))
    (upd_same _ _ _) rfl (Nat.le_add_right _ _) (by dsimp only; omega) rfl (by dsimp only; rw [Nat.add_mul]; omega) rfl
    (fun o a ha => by
      obtain ⟨g1, g2⟩ := Blk.get_lo ha
      dsimp only at g1 g2
      rw [Blk.get_eq, if_pos ⟨g1, g2⟩] at ha
      simp only [get_putCells] at ha
      dsimp only
      rw [List.getElem?_toArray, seg_get _ _ _ _ hk]
      rw [Nat.add_mul] at g2
      by_cases hin2 : off + len * es ≤ o ∧ o < off + len * es + lnew.length
      · rw [if_pos hin2] at ha
        obtain ⟨v, hv1, hv2⟩ := hv.get _ a ha
        refine ⟨v, ?_, hv2.mono hx⟩
        rw [if_neg (by omega), if_pos (by omega), ← hv1]
        congr 1; omega
      · rw [if_neg hin2] at ha
        have hlt : o < off + len * es := by omega
        have hcell : h.cell? id o = some a := by
          have h1 := hog (o - off)
          have h2 : o - off < lold.length := by omega
          have h3 := h1 _ (List.getElem?_eq_getElem h2)
          rw [show off + (o - off) = o by omega] at h3
          rw [h3]
          rw [AH.cell?_eq, hb] at h3
          simp only [Option.bind_some] at h3
          obtain ⟨q1, q2⟩ := Blk.get_lo h3
          rw [Blk.get_eq, if_pos ⟨q1, q2⟩, ha] at h3
          exact h3.symm
        rw [AH.cell?_eq, hb] at hcell
        simp only [Option.bind_some] at hcell
        obtain ⟨v, hv1, hv2⟩ := hlive o a hcell
        refine ⟨v, ?_, hv2.mono hx⟩
        have e2 : c.toList[r'.base + (o - b.lo)]? = some v := by simpa using hv1
        rw [if_pos (by omega), ← e2]
        congr 1; omega)
  refine ⟨c, e, hc, by simpa using hk, _, hx, g1, g2, ?_⟩
  exact VR.sl h.next off (len + n) es none ⟨r'.blk, r'.base + (off - r'.lo), off, r'.ext - (off - r'.lo)⟩ _ cap (upd_same _ _ _) (Nat.le_refl _) hroom
    (.inr ⟨by simp, by dsimp only; omega⟩) (by simp)
end
end Go.Proofs.Ytgnacecplaemlaa.AI
