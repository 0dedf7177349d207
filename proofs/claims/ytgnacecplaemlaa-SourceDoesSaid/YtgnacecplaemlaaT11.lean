/-
  SourceDoes of chapter 37: its run in the interpreter, as a whole.
-/
import Derived.Test.YtgnacecplaemlaaT10
namespace Go.Proofs.Ytgnacecplaemlaa
open AI
set_option linter.unusedSimpArgs false
/-- How the loop ends. -/
def Out4 (lv : AV) (s x : Nat) (r : ARes) : Prop :=
  (∃ fr' h', r = some (.ret, fr', h') ∧ fr'.getD 2 .top = .bool true) ∨
  ∃ h' L cnt F G i y13 y14 y15 y16 y17 y18 y19 y20, r = some (.exit 0, E4 lv s x i y13 y14 y15 y16 y17 y18 y19 y20, h') ∧ Src h' s L cnt F ∧ Ref h' x L cnt G ∧ L.length ≤ 40
theorem loop4 {id s x : Nat} {cp : Option Nat} {ops : List OpI} : ∀ (m i : Nat) (fr : List AV) (h : AH) (L : List Val) (cnt : Nat) (F G : Nat → Prop), i + m = min ops.length 120 → Inv h id (oflat ops) s x L cnt F G → cnt ≤ i →
    clr4 fr = C4 (.sl id 0 ops.length 3 cp) s x i → ∀ k, Out4 (.sl id 0 ops.length 3 cp) s x (aloop body4 clr4 (m + 1 + k) fr h)
  | 0, i, fr, h, L, cnt, F, G, hi, I, hc, hcl, k => by
    obtain ⟨y13, y14, y15, y16, y17, y18, y19, y20, e⟩ := end4 (lv := .sl id 0 ops.length 3 cp) (n := ops.length) (s := s) (x := x) (i := i) h (len31 ..) (by omega)
    rw [show 0 + 1 + k = k + 1 by omega, loop_succ, hcl, e, loopR_exit]
    exact .inr ⟨h, L, cnt, F, G, i, y13, y14, y15, y16, y17, y18, y19, y20, rfl, I.src, I.ref, I.len⟩
  | m + 1, i, fr, h, L, cnt, F, G, hi, I, hc, hcl, k => by
    have hlt : i < ops.length := by omega
    have ho : ops[i]? = some ops[i] := by simp [hlt]
    rw [show m + 1 + 1 + k = (m + 1 + k) + 1 by omega, loop_succ, hcl]
    rcases iter4 (cp := cp) I ho (by omega) hc with ⟨fr', h', e, g⟩ | ⟨fr', h', L', cnt', F', G', e, c, hc', I'⟩
    · rw [e, loopR_ret]
      exact .inl ⟨fr', h', rfl, g⟩
    · rw [e, loopR_normal]
      exact loop4 m (i + 1) fr' h' L' cnt' F' G' (by omega) I' hc' c k
theorem bld35 : abuild Try.prog 35 [] = some (.agg [.nilSl, .int .i64 0]) := by kernel_rfl
theorem box35 (h : AH) : boxV (.agg [.nilSl, .int .i64 0]) h = some (.ptr h.next 0, h.alloc [.nilSl, .int .i64 0]) := rfl
theorem ref_new (h : AH) : Ref (h.alloc [.nilSl, .int .i64 0]) h.next [] 0 (fun j => j = h.next) :=
  ⟨rfl, fun j hj => by subst hj; exact Nat.lt_succ_self _, .nilSl, Row.new h _, .inl ⟨rfl, rfl⟩, fun j hj => hj.elim⟩
set_option maxRecDepth 100000 in
theorem sourceDoes_ok (h0 : AH) (lv : AV) (hl : alen Try.prog 31 lv = some 0 ∨ ∃ id cp ops, lv = .sl id 0 (List.length ops) 3 cp ∧ Has h0 id (oflat ops)) : ∃ h', X 1000 4 [lv] h0 = some (.bool true, h') := by
  have e1 := new_ok h0 998
  have S0 := new_src h0
  have R0 := ref_new (h0.alloc [.nilSl, .int .i64 0])
  have O1 : Other (fun _ => False) h0 (h0.alloc [.nilSl, .int .i64 0]) := Other.alloc _ _ _
  have O2 : Other (fun _ => False) (h0.alloc [.nilSl, .int .i64 0]) ((h0.alloc [.nilSl, .int .i64 0]).alloc [.nilSl, .int .i64 0]) := Other.alloc _ _ _
  have S1 := S0.keep O2 (fun _ _ x => x)
  have b2 := box35 (h0.alloc [.nilSl, .int .i64 0])
  have n1 : (h0.alloc [.nilSl, .int .i64 0]).next = h0.next + 1 := rfl
  have out : ∀ fr, clr4 fr = C4 lv h0.next (h0.alloc [.nilSl, .int .i64 0]).next 0 → Out4 lv h0.next (h0.alloc [.nilSl, .int .i64 0]).next (aloop body4 clr4 999 fr ((h0.alloc [.nilSl, .int .i64 0]).alloc [.nilSl, .int .i64 0])) := fun fr hc => by
    rcases hl with hl | ⟨id, cp, ops, rfl, H⟩
    · obtain ⟨y13, y14, y15, y16, y17, y18, y19, y20, e⟩ := end4 (lv := lv) (n := 0) (s := h0.next) (x := (h0.alloc [.nilSl, .int .i64 0]).next) (i := 0) ((h0.alloc [.nilSl, .int .i64 0]).alloc [.nilSl, .int .i64 0]) hl (by omega)
      rw [show 999 = 998 + 1 from rfl, loop_succ, hc, e, loopR_exit]
      exact .inr ⟨_, [], 0, _, _, 0, y13, y14, y15, y16, y17, y18, y19, y20, rfl, S1, R0, by simp⟩
    · have hid := H.1
      have I : Inv ((h0.alloc [.nilSl, .int .i64 0]).alloc [.nilSl, .int .i64 0]) id (oflat ops) h0.next (h0.alloc [.nilSl, .int .i64 0]).next [] 0 (fun j => j = h0.next) (fun j => j = (h0.alloc [.nilSl, .int .i64 0]).next) :=
        ⟨(H.keep O1 (fun x => x)).keep O2 (fun x => x), S1, R0, fun j hj hg => by omega, by omega, by omega, fun v hv => by simp at hv, by simp⟩
      have := loop4 (cp := cp) (min ops.length 120) 0 fr _ [] 0 _ _ (by omega) I (Nat.le_refl _) hc (998 - min ops.length 120)
      rw [show min ops.length 120 + 1 + (998 - min ops.length 120) = 999 by omega] at this
      exact this
  generalize h0.next = s at *
  generalize (h0.alloc [.nilSl, .int .i64 0]).next = x at *
  have fin : ∀ fr, clr4 fr = C4 lv s x 0 → ∃ h', fin1 (seqR (blockR 0 (aloop body4 clr4 999 fr ((h0.alloc [.nilSl, .int .i64 0]).alloc [.nilSl, .int .i64 0]))) (fun fr h => seqR (arun Try.prog (HK 4) (X 999) 999 (.region 16 (rg Try.f4 16) false) fr h) (fun fr h => some (.ret, fr, h)))) 2 = some (.bool true, h') := fun fr hc => by
    rcases out fr hc with ⟨fr', h', e, g⟩ | ⟨h', L, cnt, F, G, i, y13, y14, y15, y16, y17, y18, y19, y20, e, S, R, hL⟩
    · refine ⟨h', ?_⟩
      rw [e, blockR_ret, seqR_ret, fin1_ret, g]
    · obtain ⟨sa, h1, q1, N1, o1, w1⟩ := names_ok S (by omega) 998 (by omega)
      obtain ⟨sb, h2, q2, N2, o2, w2⟩ := rnames_ok (R.keep o1 (fun _ _ x => x)) (by omega) 998 (by omega)
      have q3 := same_ok (N1.keep o2 (fun _ _ x => x)) N2 (by simp [names]; omega) 998 (by simp [names]; omega)
      have q4 := X_awake 998 h2
      refine ⟨h2, ?_⟩
      rw [e]
      simp (implicitDefEqProofs := false) only [E4, blockR_00, run_seq, run_cond, run_block, run_loop, run_exit, run_ret, run_skip, ops_cons, ops_nil, ev_tmp, pureS_some, heapS_some, heapN_some, gdS_tt, gdS_ff, gdS_tf, gdS_ft, gdS_undef, List.getD_cons_succ, List.getD_cons_zero, List.set_cons_succ, List.set_cons_zero, Option.bind_some, regR_some, seqR_normal, seqR_ret, seqR_exit, fin0_ret, fin0_normal, fin1_ret, fin1_normal, finN_ret, finN_normal, List.map_cons, List.map_nil, lenV_some, pickV_t, pickV_f, callV_func, extV_tup, condR_true, condR_false, blockR_normal, blockR_ret, blockR_exit, if_true, List.nil_append, List.append_nil, List.cons_append, List.getElem?_cons_zero, List.getElem?_cons_succ, loopR_normal, loopR_exit, loopR_ret, Option.map_some, ite_true, reduceIte, reg4_0, st4_0_0, reg4_1, st4_1_0, st4_1_1, st4_1_2, st4_1_3, st4_1_4, reg4_2, st4_2_0, reg4_3, st4_3_0, st4_3_1, st4_3_2, st4_3_3, st4_3_4, st4_3_5, st4_3_6, st4_3_7, reg4_5, st4_5_0, st4_5_1, st4_5_2, st4_5_3, st4_5_4, st4_5_5, st4_5_6, st4_5_7, st4_5_8, st4_5_9, st4_5_10, st4_5_11, st4_5_12, st4_5_13, st4_5_14, st4_5_15, reg4_6, st4_6_0, st4_6_1, reg4_7, st4_7_0, st4_7_1, st4_7_2, st4_7_3, st4_7_4, st4_7_5, st4_8_0, st4_8_1, st4_8_2, st4_8_3, st4_8_4, st4_8_5, st4_8_6, st4_8_7, st4_8_8, st4_8_9, st4_8_10, st4_8_11, st4_8_12, st4_8_13, st4_8_14, st4_8_15, st4_8_16, st4_8_17, st4_8_18, st4_8_19, st4_8_20, st4_8_21, st4_8_22, st4_8_23, st4_8_24, reg4_9, st4_9_0, reg4_10, st4_10_0, st4_10_1, st4_10_2, st4_10_3, st4_10_4, reg4_11, st4_11_0, reg4_12, st4_12_0, st4_12_1, st4_12_2, st4_12_3, st4_12_4, st4_12_5, st4_12_6, reg4_13, st4_13_0, st4_13_1, st4_13_2, st4_13_3, st4_13_4, st4_13_5, st4_13_6, st4_14_0, st4_14_1, st4_14_2, st4_14_3, st4_14_4, st4_14_5, st4_14_6, st4_14_7, st4_14_8, st4_14_9, st4_14_10, st4_14_11, st4_14_12, st4_14_13, st4_14_14, st4_14_15, st4_14_16, st4_14_17, st4_14_18, st4_14_19, st4_14_20, st4_14_21, st4_14_22, st4_14_23, st4_14_24, st4_14_25, st4_14_26, st4_14_27, st4_14_28, st4_14_29, st4_14_30, st4_14_31, st4_14_32, st4_14_33, st4_14_34, st4_14_35, st4_14_36, st4_14_37, st4_14_38, st4_14_39, st4_14_40, st4_14_41, st4_14_42, st4_14_43, st4_14_44, st4_14_45, st4_14_46, st4_14_47, st4_14_48, st4_14_49, st4_14_50, reg4_15, st4_15_0, reg4_4, st4_4_0, st4_4_1, st4_4_2, reg4_16, st4_16_0, st4_16_1, st4_16_2, st4_16_3, st4_16_4, st4_16_5, st4_16_6, st4_16_7, st4_16_8, q1, q2, q3, q4]
  rw [ent4]
  unfold cd4
  simp (implicitDefEqProofs := false) only [run_seq, run_cond, run_block, run_loop, run_exit, run_ret, run_skip, ops_cons, ops_nil, ev_tmp, pureS_some, heapS_some, heapN_some, gdS_tt, gdS_ff, gdS_tf, gdS_ft, gdS_undef, List.getD_cons_succ, List.getD_cons_zero, List.set_cons_succ, List.set_cons_zero, Option.bind_some, regR_some, seqR_normal, seqR_ret, seqR_exit, fin0_ret, fin0_normal, fin1_ret, fin1_normal, finN_ret, finN_normal, List.map_cons, List.map_nil, lenV_some, pickV_t, pickV_f, callV_func, extV_tup, condR_true, condR_false, blockR_normal, blockR_ret, blockR_exit, if_true, List.nil_append, List.append_nil, List.cons_append, List.getElem?_cons_zero, List.getElem?_cons_succ, loopR_normal, loopR_exit, loopR_ret, Option.map_some, ite_true, reduceIte, reg4_0, st4_0_0, reg4_1, st4_1_0, st4_1_1, st4_1_2, st4_1_3, st4_1_4, reg4_2, st4_2_0, reg4_3, st4_3_0, st4_3_1, st4_3_2, st4_3_3, st4_3_4, st4_3_5, st4_3_6, st4_3_7, reg4_5, st4_5_0, st4_5_1, st4_5_2, st4_5_3, st4_5_4, st4_5_5, st4_5_6, st4_5_7, st4_5_8, st4_5_9, st4_5_10, st4_5_11, st4_5_12, st4_5_13, st4_5_14, st4_5_15, reg4_6, st4_6_0, st4_6_1, reg4_7, st4_7_0, st4_7_1, st4_7_2, st4_7_3, st4_7_4, st4_7_5, st4_8_0, st4_8_1, st4_8_2, st4_8_3, st4_8_4, st4_8_5, st4_8_6, st4_8_7, st4_8_8, st4_8_9, st4_8_10, st4_8_11, st4_8_12, st4_8_13, st4_8_14, st4_8_15, st4_8_16, st4_8_17, st4_8_18, st4_8_19, st4_8_20, st4_8_21, st4_8_22, st4_8_23, st4_8_24, reg4_9, st4_9_0, reg4_10, st4_10_0, st4_10_1, st4_10_2, st4_10_3, st4_10_4, reg4_11, st4_11_0, reg4_12, st4_12_0, st4_12_1, st4_12_2, st4_12_3, st4_12_4, st4_12_5, st4_12_6, reg4_13, st4_13_0, st4_13_1, st4_13_2, st4_13_3, st4_13_4, st4_13_5, st4_13_6, st4_14_0, st4_14_1, st4_14_2, st4_14_3, st4_14_4, st4_14_5, st4_14_6, st4_14_7, st4_14_8, st4_14_9, st4_14_10, st4_14_11, st4_14_12, st4_14_13, st4_14_14, st4_14_15, st4_14_16, st4_14_17, st4_14_18, st4_14_19, st4_14_20, st4_14_21, st4_14_22, st4_14_23, st4_14_24, st4_14_25, st4_14_26, st4_14_27, st4_14_28, st4_14_29, st4_14_30, st4_14_31, st4_14_32, st4_14_33, st4_14_34, st4_14_35, st4_14_36, st4_14_37, st4_14_38, st4_14_39, st4_14_40, st4_14_41, st4_14_42, st4_14_43, st4_14_44, st4_14_45, st4_14_46, st4_14_47, st4_14_48, st4_14_49, st4_14_50, reg4_15, st4_15_0, reg4_4, st4_4_0, st4_4_1, st4_4_2, st4_16_0, st4_16_1, st4_16_2, st4_16_3, st4_16_4, st4_16_5, st4_16_6, st4_16_7, st4_16_8, e1, bld35, b2]
  exact fin _ (by unfold clr4; rw [cl4_3]; rfl)
/-- .. told of the model, for what came in. -/
theorem calls_does {W : World} {v : Value} {lv : AV} {f : Inj} {h0 : AH} (H : HR W.heap.size f h0 W) (hv : VR f v lv) (hl : alen Try.prog 31 lv = some 0 ∨ ∃ id cp ops, lv = .sl id 0 (List.length ops) 3 cp ∧ Has h0 id (oflat ops)) :
    Calls Try.prog 4 #[v] W (fun e w' => e = .returned (.bool true) ∧ RowKit.Below W.heap.size W w') := by
  obtain ⟨h', e⟩ := sourceDoes_ok h0 lv hl
  exact ((X_ok 1000 4 [lv] h0 _ h' e).2 W.heap.size f W #[v] H (.cons _ _ _ _ hv .nil)).mono fun e w' ⟨v, he, f', _, _, hb, hvr⟩ => ⟨by rw [he, hvr.bool_inv], hb⟩
/-- A block that came in, with nothing else. -/
theorem HR.one {W : World} {b o ext : Nat} {c : Array Value} {e : TypeId} {fz : Nat × Nat} {l : List AV} (hb : W.heap[b]? = some (.cells c e fz)) (hsz : o + ext ≤ c.size) (hl : l.length ≤ ext)
    (hc : ∀ f : Inj, ∀ i v, l[i]? = some v → ∃ u, c[o + i]? = some u ∧ VR f u v) :
    ∃ (f : Inj) (h0 : AH), HR W.heap.size f h0 W ∧ f 0 = some ⟨b, o, 0, ext⟩ ∧ Has h0 0 l := by
  have hblk : ∀ j, AH.blk? { m := Tr.set (some { lo := 0, hi := l.length, ro := true, cells := putCells l 0 .nil }) .nil 0, next := 1 } j = if j = 0 then some { lo := 0, hi := l.length, ro := true, cells := putCells l 0 .nil } else none := fun j => by
    have := AH.blk?_put { m := .nil, next := 1 } 0 (some { lo := 0, hi := l.length, ro := true, cells := putCells l 0 .nil }) j
    simp only [AH.put] at this
    rw [this]
    simp [AH.blk?, Tr.get_nil]
  have hget : ∀ i v, l[i]? = some v ↔ (Blk.mk 0 l.length true (putCells l 0 .nil)).get i = some v := fun i v => by
    rw [Blk.get_eq]
    by_cases hi : i < l.length
    · rw [if_pos ⟨Nat.zero_le _, hi⟩]
      show _ ↔ (putCells l 0 .nil).get i = some v
      rw [get_putCells, if_pos ⟨Nat.zero_le _, by simpa using hi⟩, Nat.sub_zero]
    · rw [if_neg (fun q => hi q.2), List.getElem?_eq_none (by omega)]
  refine ⟨fun j => if j = 0 then some ⟨b, o, 0, ext⟩ else none, { m := Tr.set (some { lo := 0, hi := l.length, ro := true, cells := putCells l 0 .nil }) .nil 0, next := 1 }, ⟨fun id x hx => ?_, fun id id' x x' r r' hne hx hx' hro => ?_, fun id hid => ?_, fun id hid => ?_, Nat.le_refl _⟩, rfl, ⟨Nat.zero_lt_one, _, by rw [hblk, if_pos rfl], fun i v h => (hget i v).mp h⟩⟩
  · rw [hblk] at hx
    split at hx
    · rename_i h0
      subst h0
      injection hx with hx
      subst hx
      refine ⟨⟨b, o, 0, ext⟩, c, e, fz, rfl, hb, hsz, rfl, by simpa using hl, fun h => by simp at h, fun _ => (Array.getElem?_eq_some_iff.mp hb).1, fun i v hv => ?_⟩
      exact hc _ i v ((hget i v).mpr hv)
    · simp at hx
  · rw [hblk] at hx
    split at hx
    · injection hx with hx
      subst hx
      simp at hro
    · simp at hx
  · rw [hblk, if_neg (by have : 1 ≤ id := hid; omega)]
  · have : 1 ≤ id := hid
    rw [if_neg (by omega)]
end Go.Proofs.Ytgnacecplaemlaa
