/-
  The program's source of bytes, on: Step, Left, Active.
-/
import Derived.Test.YtgnacecplaemlaaS4
namespace Go.Proofs.Ytgnacecplaemlaa
open AI
set_option linter.unusedSimpArgs false
section
variable (id off len : Nat) (h : AH)
theorem st3 (k : IntKind) (i : Int) : stV Try.prog 3 (.ptr id off) (.int k i) h = (h.write id off [.int k i]).map fun h' => (.tup [], h') := by kernel_rfl
theorem st62 (a b c d : Nat) (e : Option Nat) : stV Try.prog 62 (.ptr id off) (.sl a b c d e) h = (h.write id off [.sl a b c d e]).map fun h' => (.tup [], h') := by kernel_rfl
theorem sl62 {i : Nat} (hi : i ≤ len) (k : IntKind) : aslice Try.prog 62 (.sl id off len 4 none) none (some (.int k (i : Int))) none = some (.sl id off i 4 none) := by
  have hu : Try.prog.underlying 62 = some (.slice 66) := by kernel_rfl
  have hs : asize Try.prog 66 = some 4 := by kernel_rfl
  unfold aslice
  simp only [hu]
  simp [hs, abound, aIx, hi]
theorem wrap_succ (n : Nat) (hn : n + 1 < 4611686018427387904) : IntKind.i64.wrap ((n : Int) + 1) = ((n + 1 : Nat) : Int) := by
  rw [show ((n : Int) + 1) = ((n + 1 : Nat) : Int) by omega]; exact wrap_nat _ hn
end
theorem Src.lt {h : AH} {s cnt : Nat} {L : List Val} {F : Nat → Prop} (S : Src h s L cnt F) : ∀ j, F j → j < h.next := S.2.1
theorem step_none {h : AH} {s cnt : Nat} {F : Nat → Prop} (S : Src h s [] cnt F) (n : Nat) : X (n + 3) 12 [.ptr s 0] h = some (.bool false, h) := by
  rw [ent12]
  unfold cd12
  have e := top_ok S n
  have w : IntKind.i64.wrap (((([] : List Val).length : Nat) : Int) - 1) = -1 := by decide
  rw [w] at e
  have d : decide ((-1 : Int) < 0) = true := by decide
  simp (implicitDefEqProofs := false) only [run_seq, run_cond, run_block, run_loop, run_exit, run_ret, run_skip, ops_cons, ops_nil, ev_tmp, pureS_some, heapS_some, heapN_some, gdS_tt, gdS_ff, gdS_tf, gdS_ft, gdS_undef, List.getD_cons_succ, List.getD_cons_zero, List.set_cons_succ, List.set_cons_zero, Option.bind_some, regR_some, seqR_normal, seqR_ret, seqR_exit, fin0_ret, fin0_normal, fin1_ret, fin1_normal, finN_ret, finN_normal, List.map_cons, List.map_nil, lenV_some, pickV_t, pickV_f, callV_func, extV_tup, condR_true, condR_false, blockR_normal, blockR_ret, blockR_exit, if_true, List.nil_append, List.append_nil, List.cons_append, List.getElem?_cons_zero, List.getElem?_cons_succ, loopR_normal, loopR_exit, loopR_ret, Option.map_some, ite_true, reduceIte, reg12_0, st12_0_0, reg12_1, st12_1_0, st12_1_1, st12_1_2, reg12_2, st12_2_0, st12_2_1, reg12_3, st12_3_0, reg12_4, st12_4_0, st12_4_1, st12_4_2, st12_4_3, st12_4_4, st12_4_5, st12_4_6, st12_4_7, reg12_5, st12_5_0, st12_5_1, st12_5_2, st12_5_3, st12_5_4, st12_5_5, st12_5_6, reg12_6, st12_6_0, st12_6_1, st12_6_2, st12_6_3, st12_6_4, st12_6_5, st12_6_6, st12_6_7, reg12_7, st12_7_0, st12_7_1, st12_7_2, st12_7_3, st12_7_4, st12_7_5, st12_7_6, st12_7_7, st12_7_8, st12_7_9, reg12_8, st12_8_0, reg12_9, st12_9_0, st12_9_1, st12_9_2, st12_9_3, st12_9_4, reg12_10, st12_10_0, st12_10_1, st12_10_2, st12_10_3, st12_10_4, st12_10_5, st12_10_6, st12_10_7, st12_10_8, st12_10_9, reg12_11, st12_11_0, st12_11_1, e, i_lss, d]
def Val.next (v : Val) : Val := { v with at_ := v.at_ + 1 }
theorem step_some {h : AH} {s cnt : Nat} {L : List Val} {v : Val} {F : Nat → Prop} (S : Src h s (L ++ [v]) cnt F) (hL : L.length < 4611686018427387904) (hc : cnt + 1 < 4611686018427387904)
    (ha : v.at_ + 1 < 4611686018427387904) (n : Nat) :
    ∃ h', X (n + 3) 12 [.ptr s 0] h = some (.bool (if v.at_ + 1 < v.text.length then false else v.blank), h') ∧
      Src h' s (if v.at_ + 1 < v.text.length then L ++ [v.next] else L) (cnt + 1) F ∧ h'.next = h.next ∧ Other F h h' := by
  have hlt := S.lt
  have hFs := S.1
  have e := top_ok S n
  rw [List.length_append, List.length_singleton, wrap_last _ hL] at e
  have d : decide ((L.length : Int) < 0) = false := by simp
  have hcnt := S.count
  obtain ⟨_, _, ⟨h0, _⟩ | ⟨id, hne, hF, hR, hV⟩⟩ := S
  · simp at h0
  · obtain ⟨h1, w1, n1, R1, O1⟩ := Row.write (a := [.sl id 0 (L ++ [v]).length 4 none]) (p := [.int .i64 (cnt : Int)]) (c := []) hR [.int .i64 ((cnt + 1 : Nat) : Int)] rfl
    have w1' : h.write s 1 [.int .i64 ((cnt + 1 : Nat) : Int)] = some h1 := by simpa using w1
    have V1 : Row h1 id 0 (flat (L ++ [v])) := hV.keep O1 hne
    have ef : flat (L ++ [v]) = (flat L ++ [.str v.name, .str v.text]) ++ [.int .i64 (v.at_ : Int)] ++ [.bool v.blank] := by simp [flat_append, flat, Val.cells]
    rw [ef] at V1
    obtain ⟨h2, w2, n2, V2, O2⟩ := Row.write V1 [.int .i64 ((v.at_ + 1 : Nat) : Int)] rfl
    have w2' : h1.write id (0 + L.length * 4 + 2) [.int .i64 ((v.at_ + 1 : Nat) : Int)] = some h2 := by
      have hh : 0 + (flat L ++ [AV.str v.name, AV.str v.text]).length = 0 + L.length * 4 + 2 := by simp [flat_length]
      rw [hh] at w2
      exact w2
    have ef2 : flat (L ++ [v.next]) = (flat L ++ [.str v.name, .str v.text]) ++ [.int .i64 ((v.at_ + 1 : Nat) : Int)] ++ [.bool v.blank] := by simp [flat_append, flat, Val.cells, Val.next]
    have R2 : Row h2 s 0 [.sl id 0 (L ++ [v]).length 4 none, .int .i64 ((cnt + 1 : Nat) : Int)] := R1.keep O2 (fun e => hne e.symm)
    have V2' : Row h2 id 0 (flat (L ++ [v.next])) := by rw [ef2]; exact V2
    have hc1 : h1.cell? s 0 = some (.sl id 0 (L ++ [v]).length 4 none) := R1.cell (i := 0) rfl
    have hc2 : h2.cell? s 0 = some (.sl id 0 (L ++ [v]).length 4 none) := R2.cell (i := 0) rfl
    have hv : (L ++ [v])[L.length]? = some v := by simp
    have hv2 : (L ++ [v.next])[L.length]? = some v.next := by simp
    have r1 : h1.cell? id (0 + L.length * 4 + 2) = some (.int .i64 (v.at_ : Int)) := (row_val (by rw [ef]; exact V1) hv).cell (i := 2) rfl
    have q1 : h2.cell? id (0 + L.length * 4 + 1) = some (.str v.text) := (row_val V2' hv2).cell (i := 1) rfl
    have q2 : h2.cell? id (0 + L.length * 4 + 2) = some (.int .i64 ((v.at_ + 1 : Nat) : Int)) := (row_val V2' hv2).cell (i := 2) rfl
    have q3 : h2.cell? id (0 + L.length * 4 + 3) = some (.bool v.blank) := (row_val V2' hv2).cell (i := 3) rfl
    have i1 : ∀ k, aindexAt Try.prog 62 (.sl id 0 (L ++ [v]).length 4 none) (.int k (L.length : Int)) = some (.ptr id (0 + L.length * 4)) := fun k => ix62 _ _ _ _ (by simp) k
    have i2 : ∀ k, aslice Try.prog 62 (.sl id 0 (L ++ [v]).length 4 none) none (some (.int k (L.length : Int))) none = some (.sl id 0 L.length 4 none) := fun k => sl62 _ _ _ (by simp) k
    have OF1 : Other F h h1 := O1.mono fun j _ e => e ▸ hFs
    have OF2 : Other F h1 h2 := O2.mono fun j _ e => e ▸ hF
    have hlen : (L ++ [v]).length = (L ++ [v.next]).length := by simp
    by_cases hlast : v.at_ + 1 < v.text.length
    · have dd : decide (((v.at_ + 1 : Nat) : Int) < (v.text.length : Int)) = true := by simp; omega
      refine ⟨h2, ?_, ?_, by rw [n2, n1], OF1.trans OF2⟩
      · rw [ent12, if_pos hlast]
        unfold cd12
        simp (implicitDefEqProofs := false) only [run_seq, run_cond, run_block, run_loop, run_exit, run_ret, run_skip, ops_cons, ops_nil, ev_tmp, pureS_some, heapS_some, heapN_some, gdS_tt, gdS_ff, gdS_tf, gdS_ft, gdS_undef, List.getD_cons_succ, List.getD_cons_zero, List.set_cons_succ, List.set_cons_zero, Option.bind_some, regR_some, seqR_normal, seqR_ret, seqR_exit, fin0_ret, fin0_normal, fin1_ret, fin1_normal, finN_ret, finN_normal, List.map_cons, List.map_nil, lenV_some, pickV_t, pickV_f, callV_func, extV_tup, condR_true, condR_false, blockR_normal, blockR_ret, blockR_exit, if_true, List.nil_append, List.append_nil, List.cons_append, List.getElem?_cons_zero, List.getElem?_cons_succ, loopR_normal, loopR_exit, loopR_ret, Option.map_some, ite_true, reduceIte, reg12_0, st12_0_0, reg12_1, st12_1_0, st12_1_1, st12_1_2, reg12_2, st12_2_0, st12_2_1, reg12_3, st12_3_0, reg12_4, st12_4_0, st12_4_1, st12_4_2, st12_4_3, st12_4_4, st12_4_5, st12_4_6, st12_4_7, reg12_5, st12_5_0, st12_5_1, st12_5_2, st12_5_3, st12_5_4, st12_5_5, st12_5_6, reg12_6, st12_6_0, st12_6_1, st12_6_2, st12_6_3, st12_6_4, st12_6_5, st12_6_6, st12_6_7, reg12_7, st12_7_0, st12_7_1, st12_7_2, st12_7_3, st12_7_4, st12_7_5, st12_7_6, st12_7_7, st12_7_8, st12_7_9, reg12_8, st12_8_0, reg12_9, st12_9_0, st12_9_1, st12_9_2, st12_9_3, st12_9_4, reg12_10, st12_10_0, st12_10_1, st12_10_2, st12_10_3, st12_10_4, st12_10_5, st12_10_6, st12_10_7, st12_10_8, st12_10_9, reg12_11, st12_11_0, st12_11_1, e, i_lss, d, nilck, fa64_0, fa64_1, ld62, ld9, ld3, ld4, Nat.add_zero, Nat.zero_add, hcnt, i_add, wrap_succ _ hc, st3, w1', hc1, i1, fa66_1, fa66_2, fa66_3]
        simp (implicitDefEqProofs := false) only [Nat.zero_add] at r1 q1 q2 q3 w2'
        simp (implicitDefEqProofs := false) only [run_seq, run_cond, run_block, run_loop, run_exit, run_ret, run_skip, ops_cons, ops_nil, ev_tmp, pureS_some, heapS_some, heapN_some, gdS_tt, gdS_ff, gdS_tf, gdS_ft, gdS_undef, List.getD_cons_succ, List.getD_cons_zero, List.set_cons_succ, List.set_cons_zero, Option.bind_some, regR_some, seqR_normal, seqR_ret, seqR_exit, fin0_ret, fin0_normal, fin1_ret, fin1_normal, finN_ret, finN_normal, List.map_cons, List.map_nil, lenV_some, pickV_t, pickV_f, callV_func, extV_tup, condR_true, condR_false, blockR_normal, blockR_ret, blockR_exit, if_true, List.nil_append, List.append_nil, List.cons_append, List.getElem?_cons_zero, List.getElem?_cons_succ, loopR_normal, loopR_exit, loopR_ret, Option.map_some, ite_true, reduceIte, reg12_0, st12_0_0, reg12_1, st12_1_0, st12_1_1, st12_1_2, reg12_2, st12_2_0, st12_2_1, reg12_3, st12_3_0, reg12_4, st12_4_0, st12_4_1, st12_4_2, st12_4_3, st12_4_4, st12_4_5, st12_4_6, st12_4_7, reg12_5, st12_5_0, st12_5_1, st12_5_2, st12_5_3, st12_5_4, st12_5_5, st12_5_6, reg12_6, st12_6_0, st12_6_1, st12_6_2, st12_6_3, st12_6_4, st12_6_5, st12_6_6, st12_6_7, reg12_7, st12_7_0, st12_7_1, st12_7_2, st12_7_3, st12_7_4, st12_7_5, st12_7_6, st12_7_7, st12_7_8, st12_7_9, reg12_8, st12_8_0, reg12_9, st12_9_0, st12_9_1, st12_9_2, st12_9_3, st12_9_4, reg12_10, st12_10_0, st12_10_1, st12_10_2, st12_10_3, st12_10_4, st12_10_5, st12_10_6, st12_10_7, st12_10_8, st12_10_9, reg12_11, st12_11_0, st12_11_1, r1, i_add, wrap_succ _ ha, st3, w2', ld3, ld9, nilck, fa66_1, fa66_2, fa66_3, q1, q2, len9, i_lss, dd]
      · rw [if_pos hlast]
        exact ⟨hFs, fun j hj => by rw [n2, n1]; exact hlt j hj, .inr ⟨id, hne, hF, by rw [← hlen]; exact R2, V2'⟩⟩
    · have dd : decide (((v.at_ + 1 : Nat) : Int) < (v.text.length : Int)) = false := by simp; omega
      obtain ⟨h3, w3, n3, R3, O3⟩ := Row.write (a := []) (p := [.sl id 0 (L ++ [v]).length 4 none]) (c := [.int .i64 ((cnt + 1 : Nat) : Int)]) R2 [.sl id 0 L.length 4 none] rfl
      have w3' : h2.write s 0 [.sl id 0 L.length 4 none] = some h3 := by simpa using w3
      have V3 : Row h3 id 0 (flat (L ++ [v.next])) := V2'.keep O3 hne
      refine ⟨h3, ?_, ?_, by rw [n3, n2, n1], (OF1.trans OF2).trans (O3.mono fun j _ e => e ▸ hFs)⟩
      · rw [ent12, if_neg hlast]
        unfold cd12
        simp (implicitDefEqProofs := false) only [run_seq, run_cond, run_block, run_loop, run_exit, run_ret, run_skip, ops_cons, ops_nil, ev_tmp, pureS_some, heapS_some, heapN_some, gdS_tt, gdS_ff, gdS_tf, gdS_ft, gdS_undef, List.getD_cons_succ, List.getD_cons_zero, List.set_cons_succ, List.set_cons_zero, Option.bind_some, regR_some, seqR_normal, seqR_ret, seqR_exit, fin0_ret, fin0_normal, fin1_ret, fin1_normal, finN_ret, finN_normal, List.map_cons, List.map_nil, lenV_some, pickV_t, pickV_f, callV_func, extV_tup, condR_true, condR_false, blockR_normal, blockR_ret, blockR_exit, if_true, List.nil_append, List.append_nil, List.cons_append, List.getElem?_cons_zero, List.getElem?_cons_succ, loopR_normal, loopR_exit, loopR_ret, Option.map_some, ite_true, reduceIte, reg12_0, st12_0_0, reg12_1, st12_1_0, st12_1_1, st12_1_2, reg12_2, st12_2_0, st12_2_1, reg12_3, st12_3_0, reg12_4, st12_4_0, st12_4_1, st12_4_2, st12_4_3, st12_4_4, st12_4_5, st12_4_6, st12_4_7, reg12_5, st12_5_0, st12_5_1, st12_5_2, st12_5_3, st12_5_4, st12_5_5, st12_5_6, reg12_6, st12_6_0, st12_6_1, st12_6_2, st12_6_3, st12_6_4, st12_6_5, st12_6_6, st12_6_7, reg12_7, st12_7_0, st12_7_1, st12_7_2, st12_7_3, st12_7_4, st12_7_5, st12_7_6, st12_7_7, st12_7_8, st12_7_9, reg12_8, st12_8_0, reg12_9, st12_9_0, st12_9_1, st12_9_2, st12_9_3, st12_9_4, reg12_10, st12_10_0, st12_10_1, st12_10_2, st12_10_3, st12_10_4, st12_10_5, st12_10_6, st12_10_7, st12_10_8, st12_10_9, reg12_11, st12_11_0, st12_11_1, e, i_lss, d, nilck, fa64_0, fa64_1, ld62, ld9, ld3, ld4, Nat.add_zero, Nat.zero_add, hcnt, i_add, wrap_succ _ hc, st3, w1', hc1, i1, fa66_1, fa66_2, fa66_3]
        simp (implicitDefEqProofs := false) only [Nat.zero_add] at r1 q1 q2 q3 w2'
        simp (implicitDefEqProofs := false) only [run_seq, run_cond, run_block, run_loop, run_exit, run_ret, run_skip, ops_cons, ops_nil, ev_tmp, pureS_some, heapS_some, heapN_some, gdS_tt, gdS_ff, gdS_tf, gdS_ft, gdS_undef, List.getD_cons_succ, List.getD_cons_zero, List.set_cons_succ, List.set_cons_zero, Option.bind_some, regR_some, seqR_normal, seqR_ret, seqR_exit, fin0_ret, fin0_normal, fin1_ret, fin1_normal, finN_ret, finN_normal, List.map_cons, List.map_nil, lenV_some, pickV_t, pickV_f, callV_func, extV_tup, condR_true, condR_false, blockR_normal, blockR_ret, blockR_exit, if_true, List.nil_append, List.append_nil, List.cons_append, List.getElem?_cons_zero, List.getElem?_cons_succ, loopR_normal, loopR_exit, loopR_ret, Option.map_some, ite_true, reduceIte, reg12_0, st12_0_0, reg12_1, st12_1_0, st12_1_1, st12_1_2, reg12_2, st12_2_0, st12_2_1, reg12_3, st12_3_0, reg12_4, st12_4_0, st12_4_1, st12_4_2, st12_4_3, st12_4_4, st12_4_5, st12_4_6, st12_4_7, reg12_5, st12_5_0, st12_5_1, st12_5_2, st12_5_3, st12_5_4, st12_5_5, st12_5_6, reg12_6, st12_6_0, st12_6_1, st12_6_2, st12_6_3, st12_6_4, st12_6_5, st12_6_6, st12_6_7, reg12_7, st12_7_0, st12_7_1, st12_7_2, st12_7_3, st12_7_4, st12_7_5, st12_7_6, st12_7_7, st12_7_8, st12_7_9, reg12_8, st12_8_0, reg12_9, st12_9_0, st12_9_1, st12_9_2, st12_9_3, st12_9_4, reg12_10, st12_10_0, st12_10_1, st12_10_2, st12_10_3, st12_10_4, st12_10_5, st12_10_6, st12_10_7, st12_10_8, st12_10_9, reg12_11, st12_11_0, st12_11_1, r1, i_add, wrap_succ _ ha, st3, w2', ld3, ld4, ld9, nilck, fa66_1, fa66_2, fa66_3, q1, q2, q3, len9, i_lss, dd, fa64_0, Nat.add_zero, ld62, hc2, i2, st62, w3']
      · rw [if_neg hlast]
        refine ⟨hFs, fun j hj => by rw [n3, n2, n1]; exact hlt j hj, .inr ⟨id, hne, hF, R3, ?_⟩⟩
        rw [flat_append] at V3
        exact V3.part (a := []) (p := flat L) (c := flat [v.next]) rfl
end Go.Proofs.Ytgnacecplaemlaa
