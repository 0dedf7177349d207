/-
  The reference's source, on: Step.
-/
import Derived.Test.YtgnacecplaemlaaT3
namespace Go.Proofs.Ytgnacecplaemlaa
open AI
set_option linter.unusedSimpArgs false
theorem new69 (h : AH) : newV Try.prog 69 h = some (.ptr h.next 0, h.alloc [.str [], .str [], .bool false]) := by kernel_rfl
theorem st69 (id off : Nat) (h : AH) (a b : List Nat) (y : Bool) : stV Try.prog 69 (.ptr id off) (.agg [.str a, .str b, .bool y]) h = (h.write id off [.str a, .str b, .bool y]).map fun h' => (.tup [], h') := by kernel_rfl
theorem st9 (id off : Nat) (h : AH) (a : List Nat) : stV Try.prog 9 (.ptr id off) (.str a) h = (h.write id off [.str a]).map fun h' => (.tup [], h') := by kernel_rfl
theorem sl33 (id off len : Nat) {i : Nat} (hi : i ≤ len) (k : IntKind) : aslice Try.prog 33 (.sl id off len 3 none) none (some (.int k (i : Int))) none = some (.sl id off i 3 none) := by
  have hu : Try.prog.underlying 33 = some (.slice 69) := by kernel_rfl
  have hs : asize Try.prog 69 = some 3 := by kernel_rfl
  unfold aslice
  simp only [hu]
  simp [hs, abound, aIx, hi]
theorem rstep_none {h : AH} {x cnt : Nat} {G : Nat → Prop} (R : Ref h x [] cnt G) (n : Nat) : X (n + 1) 16 [.ptr x 0] h = some (.bool false, h) := by
  rw [ent16]
  unfold cd16
  have q : ((0 : Int) == 0) = true := by decide
  rcases R.slice with ⟨_, hcell⟩ | ⟨id, c, _, _, hcell, hR, hcc⟩ <;>
  simp (implicitDefEqProofs := false) only [run_seq, run_cond, run_block, run_loop, run_exit, run_ret, run_skip, ops_cons, ops_nil, ev_tmp, pureS_some, heapS_some, heapN_some, gdS_tt, gdS_ff, gdS_tf, gdS_ft, gdS_undef, List.getD_cons_succ, List.getD_cons_zero, List.set_cons_succ, List.set_cons_zero, Option.bind_some, regR_some, seqR_normal, seqR_ret, seqR_exit, fin0_ret, fin0_normal, fin1_ret, fin1_normal, finN_ret, finN_normal, List.map_cons, List.map_nil, lenV_some, pickV_t, pickV_f, callV_func, extV_tup, condR_true, condR_false, blockR_normal, blockR_ret, blockR_exit, if_true, List.nil_append, List.append_nil, List.cons_append, List.getElem?_cons_zero, List.getElem?_cons_succ, loopR_normal, loopR_exit, loopR_ret, Option.map_some, ite_true, reduceIte, reg16_0, st16_0_0, reg16_1, st16_1_0, st16_1_1, st16_1_2, st16_1_3, st16_1_4, st16_1_5, reg16_2, st16_2_0, reg16_3, st16_3_0, st16_3_1, st16_3_2, st16_3_3, st16_3_4, st16_3_5, st16_3_6, reg16_4, st16_4_0, st16_4_1, st16_4_2, st16_4_3, st16_4_4, st16_4_5, st16_4_6, st16_4_7, reg16_5, st16_5_0, st16_5_1, st16_5_2, st16_5_3, st16_5_4, st16_5_5, st16_5_6, st16_5_7, st16_5_8, reg16_6, st16_6_0, st16_6_1, st16_6_2, st16_6_3, st16_6_4, reg16_7, st16_7_0, st16_7_1, st16_7_2, st16_7_3, st16_7_4, st16_7_5, st16_7_6, st16_7_7, st16_7_8, st16_7_9, st16_7_10, st16_7_11, reg16_8, st16_8_0, st16_8_1, st16_8_2, st16_9_0, st16_9_1, st16_9_2, st16_9_3, st16_9_4, st16_9_5, st16_9_6, st16_9_7, st16_9_8, st16_9_9, st16_9_10, reg16_10, st16_10_0, reg16_11, st16_11_0, st16_11_1, st16_11_2, nilck, fa35_0, ld33, Nat.add_zero, hcell, len33n, len33, i_eql, List.length_nil, nat0, q]
set_option maxRecDepth 100000 in
/-- The value is laid back. -/
theorem rstep_reg9 {h : AH} {x tv cnt : Nat} {L : List Val} {v : Val} {s6 : AV} (RR : Row h x 0 [s6, .int .i64 (cnt : Int)]) (S : Sl33 h s6 L) (hns : s6 ≠ .nilSl) (hox : ∀ j, own s6 j → j ≠ x) (T : Row h tv 0 v.rcells) (hlen : L.length < 100000)
    (call : FuncId → List AV → AH → Option (AV × AH)) (lf : Nat) (x1 x2 x3 x5 x6 x7 x8 x9 x10 x11 x12 x13 x14 x15 x16 x17 x18 x19 x20 x21 x22 x23 x24 x25 x26 x27 x28 x29 x30 x31 x32 x33 x34 x35 x36 x37 x38 x39 x40 x41 x42 x43 x44 x45 x46 x47 x48 x49 x50 x51 x52 x53 x54 x55 x56 x57 x58 x59 x60 : AV) :
    ∃ fr' h' s9, arun Try.prog (HK 16) call lf (.region 9 (rg Try.f16 9) true) [.ptr x 0, x1, x2, x3, .ptr tv 0, x5, x6, x7, x8, x9, x10, x11, x12, x13, x14, x15, x16, x17, x18, x19, x20, x21, x22, x23, x24, x25, x26, x27, x28, x29, x30, x31, x32, x33, x34, x35, x36, x37, x38, x39, x40, x41, x42, x43, x44, x45, x46, x47, x48, x49, x50, x51, x52, x53, x54, x55, x56, x57, x58, x59, x60] h = some (.normal, fr', h') ∧ fr'.length = 61 ∧
      Row h' x 0 [s9, .int .i64 (cnt : Int)] ∧ Sl33 h' s9 (L ++ [v]) ∧ (∀ j, own s9 j → own s6 j ∨ (h.next ≤ j ∧ j < h'.next)) ∧ Other (fun j => j = x ∨ own s6 j) h h' := by
  have c0 := RR.cell (i := 0) rfl
  have ct : h.cells? tv 3 0 = some v.rcells := T.all
  have N := Row.new h v.rcells
  have O1 : Other (fun _ => False) h (h.alloc v.rcells) := Other.alloc _ _ _
  have c1 := (RR.keep O1 (fun x => x)).cell (i := 0) rfl
  have B : Rd33 (h.alloc v.rcells) (.sl h.next 0 1 3 (some 1)) [v] := .inr ⟨h.next, some 1, rfl, by simpa [rflat] using N⟩
  obtain ⟨s9, h9, a9, ns9, S9, O9, w9⟩ := app33 (S.keep O1 (fun _ _ x => x)) hns B (by simp; omega)
  have hx1 : x < h.next := RR.1
  have nn : (h.alloc v.rcells).next = h.next + 1 := rfl
  have le9 := O9.1
  have R9 := (RR.keep O1 (fun x => x)).keep O9 (fun e => hox _ e rfl)
  obtain ⟨h10, e10, n10, R10, O10⟩ := ref_store R9 (S9.form ns9)
  have hox9 : ∀ j, own s9 j → j ≠ x := fun j hj => by
    rcases w9 j hj with e | e
    · exact hox j e
    · omega
  simp only [Val.rcells] at a9 ct
  simp only [Nat.add_zero] at c0 c1
  have hr : (aops Try.prog call (rg Try.f16 9) [0, 1, 2, 3, 4, 5, 6, 7, 8, 9, 10] [.ptr x 0, x1, x2, x3, .ptr tv 0, x5, x6, x7, x8, x9, x10, x11, x12, x13, x14, x15, x16, x17, x18, x19, x20, x21, x22, x23, x24, x25, x26, x27, x28, x29, x30, x31, x32, x33, x34, x35, x36, x37, x38, x39, x40, x41, x42, x43, x44, x45, x46, x47, x48, x49, x50, x51, x52, x53, x54, x55, x56, x57, x58, x59, x60] h).map
      (fun r => (r.1.length, r.2)) = some (61, h10) := by
    simp (implicitDefEqProofs := false) only [run_seq, run_cond, run_block, run_loop, run_exit, run_ret, run_skip, ops_cons, ops_nil, ev_tmp, pureS_some, heapS_some, heapN_some, gdS_tt, gdS_ff, gdS_tf, gdS_ft, gdS_undef, List.getD_cons_succ, List.getD_cons_zero, List.set_cons_succ, List.set_cons_zero, Option.bind_some, regR_some, seqR_normal, seqR_ret, seqR_exit, fin0_ret, fin0_normal, fin1_ret, fin1_normal, finN_ret, finN_normal, List.map_cons, List.map_nil, lenV_some, pickV_t, pickV_f, callV_func, extV_tup, condR_true, condR_false, blockR_normal, blockR_ret, blockR_exit, if_true, List.nil_append, List.append_nil, List.cons_append, List.getElem?_cons_zero, List.getElem?_cons_succ, loopR_normal, loopR_exit, loopR_ret, Option.map_some, ite_true, reduceIte, reg16_0, st16_0_0, reg16_1, st16_1_0, st16_1_1, st16_1_2, st16_1_3, st16_1_4, st16_1_5, reg16_2, st16_2_0, reg16_3, st16_3_0, st16_3_1, st16_3_2, st16_3_3, st16_3_4, st16_3_5, st16_3_6, reg16_4, st16_4_0, st16_4_1, st16_4_2, st16_4_3, st16_4_4, st16_4_5, st16_4_6, st16_4_7, reg16_5, st16_5_0, st16_5_1, st16_5_2, st16_5_3, st16_5_4, st16_5_5, st16_5_6, st16_5_7, st16_5_8, reg16_6, st16_6_0, st16_6_1, st16_6_2, st16_6_3, st16_6_4, reg16_7, st16_7_0, st16_7_1, st16_7_2, st16_7_3, st16_7_4, st16_7_5, st16_7_6, st16_7_7, st16_7_8, st16_7_9, st16_7_10, st16_7_11, reg16_8, st16_8_0, st16_8_1, st16_8_2, st16_9_0, st16_9_1, st16_9_2, st16_9_3, st16_9_4, st16_9_5, st16_9_6, st16_9_7, st16_9_8, st16_9_9, st16_9_10, reg16_10, st16_10_0, reg16_11, st16_11_0, st16_11_1, st16_11_2, nilck, fa35_0, ld33, ld69, Nat.add_zero, c0, ct, bsl33_1, a9, e10, List.length_cons, List.length_nil, Nat.reduceAdd]
  obtain ⟨⟨fr', hh⟩, hr1, hx⟩ := Option.map_eq_some_iff.mp hr
  injection hx with hx1 hx2
  simp only at hx1 hx2
  subst hx2
  refine ⟨fr', hh, s9, ?_, hx1, R10, S9.keep O10 (fun j hj => hox9 j hj), fun j hj => ?_, ?_⟩
  · refine Eq.trans (drw16_9 (HK 16) call lf _ h hr1 ?_) (regR_some _ _)
    intro p hp
    simp only [List.mem_cons, List.not_mem_nil, or_false] at hp
    subst hp
    refine PairOK.of s6 rng16_9_4 rng16_9_6 rng16_9_7 ?_
    unfold pairV
    simp only [Val.rcells] at c1
    simp (implicitDefEqProofs := false) only [run_seq, run_cond, run_block, run_loop, run_exit, run_ret, run_skip, ops_cons, ops_nil, ev_tmp, pureS_some, heapS_some, heapN_some, gdS_tt, gdS_ff, gdS_tf, gdS_ft, gdS_undef, List.getD_cons_succ, List.getD_cons_zero, List.set_cons_succ, List.set_cons_zero, Option.bind_some, regR_some, seqR_normal, seqR_ret, seqR_exit, fin0_ret, fin0_normal, fin1_ret, fin1_normal, finN_ret, finN_normal, List.map_cons, List.map_nil, lenV_some, pickV_t, pickV_f, callV_func, extV_tup, condR_true, condR_false, blockR_normal, blockR_ret, blockR_exit, if_true, List.nil_append, List.append_nil, List.cons_append, List.getElem?_cons_zero, List.getElem?_cons_succ, loopR_normal, loopR_exit, loopR_ret, Option.map_some, ite_true, reduceIte, reg16_0, st16_0_0, reg16_1, st16_1_0, st16_1_1, st16_1_2, st16_1_3, st16_1_4, st16_1_5, reg16_2, st16_2_0, reg16_3, st16_3_0, st16_3_1, st16_3_2, st16_3_3, st16_3_4, st16_3_5, st16_3_6, reg16_4, st16_4_0, st16_4_1, st16_4_2, st16_4_3, st16_4_4, st16_4_5, st16_4_6, st16_4_7, reg16_5, st16_5_0, st16_5_1, st16_5_2, st16_5_3, st16_5_4, st16_5_5, st16_5_6, st16_5_7, st16_5_8, reg16_6, st16_6_0, st16_6_1, st16_6_2, st16_6_3, st16_6_4, reg16_7, st16_7_0, st16_7_1, st16_7_2, st16_7_3, st16_7_4, st16_7_5, st16_7_6, st16_7_7, st16_7_8, st16_7_9, st16_7_10, st16_7_11, reg16_8, st16_8_0, st16_8_1, st16_8_2, st16_9_0, st16_9_1, st16_9_2, st16_9_3, st16_9_4, st16_9_5, st16_9_6, st16_9_7, st16_9_8, st16_9_9, st16_9_10, reg16_10, st16_10_0, reg16_11, st16_11_0, st16_11_1, st16_11_2, nilck, fa35_0, ld33, ld69, Nat.add_zero, c0, c1, ct, bsl33_1, li16_9_4]
  · rcases w9 j hj with e | e
    · exact .inl e
    · exact .inr ⟨by omega, by omega⟩
  · exact (O1.mono fun _ _ x => x.elim).trans ((O9.mono fun j _ e => .inr e).trans (O10.mono fun j _ e => .inl e))
end Go.Proofs.Ytgnacecplaemlaa
