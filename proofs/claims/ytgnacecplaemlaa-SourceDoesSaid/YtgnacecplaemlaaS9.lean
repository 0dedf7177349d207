/-
  The program's source of bytes, on: Enter, New, Names.
-/
import Derived.Test.YtgnacecplaemlaaS8
namespace Go.Proofs.Ytgnacecplaemlaa
open AI
set_option linter.unusedSimpArgs false
/-- What a listed pair's load finds: at its place, ahead of the write, behind it. -/
noncomputable def pairV (P : Program) (call : FuncId → List AV → AH → Option (AV × AH)) (ops : Array Oper) (fr : List AV) (h : AH) (i j j' : List Nat) (n : Nat) : Option (AV × AV × AV) :=
  (aops P call ops i fr h).bind fun s => (aops P call ops j fr h).bind fun sj => (aops P call ops j' fr h).bind fun sj1 =>
    (loadI P ops n s.1 s.2).bind fun v => (loadI P ops n s.1 sj.2).bind fun v1 => (loadI P ops n s.1 sj1.2).bind fun v2 => some (v, v1, v2)
theorem PairOK.of {P : Program} {call : FuncId → List AV → AH → Option (AV × AH)} {ops : Array Oper} {fr : List AV} {h : AH} {i j : Nat} (v : AV) {li lj lj' : List Nat} (e1 : List.range i = li) (e2 : List.range j = lj) (e3 : List.range (j + 1) = lj')
    (h0 : pairV P call ops fr h li lj lj' i = some (v, v, v)) : PairOK P call ops fr h i j := by
  unfold pairV at h0
  obtain ⟨s, q1, h0⟩ := Option.bind_eq_some_iff.mp h0
  obtain ⟨sj, q2, h0⟩ := Option.bind_eq_some_iff.mp h0
  obtain ⟨sj1, q3, h0⟩ := Option.bind_eq_some_iff.mp h0
  obtain ⟨v1, q4, h0⟩ := Option.bind_eq_some_iff.mp h0
  obtain ⟨v2, q5, h0⟩ := Option.bind_eq_some_iff.mp h0
  obtain ⟨v3, q6, h0⟩ := Option.bind_eq_some_iff.mp h0
  injection h0 with h0
  injection h0 with h1 h0
  injection h0 with h2 h3
  subst h1 h2 h3
  exact ⟨s, sj, sj1, _, by rw [e1, q1], by rw [e2, q2], by rw [e3, q3], q4, q5, q6⟩

theorem nat0 : ((0 : Nat) : Int) = 0 := rfl
theorem new_ok (h : AH) (n : Nat) : X (n + 1) 9 [] h = some (.ptr h.next 0, h.alloc [.nilSl, .int .i64 0]) := by kernel_rfl
theorem new_src (h : AH) : Src (h.alloc [.nilSl, .int .i64 0]) h.next [] 0 (fun j => j = h.next) :=
  ⟨rfl, fun j hj => by subst hj; exact Nat.lt_succ_self _, .inl ⟨rfl, Row.new h _⟩⟩

/-! ### Enter -/
theorem bsl62 (a b : List Nat) (k : IntKind) (i : Int) (y : Bool) (h : AH) : bslV Try.prog 62 1 [(0, .agg [.str a, .str b, .int k i, .bool y])] h = some (.sl h.next 0 1 4 (some 1), h.alloc [.str a, .str b, .int k i, .bool y]) := by kernel_rfl
theorem app62n (nb : Nat) (c : Option Nat) (h : AH) {v : List AV} (hv : h.cells? nb 4 0 = some v) : aappend Try.prog 62 62 .nilSl (.sl nb 0 1 4 c) h = some (.sl h.next 0 1 4 none, h.alloc v) := by
  have e : aappend Try.prog 62 62 .nilSl (.sl nb 0 1 4 c) h = match h.cells? nb 4 0 with | none => none | some new => some (.sl h.next 0 1 4 none, h.alloc new) := by kernel_rfl
  rw [e, hv]
noncomputable def b66 : Nat := match Try.prog.info? 66 with | some i => i.bytes | none => 0
theorem b66_le : b66 ≤ 1024 := of_decide_eq_true (by kernel_rfl)
theorem app62 (id len nb : Nat) (c : Option Nat) (h : AH) {v old : List AV} (hl : len < 1000000) (hv : h.cells? nb 4 0 = some v) (ho : h.cells? id (len * 4) 0 = some old) :
    aappend Try.prog 62 62 (.sl id 0 len 4 none) (.sl nb 0 1 4 c) h = aappend.amove h id 0 len 1 4 v := by
  have e : aappend Try.prog 62 62 (.sl id 0 len 4 none) (.sl nb 0 1 4 c) h = if Nat.blt 140737488355328 ((len + 1) * b66) then none else
      match h.cells? nb 4 0, h.cells? id (len * 4) 0 with | some new, some old => aappend.amove h id 0 len 1 4 new | _, _ => none := by kernel_rfl
  have hb : Nat.blt 140737488355328 ((len + 1) * b66) = false := by
    cases hx : Nat.blt 140737488355328 ((len + 1) * b66)
    · rfl
    · have := Nat.blt_eq.mp hx
      have := Nat.mul_le_mul (show len + 1 ≤ 1000000 by omega) b66_le
      omega
  rw [e, hb, hv, ho]
  rfl
theorem st62n (id off : Nat) (h : AH) : stV Try.prog 62 (.ptr id off) .nilSl h = (h.write id off [.nilSl]).map fun h' => (.tup [], h') := by kernel_rfl
set_option maxRecDepth 100000 in
/-- The place where a value is laid. -/
theorem enter_reg3 {h : AH} {s cnt : Nat} {L : List Val} {F : Nat → Prop} (S : Src h s L cnt F) (nm value : List Nat) (hL : L.length < 40) (hv : value.length ≤ 200) (n lf : Nat) (hn : 3 ≤ n)
    (x3 x4 x5 x6 x7 x8 x9 x10 x11 x12 x13 x14 x15 x16 x17 x18 x19 x20 x21 x22 x23 x24 x25 x26 x27 x28 x29 x30 x31 x32 x33 x34 x35 x36 x37 x38 x39 x40 x41 : AV) :
    ∃ fr' h', arun Try.prog (HK 10) (X n) lf (.region 3 (rg Try.f10 3) true) [.ptr s 0, .str nm, .str value, x3, x4, x5, x6, x7, x8, x9, x10, x11, x12, x13, x14, x15, x16, x17, x18, x19, x20, x21, x22, x23, x24, x25, x26, x27, x28, x29, x30, x31, x32, x33, x34, x35, x36, x37, x38, x39, x40, x41] h
      = some (.normal, fr', h') ∧ 6 < fr'.length ∧ Src h' s (L ++ [⟨nm, value ++ [32], 0, isBlank value⟩]) cnt (Plus F h h') ∧ Other F h h' := by
  obtain ⟨n, rfl⟩ : ∃ k, n = k + 3 := ⟨n - 3, by omega⟩
  have e44 := blank_ok value (by omega) h n
  have sa : ∀ xo yo, abin Try.prog .add 9 xo yo (.str value) (.str [32]) = some (.str (value ++ [32])) := fun xo yo => s_add _ _ _ _ (by simp; omega)
  have hFs := S.1
  have hlt := S.lt
  let v : Val := ⟨nm, value ++ [32], 0, isBlank value⟩
  have N := Row.new h v.cells
  have O1 : Other (fun _ => False) h (h.alloc v.cells) := Other.alloc _ h _
  have cN : (h.alloc v.cells).cells? h.next 4 0 = some v.cells := N.all
  have hns : s ≠ h.next := Nat.ne_of_lt (hlt _ hFs)
  have main : ∃ (sl sl' : AV) (h2 h3 : AH), h.cell? s 0 = some sl ∧ (h.alloc v.cells).cell? s 0 = some sl ∧ aappend Try.prog 62 62 sl (.sl h.next 0 1 4 (some 1)) (h.alloc v.cells) = some (sl', h2) ∧
      stV Try.prog 62 (.ptr s 0) sl' h2 = some (.tup [], h3) ∧ Src h3 s (L ++ [v]) cnt (Plus F h h3) ∧ Other F h h3 := by
    obtain ⟨_, _, ⟨rfl, R0⟩ | ⟨id, hne, hF, R0, V0⟩⟩ := S
    · have R := R0.keep O1 (fun x => x)
      have N2 := Row.new (h.alloc v.cells) v.cells
      have O2 : Other (fun _ => False) (h.alloc v.cells) ((h.alloc v.cells).alloc v.cells) := Other.alloc _ _ _
      obtain ⟨h3, w3, n3, R3, O3⟩ := Row.write (a := []) (p := [.nilSl]) (c := [.int .i64 (cnt : Int)]) (R.keep O2 (fun x => x)) [.sl (h.alloc v.cells).next 0 1 4 none] rfl
      refine ⟨.nilSl, .sl (h.alloc v.cells).next 0 1 4 none, (h.alloc v.cells).alloc v.cells, h3, R0.cell (i := 0) rfl, R.cell (i := 0) rfl, app62n _ _ _ cN, ?_, ?_, ?_⟩
      · rw [st62]
        rw [show h3 = h3 from rfl, show ((h.alloc v.cells).alloc v.cells).write s 0 [.sl (h.alloc v.cells).next 0 1 4 none] = some h3 by simpa using w3]
        rfl
      · have e1 : (h.alloc v.cells).next = h.next + 1 := rfl
        have e2 : h3.next = h.next + 2 := by rw [n3]; rfl
        refine ⟨.inl hFs, fun j hj => ?_, .inr ⟨(h.alloc v.cells).next, by have := hlt _ hFs; omega, .inr ⟨by omega, by omega⟩, R3, (N2.keep O3 (by have := hlt _ hFs; omega)).part (a := []) (p := flat ([] ++ [v])) (c := []) (by simp [flat])⟩⟩
        rcases hj with hj | hj
        · have := hlt _ hj; omega
        · exact hj.2
      · exact (O1.mono fun _ _ x => x.elim).trans ((O2.mono fun _ _ x => x.elim).trans (O3.mono fun j _ x => x ▸ hFs))
    · have R := R0.keep O1 (fun x => x)
      have V := V0.keep O1 (fun x => x)
      obtain ⟨h2, w2, n2, V2, O2⟩ := Row.move (len := L.length) (n := 1) (es := 4) (new := v.cells) V (flat_length L) rfl rfl
      have hidlt := V.1
      have hslt : s < (h.alloc v.cells).next := R.1
      have R2 := R.keep O2 (fun x => hne x.symm)
      obtain ⟨h3, w3, n3, R3, O3⟩ := Row.write (a := []) (p := [.sl id 0 L.length 4 none]) (c := [.int .i64 (cnt : Int)]) R2 [.sl (h.alloc v.cells).next 0 (L.length + 1) 4 none] rfl
      have ho : (h.alloc v.cells).cells? id (L.length * 4) 0 = some (flat L) := by have := V.all; rwa [flat_length] at this
      refine ⟨_, .sl (h.alloc v.cells).next 0 (L.length + 1) 4 none, h2, h3, R0.cell (i := 0) rfl, R.cell (i := 0) rfl, by rw [app62 _ _ _ _ _ (by omega) cN ho, w2], ?_, ?_, ?_⟩
      · rw [st62, show h2.write s 0 [.sl (h.alloc v.cells).next 0 (L.length + 1) 4 none] = some h3 by simpa using w3]
        rfl
      · have e1 : (h.alloc v.cells).next = h.next + 1 := rfl
        have e2 : h3.next = h.next + 2 := by rw [n3, n2, e1]
        refine ⟨.inl hFs, fun j hj => ?_, .inr ⟨(h.alloc v.cells).next, by have := hlt _ hFs; omega, .inr ⟨by omega, by omega⟩, by simpa using R3, ?_⟩⟩
        · rcases hj with hj | hj
          · have := hlt _ hj; omega
          · exact hj.2
        · have := V2.keep O3 (by have := hlt _ hFs; omega)
          rw [flat_append]
          simpa [flat] using this
      · exact (O1.mono fun _ _ x => x.elim).trans ((O2.mono fun j _ x => x ▸ hF).trans (O3.mono fun j _ x => x ▸ hFs))
  obtain ⟨sl, sl', h2, h3, c0, c1, ap, sv, S3, O3⟩ := main
  simp (implicitDefEqProofs := false) only [Val.cells, v, nat0] at c1 ap
  have hr : (aops Try.prog (X (n + 3)) (rg Try.f10 3) [0, 1, 2, 3, 4, 5, 6, 7, 8, 9, 10, 11, 12, 13, 14, 15] [.ptr s 0, .str nm, .str value, x3, x4, x5, x6, x7, x8, x9, x10, x11, x12, x13, x14, x15, x16, x17, x18, x19, x20, x21, x22, x23, x24, x25, x26, x27, x28, x29, x30, x31, x32, x33, x34, x35, x36, x37, x38, x39, x40, x41] h).map
      (fun r => (r.1.length, r.2)) = some (42, h3) := by
    simp (implicitDefEqProofs := false) only [run_seq, run_cond, run_block, run_loop, run_exit, run_ret, run_skip, ops_cons, ops_nil, ev_tmp, pureS_some, heapS_some, heapN_some, gdS_tt, gdS_ff, gdS_tf, gdS_ft, gdS_undef, List.getD_cons_succ, List.getD_cons_zero, List.set_cons_succ, List.set_cons_zero, Option.bind_some, regR_some, seqR_normal, seqR_ret, seqR_exit, fin0_ret, fin0_normal, fin1_ret, fin1_normal, finN_ret, finN_normal, List.map_cons, List.map_nil, lenV_some, pickV_t, pickV_f, callV_func, extV_tup, condR_true, condR_false, blockR_normal, blockR_ret, blockR_exit, if_true, List.nil_append, List.append_nil, List.cons_append, List.getElem?_cons_zero, List.getElem?_cons_succ, loopR_normal, loopR_exit, loopR_ret, Option.map_some, ite_true, reduceIte, reg10_0, st10_0_0, reg10_1, st10_1_0, st10_1_1, st10_1_2, st10_1_3, st10_1_4, st10_1_5, st10_1_6, st10_1_7, st10_1_8, st10_1_9, st10_1_10, st10_1_11, st10_1_12, st10_1_13, st10_1_14, st10_1_15, st10_1_16, st10_1_17, st10_1_18, st10_1_19, reg10_2, st10_2_0, st10_3_0, st10_3_1, st10_3_2, st10_3_3, st10_3_4, st10_3_5, st10_3_6, st10_3_7, st10_3_8, st10_3_9, st10_3_10, st10_3_11, st10_3_12, st10_3_13, st10_3_14, st10_3_15, reg10_4, st10_4_0, nilck, fa64_0, ld62, c0, sa, e44, bld66, bsl62, ap, sv, Nat.add_zero, List.length_cons, List.length_nil, Nat.reduceAdd]
  obtain ⟨⟨fr', hh⟩, hr1, hx⟩ := Option.map_eq_some_iff.mp hr
  injection hx with hx1 hx2
  simp only at hx1 hx2
  subst hx2
  refine ⟨fr', hh, ?_, by omega, S3, O3⟩
  refine Eq.trans (drw10_3 (HK 10) (X (n + 3)) lf _ h hr1 ?_) (regR_some _ _)
  intro p hp
  simp only [List.mem_cons, List.not_mem_nil, or_false] at hp
  rcases hp with rfl | rfl
  · refine PairOK.of sl rng10_3_4 rng10_3_9 rng10_3_10 ?_
    unfold pairV
    simp (implicitDefEqProofs := false) only [run_seq, run_cond, run_block, run_loop, run_exit, run_ret, run_skip, ops_cons, ops_nil, ev_tmp, pureS_some, heapS_some, heapN_some, gdS_tt, gdS_ff, gdS_tf, gdS_ft, gdS_undef, List.getD_cons_succ, List.getD_cons_zero, List.set_cons_succ, List.set_cons_zero, Option.bind_some, regR_some, seqR_normal, seqR_ret, seqR_exit, fin0_ret, fin0_normal, fin1_ret, fin1_normal, finN_ret, finN_normal, List.map_cons, List.map_nil, lenV_some, pickV_t, pickV_f, callV_func, extV_tup, condR_true, condR_false, blockR_normal, blockR_ret, blockR_exit, if_true, List.nil_append, List.append_nil, List.cons_append, List.getElem?_cons_zero, List.getElem?_cons_succ, loopR_normal, loopR_exit, loopR_ret, Option.map_some, ite_true, reduceIte, reg10_0, st10_0_0, reg10_1, st10_1_0, st10_1_1, st10_1_2, st10_1_3, st10_1_4, st10_1_5, st10_1_6, st10_1_7, st10_1_8, st10_1_9, st10_1_10, st10_1_11, st10_1_12, st10_1_13, st10_1_14, st10_1_15, st10_1_16, st10_1_17, st10_1_18, st10_1_19, reg10_2, st10_2_0, st10_3_0, st10_3_1, st10_3_2, st10_3_3, st10_3_4, st10_3_5, st10_3_6, st10_3_7, st10_3_8, st10_3_9, st10_3_10, st10_3_11, st10_3_12, st10_3_13, st10_3_14, st10_3_15, reg10_4, st10_4_0, nilck, fa64_0, ld62, c0, sa, e44, li10_3_4, Nat.add_zero]
  · refine PairOK.of sl rng10_3_4 rng10_3_11 rng10_3_12 ?_
    unfold pairV
    simp (implicitDefEqProofs := false) only [run_seq, run_cond, run_block, run_loop, run_exit, run_ret, run_skip, ops_cons, ops_nil, ev_tmp, pureS_some, heapS_some, heapN_some, gdS_tt, gdS_ff, gdS_tf, gdS_ft, gdS_undef, List.getD_cons_succ, List.getD_cons_zero, List.set_cons_succ, List.set_cons_zero, Option.bind_some, regR_some, seqR_normal, seqR_ret, seqR_exit, fin0_ret, fin0_normal, fin1_ret, fin1_normal, finN_ret, finN_normal, List.map_cons, List.map_nil, lenV_some, pickV_t, pickV_f, callV_func, extV_tup, condR_true, condR_false, blockR_normal, blockR_ret, blockR_exit, if_true, List.nil_append, List.append_nil, List.cons_append, List.getElem?_cons_zero, List.getElem?_cons_succ, loopR_normal, loopR_exit, loopR_ret, Option.map_some, ite_true, reduceIte, reg10_0, st10_0_0, reg10_1, st10_1_0, st10_1_1, st10_1_2, st10_1_3, st10_1_4, st10_1_5, st10_1_6, st10_1_7, st10_1_8, st10_1_9, st10_1_10, st10_1_11, st10_1_12, st10_1_13, st10_1_14, st10_1_15, st10_1_16, st10_1_17, st10_1_18, st10_1_19, reg10_2, st10_2_0, st10_3_0, st10_3_1, st10_3_2, st10_3_3, st10_3_4, st10_3_5, st10_3_6, st10_3_7, st10_3_8, st10_3_9, st10_3_10, st10_3_11, st10_3_12, st10_3_13, st10_3_14, st10_3_15, reg10_4, st10_4_0, nilck, fa64_0, ld62, c0, c1, sa, e44, bld66, bsl62, li10_3_4, Nat.add_zero]
end Go.Proofs.Ytgnacecplaemlaa
