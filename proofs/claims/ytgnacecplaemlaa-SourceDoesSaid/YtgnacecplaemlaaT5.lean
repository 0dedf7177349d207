/-
  The reference's source: Step as a whole.
-/
import Derived.Test.YtgnacecplaemlaaT4
namespace Go.Proofs.Ytgnacecplaemlaa
open AI
set_option linter.unusedSimpArgs false
theorem drop_ne {t : List Nat} {i : Nat} : natsEq (t.drop (i + 1)) [] = decide (¬ (i + 1 < t.length)) := by
  rw [natsEq_dec]
  simp
set_option maxRecDepth 100000 in
theorem rstep_some {h : AH} {x cnt : Nat} {L : List Val} {v : Val} {G : Nat → Prop} (R : Ref h x (L ++ [v]) cnt G) (hL : L.length < 100000) (hc : cnt + 1 < 4611686018427387904) (hv : v.at_ < v.text.length) (n : Nat) :
    ∃ h', X (n + 1) 16 [.ptr x 0] h = some (.bool (if v.at_ + 1 < v.text.length then false else v.blank), h') ∧
      Ref h' x (if v.at_ + 1 < v.text.length then L ++ [v.next] else L) (cnt + 1) (Plus G h h') ∧ Other G h h' := by
  have hcnt := R.count
  obtain ⟨hGx, hlt, sv, RR, S, ho⟩ := R
  have hx := hlt x hGx
  obtain ⟨id, rfl, V⟩ : ∃ id, sv = .sl id 0 (L ++ [v]).length 3 none ∧ Row h id 0 (rflat (L ++ [v])) := by
    rcases S with ⟨_, h2⟩ | ⟨id, c, e, R, hcc | ⟨h3, _⟩⟩
    · simp at h2
    · exact ⟨id, by rw [e, hcc], R⟩
    · simp at h3
  have hid := ho id rfl
  have hidlt := hlt id hid.2
  have c0 : h.cell? x 0 = some (.sl id 0 (L ++ [v]).length 3 none) := RR.cell (i := 0) rfl
  -- the count
  obtain ⟨h1, w1, n1, R1, O1⟩ := Row.write (a := [.sl id 0 (L ++ [v]).length 3 none]) (p := [.int .i64 (cnt : Int)]) (c := []) RR [.int .i64 ((cnt + 1 : Nat) : Int)] rfl
  have w1' : h.write x 1 [.int .i64 ((cnt + 1 : Nat) : Int)] = some h1 := by simpa using w1
  have R1 : Row h1 x 0 [.sl id 0 (L ++ [v]).length 3 none, .int .i64 ((cnt + 1 : Nat) : Int)] := R1
  have V1 := V.keep O1 hid.1
  have c1 : h1.cell? x 0 = some (.sl id 0 (L ++ [v]).length 3 none) := R1.cell (i := 0) rfl
  have hvi : (L ++ [v])[L.length]? = some v := by simp
  have r1 : h1.cells? id 3 (0 + L.length * 3) = some v.rcells := (row_rval V1 hvi).all
  simp only [Nat.zero_add, Val.rcells] at r1
  -- the value's own copy
  have N2 := Row.new h1 [.str [], .str [], .bool false]
  have O2 : Other (fun _ => False) h1 (h1.alloc [.str [], .str [], .bool false]) := Other.alloc _ _ _
  obtain ⟨h3, w3, n3, T3, O3⟩ := Row.write (a := []) (p := [.str [], .str [], .bool false]) (c := []) N2 [.str v.name, .str (v.text.drop v.at_), .bool v.blank] rfl
  have w3' : (h1.alloc [.str [], .str [], .bool false]).write h1.next 0 [.str v.name, .str (v.text.drop v.at_), .bool v.blank] = some h3 := by simpa using w3
  have T3' : Row h3 h1.next 0 ([.str v.name] ++ [.str (v.text.drop v.at_)] ++ [.bool v.blank]) := by simpa using T3
  have t1 : h3.cell? h1.next 1 = some (.str (v.text.drop v.at_)) := T3'.cell (i := 1) rfl
  obtain ⟨h4, w4, n4, T4, O4⟩ := Row.write T3' [.str (v.text.drop (v.at_ + 1))] rfl
  have w4' : h3.write h1.next 1 [.str (v.text.drop (v.at_ + 1))] = some h4 := by simpa using w4
  have T4 : Row h4 h1.next 0 v.next.rcells := T4
  have nn2 : (h1.alloc [.str [], .str [], .bool false]).next = h1.next + 1 := rfl
  -- up to there: x's count, and what is new
  have O14 : Other (fun _ => False) h1 h4 := ((O2.above O3 (fun j hj => .inl (by omega))).above O4 (fun j hj => .inl (by omega)))
  have R4 := R1.keep O14 (fun x => x)
  have V4 := V1.keep O14 (fun x => x)
  have c4 : h4.cell? x 0 = some (.sl id 0 (L ++ [v]).length 3 none) := R4.cell (i := 0) rfl
  -- the values below
  have O5 : Other (fun _ => False) h4 (h4.alloc []) := Other.alloc _ _ _
  have c5 : (h4.alloc []).cell? x 0 = some (.sl id 0 (L ++ [v]).length 3 none) := (R4.keep O5 (fun x => x)).cell (i := 0) rfl
  have A5 : Sl33 (h4.alloc []) (.sl h4.next 0 0 3 (some 0)) [] := .inr ⟨h4.next, some 0, rfl, Row.new h4 [], .inr ⟨rfl, rfl⟩⟩
  have B5 : Rd33 (h4.alloc []) (.sl id 0 L.length 3 none) L := .inr ⟨id, none, rfl, by
    have := V4.keep O5 (fun x => x)
    rw [rflat_append] at this
    exact this.part (a := []) (p := rflat L) (c := rflat [v]) rfl⟩
  obtain ⟨s6, h6, a6, ns6, S6, O6, w6⟩ := app33 A5 (by simp) B5 (by simp; omega)
  rw [List.nil_append] at S6
  have nn5 : (h4.alloc []).next = h4.next + 1 := rfl
  have le6 := O6.1
  have O46 : Other (fun _ => False) h4 h6 := O5.above O6 (fun j hj => .inl (by have hj : j = h4.next := hj; omega))
  have R6 := R4.keep O46 (fun x => x)
  have T6 := T4.keep O46 (fun x => x)
  obtain ⟨h7, e7, n7, R7, O7⟩ := ref_store R6 (S6.form ns6)
  have own6 : ∀ j, own s6 j → h4.next ≤ j ∧ j < h6.next := fun j hj => by
    rcases w6 j hj with e | e
    · have e : j = h4.next := e
      omega
    · omega
  have T7 := T6.keep O7 (by omega)
  have S7 := S6.keep O7 (fun j hj e => by have := own6 j hj; omega)
  have t7 : h7.cell? h1.next 1 = some (.str (v.text.drop (v.at_ + 1))) := T7.cell (i := 1) rfl
  have t7b : h7.cell? h1.next 2 = some (.bool v.blank) := T7.cell (i := 2) rfl
  have O07 : Other G h h7 := (O1.mono fun j _ e => e ▸ hGx).trans ((O14.mono fun _ _ x => x.elim).trans ((O46.mono fun _ _ x => x.elim).trans (O7.mono fun j _ e => e ▸ hGx)))
  have i1 : ∀ k, aindexAt Try.prog 33 (.sl id 0 (L ++ [v]).length 3 none) (.int k (L.length : Int)) = some (.ptr id (L.length * 3)) := fun k => by
    have := ix33 id 0 (L ++ [v]).length none (i := L.length) (by simp) k
    rwa [Nat.zero_add] at this
  have i2 : ∀ k, aslice Try.prog 33 (.sl id 0 (L ++ [v]).length 3 none) none (some (.int k (L.length : Int))) none = some (.sl id 0 L.length 3 none) := fun k => sl33 _ _ _ (by simp) k
  have i3 : ∀ k, aslice Try.prog 9 (.str (v.text.drop v.at_)) (some (.int k 1)) none none = some (.str (v.text.drop (v.at_ + 1))) := fun k => by
    have := sl9_lo (v.text.drop v.at_) (i := 1) (by simp; omega) k
    rw [List.drop_drop] at this
    exact this
  have q : (((L ++ [v]).length : Int) == 0) = false := by rw [beq_eq_false_iff_ne]; simp; omega
  have ww : IntKind.i64.wrap (((L ++ [v]).length : Int) - 1) = (L.length : Int) := by
    have el : (((L ++ [v]).length : Nat) : Int) = ((L.length + 1 : Nat) : Int) := by simp
    rw [el]; exact wrap_last _ (by omega)
  have wc := wrap_succ cnt hc
  by_cases hlast : v.at_ + 1 < v.text.length
  · have hd : natsEq (v.text.drop (v.at_ + 1)) [] = false := by rw [drop_ne]; simpa using hlast
    have key := rstep_reg9 R7 S7 ns6 (fun j hj => by have := own6 j hj; omega) T7 (by omega) (X n) n
    have fin : ∀ fr (K2 : List AV → AH → ARes), (∃ fr' h' s9, arun Try.prog (HK 16) (X n) n (.region 9 (rg Try.f16 9) true) fr h7 = some (.normal, fr', h') ∧ fr'.length = 61 ∧
        Row h' x 0 [s9, .int .i64 ((cnt + 1 : Nat) : Int)] ∧ Sl33 h' s9 (L ++ [v.next]) ∧ (∀ j, own s9 j → own s6 j ∨ (h7.next ≤ j ∧ j < h'.next)) ∧ Other (fun j => j = x ∨ own s6 j) h7 h') →
        ∃ h', fin1 (seqR (seqR (arun Try.prog (HK 16) (X n) n (.region 9 (rg Try.f16 9) true) fr h7) (fun fr' h' => some (.ret, fr'.set 2 (.bool false), h'))) K2) 2 = some (.bool false, h') ∧
          Ref h' x (L ++ [v.next]) (cnt + 1) (Plus G h h') ∧ Other G h h' := by
      rintro fr K2 ⟨fr', h', s9, e, hl, R9, S9, w9, O9⟩
      have le9 := O9.1
      refine ⟨h', ?_, ⟨.inl hGx, fun j hj => ?_, s9, R9, S9, fun j hj => ?_⟩, ?_⟩
      · rw [e]
        show fin1 (some (.ret, fr'.set 2 (.bool false), h')) 2 = _
        rw [fin1_ret, List.getD_eq_getElem?_getD, List.getElem?_set_self (by omega)]
        rfl
      · rcases hj with hj | hj
        · have := hlt j hj; have := O07.1; omega
        · exact hj.2
      · rcases w9 j hj with e | e
        · have := own6 j e
          exact ⟨by omega, .inr ⟨by omega, by omega⟩⟩
        · exact ⟨by omega, .inr ⟨by omega, by omega⟩⟩
      · exact O07.above O9 (fun j hj => by
          rcases hj with rfl | hj
          · exact .inr hGx
          · have := own6 j hj; exact .inl (by omega))
    rw [if_pos hlast, if_pos hlast]
    rw [ent16]
    unfold cd16
    simp (implicitDefEqProofs := false) only [run_seq, run_cond, run_block, run_loop, run_exit, run_ret, run_skip, ops_cons, ops_nil, ev_tmp, pureS_some, heapS_some, heapN_some, gdS_tt, gdS_ff, gdS_tf, gdS_ft, gdS_undef, List.getD_cons_succ, List.getD_cons_zero, List.set_cons_succ, List.set_cons_zero, Option.bind_some, regR_some, seqR_normal, seqR_ret, seqR_exit, fin0_ret, fin0_normal, fin1_ret, fin1_normal, finN_ret, finN_normal, List.map_cons, List.map_nil, lenV_some, pickV_t, pickV_f, callV_func, extV_tup, condR_true, condR_false, blockR_normal, blockR_ret, blockR_exit, if_true, List.nil_append, List.append_nil, List.cons_append, List.getElem?_cons_zero, List.getElem?_cons_succ, loopR_normal, loopR_exit, loopR_ret, Option.map_some, ite_true, reduceIte, reg16_0, st16_0_0, reg16_1, st16_1_0, st16_1_1, st16_1_2, st16_1_3, st16_1_4, st16_1_5, reg16_2, st16_2_0, reg16_3, st16_3_0, st16_3_1, st16_3_2, st16_3_3, st16_3_4, st16_3_5, st16_3_6, reg16_4, st16_4_0, st16_4_1, st16_4_2, st16_4_3, st16_4_4, st16_4_5, st16_4_6, st16_4_7, reg16_5, st16_5_0, st16_5_1, st16_5_2, st16_5_3, st16_5_4, st16_5_5, st16_5_6, st16_5_7, st16_5_8, reg16_6, st16_6_0, st16_6_1, st16_6_2, st16_6_3, st16_6_4, reg16_7, st16_7_0, st16_7_1, st16_7_2, st16_7_3, st16_7_4, st16_7_5, st16_7_6, st16_7_7, st16_7_8, st16_7_9, st16_7_10, st16_7_11, reg16_8, st16_8_0, st16_8_1, st16_8_2, st16_9_0, st16_9_1, st16_9_2, st16_9_3, st16_9_4, st16_9_5, st16_9_6, st16_9_7, st16_9_8, st16_9_9, st16_9_10, reg16_10, st16_10_0, reg16_11, st16_11_0, st16_11_1, st16_11_2, nilck, fa35_0, fa35_1, fa69_1, fa69_2, ld33, ld3, ld9, ld69, ld4, Nat.add_zero, Nat.zero_add, c0, c1, c4, c5, hcnt, len33, i_eql, q, i_sub, ww, i_add, wc, st3, w1', i1, r1, new69, st69, w3', t1, i3, st9, w4', bsl33_0, i2, a6, e7, t7, s_neq, hd, Bool.not_false]
    exact fin _ _ (key ..)
  · have hd : natsEq (v.text.drop (v.at_ + 1)) [] = true := by rw [drop_ne]; simpa using hlast
    rw [if_neg hlast, if_neg hlast]
    refine ⟨h7, ?_, ⟨.inl hGx, fun j hj => ?_, s6, R7, S7, fun j hj => ?_⟩, O07⟩
    · rw [ent16]
      unfold cd16
      simp (implicitDefEqProofs := false) only [run_seq, run_cond, run_block, run_loop, run_exit, run_ret, run_skip, ops_cons, ops_nil, ev_tmp, pureS_some, heapS_some, heapN_some, gdS_tt, gdS_ff, gdS_tf, gdS_ft, gdS_undef, List.getD_cons_succ, List.getD_cons_zero, List.set_cons_succ, List.set_cons_zero, Option.bind_some, regR_some, seqR_normal, seqR_ret, seqR_exit, fin0_ret, fin0_normal, fin1_ret, fin1_normal, finN_ret, finN_normal, List.map_cons, List.map_nil, lenV_some, pickV_t, pickV_f, callV_func, extV_tup, condR_true, condR_false, blockR_normal, blockR_ret, blockR_exit, if_true, List.nil_append, List.append_nil, List.cons_append, List.getElem?_cons_zero, List.getElem?_cons_succ, loopR_normal, loopR_exit, loopR_ret, Option.map_some, ite_true, reduceIte, reg16_0, st16_0_0, reg16_1, st16_1_0, st16_1_1, st16_1_2, st16_1_3, st16_1_4, st16_1_5, reg16_2, st16_2_0, reg16_3, st16_3_0, st16_3_1, st16_3_2, st16_3_3, st16_3_4, st16_3_5, st16_3_6, reg16_4, st16_4_0, st16_4_1, st16_4_2, st16_4_3, st16_4_4, st16_4_5, st16_4_6, st16_4_7, reg16_5, st16_5_0, st16_5_1, st16_5_2, st16_5_3, st16_5_4, st16_5_5, st16_5_6, st16_5_7, st16_5_8, reg16_6, st16_6_0, st16_6_1, st16_6_2, st16_6_3, st16_6_4, reg16_7, st16_7_0, st16_7_1, st16_7_2, st16_7_3, st16_7_4, st16_7_5, st16_7_6, st16_7_7, st16_7_8, st16_7_9, st16_7_10, st16_7_11, reg16_8, st16_8_0, st16_8_1, st16_8_2, st16_9_0, st16_9_1, st16_9_2, st16_9_3, st16_9_4, st16_9_5, st16_9_6, st16_9_7, st16_9_8, st16_9_9, st16_9_10, reg16_10, st16_10_0, reg16_11, st16_11_0, st16_11_1, st16_11_2, nilck, fa35_0, fa35_1, fa69_1, fa69_2, ld33, ld3, ld9, ld69, ld4, Nat.add_zero, Nat.zero_add, c0, c1, c4, c5, hcnt, len33, i_eql, q, i_sub, ww, i_add, wc, st3, w1', i1, r1, new69, st69, w3', t1, i3, st9, w4', bsl33_0, i2, a6, e7, t7, t7b, s_neq, hd, Bool.not_true]
    · rcases hj with hj | hj
      · have := hlt j hj; have := O07.1; omega
      · exact hj.2
    · have := own6 j hj
      exact ⟨by omega, .inr ⟨by omega, by omega⟩⟩
end Go.Proofs.Ytgnacecplaemlaa
