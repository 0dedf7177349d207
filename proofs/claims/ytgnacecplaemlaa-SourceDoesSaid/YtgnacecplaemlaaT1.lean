/-
  The reference's source: its shape, Active, Left, Peek.
-/
import Derived.Test.YtgnacecplaemlaaS10
import Derived.Test.YtgnacecplaemlaaG15
namespace Go.Proofs.Ytgnacecplaemlaa
open AI
set_option linter.unusedSimpArgs false
def Val.rcells (v : Val) : List AV := [.str v.name, .str (v.text.drop v.at_), .bool v.blank]
def rflat (L : List Val) : List AV := L.flatMap Val.rcells
theorem rflat_length (L : List Val) : (rflat L).length = L.length * 3 := by
  induction L with
  | nil => rfl
  | cons v L ih => simp only [rflat, List.flatMap_cons, List.length_append, List.length_cons] at ih ⊢; rw [ih]; simp [Val.rcells]; omega
theorem rflat_append (L M : List Val) : rflat (L ++ M) = rflat L ++ rflat M := by simp [rflat]
theorem rflat_get {L : List Val} {i : Nat} {v : Val} (hi : L[i]? = some v) : ∃ a c, rflat L = a ++ v.rcells ++ c ∧ a.length = i * 3 := by
  obtain ⟨h1, h2⟩ := List.getElem?_eq_some_iff.mp hi
  refine ⟨rflat (L.take i), rflat (L.drop (i + 1)), ?_, by rw [rflat_length, List.length_take, Nat.min_eq_left (by omega)]⟩
  have : L = L.take i ++ [v] ++ L.drop (i + 1) := by
    rw [← h2, List.append_assoc, List.singleton_append, List.getElem_cons_drop, List.take_append_drop]
  conv => lhs; rw [this]
  rw [rflat_append, rflat_append]
  simp [rflat]
theorem row_rval {h : AH} {id : Nat} {L : List Val} (R : Row h id 0 (rflat L)) {i : Nat} {v : Val} (hi : L[i]? = some v) : Row h id (0 + i * 3) v.rcells := by
  obtain ⟨a, c, e, hl⟩ := rflat_get hi
  rw [← hl]
  exact R.part e
/-- The slice's own block. -/
def own : AV → Nat → Prop
  | .sl id _ _ _ _, j => j = id
  | _, _ => False
/-- A slice of the values L. -/
def Sl33 (h : AH) (sv : AV) (L : List Val) : Prop :=
  (sv = .nilSl ∧ L = []) ∨ ∃ id c, sv = .sl id 0 L.length 3 c ∧ Row h id 0 (rflat L) ∧ (c = none ∨ (L = [] ∧ c = some 0))
def Ref (h : AH) (x : Nat) (L : List Val) (cnt : Nat) (G : Nat → Prop) : Prop :=
  G x ∧ (∀ j, G j → j < h.next) ∧ ∃ sv, Row h x 0 [sv, .int .i64 (cnt : Int)] ∧ Sl33 h sv L ∧ ∀ j, own sv j → j ≠ x ∧ G j
theorem Sl33.keep {h h' : AH} {sv : AV} {L : List Val} {F : Nat → Prop} (S : Sl33 h sv L) (o : Other F h h') (hd : ∀ j, own sv j → ¬ F j) : Sl33 h' sv L := by
  rcases S with ⟨h1, h2⟩ | ⟨id, c, rfl, R, hc⟩
  · exact .inl ⟨h1, h2⟩
  · exact .inr ⟨id, c, rfl, R.keep o (hd _ rfl), hc⟩
theorem Ref.keep {h h' : AH} {x cnt : Nat} {L : List Val} {G F : Nat → Prop} (R : Ref h x L cnt G) (o : Other F h h') (hd : ∀ j, G j → ¬ F j) : Ref h' x L cnt G := by
  obtain ⟨h0, hlt, sv, r, s, ho⟩ := R
  exact ⟨h0, fun j hj => Nat.lt_of_lt_of_le (hlt j hj) o.1, sv, r.keep o (hd _ h0), s.keep o (fun j hj => hd _ (ho j hj).2), ho⟩
theorem Ref.slice {h : AH} {x cnt : Nat} {L : List Val} {G : Nat → Prop} (R : Ref h x L cnt G) :
    (L = [] ∧ h.cell? x 0 = some .nilSl) ∨ ∃ id c, id ≠ x ∧ G id ∧ h.cell? x 0 = some (.sl id 0 L.length 3 c) ∧ Row h id 0 (rflat L) ∧ (c = none ∨ (L = [] ∧ c = some 0)) := by
  obtain ⟨h0, hlt, sv, r, s, ho⟩ := R
  rcases s with ⟨rfl, h2⟩ | ⟨id, c, rfl, R, hc⟩
  · exact .inl ⟨h2, r.cell (i := 0) rfl⟩
  · exact .inr ⟨id, c, (ho _ rfl).1, (ho _ rfl).2, r.cell (i := 0) rfl, R, hc⟩
theorem Ref.count {h : AH} {x cnt : Nat} {L : List Val} {G : Nat → Prop} (R : Ref h x L cnt G) : h.cell? x 1 = some (.int .i64 (cnt : Int)) := by
  obtain ⟨h0, hlt, sv, r, s, ho⟩ := R
  exact r.cell (i := 1) rfl
theorem Ref.lt {h : AH} {x cnt : Nat} {L : List Val} {G : Nat → Prop} (R : Ref h x L cnt G) : ∀ j, G j → j < h.next := R.2.1

/-! ### Active -/
def C21 (x i : Nat) (a : List Nat) : List AV := [.ptr x 0, .str a, .top, .top, .bool false, .int .i64 (i : Int), .top, .top, .top, .top, .top, .top, .top, .top, .top, .top, .top, .top, .top, .top, .top, .top, .top, .top, .top]
theorem ractive_loop {h : AH} {x cnt : Nat} {L : List Val} {G : Nat → Prop} (R : Ref h x L cnt G) (hLb : L.length < 4611686018427387904) (a : List Nat)
    (call : FuncId → List AV → AH → Option (AV × AH)) (lf : Nat) : ∀ (m i : Nat) (fr : List AV), i + m = L.length → aclear (HK 21) lp21_2 fr = C21 x i a → ∀ k,
      ∃ fr', aloop (arun Try.prog (HK 21) call lf lp21_2) (aclear (HK 21) lp21_2) (m + 1 + k) fr h = (if has (L.drop i) a then some (.ret, fr', h) else some (.exit 0, fr', h)) ∧
        (has (L.drop i) a = true → fr'.getD 4 .top = .bool true) ∧ (has (L.drop i) a = false → 4 < fr'.length)
  | 0, i, fr, hi, hc, k => by
    have e0 : i = L.length := by omega
    subst e0
    have hf : has (L.drop L.length) a = false := by simp [has]
    have d : decide ((L.length : Int) < (L.length : Int)) = false := by simp
    have d0 : decide ((0 : Int) < ((0 : Nat) : Int)) = false := by decide
    have key : ∀ fr : List AV, 4 < fr.length → ∃ fr', (some (.exit 0, fr, h) : ARes) = some (.exit 0, fr', h) ∧ (has (L.drop L.length) a = true → fr'.getD 4 .top = .bool true) ∧ (has (L.drop L.length) a = false → 4 < fr'.length) :=
      fun fr hl => ⟨fr, rfl, by rw [hf]; simp, fun _ => hl⟩
    rw [show 0 + 1 + k = k + 1 by omega, loop_succ, hc]
    conv => enter [1, fr', 1, 2]; rw [hf]
    conv => enter [1, fr', 1, 1, 1]; unfold lp21_2
    rcases R.slice with ⟨rfl, hcell⟩ | ⟨id, c, _, _, hcell, hR, hcc⟩
    · simp (implicitDefEqProofs := false) only [C21, run_seq, run_cond, run_block, run_loop, run_exit, run_ret, run_skip, ops_cons, ops_nil, ev_tmp, pureS_some, heapS_some, heapN_some, gdS_tt, gdS_ff, gdS_tf, gdS_ft, gdS_undef, List.getD_cons_succ, List.getD_cons_zero, List.set_cons_succ, List.set_cons_zero, Option.bind_some, regR_some, seqR_normal, seqR_ret, seqR_exit, fin0_ret, fin0_normal, fin1_ret, fin1_normal, finN_ret, finN_normal, List.map_cons, List.map_nil, lenV_some, pickV_t, pickV_f, callV_func, extV_tup, condR_true, condR_false, blockR_normal, blockR_ret, blockR_exit, if_true, List.nil_append, List.append_nil, List.cons_append, List.getElem?_cons_zero, List.getElem?_cons_succ, loopR_normal, loopR_exit, loopR_ret, Option.map_some, ite_true, reduceIte, reg21_0, st21_0_0, reg21_1, st21_1_0, reg21_2, st21_2_0, st21_2_1, st21_2_2, st21_2_3, st21_2_4, st21_2_5, st21_2_6, reg21_4, st21_4_0, st21_4_1, st21_4_2, st21_4_3, st21_4_4, st21_4_5, st21_4_6, st21_4_7, st21_4_8, st21_4_9, reg21_5, st21_5_0, reg21_3, st21_3_0, st21_3_1, st21_3_2, reg21_6, st21_6_0, nilck, fa35_0, ld33, Nat.add_zero, hcell, len33n, i_lss, d0, List.length_nil, Bool.false_eq_true, if_false, ite_false, nat0]
      exact key _ (by simp only [List.length_cons]; omega)
    · simp (implicitDefEqProofs := false) only [C21, run_seq, run_cond, run_block, run_loop, run_exit, run_ret, run_skip, ops_cons, ops_nil, ev_tmp, pureS_some, heapS_some, heapN_some, gdS_tt, gdS_ff, gdS_tf, gdS_ft, gdS_undef, List.getD_cons_succ, List.getD_cons_zero, List.set_cons_succ, List.set_cons_zero, Option.bind_some, regR_some, seqR_normal, seqR_ret, seqR_exit, fin0_ret, fin0_normal, fin1_ret, fin1_normal, finN_ret, finN_normal, List.map_cons, List.map_nil, lenV_some, pickV_t, pickV_f, callV_func, extV_tup, condR_true, condR_false, blockR_normal, blockR_ret, blockR_exit, if_true, List.nil_append, List.append_nil, List.cons_append, List.getElem?_cons_zero, List.getElem?_cons_succ, loopR_normal, loopR_exit, loopR_ret, Option.map_some, ite_true, reduceIte, reg21_0, st21_0_0, reg21_1, st21_1_0, reg21_2, st21_2_0, st21_2_1, st21_2_2, st21_2_3, st21_2_4, st21_2_5, st21_2_6, reg21_4, st21_4_0, st21_4_1, st21_4_2, st21_4_3, st21_4_4, st21_4_5, st21_4_6, st21_4_7, st21_4_8, st21_4_9, reg21_5, st21_5_0, reg21_3, st21_3_0, st21_3_1, st21_3_2, reg21_6, st21_6_0, nilck, fa35_0, ld33, Nat.add_zero, hcell, len33, i_lss, d, Bool.false_eq_true, if_false, ite_false]
      exact key _ (by simp only [List.length_cons]; omega)
  | m + 1, i, fr, hi, hc, k => by
    have hlt : i < L.length := by omega
    have hv : L[i]? = some L[i] := by simp [hlt]
    have ed : L.drop i = L[i] :: L.drop (i + 1) := (List.getElem_cons_drop hlt).symm
    have hh : has (L.drop i) a = (natsEq (L[i]).name a || has (L.drop (i + 1)) a) := by unfold has; rw [ed, List.any_cons]
    have d : decide ((i : Int) < (L.length : Int)) = true := by simp; omega
    have w3 := wrap_succ i (by omega)
    have ih := fun fr hcl => ractive_loop R hLb a call lf m (i + 1) fr (by omega) hcl k
    generalize L[i] = v at hv hh
    rcases R.slice with ⟨rfl, _⟩ | ⟨id, c, _, _, hcell, hR, hcc⟩
    · simp at hlt
    · have r := row_rval hR hv
      have r1 : h.cell? id (0 + i * 3) = some (.str v.name) := r.cell (i := 0) rfl
      have i1 : ∀ k, aindexAt Try.prog 33 (.sl id 0 L.length 3 c) (.int k (i : Int)) = some (.ptr id (0 + i * 3)) := fun k => ix33 _ _ _ _ hlt k
      rw [show m + 1 + 1 + k = (m + 1 + k) + 1 by omega, loop_succ, hc, hh]
      conv => enter [1, fr', 1, 1, 1]; unfold lp21_2
      cases hn : natsEq v.name a
      · rw [Bool.false_or]
        simp (implicitDefEqProofs := false) only [C21, run_seq, run_cond, run_block, run_loop, run_exit, run_ret, run_skip, ops_cons, ops_nil, ev_tmp, pureS_some, heapS_some, heapN_some, gdS_tt, gdS_ff, gdS_tf, gdS_ft, gdS_undef, List.getD_cons_succ, List.getD_cons_zero, List.set_cons_succ, List.set_cons_zero, Option.bind_some, regR_some, seqR_normal, seqR_ret, seqR_exit, fin0_ret, fin0_normal, fin1_ret, fin1_normal, finN_ret, finN_normal, List.map_cons, List.map_nil, lenV_some, pickV_t, pickV_f, callV_func, extV_tup, condR_true, condR_false, blockR_normal, blockR_ret, blockR_exit, if_true, List.nil_append, List.append_nil, List.cons_append, List.getElem?_cons_zero, List.getElem?_cons_succ, loopR_normal, loopR_exit, loopR_ret, Option.map_some, ite_true, reduceIte, reg21_0, st21_0_0, reg21_1, st21_1_0, reg21_2, st21_2_0, st21_2_1, st21_2_2, st21_2_3, st21_2_4, st21_2_5, st21_2_6, reg21_4, st21_4_0, st21_4_1, st21_4_2, st21_4_3, st21_4_4, st21_4_5, st21_4_6, st21_4_7, st21_4_8, st21_4_9, reg21_5, st21_5_0, reg21_3, st21_3_0, st21_3_1, st21_3_2, reg21_6, st21_6_0, nilck, fa35_0, ld33, Nat.add_zero, hcell, len33, i_lss, d, i1, fa69_0, ld9, r1, s_eql, hn, i_add, w3]
        exact ih _ (by rw [cl21_2]; rfl)
      · rw [Bool.true_or]
        simp (implicitDefEqProofs := false) only [C21, run_seq, run_cond, run_block, run_loop, run_exit, run_ret, run_skip, ops_cons, ops_nil, ev_tmp, pureS_some, heapS_some, heapN_some, gdS_tt, gdS_ff, gdS_tf, gdS_ft, gdS_undef, List.getD_cons_succ, List.getD_cons_zero, List.set_cons_succ, List.set_cons_zero, Option.bind_some, regR_some, seqR_normal, seqR_ret, seqR_exit, fin0_ret, fin0_normal, fin1_ret, fin1_normal, finN_ret, finN_normal, List.map_cons, List.map_nil, lenV_some, pickV_t, pickV_f, callV_func, extV_tup, condR_true, condR_false, blockR_normal, blockR_ret, blockR_exit, if_true, List.nil_append, List.append_nil, List.cons_append, List.getElem?_cons_zero, List.getElem?_cons_succ, loopR_normal, loopR_exit, loopR_ret, Option.map_some, ite_true, reduceIte, reg21_0, st21_0_0, reg21_1, st21_1_0, reg21_2, st21_2_0, st21_2_1, st21_2_2, st21_2_3, st21_2_4, st21_2_5, st21_2_6, reg21_4, st21_4_0, st21_4_1, st21_4_2, st21_4_3, st21_4_4, st21_4_5, st21_4_6, st21_4_7, st21_4_8, st21_4_9, reg21_5, st21_5_0, reg21_3, st21_3_0, st21_3_1, st21_3_2, reg21_6, st21_6_0, nilck, fa35_0, ld33, Nat.add_zero, hcell, len33, i_lss, d, i1, fa69_0, ld9, r1, s_eql, hn, i_add, w3]
        exact ⟨_, rfl, fun _ => rfl, fun h => by simp at h⟩
theorem ractive_ok {h : AH} {x cnt : Nat} {L : List Val} {G : Nat → Prop} (R : Ref h x L cnt G) (a : List Nat) (hLb : L.length < 4611686018427387904) (n : Nat) (hn : L.length + 2 ≤ n) :
    X (n + 1) 21 [.ptr x 0, .str a] h = some (.bool (has L a), h) := by
  obtain ⟨k, rfl⟩ : ∃ k, n = L.length + 1 + k := ⟨n - (L.length + 1), by omega⟩
  rw [ent21]
  unfold cd21
  have l' : ∀ fr, aclear (HK 21) lp21_2 fr = C21 x 0 a → fin1 (seqR (blockR 0 (aloop (arun Try.prog (HK 21) (X (L.length + 1 + k)) (L.length + 1 + k) lp21_2) (aclear (HK 21) lp21_2) (L.length + 1 + k) fr h))
      (fun fr' h' => some (.ret, fr'.set 4 (.bool false), h'))) 4 = some (.bool (has L a), h) := fun fr hcl => by
    obtain ⟨fr', e', g, g2⟩ := ractive_loop R hLb a (X (L.length + 1 + k)) (L.length + 1 + k) L.length 0 fr (by omega) hcl k
    rw [List.drop_zero] at e' g g2
    rw [e']
    cases hh : has L a
    · show fin1 (some (.ret, fr'.set 4 (.bool false), h)) 4 = _
      rw [fin1_ret, List.getD_eq_getElem?_getD, List.getElem?_set_self (g2 hh)]
      rfl
    · show fin1 (some (.ret, fr', h)) 4 = _
      rw [fin1_ret, g hh]
  simp (implicitDefEqProofs := false) only [run_seq, run_cond, run_block, run_loop, run_exit, run_ret, run_skip, ops_cons, ops_nil, ev_tmp, pureS_some, heapS_some, heapN_some, gdS_tt, gdS_ff, gdS_tf, gdS_ft, gdS_undef, List.getD_cons_succ, List.getD_cons_zero, List.set_cons_succ, List.set_cons_zero, Option.bind_some, regR_some, seqR_normal, seqR_ret, seqR_exit, fin0_ret, fin0_normal, fin1_ret, fin1_normal, finN_ret, finN_normal, List.map_cons, List.map_nil, lenV_some, pickV_t, pickV_f, callV_func, extV_tup, condR_true, condR_false, blockR_normal, blockR_ret, blockR_exit, if_true, List.nil_append, List.append_nil, List.cons_append, List.getElem?_cons_zero, List.getElem?_cons_succ, loopR_normal, loopR_exit, loopR_ret, Option.map_some, ite_true, reduceIte, reg21_0, st21_0_0, reg21_1, st21_1_0, reg21_2, st21_2_0, st21_2_1, st21_2_2, st21_2_3, st21_2_4, st21_2_5, st21_2_6, reg21_4, st21_4_0, st21_4_1, st21_4_2, st21_4_3, st21_4_4, st21_4_5, st21_4_6, st21_4_7, st21_4_8, st21_4_9, reg21_5, st21_5_0, reg21_3, st21_3_0, st21_3_1, st21_3_2, reg21_6, st21_6_0, nat0]
  exact l' _ (by rw [cl21_2]; rfl)
end Go.Proofs.Ytgnacecplaemlaa
