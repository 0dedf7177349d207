/-
  The reference's source, on: appends, Enter.
-/
import Derived.Test.YtgnacecplaemlaaT2
namespace Go.Proofs.Ytgnacecplaemlaa
open AI
set_option linter.unusedSimpArgs false
theorem bsl33_0 (h : AH) : bslV Try.prog 33 0 [] h = some (.sl h.next 0 0 3 (some 0), h.alloc []) := by kernel_rfl
theorem bsl33_1 (a b : List Nat) (y : Bool) (h : AH) : bslV Try.prog 33 1 [(0, .agg [.str a, .str b, .bool y])] h = some (.sl h.next 0 1 3 (some 1), h.alloc [.str a, .str b, .bool y]) := by kernel_rfl
theorem bld69 (a b : List Nat) (y : Bool) : abuild Try.prog 69 [(0, .str a), (1, .str b), (2, .bool y)] = some (.agg [.str a, .str b, .bool y]) := by kernel_rfl
noncomputable def b69 : Nat := match Try.prog.info? 69 with | some i => i.bytes | none => 0
theorem b69_le : b69 ≤ 1024 := of_decide_eq_true (by kernel_rfl)
theorem room69 (n : Nat) (hn : n ≤ 1000000) : Nat.blt 140737488355328 (n * b69) = false := by
  cases hx : Nat.blt 140737488355328 (n * b69)
  · rfl
  · have := Nat.blt_eq.mp hx
    have := Nat.mul_le_mul hn b69_le
    omega
theorem app33_sl (id len nb n : Nat) (c c' : Option Nat) (h : AH) : aappend Try.prog 33 33 (.sl id 0 len 3 c) (.sl nb 0 n 3 c') h =
    if n = 0 then some (.sl id 0 len 3 c, h) else
    if Nat.blt 140737488355328 ((len + n) * b69) then none else
    match h.cells? nb (n * 3) 0, h.cells? id (len * 3) 0 with
    | some new, some old =>
      match c with
      | some k => if Nat.blt k (len + n) then some (.sl h.next 0 (len + n) 3 none, h.alloc (old ++ new)) else aappend.amove h id 0 len n 3 new
      | none => aappend.amove h id 0 len n 3 new
    | _, _ => none := by kernel_rfl
theorem app33_nil (id len : Nat) (c : Option Nat) (h : AH) : aappend Try.prog 33 33 (.sl id 0 len 3 c) .nilSl h = some (.sl id 0 len 3 c, h) := by kernel_rfl
theorem rcells_atoms (L : List Val) : atoms (rflat L) = true := by
  induction L with
  | nil => rfl
  | cons v L ih => simp only [rflat, List.flatMap_cons] at ih ⊢; simp only [Val.rcells, List.cons_append, List.nil_append, atoms, AV.atom, Bool.true_and]; exact ih
theorem Other.above {F G : Nat → Prop} {a b c : AH} (x : Other F a b) (y : Other G b c) (hg : ∀ j, G j → a.next ≤ j ∨ F j) : Other F a c :=
  ⟨Nat.le_trans x.1 y.1, fun j hj hf => (y.2 j (Nat.lt_of_lt_of_le hj x.1) (fun g => (hg j g).elim (fun q => by omega) hf)).trans (x.2 j hj hf)⟩
/-- A slice that is read: any room. -/
def Rd33 (h : AH) (sv : AV) (L : List Val) : Prop := (sv = .nilSl ∧ L = []) ∨ ∃ id c, sv = .sl id 0 L.length 3 c ∧ Row h id 0 (rflat L)
theorem Sl33.rd {h : AH} {sv : AV} {L : List Val} (S : Sl33 h sv L) : Rd33 h sv L := by
  rcases S with h | ⟨id, c, e, R, _⟩
  · exact .inl h
  · exact .inr ⟨id, c, e, R⟩
theorem app33 {h : AH} {sa sb : AV} {La Lb : List Val} (A : Sl33 h sa La) (hna : sa ≠ .nilSl) (B : Rd33 h sb Lb) (hlen : La.length + Lb.length ≤ 1000000) :
    ∃ sv h', aappend Try.prog 33 33 sa sb h = some (sv, h') ∧ sv ≠ .nilSl ∧ Sl33 h' sv (La ++ Lb) ∧ Other (own sa) h h' ∧ ∀ j, own sv j → own sa j ∨ (h.next ≤ j ∧ j < h'.next) := by
  rcases A with ⟨h1, _⟩ | ⟨id, c, rfl, R, hc⟩
  · exact absurd h1 hna
  · rcases B with ⟨rfl, rfl⟩ | ⟨nb, c', rfl, RB⟩
    · rw [List.append_nil]
      exact ⟨_, h, app33_nil _ _ _ _, by simp, .inr ⟨id, c, rfl, R, hc⟩, Other.refl _ _, fun j hj => .inl hj⟩
    · rw [app33_sl]
      by_cases h0 : Lb.length = 0
      · obtain rfl : Lb = [] := List.eq_nil_of_length_eq_zero h0
        rw [if_pos h0, List.append_nil]
        exact ⟨_, h, rfl, by simp, .inr ⟨id, c, rfl, R, hc⟩, Other.refl _ _, fun j hj => .inl hj⟩
      · have cb : h.cells? nb (Lb.length * 3) 0 = some (rflat Lb) := by have := RB.all; rwa [rflat_length] at this
        have ca : h.cells? id (La.length * 3) 0 = some (rflat La) := by have := R.all; rwa [rflat_length] at this
        rw [if_neg h0, room69 _ hlen, cb, ca]
        simp only [Bool.false_eq_true, if_false]
        rcases hc with rfl | ⟨rfl, rfl⟩
        · obtain ⟨h', e, n', V, O⟩ := Row.move (len := La.length) (n := Lb.length) (es := 3) (new := rflat Lb) R (rflat_length La) (rflat_length Lb) (rcells_atoms Lb)
          refine ⟨_, h', e, by simp, .inr ⟨h.next, none, by rw [List.length_append], by rw [rflat_append]; exact V, .inl rfl⟩, O, fun j hj => .inr ?_⟩
          have hj : j = h.next := hj
          omega
        · have hb : Nat.blt 0 (([] : List Val).length + Lb.length) = true := Nat.blt_eq.mpr (by simp; omega)
          simp only [hb, if_true]
          refine ⟨_, _, rfl, by simp, .inr ⟨h.next, none, by rw [List.length_append], ?_, .inl rfl⟩, Other.alloc _ _ _, fun j hj => .inr ?_⟩
          · rw [rflat_append]; exact Row.new h _
          · have hj : j = h.next := hj
            have : (h.alloc (rflat [] ++ rflat Lb)).next = h.next + 1 := rfl
            omega
theorem st33 (id off : Nat) (h : AH) (a b c d : Nat) (e : Option Nat) : stV Try.prog 33 (.ptr id off) (.sl a b c d e) h = (h.write id off [.sl a b c d e]).map fun h' => (.tup [], h') := by kernel_rfl
/-- The slice's cell, written anew. -/
theorem ref_store {h : AH} {x : Nat} {s0 sv : AV} {cnt : Nat} (R : Row h x 0 [s0, .int .i64 (cnt : Int)]) (hsv : ∃ id len c, sv = .sl id 0 len 3 c) :
    ∃ h', stV Try.prog 33 (.ptr x 0) sv h = some (.tup [], h') ∧ h'.next = h.next ∧ Row h' x 0 [sv, .int .i64 (cnt : Int)] ∧ Other (fun j => j = x) h h' := by
  obtain ⟨id, len, c, rfl⟩ := hsv
  obtain ⟨h3, w3, n3, R3, O3⟩ := Row.write (a := []) (p := [s0]) (c := [.int .i64 (cnt : Int)]) R [.sl id 0 len 3 c] rfl
  refine ⟨h3, ?_, n3, R3, O3⟩
  rw [st33, show h.write x 0 [.sl id 0 len 3 c] = some h3 by simpa using w3]
  rfl
theorem Sl33.form {h : AH} {sv : AV} {L : List Val} (S : Sl33 h sv L) (hn : sv ≠ .nilSl) : ∃ id len c, sv = .sl id 0 len 3 c := by
  rcases S with ⟨h1, _⟩ | ⟨id, c, e, _⟩
  · exact absurd h1 hn
  · exact ⟨id, _, c, e⟩

/-! ### Enter -/
theorem len_snoc' (l : List Nat) (x : Nat) : (l ++ [x]).length = l.length + 1 := by simp
theorem ix9e (s : List Nat) (b : Nat) (k : IntKind) : aindex Try.prog 9 (.str (s ++ [b])) (.int k (s.length : Int)) = some (.int .u8 (b : Int)) := ix9 (i := s.length) _ (by simp) k
theorem u_eql (xo yo : Operand) (a b : Int) : abin Try.prog .eql 5 xo yo (.int .u8 a) (.int .u8 b) = some (.bool (a == b)) := rfl
theorem renter_no {h : AH} {x cnt : Nat} {L : List Val} {G : Nat → Prop} (R : Ref h x L cnt G) (nm value : List Nat) (hno : mayEnter L nm value = false) (hLb : L.length < 4611686018427387904) (n : Nat) (hn : L.length + 3 ≤ n) :
    X (n + 1) 15 [.ptr x 0, .str nm, .str value] h = some (.bool false, h) := by
  obtain ⟨m, rfl⟩ : ∃ m, n = m + 1 := ⟨n - 1, by omega⟩
  have e1 := ractive_ok R nm hLb m (by omega)
  rw [ent15]
  unfold cd15
  cases hh : has L nm
  · rw [hh] at e1
    by_cases h40 : 40 ≤ L.length
    · have d : decide ((L.length : Int) ≥ 40) = true := by simp; omega
      rcases R.slice with ⟨rfl, hc⟩ | ⟨id, c, _, _, hc, _⟩
      · simp at h40
      · simp (implicitDefEqProofs := false) only [run_seq, run_cond, run_block, run_loop, run_exit, run_ret, run_skip, ops_cons, ops_nil, ev_tmp, pureS_some, heapS_some, heapN_some, gdS_tt, gdS_ff, gdS_tf, gdS_ft, gdS_undef, List.getD_cons_succ, List.getD_cons_zero, List.set_cons_succ, List.set_cons_zero, Option.bind_some, regR_some, seqR_normal, seqR_ret, seqR_exit, fin0_ret, fin0_normal, fin1_ret, fin1_normal, finN_ret, finN_normal, List.map_cons, List.map_nil, lenV_some, pickV_t, pickV_f, callV_func, extV_tup, condR_true, condR_false, blockR_normal, blockR_ret, blockR_exit, if_true, List.nil_append, List.append_nil, List.cons_append, List.getElem?_cons_zero, List.getElem?_cons_succ, loopR_normal, loopR_exit, loopR_ret, Option.map_some, ite_true, reduceIte, reg15_0, st15_0_0, reg15_1, st15_1_0, st15_1_1, st15_1_2, st15_1_3, st15_1_4, st15_1_5, st15_1_6, st15_1_7, st15_1_8, st15_1_9, st15_1_10, st15_1_11, st15_1_12, st15_1_13, st15_1_14, st15_1_15, reg15_2, st15_2_0, reg15_3, st15_3_0, st15_3_1, st15_3_2, reg15_4, st15_4_0, st15_4_1, st15_4_2, st15_4_3, st15_4_4, st15_4_5, st15_4_6, st15_4_7, st15_4_8, st15_4_9, st15_4_10, st15_4_11, st15_4_12, st15_4_13, st15_4_14, st15_4_15, st15_4_16, reg15_5, st15_5_0, st15_5_1, st15_5_2, st15_5_3, st15_5_4, st15_5_5, st15_5_6, st15_5_7, st15_5_8, st15_5_9, st15_5_10, st15_5_11, st15_5_12, st15_5_13, st15_5_14, st15_5_15, st15_5_16, reg15_6, st15_6_0, e1, nilck, fa35_0, ld33, Nat.add_zero, hc, len33, i_geq, d]
    · have d : decide ((L.length : Int) ≥ 40) = false := by simp; omega
      have d2 : decide ((value.length : Int) > 200) = true := by
        simp [mayEnter, hh] at hno
        have := hno (by omega)
        simp; omega
      have d0 : decide (((0 : Nat) : Int) ≥ 40) = false := by decide
      rcases R.slice with ⟨rfl, hc⟩ | ⟨id, c, _, _, hc, _⟩ <;>
      simp (implicitDefEqProofs := false) only [run_seq, run_cond, run_block, run_loop, run_exit, run_ret, run_skip, ops_cons, ops_nil, ev_tmp, pureS_some, heapS_some, heapN_some, gdS_tt, gdS_ff, gdS_tf, gdS_ft, gdS_undef, List.getD_cons_succ, List.getD_cons_zero, List.set_cons_succ, List.set_cons_zero, Option.bind_some, regR_some, seqR_normal, seqR_ret, seqR_exit, fin0_ret, fin0_normal, fin1_ret, fin1_normal, finN_ret, finN_normal, List.map_cons, List.map_nil, lenV_some, pickV_t, pickV_f, callV_func, extV_tup, condR_true, condR_false, blockR_normal, blockR_ret, blockR_exit, if_true, List.nil_append, List.append_nil, List.cons_append, List.getElem?_cons_zero, List.getElem?_cons_succ, loopR_normal, loopR_exit, loopR_ret, Option.map_some, ite_true, reduceIte, reg15_0, st15_0_0, reg15_1, st15_1_0, st15_1_1, st15_1_2, st15_1_3, st15_1_4, st15_1_5, st15_1_6, st15_1_7, st15_1_8, st15_1_9, st15_1_10, st15_1_11, st15_1_12, st15_1_13, st15_1_14, st15_1_15, reg15_2, st15_2_0, reg15_3, st15_3_0, st15_3_1, st15_3_2, reg15_4, st15_4_0, st15_4_1, st15_4_2, st15_4_3, st15_4_4, st15_4_5, st15_4_6, st15_4_7, st15_4_8, st15_4_9, st15_4_10, st15_4_11, st15_4_12, st15_4_13, st15_4_14, st15_4_15, st15_4_16, reg15_5, st15_5_0, st15_5_1, st15_5_2, st15_5_3, st15_5_4, st15_5_5, st15_5_6, st15_5_7, st15_5_8, st15_5_9, st15_5_10, st15_5_11, st15_5_12, st15_5_13, st15_5_14, st15_5_15, st15_5_16, reg15_6, st15_6_0, e1, nilck, fa35_0, ld33, Nat.add_zero, hc, len33, len33n, i_geq, d, d0, len9, i_gtr, d2]
  · rw [hh] at e1
    simp (implicitDefEqProofs := false) only [run_seq, run_cond, run_block, run_loop, run_exit, run_ret, run_skip, ops_cons, ops_nil, ev_tmp, pureS_some, heapS_some, heapN_some, gdS_tt, gdS_ff, gdS_tf, gdS_ft, gdS_undef, List.getD_cons_succ, List.getD_cons_zero, List.set_cons_succ, List.set_cons_zero, Option.bind_some, regR_some, seqR_normal, seqR_ret, seqR_exit, fin0_ret, fin0_normal, fin1_ret, fin1_normal, finN_ret, finN_normal, List.map_cons, List.map_nil, lenV_some, pickV_t, pickV_f, callV_func, extV_tup, condR_true, condR_false, blockR_normal, blockR_ret, blockR_exit, if_true, List.nil_append, List.append_nil, List.cons_append, List.getElem?_cons_zero, List.getElem?_cons_succ, loopR_normal, loopR_exit, loopR_ret, Option.map_some, ite_true, reduceIte, reg15_0, st15_0_0, reg15_1, st15_1_0, st15_1_1, st15_1_2, st15_1_3, st15_1_4, st15_1_5, st15_1_6, st15_1_7, st15_1_8, st15_1_9, st15_1_10, st15_1_11, st15_1_12, st15_1_13, st15_1_14, st15_1_15, reg15_2, st15_2_0, reg15_3, st15_3_0, st15_3_1, st15_3_2, reg15_4, st15_4_0, st15_4_1, st15_4_2, st15_4_3, st15_4_4, st15_4_5, st15_4_6, st15_4_7, st15_4_8, st15_4_9, st15_4_10, st15_4_11, st15_4_12, st15_4_13, st15_4_14, st15_4_15, st15_4_16, reg15_5, st15_5_0, st15_5_1, st15_5_2, st15_5_3, st15_5_4, st15_5_5, st15_5_6, st15_5_7, st15_5_8, st15_5_9, st15_5_10, st15_5_11, st15_5_12, st15_5_13, st15_5_14, st15_5_15, st15_5_16, reg15_6, st15_6_0, e1]
theorem renter_yes {h : AH} {x cnt : Nat} {L : List Val} {G : Nat → Prop} (R : Ref h x L cnt G) (nm value : List Nat) (hyes : mayEnter L nm value = true) (n : Nat) (hn : L.length + 3 ≤ n) :
    ∃ h', X (n + 1) 15 [.ptr x 0, .str nm, .str value] h = some (.bool true, h') ∧ Ref h' x (L ++ [⟨nm, value ++ [32], 0, isBlank value⟩]) cnt (Plus G h h') ∧ Other G h h' := by
  obtain ⟨m, rfl⟩ : ∃ m, n = m + 1 := ⟨n - 1, by omega⟩
  simp only [mayEnter, Bool.and_eq_true, Bool.not_eq_true', decide_eq_true_eq] at hyes
  obtain ⟨⟨hh, h40⟩, h200⟩ := hyes
  have e1 := ractive_ok R nm (by omega) m (by omega)
  rw [hh] at e1
  have d : decide ((L.length : Int) ≥ 40) = false := by simp; omega
  have d2 : decide ((value.length : Int) > 200) = false := by simp; omega
  have d0 : decide (((0 : Nat) : Int) ≥ 40) = false := by decide
  have sa : ∀ xo yo, abin Try.prog .add 9 xo yo (.str value) (.str [32]) = some (.str (value ++ [32])) := fun xo yo => s_add _ _ _ _ (by simp; omega)
  let v : Val := ⟨nm, value ++ [32], 0, isBlank value⟩
  obtain ⟨hGx, hlt, sv, RR, S, ho⟩ := R
  have c0 := RR.cell (i := 0) rfl
  -- the empty slice; the old one behind it; the new value; both
  have O1 : Other (fun _ => False) h (h.alloc []) := Other.alloc _ h []
  have A1 : Sl33 (h.alloc []) (.sl h.next 0 0 3 (some 0)) [] := .inr ⟨h.next, some 0, rfl, Row.new h [], .inr ⟨rfl, rfl⟩⟩
  have S1 := S.keep O1 (fun _ _ x => x)
  have c1 : (h.alloc []).cell? x 0 = some sv := (RR.keep O1 (fun x => x)).cell (i := 0) rfl
  obtain ⟨s2, h2, a2, ns2, S2, O2, w2⟩ := app33 A1 (by simp) S1.rd (by simp; omega)
  rw [List.nil_append] at S2
  have N3 := Row.new h2 v.rcells
  have O3 : Other (fun _ => False) h2 (h2.alloc v.rcells) := Other.alloc _ _ _
  have B3 : Rd33 (h2.alloc v.rcells) (.sl h2.next 0 1 3 (some 1)) [v] := .inr ⟨h2.next, some 1, rfl, by simpa [rflat] using N3⟩
  obtain ⟨s4, h4, a4, ns4, S4, O4, w4⟩ := app33 (S2.keep O3 (fun _ _ x => x)) ns2 B3 (by simp; omega)
  have hx1 : x < h.next := hlt _ hGx
  have nn1 : (h.alloc []).next = h.next + 1 := rfl
  have nn3 : (h2.alloc v.rcells).next = h2.next + 1 := rfl
  have le2 := O2.1
  have le4 := O4.1
  have own2 : ∀ j, own s2 j → h.next ≤ j := fun j hj => by
    rcases w2 j hj with e | e
    · have e : j = h.next := e
      omega
    · omega
  have own4 : ∀ j, own s4 j → h.next ≤ j ∧ j < h4.next := fun j hj => by
    rcases w4 j hj with e | e
    · have := own2 j e
      refine ⟨this, ?_⟩
      rcases w2 j e with e | e
      · have e : j = h.next := e
        omega
      · omega
    · exact ⟨by omega, e.2⟩
  have Oall : Other (fun _ => False) h h4 := ((O1.above O2 (fun j hj => .inl (by have hj : j = h.next := hj; omega))).trans (O3.mono fun _ _ x => x) |> fun o => o).above O4 (fun j hj => .inl (own2 j hj))
  have R4 := RR.keep Oall (fun x => x)
  obtain ⟨h5, e5, n5, R5, O5⟩ := ref_store R4 (S4.form ns4)
  have fin : Ref h5 x (L ++ [v]) cnt (Plus G h h5) ∧ Other G h h5 := by
    refine ⟨⟨.inl hGx, fun j hj => ?_, s4, R5, S4.keep O5 (fun j hj e => by have := own4 j hj; omega), fun j hj => ?_⟩, (Oall.mono fun _ _ x => x.elim).trans (O5.mono fun j _ e => e ▸ hGx)⟩
    · rcases hj with hj | hj
      · have := hlt j hj; omega
      · exact hj.2
    · have := own4 j hj
      exact ⟨by omega, .inr ⟨by omega, by omega⟩⟩
  have ls : alen Try.prog 33 sv = some L.length := by
    rcases S with ⟨rfl, rfl⟩ | ⟨id, c, rfl, _⟩
    · exact len33n
    · exact len33 ..
  refine ⟨h5, ?_, fin⟩
  simp only [Val.rcells, v, List.drop_zero] at a4
  rw [Nat.add_zero] at c0
  rw [ent15]
  unfold cd15
  rcases List.eq_nil_or_concat value with rfl | ⟨t, b, rfl⟩
  · have d3 : decide (((([] : List Nat).length : Nat) : Int) > 0) = false := by decide
    have hb : isBlank [] = false := rfl
    simp only [hb, List.nil_append] at a4
    simp (implicitDefEqProofs := false) only [run_seq, run_cond, run_block, run_loop, run_exit, run_ret, run_skip, ops_cons, ops_nil, ev_tmp, pureS_some, heapS_some, heapN_some, gdS_tt, gdS_ff, gdS_tf, gdS_ft, gdS_undef, List.getD_cons_succ, List.getD_cons_zero, List.set_cons_succ, List.set_cons_zero, Option.bind_some, regR_some, seqR_normal, seqR_ret, seqR_exit, fin0_ret, fin0_normal, fin1_ret, fin1_normal, finN_ret, finN_normal, List.map_cons, List.map_nil, lenV_some, pickV_t, pickV_f, callV_func, extV_tup, condR_true, condR_false, blockR_normal, blockR_ret, blockR_exit, if_true, List.nil_append, List.append_nil, List.cons_append, List.getElem?_cons_zero, List.getElem?_cons_succ, loopR_normal, loopR_exit, loopR_ret, Option.map_some, ite_true, reduceIte, reg15_0, st15_0_0, reg15_1, st15_1_0, st15_1_1, st15_1_2, st15_1_3, st15_1_4, st15_1_5, st15_1_6, st15_1_7, st15_1_8, st15_1_9, st15_1_10, st15_1_11, st15_1_12, st15_1_13, st15_1_14, st15_1_15, reg15_2, st15_2_0, reg15_3, st15_3_0, st15_3_1, st15_3_2, reg15_4, st15_4_0, st15_4_1, st15_4_2, st15_4_3, st15_4_4, st15_4_5, st15_4_6, st15_4_7, st15_4_8, st15_4_9, st15_4_10, st15_4_11, st15_4_12, st15_4_13, st15_4_14, st15_4_15, st15_4_16, reg15_5, st15_5_0, st15_5_1, st15_5_2, st15_5_3, st15_5_4, st15_5_5, st15_5_6, st15_5_7, st15_5_8, st15_5_9, st15_5_10, st15_5_11, st15_5_12, st15_5_13, st15_5_14, st15_5_15, st15_5_16, reg15_6, st15_6_0, e1, nilck, fa35_0, ld33, Nat.add_zero, c0, ls, i_geq, d, len9, i_gtr, d2, d3, bsl33_0, c1, a2, sa, bld69, bsl33_1, a4, e5]
  · simp only [List.concat_eq_append] at *
    have d3 : decide (((t ++ [b]).length : Int) > 0) = true := by rw [len_snoc']; simp only [decide_eq_true_eq]; omega
    have w1 : IntKind.i64.wrap (((t ++ [b]).length : Int) - 1) = (t.length : Int) := by
      rw [len_snoc']; exact wrap_last _ (by have := len_snoc' t b; omega)
    have i1 := ix9e t b
    have hbl : isBlank (t ++ [b]) = (((b : Int) == 32) || ((b : Int) == 9)) := by
      simp only [isBlank, List.getLast?_concat]
      rw [Bool.eq_iff_iff]
      simp
      omega
    rw [hbl] at a4
    cases q1 : ((b : Int) == 32)
    · rw [q1, Bool.false_or] at a4
      simp (implicitDefEqProofs := false) only [run_seq, run_cond, run_block, run_loop, run_exit, run_ret, run_skip, ops_cons, ops_nil, ev_tmp, pureS_some, heapS_some, heapN_some, gdS_tt, gdS_ff, gdS_tf, gdS_ft, gdS_undef, List.getD_cons_succ, List.getD_cons_zero, List.set_cons_succ, List.set_cons_zero, Option.bind_some, regR_some, seqR_normal, seqR_ret, seqR_exit, fin0_ret, fin0_normal, fin1_ret, fin1_normal, finN_ret, finN_normal, List.map_cons, List.map_nil, lenV_some, pickV_t, pickV_f, callV_func, extV_tup, condR_true, condR_false, blockR_normal, blockR_ret, blockR_exit, if_true, List.nil_append, List.append_nil, List.cons_append, List.getElem?_cons_zero, List.getElem?_cons_succ, loopR_normal, loopR_exit, loopR_ret, Option.map_some, ite_true, reduceIte, reg15_0, st15_0_0, reg15_1, st15_1_0, st15_1_1, st15_1_2, st15_1_3, st15_1_4, st15_1_5, st15_1_6, st15_1_7, st15_1_8, st15_1_9, st15_1_10, st15_1_11, st15_1_12, st15_1_13, st15_1_14, st15_1_15, reg15_2, st15_2_0, reg15_3, st15_3_0, st15_3_1, st15_3_2, reg15_4, st15_4_0, st15_4_1, st15_4_2, st15_4_3, st15_4_4, st15_4_5, st15_4_6, st15_4_7, st15_4_8, st15_4_9, st15_4_10, st15_4_11, st15_4_12, st15_4_13, st15_4_14, st15_4_15, st15_4_16, reg15_5, st15_5_0, st15_5_1, st15_5_2, st15_5_3, st15_5_4, st15_5_5, st15_5_6, st15_5_7, st15_5_8, st15_5_9, st15_5_10, st15_5_11, st15_5_12, st15_5_13, st15_5_14, st15_5_15, st15_5_16, reg15_6, st15_6_0, e1, nilck, fa35_0, ld33, Nat.add_zero, c0, ls, i_geq, d, len9, i_gtr, d2, d3, i_sub, w1, i1, u_eql, q1, bsl33_0, c1, a2, sa, bld69, bsl33_1, a4, e5]
    · rw [q1, Bool.true_or] at a4
      simp (implicitDefEqProofs := false) only [run_seq, run_cond, run_block, run_loop, run_exit, run_ret, run_skip, ops_cons, ops_nil, ev_tmp, pureS_some, heapS_some, heapN_some, gdS_tt, gdS_ff, gdS_tf, gdS_ft, gdS_undef, List.getD_cons_succ, List.getD_cons_zero, List.set_cons_succ, List.set_cons_zero, Option.bind_some, regR_some, seqR_normal, seqR_ret, seqR_exit, fin0_ret, fin0_normal, fin1_ret, fin1_normal, finN_ret, finN_normal, List.map_cons, List.map_nil, lenV_some, pickV_t, pickV_f, callV_func, extV_tup, condR_true, condR_false, blockR_normal, blockR_ret, blockR_exit, if_true, List.nil_append, List.append_nil, List.cons_append, List.getElem?_cons_zero, List.getElem?_cons_succ, loopR_normal, loopR_exit, loopR_ret, Option.map_some, ite_true, reduceIte, reg15_0, st15_0_0, reg15_1, st15_1_0, st15_1_1, st15_1_2, st15_1_3, st15_1_4, st15_1_5, st15_1_6, st15_1_7, st15_1_8, st15_1_9, st15_1_10, st15_1_11, st15_1_12, st15_1_13, st15_1_14, st15_1_15, reg15_2, st15_2_0, reg15_3, st15_3_0, st15_3_1, st15_3_2, reg15_4, st15_4_0, st15_4_1, st15_4_2, st15_4_3, st15_4_4, st15_4_5, st15_4_6, st15_4_7, st15_4_8, st15_4_9, st15_4_10, st15_4_11, st15_4_12, st15_4_13, st15_4_14, st15_4_15, st15_4_16, reg15_5, st15_5_0, st15_5_1, st15_5_2, st15_5_3, st15_5_4, st15_5_5, st15_5_6, st15_5_7, st15_5_8, st15_5_9, st15_5_10, st15_5_11, st15_5_12, st15_5_13, st15_5_14, st15_5_15, st15_5_16, reg15_6, st15_6_0, e1, nilck, fa35_0, ld33, Nat.add_zero, c0, ls, i_geq, d, len9, i_gtr, d2, d3, i_sub, w1, i1, u_eql, q1, bsl33_0, c1, a2, sa, bld69, bsl33_1, a4, e5]
end Go.Proofs.Ytgnacecplaemlaa
