/-
  SourceReads of chapter 37: its run in the interpreter.
-/
import Derived.Test.YtgnacecplaemlaaS10
import Derived.Test.YtgnacecplaemlaaG3
namespace Go.Proofs.Ytgnacecplaemlaa
open AI
set_option linter.unusedSimpArgs false
theorem blockR_01 (fr : List AV) (h : AH) : blockR 1 (some (.exit 0, fr, h)) = some (.exit 0, fr, h) := rfl
theorem n01 : ((0 : Nat) = 1) = False := by simp
theorem blockR_00 (fr : List AV) (h : AH) : blockR 0 (some (.exit 0, fr, h)) = some (.normal, fr, h) := rfl
theorem bsl28 (c : Int) (k : IntKind) (h : AH) : bslV Try.prog 28 1 [(0, .int k c)] h = some (.sl h.next 0 1 1 (some 1), h.alloc [.int k c]) := by kernel_rfl
theorem bytes1 (id : Nat) (c : Option Nat) (h : AH) {b : Nat} (hb : b < 256) (hc : h.cells? id 1 0 = some [.int .u8 (b : Int)]) : bytesV (.sl id 0 1 1 c) h = some (.str [b]) := by
  show (if 1 = 1 then ((h.cells? id 1 0).bind toBytes).map AV.str else none) = _
  rw [if_pos rfl, hc]
  simp [toBytes, hb]
  omega
theorem neq_int (a b : Nat) (h : a ≠ b) : ((a : Int) == (b : Int)) = false := beq_eq_false_iff_ne.mpr (by omega)
def C3 (v w : List Nat) (k s at_ : Nat) (got : List Nat) (n : Nat) : List AV := [.str v, .str w, .int .u8 (k : Int), .top, .top, .top, .bool false, .ptr s 0, .int .i64 (at_ : Int), .str got, .int .i64 (n : Int), .top, .top, .top, .top, .top, .top, .top, .top, .top, .top, .top, .top, .top, .top, .top, .top, .top, .top, .top, .top, .top, .top, .top, .top, .top, .top, .top, .top, .top, .top, .top, .top, .top, .top, .top, .top, .top, .top, .top, .top, .top, .top, .top, .top, .top, .top, .top, .top, .top, .top, .top, .top, .top, .top, .top, .top, .top, .top, .top, .top, .top, .top, .top, .top, .top, .top, .top, .top, .top, .top, .top, .top, .top, .top, .top, .top, .top, .top, .top, .top, .top]
def E3 (v w : List Nat) (k s at_ : Nat) (got : List Nat) (n : Nat) : List AV := [.str v, .str w, .int .u8 (k : Int), .top, .top, .top, .bool false, .ptr s 0, .int .i64 (at_ : Int), .str got, .int .i64 (n : Int), .int .u8 0, .bool false, .top, .top, .top, .top, .top, .top, .top, .top, .top, .top, .top, .top, .top, .top, .top, .top, .top, .top, .top, .top, .int .i64 (n : Int), .bool true, .top, .top, .int .i64 (n : Int), .int .i64 (at_ : Int), .bool false, .bool false, .tup [], .tup [], .tup [], .tup [], .bool false, .tup [.int .u8 0, .bool false], .ptr s 0, .tup [.int .u8 0, .bool false], .int .u8 0, .bool false, .bool false, .bool true, .top, .top, .top, .top, .top, .top, .top, .top, .top, .top, .top, .top, .top, .top, .top, .top, .top, .top, .top, .top, .top, .top, .top, .top, .top, .top, .top, .top, .top, .top, .top, .top, .top, .top, .top, .top, .top, .top, .top]
noncomputable abbrev body3 (lf : Nat) := arun Try.prog (HK 3) (X lf) lf lp3_9
noncomputable abbrev clr3 := aclear (HK 3) lp3_9
section
variable {v w : List Nat} {k s at_ : Nat}
/-- One byte more, where nothing is entered. -/
theorem iter3 (lf : Nat) (hlf : 10 ≤ lf) {h : AH} {L : List Val} {x : Val} {n : Nat} {F : Nat → Prop} (S : Src h s (L ++ [x]) n F) (hL : L.length < 1000) {b : Nat} (hb : x.text[x.at_]? = some b) (h256 : b < 256)
    (hat : x.at_ < 1000) (got : List Nat) (hg : got.length < 1000) (hn : n < 500) (hne : n ≠ at_) :
    ∃ fr' h' F', body3 lf (C3 v w k s at_ got n) h = some (.normal, fr', h') ∧ clr3 fr' = C3 v w k s at_ (got ++ [b]) (n + 1) ∧ Src h' s (if x.at_ + 1 < x.text.length then L ++ [x.next] else L) (n + 1) F' := by
  obtain ⟨m, rfl⟩ : ∃ m, lf = m + 3 := ⟨lf - 3, by omega⟩
  have d1 : decide ((n : Int) < 500) = true := by simp; omega
  have d2 := neq_int n at_ hne
  have e1 := peek_some S (by omega) hb m
  have N := Row.new h [.int .u8 (b : Int)]
  have S1 : Src (h.alloc [.int .u8 (b : Int)]) s (L ++ [x]) n F := S.keep (Other.alloc (fun _ => False) h _) (fun _ _ x => x)
  obtain ⟨h2, e2, S2, _, _⟩ := step_some S1 (by omega) (by omega) (by omega) m
  have e3 := bytes1 h.next (some 1) (h.alloc [.int .u8 (b : Int)]) h256 N.all
  have sa : ∀ xo yo, abin Try.prog .add 9 xo yo (.str got) (.str [b]) = some (.str (got ++ [b])) := fun xo yo => s_add _ _ _ _ (by simp; omega)
  have w3 := wrap_succ n (by omega)
  have key : ∀ fr, clr3 fr = C3 v w k s at_ (got ++ [b]) (n + 1) → ∃ fr' h' F', (some (.normal, fr, h2) : ARes) = some (.normal, fr', h') ∧ clr3 fr' = C3 v w k s at_ (got ++ [b]) (n + 1) ∧ Src h' s (if x.at_ + 1 < x.text.length then L ++ [x.next] else L) (n + 1) F' :=
    fun fr hc => ⟨fr, h2, F, rfl, hc, S2⟩
  conv => enter [1, fr', 1, h', 1, F', 1, 1]; unfold body3 lp3_9
  simp (implicitDefEqProofs := false) only [C3, run_seq, run_cond, run_block, run_loop, run_exit, run_ret, run_skip, ops_cons, ops_nil, ev_tmp, pureS_some, heapS_some, heapN_some, gdS_tt, gdS_ff, gdS_tf, gdS_ft, gdS_undef, List.getD_cons_succ, List.getD_cons_zero, List.set_cons_succ, List.set_cons_zero, Option.bind_some, regR_some, seqR_normal, seqR_ret, seqR_exit, fin0_ret, fin0_normal, fin1_ret, fin1_normal, finN_ret, finN_normal, List.map_cons, List.map_nil, lenV_some, pickV_t, pickV_f, callV_func, extV_tup, condR_true, condR_false, blockR_normal, blockR_ret, blockR_exit, if_true, List.nil_append, List.append_nil, List.cons_append, List.getElem?_cons_zero, List.getElem?_cons_succ, loopR_normal, loopR_exit, loopR_ret, Option.map_some, ite_true, reduceIte, n01, if_false, ite_false, reg3_0, st3_0_0, reg3_1, st3_1_0, st3_1_1, st3_1_2, st3_1_3, st3_1_4, st3_1_5, st3_1_6, st3_1_7, reg3_2, st3_2_0, st3_2_1, reg3_3, st3_3_0, st3_3_1, reg3_4, st3_4_0, st3_4_1, st3_4_2, st3_4_3, reg3_5, st3_5_0, reg3_6, st3_6_0, st3_6_1, st3_6_2, st3_6_3, st3_6_4, st3_6_5, st3_6_6, reg3_7, st3_7_0, reg3_8, st3_8_0, reg3_9, st3_9_0, st3_9_1, reg3_11, st3_11_0, st3_11_1, st3_11_2, st3_11_3, st3_11_4, st3_11_5, st3_11_6, st3_11_7, st3_11_8, reg3_12, st3_12_0, reg3_13, st3_13_0, st3_13_1, st3_13_2, st3_13_3, st3_13_4, st3_13_5, st3_13_6, reg3_14, st3_14_0, st3_14_1, reg3_15, st3_15_0, st3_15_1, st3_15_2, st3_15_3, st3_15_4, st3_15_5, reg3_16, st3_16_0, st3_16_1, reg3_10, st3_10_0, st3_10_1, st3_10_2, reg3_17, st3_17_0, st3_17_1, st3_17_2, st3_17_3, st3_17_4, st3_17_5, st3_17_6, st3_17_7, st3_17_8, st3_17_9, st3_17_10, st3_17_11, st3_17_12, st3_17_13, st3_17_14, st3_17_15, st3_17_16, st3_17_17, st3_17_18, st3_17_19, st3_17_20, st3_17_21, st3_17_22, st3_17_23, st3_17_24, st3_17_25, st3_17_26, st3_17_27, st3_17_28, st3_17_29, st3_17_30, st3_17_31, st3_17_32, i_lss, d1, i_eql, d2, e1, not_b, Bool.not_true, bsl28, e3, sa, e2, i_add, w3]
  exact key _ (by unfold clr3; rw [cl3_9]; rfl)
/-- Nothing is there any more. -/
theorem end3 (lf : Nat) (hlf : 10 ≤ lf) {h : AH} {n : Nat} {F : Nat → Prop} (S : Src h s [] n F) (got : List Nat) (hn : n < 500) (hne : n ≠ at_) :
    body3 lf (C3 v w k s at_ got n) h = some (.exit 0, E3 v w k s at_ got n, h) := by
  obtain ⟨m, rfl⟩ : ∃ m, lf = m + 3 := ⟨lf - 3, by omega⟩
  have d1 : decide ((n : Int) < 500) = true := by simp; omega
  have d2 := neq_int n at_ hne
  have e1 := peek_none S m
  conv => lhs; unfold body3 lp3_9
  simp (implicitDefEqProofs := false) only [C3, E3, run_seq, run_cond, run_block, run_loop, run_exit, run_ret, run_skip, ops_cons, ops_nil, ev_tmp, pureS_some, heapS_some, heapN_some, gdS_tt, gdS_ff, gdS_tf, gdS_ft, gdS_undef, List.getD_cons_succ, List.getD_cons_zero, List.set_cons_succ, List.set_cons_zero, Option.bind_some, regR_some, seqR_normal, seqR_ret, seqR_exit, fin0_ret, fin0_normal, fin1_ret, fin1_normal, finN_ret, finN_normal, List.map_cons, List.map_nil, lenV_some, pickV_t, pickV_f, callV_func, extV_tup, condR_true, condR_false, blockR_normal, blockR_ret, blockR_exit, if_true, List.nil_append, List.append_nil, List.cons_append, List.getElem?_cons_zero, List.getElem?_cons_succ, loopR_normal, loopR_exit, loopR_ret, Option.map_some, ite_true, reduceIte, n01, if_false, ite_false, reg3_0, st3_0_0, reg3_1, st3_1_0, st3_1_1, st3_1_2, st3_1_3, st3_1_4, st3_1_5, st3_1_6, st3_1_7, reg3_2, st3_2_0, st3_2_1, reg3_3, st3_3_0, st3_3_1, reg3_4, st3_4_0, st3_4_1, st3_4_2, st3_4_3, reg3_5, st3_5_0, reg3_6, st3_6_0, st3_6_1, st3_6_2, st3_6_3, st3_6_4, st3_6_5, st3_6_6, reg3_7, st3_7_0, reg3_8, st3_8_0, reg3_9, st3_9_0, st3_9_1, reg3_11, st3_11_0, st3_11_1, st3_11_2, st3_11_3, st3_11_4, st3_11_5, st3_11_6, st3_11_7, st3_11_8, reg3_12, st3_12_0, reg3_13, st3_13_0, st3_13_1, st3_13_2, st3_13_3, st3_13_4, st3_13_5, st3_13_6, reg3_14, st3_14_0, st3_14_1, reg3_15, st3_15_0, st3_15_1, st3_15_2, st3_15_3, st3_15_4, st3_15_5, reg3_16, st3_16_0, st3_16_1, reg3_10, st3_10_0, st3_10_1, st3_10_2, reg3_17, st3_17_0, st3_17_1, st3_17_2, st3_17_3, st3_17_4, st3_17_5, st3_17_6, st3_17_7, st3_17_8, st3_17_9, st3_17_10, st3_17_11, st3_17_12, st3_17_13, st3_17_14, st3_17_15, st3_17_16, st3_17_17, st3_17_18, st3_17_19, st3_17_20, st3_17_21, st3_17_22, st3_17_23, st3_17_24, st3_17_25, st3_17_26, st3_17_27, st3_17_28, st3_17_29, st3_17_30, st3_17_31, st3_17_32, i_lss, d1, i_eql, d2, e1, not_b, Bool.not_false]
/-- The byte at which the other value is entered. -/
theorem enter3 (lf : Nat) (hlf : 10 ≤ lf) {h : AH} {x : Val} {F : Nat → Prop} (S : Src h s [x] at_ F) (hx : x.name = [118]) (hw : w.length ≤ 200) {b : Nat} (hb : (w ++ [32])[0]? = some b) (h256 : b < 256)
    (got : List Nat) (hg : got.length < 1000) (hn : at_ < 500) :
    ∃ fr' h' F', body3 lf (C3 v w k s at_ got at_) h = some (.normal, fr', h') ∧ clr3 fr' = C3 v w k s at_ (got ++ [b]) (at_ + 1) ∧
      Src h' s (if 1 < (w ++ [32]).length then [x] ++ [⟨[119], w ++ [32], 1, isBlank w⟩] else [x]) (at_ + 1) F' := by
  obtain ⟨m, rfl⟩ : ∃ m, lf = m + 3 := ⟨lf - 3, by omega⟩
  have d1 : decide ((at_ : Int) < 500) = true := by simp; omega
  have d2 : ((at_ : Int) == (at_ : Int)) = true := by simp
  have hm : mayEnter [x] [119] w = true := by
    simp only [mayEnter, has, List.any_cons, List.any_nil, hx, List.length_singleton, Bool.or_false, Bool.and_eq_true, decide_eq_true_eq]
    exact ⟨⟨by decide, by omega⟩, hw⟩
  obtain ⟨h1, e0, S1, _⟩ := enter_yes S [119] w hm (m + 2) (by simp; omega)
  have e1 := peek_some S1 (by simp) hb m
  have N := Row.new h1 [.int .u8 (b : Int)]
  have S1' := S1.keep (Other.alloc (fun _ => False) h1 [.int .u8 (b : Int)]) (fun _ _ x => x)
  obtain ⟨h2, e2, S2, _, _⟩ := step_some S1' (by simp) (by omega) (by simp) m
  have e3 := bytes1 h1.next (some 1) (h1.alloc [.int .u8 (b : Int)]) h256 N.all
  have sa : ∀ xo yo, abin Try.prog .add 9 xo yo (.str got) (.str [b]) = some (.str (got ++ [b])) := fun xo yo => s_add _ _ _ _ (by simp; omega)
  have w3 := wrap_succ at_ (by omega)
  have key : ∀ fr, clr3 fr = C3 v w k s at_ (got ++ [b]) (at_ + 1) → ∃ fr' h' F', (some (.normal, fr, h2) : ARes) = some (.normal, fr', h') ∧ clr3 fr' = C3 v w k s at_ (got ++ [b]) (at_ + 1) ∧
      Src h' s (if 1 < (w ++ [32]).length then [x] ++ [⟨[119], w ++ [32], 1, isBlank w⟩] else [x]) (at_ + 1) F' := fun fr hc => ⟨fr, h2, _, rfl, hc, S2⟩
  conv => enter [1, fr', 1, h', 1, F', 1, 1]; unfold body3 lp3_9
  simp (implicitDefEqProofs := false) only [C3, run_seq, run_cond, run_block, run_loop, run_exit, run_ret, run_skip, ops_cons, ops_nil, ev_tmp, pureS_some, heapS_some, heapN_some, gdS_tt, gdS_ff, gdS_tf, gdS_ft, gdS_undef, List.getD_cons_succ, List.getD_cons_zero, List.set_cons_succ, List.set_cons_zero, Option.bind_some, regR_some, seqR_normal, seqR_ret, seqR_exit, fin0_ret, fin0_normal, fin1_ret, fin1_normal, finN_ret, finN_normal, List.map_cons, List.map_nil, lenV_some, pickV_t, pickV_f, callV_func, extV_tup, condR_true, condR_false, blockR_normal, blockR_ret, blockR_exit, if_true, List.nil_append, List.append_nil, List.cons_append, List.getElem?_cons_zero, List.getElem?_cons_succ, loopR_normal, loopR_exit, loopR_ret, Option.map_some, ite_true, reduceIte, n01, if_false, ite_false, reg3_0, st3_0_0, reg3_1, st3_1_0, st3_1_1, st3_1_2, st3_1_3, st3_1_4, st3_1_5, st3_1_6, st3_1_7, reg3_2, st3_2_0, st3_2_1, reg3_3, st3_3_0, st3_3_1, reg3_4, st3_4_0, st3_4_1, st3_4_2, st3_4_3, reg3_5, st3_5_0, reg3_6, st3_6_0, st3_6_1, st3_6_2, st3_6_3, st3_6_4, st3_6_5, st3_6_6, reg3_7, st3_7_0, reg3_8, st3_8_0, reg3_9, st3_9_0, st3_9_1, reg3_11, st3_11_0, st3_11_1, st3_11_2, st3_11_3, st3_11_4, st3_11_5, st3_11_6, st3_11_7, st3_11_8, reg3_12, st3_12_0, reg3_13, st3_13_0, st3_13_1, st3_13_2, st3_13_3, st3_13_4, st3_13_5, st3_13_6, reg3_14, st3_14_0, st3_14_1, reg3_15, st3_15_0, st3_15_1, st3_15_2, st3_15_3, st3_15_4, st3_15_5, reg3_16, st3_16_0, st3_16_1, reg3_10, st3_10_0, st3_10_1, st3_10_2, reg3_17, st3_17_0, st3_17_1, st3_17_2, st3_17_3, st3_17_4, st3_17_5, st3_17_6, st3_17_7, st3_17_8, st3_17_9, st3_17_10, st3_17_11, st3_17_12, st3_17_13, st3_17_14, st3_17_15, st3_17_16, st3_17_17, st3_17_18, st3_17_19, st3_17_20, st3_17_21, st3_17_22, st3_17_23, st3_17_24, st3_17_25, st3_17_26, st3_17_27, st3_17_28, st3_17_29, st3_17_30, st3_17_31, st3_17_32, i_lss, d1, i_eql, d2, e0, e1, not_b, Bool.not_true, bsl28, e3, sa, e2, i_add, w3]
  exact key _ (by unfold clr3; rw [cl3_9]; rfl)

/-! ### The three parts of the way -/
variable {V W : List Nat}
theorem len_snoc (l : List Nat) (x : Nat) : (l ++ [x]).length = l.length + 1 := by simp
/-- What is left of the first value. -/
theorem phaseC (lf : Nat) (hlf : 10 ≤ lf) (hv : V.length ≤ 201) (h256 : ∀ b ∈ V, b < 256) (bl : Bool) : ∀ (m i n : Nat) (got : List Nat) (h : AH) (F : Nat → Prop) (fr : List AV), i + m = V.length → at_ < n → n + m < 500 → got.length + m < 900 →
    Src h s (if i < V.length then [⟨[118], V, i, bl⟩] else []) n F → clr3 fr = C3 v w k s at_ got n → ∀ q, ∃ h' F', aloop (body3 lf) clr3 (m + 1 + q) fr h = some (.exit 0, E3 v w k s at_ (got ++ V.drop i) (n + m), h') ∧ Src h' s [] (n + m) F'
  | 0, i, n, got, h, F, fr, hi, hat, hn, hg, S, hc, q => by
    rw [if_neg (by omega)] at S
    refine ⟨h, F, ?_, S⟩
    rw [show 0 + 1 + q = q + 1 by omega, loop_succ, hc, end3 lf hlf S got (by omega) (by omega), loopR_exit, show i = V.length by omega, List.drop_length, List.append_nil]
    rfl
  | m + 1, i, n, got, h, F, fr, hi, hat, hn, hg, S, hc, q => by
    have hlt : i < V.length := by omega
    rw [if_pos hlt] at S
    have hb : V[i]? = some V[i] := List.getElem?_eq_getElem hlt
    obtain ⟨fr', h1, F1, e1, c1, S1⟩ := iter3 (v := v) (w := w) (k := k) (at_ := at_) (L := []) lf hlf S (by simp) hb (h256 _ (List.getElem_mem hlt)) (show i < 1000 by omega) got (by omega) (by omega) (by omega)
    obtain ⟨h2, F2, e2, S2⟩ := phaseC lf hlf hv h256 bl m (i + 1) (n + 1) (got ++ [V[i]]) h1 F1 fr' (by omega) (by omega) (by omega) (by rw [len_snoc got]; omega) (by simpa [Val.next] using S1) c1 q
    refine ⟨h2, F2, ?_, by rw [show n + (m + 1) = n + 1 + m by omega]; exact S2⟩
    rw [show m + 1 + 1 + q = (m + 1 + q) + 1 by omega, loop_succ, hc, e1, loopR_normal, e2, show n + (m + 1) = n + 1 + m by omega, List.append_assoc, List.singleton_append, List.getElem_cons_drop]
/-- What is left of the second value, and then of the first. -/
theorem phaseB (lf : Nat) (hlf : 10 ≤ lf) (hv : V.length ≤ 201) (hw : W.length ≤ 201) (h256 : ∀ b ∈ V, b < 256) (hw256 : ∀ b ∈ W, b < 256) (hat : at_ < V.length) (bl bw : Bool) : ∀ (m j n : Nat) (got : List Nat) (h : AH) (F : Nat → Prop) (fr : List AV),
    j + m = W.length → at_ < n → n + m + (V.length - at_) < 500 → got.length + m + (V.length - at_) < 900 →
    Src h s (if j < W.length then [⟨[118], V, at_, bl⟩, ⟨[119], W, j, bw⟩] else [⟨[118], V, at_, bl⟩]) n F → clr3 fr = C3 v w k s at_ got n → ∀ q, ∃ h' F',
      aloop (body3 lf) clr3 (m + (V.length - at_) + 1 + q) fr h = some (.exit 0, E3 v w k s at_ (got ++ W.drop j ++ V.drop at_) (n + m + (V.length - at_)), h') ∧ Src h' s [] (n + m + (V.length - at_)) F'
  | 0, j, n, got, h, F, fr, hj, han, hn, hg, S, hc, q => by
    rw [if_neg (by omega)] at S
    obtain ⟨h2, F2, e2, S2⟩ := phaseC (v := v) (w := w) (k := k) (s := s) (at_ := at_) lf hlf hv h256 bl (V.length - at_) at_ n got h F fr (by omega) han (by omega) (by omega) (by rw [if_pos hat]; exact S) hc q
    refine ⟨h2, F2, ?_, by simpa using S2⟩
    simp only [Nat.zero_add, Nat.add_zero]
    rw [e2, show j = W.length by omega, List.drop_length, List.append_nil]
  | m + 1, j, n, got, h, F, fr, hj, han, hn, hg, S, hc, q => by
    have hlt : j < W.length := by omega
    rw [if_pos hlt] at S
    have hb : W[j]? = some W[j] := List.getElem?_eq_getElem hlt
    obtain ⟨fr', h1, F1, e1, c1, S1⟩ := iter3 (v := v) (w := w) (k := k) (at_ := at_) (L := [⟨[118], V, at_, bl⟩]) (x := ⟨[119], W, j, bw⟩) lf hlf S (by simp) hb (hw256 _ (List.getElem_mem hlt)) (show j < 1000 by omega) got (by omega) (by omega) (by omega)
    obtain ⟨h2, F2, e2, S2⟩ := phaseB lf hlf hv hw h256 hw256 hat bl bw m (j + 1) (n + 1) (got ++ [W[j]]) h1 F1 fr' (by omega) (by omega) (by omega) (by rw [len_snoc got]; omega) (by simpa [Val.next] using S1) c1 q
    refine ⟨h2, F2, ?_, by rw [show n + (m + 1) + (V.length - at_) = n + 1 + m + (V.length - at_) by omega]; exact S2⟩
    rw [show m + 1 + (V.length - at_) + 1 + q = (m + (V.length - at_) + 1 + q) + 1 by omega, loop_succ, hc, e1, loopR_normal, e2, show n + (m + 1) + (V.length - at_) = n + 1 + m + (V.length - at_) by omega,
      List.append_assoc got, List.singleton_append, List.getElem_cons_drop]
/-- The first value up to the place. -/
theorem phaseA (hW : W = w ++ [32]) (lf : Nat) (hlf : 10 ≤ lf) (hv : V.length ≤ 201) (hw : w.length ≤ 200) (h256 : ∀ b ∈ V, b < 256) (hw256 : ∀ b ∈ W, b < 256) (hat : at_ < V.length) (bl : Bool) : ∀ (m n : Nat) (h : AH) (F : Nat → Prop) (fr : List AV),
    n + m = at_ → Src h s [⟨[118], V, n, bl⟩] n F → clr3 fr = C3 v w k s at_ (V.take n) n → ∀ q, ∃ h' F',
      aloop (body3 lf) clr3 (m + W.length + (V.length - at_) + 1 + q) fr h = some (.exit 0, E3 v w k s at_ (V.take at_ ++ W ++ V.drop at_) (W.length + V.length), h') ∧ Src h' s [] (W.length + V.length) F'
  | 0, n, h, F, fr, hn, S, hc, q => by
    obtain rfl : n = at_ := by omega
    have hwl : W.length = w.length + 1 := by rw [hW]; simp
    have h0 : 0 < W.length := by omega
    have hb : W[0]? = some W[0] := List.getElem?_eq_getElem h0
    have hgl : (V.take n).length = n := by rw [List.length_take]; omega
    obtain ⟨fr', h1, F1, e1, c1, S1⟩ := enter3 (v := v) (w := w) (k := k) (at_ := n) lf hlf S rfl hw (by rw [← hW]; exact hb) (hw256 _ (List.getElem_mem h0)) (V.take n) (by omega) (by omega)
    rw [← hW] at S1
    obtain ⟨h2, F2, e2, S2⟩ := phaseB (v := v) (w := w) (k := k) (s := s) (at_ := n) (V := V) (W := W) lf hlf hv (by omega) h256 hw256 hat bl (isBlank w) w.length 1 (n + 1) (V.take n ++ [W[0]]) h1 F1 fr' (by omega) (by omega) (by omega) (by rw [len_snoc (V.take n), hgl]; omega) S1 c1 q
    have en : n + 1 + w.length + (V.length - n) = W.length + V.length := by omega
    rw [en] at e2 S2
    refine ⟨h2, F2, ?_, S2⟩
    rw [show 0 + W.length + (V.length - n) + 1 + q = (w.length + (V.length - n) + 1 + q) + 1 by omega, loop_succ, hc, e1, loopR_normal, e2, List.append_assoc (V.take n), List.singleton_append, List.getElem_cons_drop h0, List.drop_zero]
  | m + 1, n, h, F, fr, hn, S, hc, q => by
    have hlt : n < V.length := by omega
    have hb : V[n]? = some V[n] := List.getElem?_eq_getElem hlt
    have hgl : (V.take n).length = n := by rw [List.length_take]; omega
    obtain ⟨fr', h1, F1, e1, c1, S1⟩ := iter3 (v := v) (w := w) (k := k) (at_ := at_) (L := []) (x := ⟨[118], V, n, bl⟩) lf hlf S (by simp) hb (h256 _ (List.getElem_mem hlt)) (show n < 1000 by omega) (V.take n) (by omega) (by omega) (by omega)
    rw [← List.take_succ_eq_append_getElem hlt] at c1
    have S1' : Src h1 s [⟨[118], V, n + 1, bl⟩] (n + 1) F1 := by
      have hc : n + 1 < V.length := by omega
      rw [if_pos hc] at S1
      exact S1
    obtain ⟨h2, F2, e2, S2⟩ := phaseA hW lf hlf hv hw h256 hw256 hat bl m (n + 1) h1 F1 fr' (by omega) S1' c1 q
    refine ⟨h2, F2, ?_, S2⟩
    rw [show m + 1 + W.length + (V.length - at_) + 1 + q = (m + W.length + (V.length - at_) + 1 + q) + 1 by omega, loop_succ, hc, e1, loopR_normal, e2]
end
end Go.Proofs.Ytgnacecplaemlaa
