/-
  The program's source of bytes: what each of its functions does to the abstract heap.
-/
import Derived.Test.YtgnacecplaemlaaS3
import Derived.Test.YtgnacecplaemlaaG9
namespace Go.Proofs.Ytgnacecplaemlaa
open AI
set_option linter.unusedSimpArgs false

/-! ### Facts of types -/
section
variable (id off len n : Nat) (c : Option Nat) (h : AH) (xo yo : Operand) (a b : Int) (s t : List Nat) (x y : Bool)
theorem fa64_0 : afieldAt Try.prog 64 (.ptr id off) 0 = some (.ptr id (off + 0)) := by kernel_rfl
theorem fa64_1 : afieldAt Try.prog 64 (.ptr id off) 1 = some (.ptr id (off + 1)) := by kernel_rfl
theorem fa66_0 : afieldAt Try.prog 66 (.ptr id off) 0 = some (.ptr id (off + 0)) := by kernel_rfl
theorem fa66_1 : afieldAt Try.prog 66 (.ptr id off) 1 = some (.ptr id (off + 1)) := by kernel_rfl
theorem fa66_2 : afieldAt Try.prog 66 (.ptr id off) 2 = some (.ptr id (off + 2)) := by kernel_rfl
theorem fa66_3 : afieldAt Try.prog 66 (.ptr id off) 3 = some (.ptr id (off + 3)) := by kernel_rfl
theorem fa35_0 : afieldAt Try.prog 35 (.ptr id off) 0 = some (.ptr id (off + 0)) := by kernel_rfl
theorem fa35_1 : afieldAt Try.prog 35 (.ptr id off) 1 = some (.ptr id (off + 1)) := by kernel_rfl
theorem fa69_0 : afieldAt Try.prog 69 (.ptr id off) 0 = some (.ptr id (off + 0)) := by kernel_rfl
theorem fa69_1 : afieldAt Try.prog 69 (.ptr id off) 1 = some (.ptr id (off + 1)) := by kernel_rfl
theorem fa69_2 : afieldAt Try.prog 69 (.ptr id off) 2 = some (.ptr id (off + 2)) := by kernel_rfl
theorem ld3 : ldV Try.prog 3 (.ptr id off) h = h.cell? id off := by kernel_rfl
theorem ld4 : ldV Try.prog 4 (.ptr id off) h = h.cell? id off := by kernel_rfl
theorem ld9 : ldV Try.prog 9 (.ptr id off) h = h.cell? id off := by kernel_rfl
theorem ld62 : ldV Try.prog 62 (.ptr id off) h = h.cell? id off := by kernel_rfl
theorem ld33 : ldV Try.prog 33 (.ptr id off) h = h.cell? id off := by kernel_rfl
theorem ld66 : ldV Try.prog 66 (.ptr id off) h = (h.cells? id 4 off).map .agg := by kernel_rfl
theorem ld69 : ldV Try.prog 69 (.ptr id off) h = (h.cells? id 3 off).map .agg := by kernel_rfl
theorem nilck : anilCheck (.ptr id off) = some (.ptr id off) := by kernel_rfl
theorem eq23 : abin Try.prog .eql 23 xo yo (.ptr id off) .nilp = some (.bool false) := by kernel_rfl
theorem len62 : alen Try.prog 62 (.sl id off len n c) = some len := by kernel_rfl
theorem len62n : alen Try.prog 62 .nilSl = some 0 := by kernel_rfl
theorem len33 : alen Try.prog 33 (.sl id off len n c) = some len := by kernel_rfl
theorem len33n : alen Try.prog 33 .nilSl = some 0 := by kernel_rfl
theorem len9 : alen Try.prog 9 (.str s) = some s.length := by kernel_rfl
theorem i_gtr : abin Try.prog .gtr 3 xo yo (.int .i64 a) (.int .i64 b) = some (.bool (decide (a > b))) := rfl
theorem i_geq : abin Try.prog .geq 3 xo yo (.int .i64 a) (.int .i64 b) = some (.bool (decide (a ≥ b))) := rfl
theorem i_lss : abin Try.prog .lss 3 xo yo (.int .i64 a) (.int .i64 b) = some (.bool (decide (a < b))) := rfl
theorem i_add : abin Try.prog .add 3 xo yo (.int .i64 a) (.int .i64 b) = some (.int .i64 (IntKind.i64.wrap (a + b))) := rfl
theorem i_sub : abin Try.prog .sub 3 xo yo (.int .i64 a) (.int .i64 b) = some (.int .i64 (IntKind.i64.wrap (a - b))) := rfl
theorem i_eql : abin Try.prog .eql 3 xo yo (.int .i64 a) (.int .i64 b) = some (.bool (a == b)) := rfl
theorem i_neq : abin Try.prog .neq 3 xo yo (.int .i64 a) (.int .i64 b) = some (.bool (a != b)) := rfl
theorem s_add (hl : s.length + t.length ≤ 9223372036854775807) : abin Try.prog .add 9 xo yo (.str s) (.str t) = some (.str (s ++ t)) := by
  show aStrOp .add s t = _
  unfold aStrOp
  rw [if_pos hl]
theorem not_b : aun .not (.bool x) = some (.bool (!x)) := rfl
theorem ix62 {i : Nat} (hi : i < len) (k : IntKind) : aindexAt Try.prog 62 (.sl id off len 4 c) (.int k (i : Int)) = some (.ptr id (off + i * 4)) := by
  have : aindexAt Try.prog 62 (.sl id off len 4 c) (.int k (i : Int)) = if 4 = 4 ∧ 0 ≤ (i : Int) ∧ (i : Int) < (len : Int) then some (.ptr id (off + (i : Int).toNat * 4)) else none := by kernel_rfl
  rw [this, if_pos (by omega), Int.toNat_natCast]
theorem ix33 {i : Nat} (hi : i < len) (k : IntKind) : aindexAt Try.prog 33 (.sl id off len 3 c) (.int k (i : Int)) = some (.ptr id (off + i * 3)) := by
  have : aindexAt Try.prog 33 (.sl id off len 3 c) (.int k (i : Int)) = if 3 = 3 ∧ 0 ≤ (i : Int) ∧ (i : Int) < (len : Int) then some (.ptr id (off + (i : Int).toNat * 3)) else none := by kernel_rfl
  rw [this, if_pos (by omega), Int.toNat_natCast]
theorem ix9 {i : Nat} {v : Nat} (hi : s[i]? = some v) (k : IntKind) : aindex Try.prog 9 (.str s) (.int k (i : Int)) = some (.int .u8 (v : Int)) := by
  have hu : Try.prog.underlying 9 = some .string := by kernel_rfl
  unfold aindex
  rw [hu]
  show (if 0 ≤ (i : Int) then (s[(i : Int).toNat]?).map (fun b => AV.int .u8 (b : Int)) else none) = _
  rw [if_pos (by omega), Int.toNat_natCast, hi]
  rfl
theorem wrap_nat (hn : n < 4611686018427387904) : IntKind.i64.wrap (n : Int) = n := by
  unfold IntKind.wrap
  simp [IntKind.signed, IntKind.bits]
  omega
end

/-! ### The source's shape -/
structure Val where
  name : List Nat
  text : List Nat
  at_ : Nat
  blank : Bool
def Val.cells (v : Val) : List AV := [.str v.name, .str v.text, .int .i64 (v.at_ : Int), .bool v.blank]
def flat (L : List Val) : List AV := L.flatMap Val.cells
theorem flat_length (L : List Val) : (flat L).length = L.length * 4 := by
  induction L with
  | nil => rfl
  | cons v L ih => simp only [flat, List.flatMap_cons, List.length_append, List.length_cons] at ih ⊢; rw [ih]; simp [Val.cells]; omega
theorem flat_append (L M : List Val) : flat (L ++ M) = flat L ++ flat M := by simp [flat]
theorem flat_get {L : List Val} {i : Nat} {v : Val} (hi : L[i]? = some v) : ∃ a c, flat L = a ++ v.cells ++ c ∧ a.length = i * 4 := by
  obtain ⟨h1, h2⟩ := List.getElem?_eq_some_iff.mp hi
  refine ⟨flat (L.take i), flat (L.drop (i + 1)), ?_, by rw [flat_length, List.length_take, Nat.min_eq_left (by omega)]⟩
  have : L = L.take i ++ [v] ++ L.drop (i + 1) := by
    rw [← h2, List.append_assoc, List.singleton_append, List.getElem_cons_drop, List.take_append_drop]
  conv => lhs; rw [this]
  rw [flat_append, flat_append]
  simp [flat]
/-- The source at s holds the values L, and cnt bytes were read. -/
def Src (h : AH) (s : Nat) (L : List Val) (cnt : Nat) (F : Nat → Prop) : Prop :=
  F s ∧ (∀ j, F j → j < h.next) ∧
  ((L = [] ∧ Row h s 0 [.nilSl, .int .i64 (cnt : Int)]) ∨
   ∃ id, id ≠ s ∧ F id ∧ Row h s 0 [.sl id 0 L.length 4 none, .int .i64 (cnt : Int)] ∧ Row h id 0 (flat L))
/-- The cell of the slice. -/
theorem Src.slice {h : AH} {s cnt : Nat} {L : List Val} {F : Nat → Prop} (S : Src h s L cnt F) :
    (L = [] ∧ h.cell? s 0 = some .nilSl) ∨ ∃ id, id ≠ s ∧ F id ∧ h.cell? s 0 = some (.sl id 0 L.length 4 none) ∧ Row h id 0 (flat L) := by
  obtain ⟨_, _, ⟨h1, h2⟩ | ⟨id, h1, h2, h3, h4⟩⟩ := S
  · exact .inl ⟨h1, h2.cell (i := 0) rfl⟩
  · exact .inr ⟨id, h1, h2, h3.cell (i := 0) rfl, h4⟩
theorem Src.count {h : AH} {s cnt : Nat} {L : List Val} {F : Nat → Prop} (S : Src h s L cnt F) : h.cell? s 1 = some (.int .i64 (cnt : Int)) := by
  obtain ⟨_, _, ⟨h1, h2⟩ | ⟨id, h1, h2, h3, h4⟩⟩ := S
  · exact h2.cell (i := 1) rfl
  · exact h3.cell (i := 1) rfl
theorem Src.keep {h h' : AH} {s cnt : Nat} {L : List Val} {F G : Nat → Prop} (S : Src h s L cnt F) (o : Other G h h') (hd : ∀ j, F j → ¬ G j) : Src h' s L cnt F := by
  obtain ⟨h0, hlt, ⟨h1, h2⟩ | ⟨id, h1, h2, h3, h4⟩⟩ := S
  · exact ⟨h0, fun j hj => Nat.lt_of_lt_of_le (hlt j hj) o.1, .inl ⟨h1, h2.keep o (hd _ h0)⟩⟩
  · exact ⟨h0, fun j hj => Nat.lt_of_lt_of_le (hlt j hj) o.1, .inr ⟨id, h1, h2, h3.keep o (hd _ h0), h4.keep o (hd _ h2)⟩⟩
theorem row_val {h : AH} {id : Nat} {L : List Val} (R : Row h id 0 (flat L)) {i : Nat} {v : Val} (hi : L[i]? = some v) : Row h id (0 + i * 4) v.cells := by
  obtain ⟨a, c, e, hl⟩ := flat_get hi
  rw [← hl]
  exact R.part e

/-! ### Deep, Count, top, Peek -/
theorem deep_ok {h : AH} {s cnt : Nat} {L : List Val} {F : Nat → Prop} (S : Src h s L cnt F) (n : Nat) : X (n + 1) 18 [.ptr s 0] h = some (.int .i64 (L.length : Int), h) := by
  rw [ent18]
  unfold cd18
  rcases S.slice with ⟨rfl, hc⟩ | ⟨id, _, _, hc, _⟩ <;>
  simp (implicitDefEqProofs := false) only [run_seq, run_cond, run_block, run_loop, run_exit, run_ret, run_skip, ops_cons, ops_nil, ev_tmp, pureS_some, heapS_some, heapN_some, gdS_tt, gdS_ff, gdS_tf, gdS_ft, gdS_undef, List.getD_cons_succ, List.getD_cons_zero, List.set_cons_succ, List.set_cons_zero, Option.bind_some, regR_some, seqR_normal, seqR_ret, seqR_exit, fin0_ret, fin0_normal, fin1_ret, fin1_normal, finN_ret, finN_normal, List.map_cons, List.map_nil, lenV_some, pickV_t, pickV_f, callV_func, extV_tup, condR_true, condR_false, blockR_normal, blockR_ret, blockR_exit, if_true, List.nil_append, List.append_nil, List.cons_append, List.getElem?_cons_zero, List.getElem?_cons_succ, loopR_normal, loopR_exit, loopR_ret, Option.map_some, ite_true, reduceIte, reg18_0, st18_0_0, reg18_1, st18_1_0, st18_1_1, reg18_2, st18_2_0, reg18_3, st18_3_0, st18_3_1, st18_3_2, st18_3_3, st18_3_4, st18_3_5, eq23, nilck, fa64_0, ld62, Nat.add_zero, hc, len62, len62n, List.length_nil]
theorem count_ok {h : AH} {s cnt : Nat} {L : List Val} {F : Nat → Prop} (S : Src h s L cnt F) (n : Nat) : X (n + 1) 14 [.ptr s 0] h = some (.int .i64 (cnt : Int), h) := by
  rw [ent14]
  unfold cd14
  simp (implicitDefEqProofs := false) only [run_seq, run_cond, run_block, run_loop, run_exit, run_ret, run_skip, ops_cons, ops_nil, ev_tmp, pureS_some, heapS_some, heapN_some, gdS_tt, gdS_ff, gdS_tf, gdS_ft, gdS_undef, List.getD_cons_succ, List.getD_cons_zero, List.set_cons_succ, List.set_cons_zero, Option.bind_some, regR_some, seqR_normal, seqR_ret, seqR_exit, fin0_ret, fin0_normal, fin1_ret, fin1_normal, finN_ret, finN_normal, List.map_cons, List.map_nil, lenV_some, pickV_t, pickV_f, callV_func, extV_tup, condR_true, condR_false, blockR_normal, blockR_ret, blockR_exit, if_true, List.nil_append, List.append_nil, List.cons_append, List.getElem?_cons_zero, List.getElem?_cons_succ, loopR_normal, loopR_exit, loopR_ret, Option.map_some, ite_true, reduceIte, reg14_0, st14_0_0, reg14_1, st14_1_0, st14_1_1, reg14_2, st14_2_0, reg14_3, st14_3_0, st14_3_1, st14_3_2, st14_3_3, st14_3_4, eq23, nilck, fa64_1, ld3, Nat.zero_add, S.count]
theorem top_ok {h : AH} {s cnt : Nat} {L : List Val} {F : Nat → Prop} (S : Src h s L cnt F) (n : Nat) : X (n + 2) 45 [.ptr s 0] h = some (.int .i64 (IntKind.i64.wrap ((L.length : Int) - 1)), h) := by
  rw [ent45]
  unfold cd45
  have e := deep_ok S n
  simp (implicitDefEqProofs := false) only [run_seq, run_cond, run_block, run_loop, run_exit, run_ret, run_skip, ops_cons, ops_nil, ev_tmp, pureS_some, heapS_some, heapN_some, gdS_tt, gdS_ff, gdS_tf, gdS_ft, gdS_undef, List.getD_cons_succ, List.getD_cons_zero, List.set_cons_succ, List.set_cons_zero, Option.bind_some, regR_some, seqR_normal, seqR_ret, seqR_exit, fin0_ret, fin0_normal, fin1_ret, fin1_normal, finN_ret, finN_normal, List.map_cons, List.map_nil, lenV_some, pickV_t, pickV_f, callV_func, extV_tup, condR_true, condR_false, blockR_normal, blockR_ret, blockR_exit, if_true, List.nil_append, List.append_nil, List.cons_append, List.getElem?_cons_zero, List.getElem?_cons_succ, loopR_normal, loopR_exit, loopR_ret, Option.map_some, ite_true, reduceIte, reg45_0, st45_0_0, reg45_1, st45_1_0, st45_1_1, st45_1_2, st45_1_3, e, i_sub]
theorem peek_none {h : AH} {s cnt : Nat} {F : Nat → Prop} (S : Src h s [] cnt F) (n : Nat) : X (n + 3) 11 [.ptr s 0] h = some (.tup [.int .u8 0, .bool false], h) := by
  rw [ent11]
  unfold cd11
  have e := top_ok S n
  have w : IntKind.i64.wrap (((([] : List Val).length : Nat) : Int) - 1) = -1 := by decide
  rw [w] at e
  have d : decide ((-1 : Int) < 0) = true := by decide
  simp (implicitDefEqProofs := false) only [run_seq, run_cond, run_block, run_loop, run_exit, run_ret, run_skip, ops_cons, ops_nil, ev_tmp, pureS_some, heapS_some, heapN_some, gdS_tt, gdS_ff, gdS_tf, gdS_ft, gdS_undef, List.getD_cons_succ, List.getD_cons_zero, List.set_cons_succ, List.set_cons_zero, Option.bind_some, regR_some, seqR_normal, seqR_ret, seqR_exit, fin0_ret, fin0_normal, fin1_ret, fin1_normal, finN_ret, finN_normal, List.map_cons, List.map_nil, lenV_some, pickV_t, pickV_f, callV_func, extV_tup, condR_true, condR_false, blockR_normal, blockR_ret, blockR_exit, if_true, List.nil_append, List.append_nil, List.cons_append, List.getElem?_cons_zero, List.getElem?_cons_succ, loopR_normal, loopR_exit, loopR_ret, Option.map_some, ite_true, reduceIte, reg11_0, st11_0_0, st11_0_1, reg11_1, st11_1_0, st11_1_1, st11_1_2, reg11_2, st11_2_0, st11_2_1, reg11_3, st11_3_0, st11_3_1, reg11_4, st11_4_0, st11_4_1, st11_4_2, st11_4_3, st11_4_4, st11_4_5, st11_4_6, st11_4_7, st11_4_8, st11_4_9, st11_4_10, st11_4_11, st11_4_12, st11_4_13, st11_4_14, st11_4_15, st11_4_16, st11_4_17, st11_4_18, e, i_lss, d]
theorem wrap_last (m : Nat) (hm : m < 4611686018427387904) : IntKind.i64.wrap (((m + 1 : Nat) : Int) - 1) = (m : Int) := by
  rw [show (((m + 1 : Nat) : Int) - 1) = (m : Int) by omega]; exact wrap_nat m hm
theorem peek_some {h : AH} {s cnt : Nat} {L : List Val} {v : Val} {F : Nat → Prop} {b : Nat} (S : Src h s (L ++ [v]) cnt F) (hL : L.length < 4611686018427387904) (hb : v.text[v.at_]? = some b) (n : Nat) :
    X (n + 3) 11 [.ptr s 0] h = some (.tup [.int .u8 (b : Int), .bool true], h) := by
  rw [ent11]
  unfold cd11
  have e := top_ok S n
  rw [List.length_append, List.length_singleton, wrap_last _ hL] at e
  have d : decide ((L.length : Int) < 0) = false := by simp
  rcases S.slice with ⟨h0, _⟩ | ⟨id, _, _, hc, hR⟩
  · simp at h0
  · have hv : (L ++ [v])[L.length]? = some v := by simp
    have r := row_val hR hv
    have r1 : h.cell? id (0 + L.length * 4 + 1) = some (.str v.text) := r.cell (i := 1) rfl
    have r2 : h.cell? id (0 + L.length * 4 + 2) = some (.int .i64 (v.at_ : Int)) := r.cell (i := 2) rfl
    have i1 : ∀ k, aindexAt Try.prog 62 (.sl id 0 (L ++ [v]).length 4 none) (.int k (L.length : Int)) = some (.ptr id (0 + L.length * 4)) := fun k => ix62 _ _ _ _ (by simp) k
    have i2 : ∀ k, aindex Try.prog 9 (.str v.text) (.int k (v.at_ : Int)) = some (.int .u8 (b : Int)) := fun k => ix9 _ hb k
    simp (implicitDefEqProofs := false) only [run_seq, run_cond, run_block, run_loop, run_exit, run_ret, run_skip, ops_cons, ops_nil, ev_tmp, pureS_some, heapS_some, heapN_some, gdS_tt, gdS_ff, gdS_tf, gdS_ft, gdS_undef, List.getD_cons_succ, List.getD_cons_zero, List.set_cons_succ, List.set_cons_zero, Option.bind_some, regR_some, seqR_normal, seqR_ret, seqR_exit, fin0_ret, fin0_normal, fin1_ret, fin1_normal, finN_ret, finN_normal, List.map_cons, List.map_nil, lenV_some, pickV_t, pickV_f, callV_func, extV_tup, condR_true, condR_false, blockR_normal, blockR_ret, blockR_exit, if_true, List.nil_append, List.append_nil, List.cons_append, List.getElem?_cons_zero, List.getElem?_cons_succ, loopR_normal, loopR_exit, loopR_ret, Option.map_some, ite_true, reduceIte, reg11_0, st11_0_0, st11_0_1, reg11_1, st11_1_0, st11_1_1, st11_1_2, reg11_2, st11_2_0, st11_2_1, reg11_3, st11_3_0, st11_3_1, reg11_4, st11_4_0, st11_4_1, st11_4_2, st11_4_3, st11_4_4, st11_4_5, st11_4_6, st11_4_7, st11_4_8, st11_4_9, st11_4_10, st11_4_11, st11_4_12, st11_4_13, st11_4_14, st11_4_15, st11_4_16, st11_4_17, st11_4_18, e, i_lss, d, nilck, fa64_0, ld62, ld9, ld3, Nat.add_zero, hc, fa66_1, fa66_2, i1, i2, r1, r2]
end Go.Proofs.Ytgnacecplaemlaa
