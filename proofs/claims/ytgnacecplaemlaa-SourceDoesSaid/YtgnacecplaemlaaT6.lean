/-
  Names of both sources, and their comparison.
-/
import Derived.Test.YtgnacecplaemlaaT5
namespace Go.Proofs.Ytgnacecplaemlaa
open AI
set_option linter.unusedSimpArgs false
def strs (N : List (List Nat)) : List AV := N.map .str
/-- A slice of strings that a call has made. -/
def Sl40 (h : AH) (sv : AV) (N : List (List Nat)) : Prop :=
  (sv = .nilSl ∧ N = []) ∨ ∃ id, sv = .sl id 0 N.length 1 none ∧ Row h id 0 (strs N)
theorem Sl40.keep {h h' : AH} {sv : AV} {N : List (List Nat)} {F : Nat → Prop} (S : Sl40 h sv N) (o : Other F h h') (hd : ∀ j, own sv j → ¬ F j) : Sl40 h' sv N := by
  rcases S with ⟨h1, h2⟩ | ⟨id, rfl, R⟩
  · exact .inl ⟨h1, h2⟩
  · exact .inr ⟨id, rfl, R.keep o (hd _ rfl)⟩
theorem bsl40 (a : List Nat) (h : AH) : bslV Try.prog 40 1 [(0, .str a)] h = some (.sl h.next 0 1 1 (some 1), h.alloc [.str a]) := by kernel_rfl
theorem app40n (nb : Nat) (c : Option Nat) (h : AH) {v : List AV} (hv : h.cells? nb 1 0 = some v) : aappend Try.prog 40 40 .nilSl (.sl nb 0 1 1 c) h = some (.sl h.next 0 1 1 none, h.alloc v) := by
  have e : aappend Try.prog 40 40 .nilSl (.sl nb 0 1 1 c) h = match h.cells? nb 1 0 with | none => none | some new => some (.sl h.next 0 1 1 none, h.alloc new) := by kernel_rfl
  rw [e, hv]
theorem app40 (id len nb : Nat) (c : Option Nat) (h : AH) {v old : List AV} (hl : len < 1000000) (hv : h.cells? nb 1 0 = some v) (ho : h.cells? id (len * 1) 0 = some old) :
    aappend Try.prog 40 40 (.sl id 0 len 1 none) (.sl nb 0 1 1 c) h = aappend.amove h id 0 len 1 1 v := by
  have e : aappend Try.prog 40 40 (.sl id 0 len 1 none) (.sl nb 0 1 1 c) h = if Nat.blt 140737488355328 ((len + 1) * 16) then none else
      match h.cells? nb 1 0, h.cells? id (len * 1) 0 with | some new, some old => aappend.amove h id 0 len 1 1 new | _, _ => none := by kernel_rfl
  have hb : Nat.blt 140737488355328 ((len + 1) * 16) = false := by
    cases hx : Nat.blt 140737488355328 ((len + 1) * 16)
    · rfl
    · have := Nat.blt_eq.mp hx
      omega
  rw [e, hb, hv, ho]
  rfl
/-- One name more. -/
theorem app_name {h : AH} {sv : AV} {N : List (List Nat)} (S : Sl40 h sv N) (a : List Nat) (hl : N.length < 1000) (hlt : ∀ j, own sv j → j < h.next) :
    ∃ sv' h', aappend Try.prog 40 40 sv (.sl h.next 0 1 1 (some 1)) (h.alloc [.str a]) = some (sv', h') ∧ Sl40 h' sv' (N ++ [a]) ∧ Other (own sv) h h' ∧ (∀ j, own sv' j → h.next ≤ j ∧ j < h'.next) := by
  have N1 := Row.new h [.str a]
  have O1 : Other (fun _ => False) h (h.alloc [.str a]) := Other.alloc _ _ _
  have nn : (h.alloc [.str a]).next = h.next + 1 := rfl
  rcases S with ⟨rfl, rfl⟩ | ⟨id, rfl, R⟩
  · refine ⟨_, _, app40n _ _ _ N1.all, .inr ⟨_, rfl, Row.new _ _⟩, (O1.mono fun _ _ x => x.elim).trans (Other.alloc _ _ _), fun j hj => ?_⟩
    have hj : j = (h.alloc [.str a]).next := hj
    have : ((h.alloc [.str a]).alloc [.str a]).next = h.next + 2 := rfl
    omega
  · have R1 := R.keep O1 (fun x => x)
    have hll : (strs N).length = N.length * 1 := by simp [strs]
    have ho : (h.alloc [.str a]).cells? id (N.length * 1) 0 = some (strs N) := by have := R1.all; rwa [hll] at this
    obtain ⟨h', e, n', V, O⟩ := Row.move (len := N.length) (n := 1) (es := 1) (new := [.str a]) R1 hll rfl rfl
    refine ⟨_, h', by rw [app40 _ _ _ _ _ (by omega) N1.all ho, e], .inr ⟨_, by rw [List.length_append]; rfl, by simpa [strs] using V⟩, (O1.mono fun _ _ x => x.elim).trans O, fun j hj => ?_⟩
    have hj : j = (h.alloc [.str a]).next := hj
    omega
def names (L : List Val) : List (List Nat) := L.map (·.name)
def C23 (s len i : Nat) (sv : AV) : List AV := [.ptr s 0, .top, .nilSl, sv, .top, .top, .int .i64 (len : Int), .int .i64 (i : Int), .top, .top, .top, .top, .top, .top, .top, .top, .top, .top, .top, .top, .top, .top, .top]
theorem names_loop {s cnt : Nat} {L : List Val} {F : Nat → Prop} (hLb : L.length < 1000) (h0 : AH)
    (call : FuncId → List AV → AH → Option (AV × AH)) (lf : Nat) : ∀ (m i : Nat) (fr : List AV) (h : AH) (sv : AV), Src h s L cnt F → Other (fun _ => False) h0 h → (∀ j, F j → j < h0.next) → Sl40 h sv (names (L.take i)) → (∀ j, own sv j → h0.next ≤ j ∧ j < h.next) →
      i + m = L.length → aclear (HK 23) lp23_3 fr = C23 s L.length i sv → ∀ k,
      ∃ fr' h' sv', Other (fun _ => False) h0 h' ∧ Sl40 h' sv' (names L) ∧ (∀ j, own sv' j → h0.next ≤ j ∧ j < h'.next) ∧ aloop (arun Try.prog (HK 23) call lf lp23_3) (aclear (HK 23) lp23_3) (m + 1 + k) fr h = some (.exit 0, fr', h') ∧ fr'.getD 3 .top = sv' ∧ fr'.length = 23
  | 0, i, fr, h, sv, S, O, hF, N, hw, hi, hc, k => by
    have e0 : i = L.length := by omega
    subst e0
    rw [List.take_length] at N
    have key : ∀ fr : List AV, fr.getD 3 .top = sv → fr.length = 23 → ∃ fr' h' sv', Other (fun _ => False) h0 h' ∧ Sl40 h' sv' (names L) ∧ (∀ j, own sv' j → h0.next ≤ j ∧ j < h'.next) ∧ (some (.exit 0, fr, h) : ARes) = some (.exit 0, fr', h') ∧ fr'.getD 3 .top = sv' ∧ fr'.length = 23 :=
      fun fr a b => ⟨fr, h, sv, O, N, hw, rfl, a, b⟩
    rw [show 0 + 1 + k = k + 1 by omega, loop_succ, hc]
    conv => enter [1, fr', 1, h', 1, sv', 2, 2, 2, 1, 1, 1]; unfold lp23_3
    have d : decide ((L.length : Int) < (L.length : Int)) = false := by simp
    simp (implicitDefEqProofs := false) only [C23, run_seq, run_cond, run_block, run_loop, run_exit, run_ret, run_skip, ops_cons, ops_nil, ev_tmp, pureS_some, heapS_some, heapN_some, gdS_tt, gdS_ff, gdS_tf, gdS_ft, gdS_undef, List.getD_cons_succ, List.getD_cons_zero, List.set_cons_succ, List.set_cons_zero, Option.bind_some, regR_some, seqR_normal, seqR_ret, seqR_exit, fin0_ret, fin0_normal, fin1_ret, fin1_normal, finN_ret, finN_normal, List.map_cons, List.map_nil, lenV_some, pickV_t, pickV_f, callV_func, extV_tup, condR_true, condR_false, blockR_normal, blockR_ret, blockR_exit, if_true, List.nil_append, List.append_nil, List.cons_append, List.getElem?_cons_zero, List.getElem?_cons_succ, loopR_normal, loopR_exit, loopR_ret, Option.map_some, ite_true, reduceIte, reg23_0, st23_0_0, reg23_1, st23_1_0, reg23_2, st23_2_0, st23_2_1, st23_2_2, reg23_3, st23_3_0, reg23_4, st23_4_0, st23_4_1, reg23_5, st23_5_0, st23_5_1, st23_5_2, st23_5_3, st23_5_4, st23_5_5, st23_5_6, st23_5_7, st23_5_8, st23_5_9, st23_5_10, st23_5_11, reg23_6, st23_6_0, st23_6_1, reg23_7, st23_7_0, st23_7_1, i_lss, d]
    exact key _ rfl rfl
  | m + 1, i, fr, h, sv, S, O, hF, N, hw, hi, hc, k => by
    have hlt : i < L.length := by omega
    have hv : L[i]? = some L[i] := by simp [hlt]
    have et : names (L.take (i + 1)) = names (L.take i) ++ [(L[i]).name] := by unfold names; rw [List.take_succ_eq_append_getElem hlt, List.map_append]; rfl
    have d : decide ((i : Int) < (L.length : Int)) = true := by simp; omega
    have w3 := wrap_succ i (by omega)
    obtain ⟨sv', h', e, N', O', w'⟩ := app_name N (L[i]).name (by simp [names]; omega) (fun j hj => (hw j hj).2)
    have hle := O.1
    have S' := S.keep O' (fun j hj e => by have := hF j hj; have := hw j e; omega)
    have ih := fun fr hcl => names_loop hLb h0 call lf m (i + 1) fr h' sv' S' (O.above O' (fun j hj => .inl (hw j hj).1)) hF (by rw [et]; exact N') (fun j hj => by have := w' j hj; omega) (by omega) hcl k
    generalize L[i] = v at hv e
    rcases S.slice with ⟨rfl, _⟩ | ⟨id, _, _, hcell, hR⟩
    · simp at hlt
    · have r := row_val hR hv
      have r1 : h.cell? id (0 + i * 4) = some (.str v.name) := r.cell (i := 0) rfl
      have i1 : ∀ k, aindexAt Try.prog 62 (.sl id 0 L.length 4 none) (.int k (i : Int)) = some (.ptr id (0 + i * 4)) := fun k => ix62 _ _ _ _ hlt k
      rw [show m + 1 + 1 + k = (m + 1 + k) + 1 by omega, loop_succ, hc]
      conv => enter [1, fr', 1, h', 1, sv', 2, 2, 2, 1, 1, 1]; unfold lp23_3
      simp (implicitDefEqProofs := false) only [C23, run_seq, run_cond, run_block, run_loop, run_exit, run_ret, run_skip, ops_cons, ops_nil, ev_tmp, pureS_some, heapS_some, heapN_some, gdS_tt, gdS_ff, gdS_tf, gdS_ft, gdS_undef, List.getD_cons_succ, List.getD_cons_zero, List.set_cons_succ, List.set_cons_zero, Option.bind_some, regR_some, seqR_normal, seqR_ret, seqR_exit, fin0_ret, fin0_normal, fin1_ret, fin1_normal, finN_ret, finN_normal, List.map_cons, List.map_nil, lenV_some, pickV_t, pickV_f, callV_func, extV_tup, condR_true, condR_false, blockR_normal, blockR_ret, blockR_exit, if_true, List.nil_append, List.append_nil, List.cons_append, List.getElem?_cons_zero, List.getElem?_cons_succ, loopR_normal, loopR_exit, loopR_ret, Option.map_some, ite_true, reduceIte, reg23_0, st23_0_0, reg23_1, st23_1_0, reg23_2, st23_2_0, st23_2_1, st23_2_2, reg23_3, st23_3_0, reg23_4, st23_4_0, st23_4_1, reg23_5, st23_5_0, st23_5_1, st23_5_2, st23_5_3, st23_5_4, st23_5_5, st23_5_6, st23_5_7, st23_5_8, st23_5_9, st23_5_10, st23_5_11, reg23_6, st23_6_0, st23_6_1, reg23_7, st23_7_0, st23_7_1, i_lss, d, nilck, fa64_0, ld62, Nat.add_zero, hcell, i1, fa66_0, ld9, r1, bsl40, e, i_add, w3]
      exact ih _ (by rw [cl23_3]; rfl)
theorem names_ok {h : AH} {s cnt : Nat} {L : List Val} {F : Nat → Prop} (S : Src h s L cnt F) (hLb : L.length < 1000) (n : Nat) (hn : L.length + 2 ≤ n) :
    ∃ sv h', X (n + 1) 23 [.ptr s 0] h = some (sv, h') ∧ Sl40 h' sv (names L) ∧ Other (fun _ => False) h h' ∧ (∀ j, own sv j → h.next ≤ j ∧ j < h'.next) := by
  obtain ⟨k, rfl⟩ : ∃ k, n = L.length + 1 + k := ⟨n - (L.length + 1), by omega⟩
  have e : X (L.length + 1 + k) 18 [.ptr s 0] h = some (.int .i64 (L.length : Int), h) := by
    rw [show L.length + 1 + k = (L.length + k) + 1 by omega]; exact deep_ok S _
  rw [ent23]
  unfold cd23
  have l' : ∀ fr, aclear (HK 23) lp23_3 fr = C23 s L.length 0 .nilSl → ∃ sv h', fin1 (seqR (blockR 0 (aloop (arun Try.prog (HK 23) (X (L.length + 1 + k)) (L.length + 1 + k) lp23_3) (aclear (HK 23) lp23_3) (L.length + 1 + k) fr h))
      (fun fr' h' => some (.ret, (fr'.set 22 (fr'.getD 3 .top)).set 2 ((fr'.set 22 (fr'.getD 3 .top)).getD 22 .top), h'))) 2 = some (sv, h') ∧ Sl40 h' sv (names L) ∧ Other (fun _ => False) h h' ∧ (∀ j, own sv j → h.next ≤ j ∧ j < h'.next) := fun fr hcl => by
    obtain ⟨fr', h', sv', O, N, w, e', g, g2⟩ := names_loop hLb h (X (L.length + 1 + k)) (L.length + 1 + k) L.length 0 fr h .nilSl S (Other.refl _ _) S.lt (.inl ⟨rfl, rfl⟩) (fun j hj => hj.elim) (by omega) hcl k
    refine ⟨sv', h', ?_, N, O, w⟩
    rw [e']
    show fin1 (some (.ret, (fr'.set 22 (fr'.getD 3 .top)).set 2 ((fr'.set 22 (fr'.getD 3 .top)).getD 22 .top), h')) 2 = _
    rw [fin1_ret, g]
    simp [List.getD_eq_getElem?_getD, g2]
  simp (implicitDefEqProofs := false) only [run_seq, run_cond, run_block, run_loop, run_exit, run_ret, run_skip, ops_cons, ops_nil, ev_tmp, pureS_some, heapS_some, heapN_some, gdS_tt, gdS_ff, gdS_tf, gdS_ft, gdS_undef, List.getD_cons_succ, List.getD_cons_zero, List.set_cons_succ, List.set_cons_zero, Option.bind_some, regR_some, seqR_normal, seqR_ret, seqR_exit, fin0_ret, fin0_normal, fin1_ret, fin1_normal, finN_ret, finN_normal, List.map_cons, List.map_nil, lenV_some, pickV_t, pickV_f, callV_func, extV_tup, condR_true, condR_false, blockR_normal, blockR_ret, blockR_exit, if_true, List.nil_append, List.append_nil, List.cons_append, List.getElem?_cons_zero, List.getElem?_cons_succ, loopR_normal, loopR_exit, loopR_ret, Option.map_some, ite_true, reduceIte, reg23_0, st23_0_0, reg23_1, st23_1_0, reg23_2, st23_2_0, st23_2_1, st23_2_2, reg23_3, st23_3_0, reg23_4, st23_4_0, st23_4_1, reg23_5, st23_5_0, st23_5_1, st23_5_2, st23_5_3, st23_5_4, st23_5_5, st23_5_6, st23_5_7, st23_5_8, st23_5_9, st23_5_10, st23_5_11, reg23_6, st23_6_0, st23_6_1, reg23_7, st23_7_0, st23_7_1, e]
  exact l' _ (by rw [cl23_3]; rfl)
end Go.Proofs.Ytgnacecplaemlaa
