/-
  walk.Deep.
-/
import Derived.Test.YtgnacecplaemlaaW16
import Derived.Test.YtgnacecplaemlaaH5
namespace Go.Proofs.Ytgnacecplaemlaa
open AI
set_option linter.unusedSimpArgs false
def mx (l : List Nat) : Nat := l.foldl max 0
theorem mx_snoc (l : List Nat) (a : Nat) : mx (l ++ [a]) = max (mx l) a := by simp [mx]
theorem foldl_max (l : List Nat) : ∀ k B, k ≤ B → (∀ a ∈ l, a ≤ B) → l.foldl max k ≤ B := by
  induction l with
  | nil => intro k B h _; exact h
  | cons a l ih =>
    intro k B h hl
    exact ih _ B (Nat.max_le.mpr ⟨h, hl a (by simp)⟩) fun b hb => hl b (by simp [hb])
theorem mx_le {l : List Nat} {B : Nat} (hl : ∀ a ∈ l, a ≤ B) : mx l ≤ B := foldl_max l 0 B (by omega) hl
theorem sum_mem {l : List Nat} {a : Nat} (ha : a ∈ l) : a ≤ l.sum := by
  induction l with
  | nil => simp at ha
  | cons b l ih =>
    rw [List.sum_cons]
    rcases List.mem_cons.mp ha with rfl | ha
    · omega
    · have := ih ha; omega
/-- How deep a command is. -/
def Nd.deep (n : Nd) : Nat := mx (n.under.attach.map (fun x => x.1.deep)) + 1
 termination_by n.sz
 decreasing_by exact Nd.under_sz x.2
theorem Nd.deep_eq (n : Nd) : n.deep = mx (n.under.map Nd.deep) + 1 := by
  rw [Nd.deep]
  congr 2
  exact (List.map_attach_eq_pmap ..).trans (List.pmap_eq_map ..)
theorem Nd.deep_le : ∀ (M : Nat) {n : Nd}, n.sz ≤ M → n.deep ≤ n.all.length := by
  intro M
  induction M with
  | zero => intro n hm; have := n.sz_pos; omega
  | succ M ih =>
    intro n hm
    rw [Nd.deep_eq, Nd.all_eq]
    simp only [List.length_cons]
    refine Nat.succ_le_succ (mx_le fun a ha => ?_)
    obtain ⟨x, hx, rfl⟩ := List.mem_map.mp ha
    have h1 := ih (n := x) (by have := Nd.under_sz hx; omega)
    rw [List.length_flatMap]
    exact Nat.le_trans h1 (sum_mem (List.mem_map.mpr ⟨x, hx, rfl⟩))
theorem Nd.deep_sz : ∀ (M : Nat) {n : Nd}, n.sz ≤ M → n.deep ≤ n.sz := by
  intro M
  induction M with
  | zero => intro n hm; have := n.sz_pos; omega
  | succ M ih =>
    intro n hm
    rw [Nd.deep_eq]
    have hp := n.sz_pos
    have : mx (n.under.map Nd.deep) ≤ n.sz - 1 := mx_le fun a ha => by
      obtain ⟨x, hx, rfl⟩ := List.mem_map.mp ha
      have h0 := Nd.under_sz hx
      have h1 := ih (n := x) (by omega)
      omega
    omega
theorem row_set {t : TypeId} {h : AH} {p : Nat} {a v : AV} (hz : asize Try.prog t = some 1) (R : Row h p 0 [a]) (hv : v.atom = true) :
    ∃ h', stV Try.prog t (.ptr p 0) v h = some (.tup [], h') ∧ h'.next = h.next ∧ Row h' p 0 [v] ∧ Other (fun j => j = p) h h' := by
  obtain ⟨h', w1, w2, w3, w4⟩ := Row.write (a := []) (p := [a]) (c := []) R [v] rfl
  refine ⟨h', ?_, w2, w3, w4⟩
  rw [stV_one hz hv]
  have w1 : h.write p 0 [v] = some h' := w1
  rw [w1]
  rfl
section
variable (id0 p : Nat) (fr : List AV)
/-- Between two rounds. -/
def JD (pre : List Nd) (F : Nat → Prop) (h : AH) : Prop :=
  Rec h id0 ⟨.ready, 29, fr, #[7], ra29_3, rb29_4⟩ ∧ Row h p 0 [.int .i64 (mx (pre.map Nd.deep) : Nat)] ∧ p < h.next ∧ F = fun j => j = id0 ∨ j = p
theorem inv_JD {hB : AH} (h1 : hB.next ≤ id0) (h2 : hB.next ≤ p) : Inv hB (JD id0 p fr) where
  lt := fun pre F h j ⟨a, b, c, e⟩ hj => by subst e; exact hj.elim (fun e => e ▸ a.1) fun e => e ▸ c
  ge := fun pre F h j ⟨a, b, c, e⟩ hj => by subst e; exact hj.elim (fun e => e ▸ h1) fun e => e ▸ h2
  keep := fun pre F G h h' ⟨a, b, c, e⟩ o hG => by
    subst e
    exact ⟨a.keep o (hG _ (.inl rfl)), b.keep o (hG _ (.inr rfl)), Nat.lt_of_lt_of_le c o.next, rfl⟩
end
theorem deep29 : ∀ (M : Nat) {h : AH} {T : Nd}, T.sz ≤ M → T.sz ≤ 1048576 → T.ok h → ∀ n, 4 * T.sz + 20 ≤ n → X n (.func 29) [.agg T.cells] h = some (.int .i64 (T.deep : Nat), h) := by
  intro M
  induction M with
  | zero => intro h T hm; have := T.sz_pos; omega
  | succ M ih =>
    intro h T hm hb hv n hn
    obtain ⟨m, rfl⟩ : ∃ m, n = m + 2 := ⟨n - 2, by omega⟩
    have hdT := Nd.deep_sz _ (Nat.le_refl T.sz)
    have qa : Quiet h (h.alloc T.cells) := Other.alloc _ _ _
    have Ha := Has.new h T.cells
    have na : (h.alloc T.cells).next = h.next + 1 := rfl
    rw [ent29]
    unfold cd29
    have bx : boxV (.agg T.cells) h = some (.ptr h.next 0, h.alloc T.cells) := box_agg h T.cells
    generalize h.alloc T.cells = h1 at *
    obtain ⟨h2, f1, f2, f3, f4⟩ := fill h1 [.int .i64 0] [.int .i64 0] rfl
    have st0 := stV_one (t := 3) (v := .int .i64 0) z3 rfl h1.next 0 (h1.alloc [.int .i64 0])
    rw [f1] at st0
    simp only [Option.map_some] at st0
    have r1 := ldS (Ha.quiet f3) (n := 10) T.cells_len
    have b53 := below53 T h2 m
    have qb : Quiet h2 (h2.alloc T.cells) := Other.alloc _ _ _
    have Hb := Has.new h2 T.cells
    have nb : (h2.alloc T.cells).next = h2.next + 1 := rfl
    have f2' := f2.keep (F := fun _ => False) qb (fun x => x)
    generalize h2.alloc T.cells = h3 at *
    have q13 : Quiet h h3 := (qa.trans f3).trans qb
    have hrd : rdOK none h3 = true := rfl
    have qn := Other.newOb h3 (.loop ⟨.ready, 29, [.agg T.cells, .ptr h.next 0, .int .i64 0, .ptr h1.next 0, .tup [], .agg T.cells, .fn (.func 69) [] [.ptr h2.next 0], .tup [], .tup [], .tup [], .tup [], .tup [], .tup [], .tup []], #[7], ra29_3, rb29_4⟩)
    have rn : Rec (h3.newOb (.loop ⟨.ready, 29, [.agg T.cells, .ptr h.next 0, .int .i64 0, .ptr h1.next 0, .tup [], .agg T.cells, .fn (.func 69) [] [.ptr h2.next 0], .tup [], .tup [], .tup [], .tup [], .tup [], .tup [], .tup []], #[7], ra29_3, rb29_4⟩)) h3.next ⟨.ready, 29, [.agg T.cells, .ptr h.next 0, .int .i64 0, .ptr h1.next 0, .tup [], .agg T.cells, .fn (.func 69) [] [.ptr h2.next 0], .tup [], .tup [], .tup [], .tup [], .tup [], .tup [], .tup []], #[7], ra29_3, rb29_4⟩ := ⟨Nat.lt_succ_self _, by rw [AH.ob?_newOb, if_pos rfl]⟩
    have nn : (h3.newOb (.loop ⟨.ready, 29, [.agg T.cells, .ptr h.next 0, .int .i64 0, .ptr h1.next 0, .tup [], .agg T.cells, .fn (.func 69) [] [.ptr h2.next 0], .tup [], .tup [], .tup [], .tup [], .tup [], .tup [], .tup []], #[7], ra29_3, rb29_4⟩)).next = h3.next + 1 := rfl
    have hid0 : h.next ≤ h3.next := q13.next
    have hp : h.next ≤ h1.next := by omega
    have hne : h1.next ≠ h3.next := by omega
    have I := inv_JD (hB := h) h3.next h1.next [.agg T.cells, .ptr h.next 0, .int .i64 0, .ptr h1.next 0, .tup [], .agg T.cells, .fn (.func 69) [] [.ptr h2.next 0], .tup [], .tup [], .tup [], .tup [], .tup [], .tup [], .tup []] hid0 hp
    have Y : Yields (4 * T.sz + 17) h (.fn (.yield h3.next) [] []) T.under (JD h3.next h1.next [.agg T.cells, .ptr h.next 0, .int .i64 0, .ptr h1.next 0, .tup [], .agg T.cells, .fn (.func 69) [] [.ptr h2.next 0], .tup [], .tup [], .tup [], .tup [], .tup [], .tup [], .tup []]) (fun _ _ _ => False) := by
      intro pre x post hpre F g hj q n2 hn2
      obtain ⟨k, rfl⟩ : ∃ k, n2 = k + 1 := ⟨n2 - 1, by omega⟩
      obtain ⟨r1, r2, r3, rfl⟩ := hj
      have hxm : x ∈ T.under := by rw [hpre]; simp
      have hxok := Nd.under_ok hv hxm
      have hxs := Nd.under_sz hxm
      obtain ⟨g1, f1, f2, f3, f4⟩ := fill g [.int .i64 0, .str [], .bool false, .bool false, .nilSl, .nilSl, .nilSl, .nilSl, .nilSl, .nilSl] x.cells x.cells_len
      have sx := stV_agg (t := 49) (n := 10) (l := x.cells) z49 x.cells_len (Nd.atoms hxok) g.next 0 (g.alloc [.int .i64 0, .str [], .bool false, .bool false, .nilSl, .nilSl, .nilSl, .nilSl, .nilSl, .nilSl])
      rw [f1] at sx
      simp only [Option.map_some] at sx
      have r1' := r1.keep f3 (fun x => x)
      have r1l := r1.1
      show ∃ b h' F', X (k + 1) (.yield h3.next) [.agg x.cells] g = some (.bool b, h') ∧ _
      rw [yield_run r1.2]
      unfold ra29_3
      simp (implicitDefEqProofs := false) only [run_seq, run_cond, opsS_cons, opsS_nil, sameH_f, sameH_t, run_block, run_loop, run_exit, run_ret, run_skip, ops_cons, ops_nil, ev_tmp, pureS_some, heapS_some, heapN_some, gdS_tt, gdS_ff, gdS_tf, gdS_ft, gdS_undef, List.getD_cons_succ, List.getD_cons_zero, List.set_cons_succ, List.set_cons_zero, Option.bind_some, regR_some, seqR_normal, seqR_ret, seqR_exit, fin0_ret, fin0_normal, fin1_ret, fin1_normal, finN_ret, finN_normal, List.map_cons, List.map_nil, lenV_some, pickV_t, pickV_f, callV_func, callV_yield, extV_tup, condR_true, condR_false, blockR_normal, blockR_ret, blockR_exit, if_true, List.nil_append, List.append_nil, List.cons_append, List.getElem?_cons_zero, List.getElem?_cons_succ, loopR_normal, loopR_exit, loopR_ret, Option.map_some, ite_true, reduceIte, reg29_0, st29_0_0, st29_0_1, reg29_1, st29_1_0, st29_1_1, reg29_2, st29_2_0, st29_2_1, reg29_3, st29_3_0, st29_3_1, reg29_4, st29_4_0, st29_4_1, st29_4_2, st29_4_3, st29_4_4, reg29_5, st29_5_0, st29_5_1, st29_5_2, new49, sx]
      rw [mid_ready r1'.2]
      have ob := Other.putOb (h := g1) (id := h3.next) (some (.loop ⟨.busy, 29, [.agg T.cells, .ptr h.next 0, .int .i64 0, .ptr h1.next 0, .tup [], .agg T.cells, .fn (.func 69) [] [.ptr h2.next 0], .tup [], .tup [], .tup [], .tup [], .tup [], .tup [], .tup []], #[7], ra29_3, rb29_4⟩))
      have rb := Rec.put (h := g1) (id := h3.next) ⟨.busy, 29, [.agg T.cells, .ptr h.next 0, .int .i64 0, .ptr h1.next 0, .tup [], .agg T.cells, .fn (.func 69) [] [.ptr h2.next 0], .tup [], .tup [], .tup [], .tup [], .tup [], .tup [], .tup []], #[7], ra29_3, rb29_4⟩ r1'.1
      have ng : (AH.putOb g1 h3.next (some (.loop ⟨.busy, 29, [.agg T.cells, .ptr h.next 0, .int .i64 0, .ptr h1.next 0, .tup [], .agg T.cells, .fn (.func 69) [] [.ptr h2.next 0], .tup [], .tup [], .tup [], .tup [], .tup [], .tup [], .tup []], #[7], ra29_3, rb29_4⟩))).next = g1.next := rfl
      have q2 : Quiet h (AH.putOb g1 h3.next (some (.loop ⟨.busy, 29, [.agg T.cells, .ptr h.next 0, .int .i64 0, .ptr h1.next 0, .tup [], .agg T.cells, .fn (.func 69) [] [.ptr h2.next 0], .tup [], .tup [], .tup [], .tup [], .tup [], .tup [], .tup []], #[7], ra29_3, rb29_4⟩))) := (q.trans f3).plus ob fun j e => .inr (e ▸ hid0)
      generalize AH.putOb g1 h3.next (some (.loop ⟨.busy, 29, [.agg T.cells, .ptr h.next 0, .int .i64 0, .ptr h1.next 0, .tup [], .agg T.cells, .fn (.func 69) [] [.ptr h2.next 0], .tup [], .tup [], .tup [], .tup [], .tup [], .tup [], .tup []], #[7], ra29_3, rb29_4⟩)) = g2 at *
      have R2 := (r2.keep f3 (fun x => x)).keep ob hne
      have hF2 := f2.keep ob (F := fun j => j = h3.next) (by omega)
      have c3 : g2.cell? h1.next 0 = some (.int .i64 (mx (pre.map Nd.deep) : Nat)) := R2.cell (i := 0) rfl
      have r5 := ldS hF2.has (n := 10) x.cells_len
      have hcall := ih (by omega) (by omega) (hxok.quiet q2) k (by omega)
      have hmax : (if ((x.deep : Nat) : Int) > ((mx (pre.map Nd.deep) : Nat) : Int) then ((x.deep : Nat) : Int) else ((mx (pre.map Nd.deep) : Nat) : Int)) = ((mx ((pre ++ [x]).map Nd.deep) : Nat) : Int) := by
        rw [List.map_append, List.map_cons, List.map_nil, mx_snoc]
        split <;> omega
      obtain ⟨g3, w1, w2, w3, w4⟩ := row_set (t := 3) (v := .int .i64 (mx ((pre ++ [x]).map Nd.deep) : Nat)) z3 R2 rfl
      have ro := rb.keep w4 (fun e => hne e.symm)
      unfold rb29_4
      simp (implicitDefEqProofs := false) only [run_seq, run_cond, opsS_cons, opsS_nil, sameH_f, sameH_t, run_block, run_loop, run_exit, run_ret, run_skip, ops_cons, ops_nil, ev_tmp, pureS_some, heapS_some, heapN_some, gdS_tt, gdS_ff, gdS_tf, gdS_ft, gdS_undef, List.getD_cons_succ, List.getD_cons_zero, List.set_cons_succ, List.set_cons_zero, Option.bind_some, regR_some, seqR_normal, seqR_ret, seqR_exit, fin0_ret, fin0_normal, fin1_ret, fin1_normal, finN_ret, finN_normal, List.map_cons, List.map_nil, lenV_some, pickV_t, pickV_f, callV_func, callV_yield, extV_tup, condR_true, condR_false, blockR_normal, blockR_ret, blockR_exit, if_true, List.nil_append, List.append_nil, List.cons_append, List.getElem?_cons_zero, List.getElem?_cons_succ, loopR_normal, loopR_exit, loopR_ret, Option.map_some, ite_true, reduceIte, reg29_0, st29_0_0, st29_0_1, reg29_1, st29_1_0, st29_1_1, reg29_2, st29_2_0, st29_2_1, reg29_3, st29_3_0, st29_3_1, reg29_4, st29_4_0, st29_4_1, st29_4_2, st29_4_3, st29_4_4, reg29_5, st29_5_0, st29_5_1, st29_5_2, ld3, c3, ld49, r5, hcall, max_int, hmax, w1]
      rw [end_normal ro.2]
      refine ⟨true, _, fun j => j = h3.next ∨ j = h1.next, rfl, ⟨((f3.any.trans (ob.mono fun j _ e => .inl e)).trans (w4.mono fun j _ e => .inr e)).trans ((Other.putOb _).mono fun j _ e => .inl e), fun j hj => .inl hj⟩, ?_⟩
      rw [if_pos rfl]
      have n3 := f3.next
      have hnx : (AH.putOb g3 h3.next (some (.loop ⟨.ready, 29, [.agg T.cells, .ptr h.next 0, .int .i64 0, .ptr h1.next 0, .tup [], .agg T.cells, .fn (.func 69) [] [.ptr h2.next 0], .tup [], .tup [], .tup [], .tup [], .tup [], .tup [], .tup []], #[7], ra29_3, rb29_4⟩))).next = g3.next := rfl
      exact ⟨Rec.put _ ro.1, w3.keep (Other.putOb _) hne, by omega, rfl⟩
    obtain ⟨h4, F4, w1, w2, w3⟩ := under69 hb hv I Y (F := fun j => j = h3.next ∨ j = h1.next) ⟨rn, f2'.keep (F := fun _ => False) qn (fun x => x), by omega, rfl⟩ (q13.trans qn) (b := h2.next) (Hb.quiet qn) (fun e => by rcases e with e | e <;> omega) (m + 1) (by omega) (by omega)
    simp (implicitDefEqProofs := false) only [run_seq, run_cond, opsS_cons, opsS_nil, sameH_f, sameH_t, run_block, run_loop, run_exit, run_ret, run_skip, ops_cons, ops_nil, ev_tmp, pureS_some, heapS_some, heapN_some, gdS_tt, gdS_ff, gdS_tf, gdS_ft, gdS_undef, List.getD_cons_succ, List.getD_cons_zero, List.set_cons_succ, List.set_cons_zero, Option.bind_some, regR_some, seqR_normal, seqR_ret, seqR_exit, fin0_ret, fin0_normal, fin1_ret, fin1_normal, finN_ret, finN_normal, List.map_cons, List.map_nil, lenV_some, pickV_t, pickV_f, callV_func, callV_yield, extV_tup, condR_true, condR_false, blockR_normal, blockR_ret, blockR_exit, if_true, List.nil_append, List.append_nil, List.cons_append, List.getElem?_cons_zero, List.getElem?_cons_succ, loopR_normal, loopR_exit, loopR_ret, Option.map_some, ite_true, reduceIte, reg29_0, st29_0_0, st29_0_1, reg29_1, st29_1_0, st29_1_1, reg29_2, st29_2_0, st29_2_1, reg29_3, st29_3_0, st29_3_1, reg29_4, st29_4_0, st29_4_1, st29_4_2, st29_4_3, st29_4_4, reg29_5, st29_5_0, st29_5_1, st29_5_2, bx, new3, st0, ld49, r1, b53, run_range, hrd, callF_func, hb69]
    generalize hr : rangeEnd _ _ _ = r
    revert r hr
    rcases w3 with ⟨t1, t2, t3, rfl⟩ | ⟨_, w3⟩
    · refine range_all ⟨_, h4, _, w1, t1.2, .inl ⟨rfl, ?_⟩⟩
      have R5 := t2.keep (Other.putOb (id := h3.next) none) hne
      have c5 := R5.cell (i := 0) (v := .int .i64 (mx (T.under.map Nd.deep) : Nat)) rfl
      have hde := T.deep_eq
      have w := wrap_succ (mx (T.under.map Nd.deep)) (by omega)
      have qf : Quiet h (h4.putOb h3.next none) := ((q13.trans qn).plus w2.oth fun j hj => .inr (by rcases hj with rfl | rfl <;> omega)).plus (Other.putOb none) fun j e => .inr (e ▸ hid0)
      simp (implicitDefEqProofs := false) only [run_seq, run_cond, opsS_cons, opsS_nil, sameH_f, sameH_t, run_block, run_loop, run_exit, run_ret, run_skip, ops_cons, ops_nil, ev_tmp, pureS_some, heapS_some, heapN_some, gdS_tt, gdS_ff, gdS_tf, gdS_ft, gdS_undef, List.getD_cons_succ, List.getD_cons_zero, List.set_cons_succ, List.set_cons_zero, Option.bind_some, regR_some, seqR_normal, seqR_ret, seqR_exit, fin0_ret, fin0_normal, fin1_ret, fin1_normal, finN_ret, finN_normal, List.map_cons, List.map_nil, lenV_some, pickV_t, pickV_f, callV_func, callV_yield, extV_tup, condR_true, condR_false, blockR_normal, blockR_ret, blockR_exit, if_true, List.nil_append, List.append_nil, List.cons_append, List.getElem?_cons_zero, List.getElem?_cons_succ, loopR_normal, loopR_exit, loopR_ret, Option.map_some, ite_true, reduceIte, reg29_0, st29_0_0, st29_0_1, reg29_1, st29_1_0, st29_1_1, reg29_2, st29_2_0, st29_2_1, reg29_3, st29_3_0, st29_3_1, reg29_4, st29_4_0, st29_4_1, st29_4_2, st29_4_3, st29_4_4, reg29_5, st29_5_0, st29_5_1, st29_5_2, ld3, c5, i_add, w]
      rw [hde]
      exact nrm_flat qf rfl
    · exact w3.elim
end Go.Proofs.Ytgnacecplaemlaa
