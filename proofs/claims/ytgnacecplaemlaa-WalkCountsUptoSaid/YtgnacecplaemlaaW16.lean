/-
  walk.All: the outer round; all.
-/
import Derived.Test.YtgnacecplaemlaaW15
namespace Go.Proofs.Ytgnacecplaemlaa
open AI
set_option linter.unusedSimpArgs false
theorem Nd.under_all_sz {n : Nd} : ∀ (M : Nat), n.sz ≤ M → ∀ y ∈ n.all, y.sz ≤ n.sz := by
  intro M
  induction M generalizing n with
  | zero => intro hm; have := n.sz_pos; omega
  | succ M ih =>
    intro hm y hy
    rw [Nd.all_eq] at hy
    rcases List.mem_cons.mp hy with rfl | hy
    · exact Nat.le_refl _
    · obtain ⟨x, hx, hy⟩ := List.mem_flatMap.mp hy
      have h1 := Nd.under_sz hx
      have h2 := ih (n := x) (by omega) y hy
      omega
theorem Nd.all_ok {h : AH} : ∀ (M : Nat) {n : Nd}, n.sz ≤ M → n.ok h → ∀ y ∈ n.all, y.ok h := by
  intro M
  induction M with
  | zero => intro n hm; have := n.sz_pos; omega
  | succ M ih =>
    intro n hm hv y hy
    rw [Nd.all_eq] at hy
    rcases List.mem_cons.mp hy with rfl | hy
    · exact hv
    · obtain ⟨x, hx, hy⟩ := List.mem_flatMap.mp hy
      exact ih (by have := Nd.under_sz hx; omega) (Nd.under_ok hv hx) y hy
section
variable (J Jx : List Nd → (Nat → Prop) → AH → Prop) (id1 b2 : Nat) (fr1 : List AV) (yv : AV)
def E1 : Nat → Prop := fun j => j = id1 ∨ j = b2
def J1 (T : Nd) := With (fun pre => J (T :: pre.flatMap Nd.all)) (fun h => Rec h id1 ⟨.ready, 68, fr1, #[11], ra68_3, rb68_4⟩ ∧ Has h b2 0 [yv]) (E1 id1 b2)
def Jx1 := With (fun _ F h => ∃ pre, Jx pre F h) (fun h => Rec h id1 ⟨.ret, 68, fr1, #[11], ra68_3, rb68_4⟩) (E1 id1 b2)
end
/-- What All says of a command. -/
def AllOK (T : Nd) : Prop :=
  ∀ {hB : AH} {J Jx : List Nd → (Nat → Prop) → AH → Prop}, T.sz ≤ 1048576 → T.ok hB → Inv hB J → Inv hB Jx → ∀ {m0 : Nat} {yv : AV}, yv.atom = true → Yields m0 hB yv T.all J Jx →
    ∀ {F : Nat → Prop} {h : AH}, J [] F h → Quiet hB h → ∀ {b : Nat}, Has h b 0 T.cells → ¬ F b → ∀ n, m0 + 16 * T.sz + 16 ≤ n →
    ∃ h' F', X n (.func 68) [yv, .ptr b 0] h = some (.tup [], h') ∧ St F F' h h' ∧ (J T.all F' h' ∨ ∃ pre, Jx pre F' h')
section
variable {J Jx : List Nd → (Nat → Prop) → AH → Prop} {id1 b2 : Nat} {yv : AV} {hB : AH}
theorem inv_J1 (I : Inv hB J) (T : Nd) (fr1 : List AV) (h1 : hB.next ≤ id1) (h2 : hB.next ≤ b2) : Inv hB (J1 J id1 b2 fr1 yv T) :=
  (I.re (fun pre => T :: pre.flatMap Nd.all)).with (fun j hj => by rcases hj with rfl | rfl <;> assumption) fun G h h' ⟨a, c⟩ o hG => ⟨a.keep o (hG _ (.inl rfl)), c.keep o (hG _ (.inr rfl))⟩
theorem inv_Jx1 (I : Inv hB Jx) (fr1 : List AV) (h1 : hB.next ≤ id1) (h2 : hB.next ≤ b2) : Inv hB (Jx1 Jx id1 b2 fr1) :=
  I.any.with (fun j hj => by rcases hj with rfl | rfl <;> assumption) fun G h h' a o hG => a.keep o (hG _ (.inl rfl))
theorem yield1 (I : Inv hB J) (IX : Inv hB Jx) {m0 : Nat} {T : Nd} (hb : T.sz ≤ 1048576) (hv : T.ok hB) (IH : ∀ x ∈ T.under, AllOK x) (Y : Yields m0 hB yv T.all J Jx) (nb : b2 ≠ id1) (hid1 : hB.next ≤ id1) (hb2 : hB.next ≤ b2) (v0 v1 v3 v4 v5 v6 v7 v8 v9 v10 v11 v12 v13 v14 v15 v16 v17 v18 : AV) :
    Yields (m0 + 16 * T.sz + 4) hB (.fn (.yield id1) [] []) T.under (J1 J id1 b2 [v0, v1, .ptr b2 0, v3, v4, v5, v6, v7, v8, v9, v10, v11, v12, v13, v14, v15, v16, v17, v18] yv T) (Jx1 Jx id1 b2 [v0, v1, .ptr b2 0, v3, v4, v5, v6, v7, v8, v9, v10, v11, v12, v13, v14, v15, v16, v17, v18]) := by
  intro pre x post hpre F1 h hj q n hn
  obtain ⟨m, rfl⟩ : ∃ m, n = m + 2 := ⟨n - 2, by omega⟩
  obtain ⟨F, hj, ⟨r1, r3⟩, hE, rfl⟩ := hj
  have hxm : x ∈ T.under := by rw [hpre]; simp
  have hxok := Nd.under_ok hv hxm
  have hxs := Nd.under_sz hxm
  have e1 : E1 id1 b2 id1 := .inl rfl
  have e2 : E1 id1 b2 b2 := .inr rfl
  obtain ⟨h7, f1, f2, f3, f4⟩ := fill h [.int .i64 0, .str [], .bool false, .bool false, .nilSl, .nilSl, .nilSl, .nilSl, .nilSl, .nilSl] x.cells x.cells_len
  have sx := stV_agg (t := 49) (n := 10) (l := x.cells) z49 x.cells_len (Nd.atoms hxok) h.next 0 (h.alloc [.int .i64 0, .str [], .bool false, .bool false, .nilSl, .nilSl, .nilSl, .nilSl, .nilSl, .nilSl])
  rw [f1] at sx
  simp only [Option.map_some] at sx
  have r1' := r1.keep f3 (fun x => x)
  show ∃ b h' F', X (m + 1 + 1) (.yield id1) [.agg x.cells] h = some (.bool b, h') ∧ _
  rw [yield_run r1.2]
  unfold ra68_3
  simp (implicitDefEqProofs := false) only [run_seq, run_cond, opsS_cons, opsS_nil, sameH_f, sameH_t, run_block, run_loop, run_exit, run_ret, run_skip, ops_cons, ops_nil, ev_tmp, pureS_some, heapS_some, heapN_some, gdS_tt, gdS_ff, gdS_tf, gdS_ft, gdS_undef, List.getD_cons_succ, List.getD_cons_zero, List.set_cons_succ, List.set_cons_zero, Option.bind_some, regR_some, seqR_normal, seqR_ret, seqR_exit, fin0_ret, fin0_normal, fin1_ret, fin1_normal, finN_ret, finN_normal, List.map_cons, List.map_nil, lenV_some, pickV_t, pickV_f, callV_func, callV_yield, extV_tup, condR_true, condR_false, blockR_normal, blockR_ret, blockR_exit, if_true, List.nil_append, List.append_nil, List.cons_append, List.getElem?_cons_zero, List.getElem?_cons_succ, loopR_normal, loopR_exit, loopR_ret, Option.map_some, ite_true, reduceIte, reg68_0, st68_0_0, reg68_1, st68_1_0, st68_1_1, st68_1_2, st68_1_3, reg68_2, st68_2_0, st68_2_1, reg68_3, st68_3_0, st68_3_1, reg68_4, st68_4_0, st68_4_1, reg68_5, st68_5_0, st68_5_1, reg68_6, st68_6_0, st68_6_1, st68_6_2, st68_6_3, new49, sx]
  rw [mid_ready r1'.2]
  have ob := Other.putOb (h := h7) (id := id1) (some (.loop ⟨.busy, 68, [v0, v1, .ptr b2 0, v3, v4, v5, v6, v7, v8, v9, v10, v11, v12, v13, v14, v15, v16, v17, v18], #[11], ra68_3, rb68_4⟩))
  have rb := Rec.put (h := h7) (id := id1) ⟨.busy, 68, [v0, v1, .ptr b2 0, v3, v4, v5, v6, v7, v8, v9, v10, v11, v12, v13, v14, v15, v16, v17, v18], #[11], ra68_3, rb68_4⟩ r1'.1
  have n8 : (AH.putOb h7 id1 (some (.loop ⟨.busy, 68, [v0, v1, .ptr b2 0, v3, v4, v5, v6, v7, v8, v9, v10, v11, v12, v13, v14, v15, v16, v17, v18], #[11], ra68_3, rb68_4⟩))).next = h7.next := rfl
  generalize AH.putOb h7 id1 (some (.loop ⟨.busy, 68, [v0, v1, .ptr b2 0, v3, v4, v5, v6, v7, v8, v9, v10, v11, v12, v13, v14, v15, v16, v17, v18], #[11], ra68_3, rb68_4⟩)) = h8 at *
  have k2 : ∀ {id off l}, Has h7 id off l → id ≠ id1 → Has h8 id off l := fun H hne => H.keep ob hne
  have hlt := (hE id1 e1).1
  have hlt2 := (hE b2 e2).1
  have r5 := ldS (k2 f2.has (by omega)) (n := 10) x.cells_len
  -- the inner walk's box
  have qa : Quiet h8 (h8.alloc x.cells) := Other.alloc _ _ _
  have na : (h8.alloc x.cells).next = h8.next + 1 := rfl
  have Ha := Has.new h8 x.cells
  have ra := rb.keep qa (fun x => x)
  have ca : Has (h8.alloc x.cells) b2 0 [yv] := (k2 (r3.quiet f3) nb).quiet qa
  have ja : J (T :: pre.flatMap Nd.all) F (h8.alloc x.cells) := I.quiet (I.keep _ _ _ _ _ (I.quiet hj f3) ob fun j hj e => (hE id1 e1).2 (e ▸ hj)) qa
  have q8 : Quiet hB h8 := (q.trans f3).plus ob fun j e => .inr (e ▸ hid1)
  have q9 : Quiet hB (h8.alloc x.cells) := q8.trans qa
  have o9 : ∀ {G : Nat → Prop}, (∀ j, j = id1 → G j) → Other G h (h8.alloc x.cells) := fun hG => (f3.any.trans (ob.mono fun j _ e => hG j e)).trans qa.any
  have a51 := all51 x h8 m
  generalize h8.alloc x.cells = h9 at *
  have hrd : rdOK (some id1) h9 = true := rd_some ra.2
  have qn := Other.newOb h9 (.loop ⟨.ready, 68, [v0, v1, .ptr b2 0, .ptr h.next 0, v4, v5, v6, v7, v8, v9, v10, .agg x.cells, .agg x.cells, .fn (.func 68) [] [.ptr h8.next 0], v14, v15, v16, v17, v18], #[14], ra68_5, rb68_6⟩)
  have rn : Rec (h9.newOb (.loop ⟨.ready, 68, [v0, v1, .ptr b2 0, .ptr h.next 0, v4, v5, v6, v7, v8, v9, v10, .agg x.cells, .agg x.cells, .fn (.func 68) [] [.ptr h8.next 0], v14, v15, v16, v17, v18], #[14], ra68_5, rb68_6⟩)) h9.next ⟨.ready, 68, [v0, v1, .ptr b2 0, .ptr h.next 0, v4, v5, v6, v7, v8, v9, v10, .agg x.cells, .agg x.cells, .fn (.func 68) [] [.ptr h8.next 0], v14, v15, v16, v17, v18], #[14], ra68_5, rb68_6⟩ := ⟨Nat.lt_succ_self _, by rw [AH.ob?_newOb, if_pos rfl]⟩
  have nn : (h9.newOb (.loop ⟨.ready, 68, [v0, v1, .ptr b2 0, .ptr h.next 0, v4, v5, v6, v7, v8, v9, v10, .agg x.cells, .agg x.cells, .fn (.func 68) [] [.ptr h8.next 0], v14, v15, v16, v17, v18], #[14], ra68_5, rb68_6⟩)).next = h9.next + 1 := rfl
  have hl12 : ∃ post', T.all = (T :: pre.flatMap Nd.all) ++ x.all ++ post' := ⟨post.flatMap Nd.all, by rw [Nd.all_eq, hpre]; simp [List.flatMap_append]⟩
  obtain ⟨post', hl12⟩ := hl12
  have n12 : id1 ≠ h9.next := by omega
  have nb2 : b2 ≠ h9.next := by omega
  have hid2 : hB.next ≤ h9.next := q9.next
  have Y2 := yield2 (id1 := id1) (b2 := b2) (id2 := h9.next) (R1 := ⟨.busy, 68, [v0, v1, .ptr b2 0, v3, v4, v5, v6, v7, v8, v9, v10, v11, v12, v13, v14, v15, v16, v17, v18], #[11], ra68_3, rb68_4⟩) I IX Y hl12 (Nd.all_ok _ (Nat.le_refl _) hxok) n12 nb2 hid2 v0 v1 (.ptr h.next 0) v4 v5 v6 v7 v8 v9 v10 (.agg x.cells) (.agg x.cells) (.fn (.func 68) [] [.ptr h8.next 0]) v14 v15 v16 v17 v18
  have hE2 : ∀ j, E2 id1 b2 h9.next j → j < h9.next + 1 ∧ ¬ F j := fun j hj => by
    rcases hj with rfl | rfl | rfl
    · exact ⟨by omega, (hE _ e1).2⟩
    · exact ⟨by omega, (hE _ e2).2⟩
    · exact ⟨by omega, fun hf => absurd (I.lt _ _ _ _ ja hf) (by omega)⟩
  obtain ⟨h10, F2, w1, w2, w3⟩ := IH x hxm (by omega) hxok (inv_J2 (R1 := ⟨.busy, 68, [v0, v1, .ptr b2 0, v3, v4, v5, v6, v7, v8, v9, v10, v11, v12, v13, v14, v15, v16, v17, v18], #[11], ra68_3, rb68_4⟩) (yv := yv) I (T :: pre.flatMap Nd.all) [v0, v1, .ptr b2 0, .ptr h.next 0, v4, v5, v6, v7, v8, v9, v10, .agg x.cells, .agg x.cells, .fn (.func 68) [] [.ptr h8.next 0], v14, v15, v16, v17, v18] hid1 hb2 hid2)
    (inv_Jx2 (R1 := ⟨.busy, 68, [v0, v1, .ptr b2 0, v3, v4, v5, v6, v7, v8, v9, v10, v11, v12, v13, v14, v15, v16, v17, v18], #[11], ra68_3, rb68_4⟩) IX [v0, v1, .ptr b2 0, .ptr h.next 0, v4, v5, v6, v7, v8, v9, v10, .agg x.cells, .agg x.cells, .fn (.func 68) [] [.ptr h8.next 0], v14, v15, v16, v17, v18] hid1 hb2 hid2) (by rfl) Y2
    (F := fun j => F j ∨ E2 id1 b2 h9.next j) ⟨F, by simpa using I.quiet ja qn, ⟨ra.keep qn (fun x => x), rn, ca.quiet qn⟩, hE2, rfl⟩ (q9.trans qn) (b := h8.next) (Ha.quiet qn)
    (fun hf => hf.elim (fun hf => by
      have h1 := I.lt _ _ _ _ hj hf
      have := f3.next
      omega) fun hf => by
      have := f3.next
      rcases hf with hf | hf | hf <;> omega) (m + 1) (by omega)
  have hpo : ∀ {k o}, Other (fun j => j = k) h10 (AH.putOb h10 k o) := fun {k o} => Other.putOb o
  have n10 := w2.oth.next
  have n7 := f3.next
  -- what is left of the inner loop's state
  have fin : ∀ {F' : Nat → Prop} {o : Option AObj}, (∀ j, E2 id1 b2 h9.next j → j < h10.next ∧ ¬ F' j) → (F2 = fun j => F' j ∨ E2 id1 b2 h9.next j) →
      St (fun j => F j ∨ E1 id1 b2 j) (fun j => F' j ∨ E1 id1 b2 j) h ((h10.putOb h9.next none).putOb id1 o) ∧ (∀ j, E1 id1 b2 j → j < ((h10.putOb h9.next none).putOb id1 o).next ∧ ¬ F' j) := fun {F' o} hd he => by
    subst he
    have hG : ∀ j, F j ∨ E2 id1 b2 h9.next j → (F j ∨ E1 id1 b2 j) ∨ h.next ≤ j := fun j hj => by
      rcases hj with hj | hj | hj | hj
      · exact .inl (.inl hj)
      · exact .inl (.inr (.inl hj))
      · exact .inl (.inr (.inr hj))
      · exact .inr (by omega)
    refine ⟨⟨?_, fun j hj => ?_⟩, fun j hj => ?_⟩
    · have o1 : Other (fun j => F j ∨ E1 id1 b2 j) h h9 := o9 fun j e => .inr (e ▸ e1)
      have o2 := (o1.trans qn.any).plus w2.oth hG
      have o3 := o2.plus (Other.putOb (h := h10) (id := h9.next) none) (fun j e => .inr (by omega))
      exact o3.trans ((Other.putOb (h := h10.putOb h9.next none) (id := id1) o).mono fun j _ e => .inr (e ▸ e1))
    · rcases hj with hj | hj
      · rcases w2.fp j (.inl hj) with h1 | h1
        · exact hG j h1
        · exact .inr (by omega)
      · exact .inl (.inr hj)
    · rcases hj with rfl | rfl
      · exact hd _ (.inl rfl)
      · exact hd _ (.inr (.inl rfl))
  unfold rb68_4
  simp (implicitDefEqProofs := false) only [run_seq, run_cond, opsS_cons, opsS_nil, sameH_f, sameH_t, run_block, run_loop, run_exit, run_ret, run_skip, ops_cons, ops_nil, ev_tmp, pureS_some, heapS_some, heapN_some, gdS_tt, gdS_ff, gdS_tf, gdS_ft, gdS_undef, List.getD_cons_succ, List.getD_cons_zero, List.set_cons_succ, List.set_cons_zero, Option.bind_some, regR_some, seqR_normal, seqR_ret, seqR_exit, fin0_ret, fin0_normal, fin1_ret, fin1_normal, finN_ret, finN_normal, List.map_cons, List.map_nil, lenV_some, pickV_t, pickV_f, callV_func, callV_yield, extV_tup, condR_true, condR_false, blockR_normal, blockR_ret, blockR_exit, if_true, List.nil_append, List.append_nil, List.cons_append, List.getElem?_cons_zero, List.getElem?_cons_succ, loopR_normal, loopR_exit, loopR_ret, Option.map_some, ite_true, reduceIte, reg68_0, st68_0_0, reg68_1, st68_1_0, st68_1_1, st68_1_2, st68_1_3, reg68_2, st68_2_0, st68_2_1, reg68_3, st68_3_0, st68_3_1, reg68_4, st68_4_0, st68_4_1, reg68_5, st68_5_0, st68_5_1, reg68_6, st68_6_0, st68_6_1, st68_6_2, st68_6_3, ld49, r5, a51, run_range, hrd, callF_func, hb68]
  generalize hr : rangeEnd _ _ _ = r
  revert r hr
  rcases w3 with w3 | ⟨_, w3⟩
  · obtain ⟨F', j5, ⟨t1, t2, t3⟩, hd, he⟩ := w3
    obtain ⟨z1, z2⟩ := fin (o := some (.loop ⟨.ready, 68, [v0, v1, .ptr b2 0, v3, v4, v5, v6, v7, v8, v9, v10, v11, v12, v13, v14, v15, v16, v17, v18], #[11], ra68_3, rb68_4⟩)) hd he
    refine range_all ⟨_, h10, _, w1, t2.2, .inl ⟨rfl, ?_⟩⟩
    have t1' := t1.keep (hpo (k := h9.next) (o := none)) n12
    simp (implicitDefEqProofs := false) only [run_seq, run_cond, opsS_cons, opsS_nil, sameH_f, sameH_t, run_block, run_loop, run_exit, run_ret, run_skip, ops_cons, ops_nil, ev_tmp, pureS_some, heapS_some, heapN_some, gdS_tt, gdS_ff, gdS_tf, gdS_ft, gdS_undef, List.getD_cons_succ, List.getD_cons_zero, List.set_cons_succ, List.set_cons_zero, Option.bind_some, regR_some, seqR_normal, seqR_ret, seqR_exit, fin0_ret, fin0_normal, fin1_ret, fin1_normal, finN_ret, finN_normal, List.map_cons, List.map_nil, lenV_some, pickV_t, pickV_f, callV_func, callV_yield, extV_tup, condR_true, condR_false, blockR_normal, blockR_ret, blockR_exit, if_true, List.nil_append, List.append_nil, List.cons_append, List.getElem?_cons_zero, List.getElem?_cons_succ, loopR_normal, loopR_exit, loopR_ret, Option.map_some, ite_true, reduceIte]
    rw [end_normal t1'.2]
    refine ⟨_, _, _, rfl, z1, ?_⟩
    rw [if_pos rfl]
    refine ⟨F', ?_, ⟨Rec.put _ t1'.1, ?_⟩, z2, rfl⟩
    · have e : (T :: (pre ++ [x]).flatMap Nd.all) = T :: pre.flatMap Nd.all ++ x.all := by simp [List.flatMap_append]
      dsimp only
      rw [e]
      exact I.keep _ _ _ _ _ (I.keep _ _ _ _ _ j5 (hpo (k := h9.next) (o := none)) fun j hj e => (hd _ (.inr (.inr rfl))).2 (e ▸ hj)) (Other.putOb _) fun j hj e => (hd _ (.inl rfl)).2 (e ▸ hj)
    · exact (t3.keep hpo nb2).keep (Other.putOb _) nb
  · obtain ⟨F', j5, ⟨t1, t2⟩, hd, he⟩ := w3
    obtain ⟨z1, z2⟩ := fin (o := some (.loop ⟨.ret, 68, [v0, v1, .ptr b2 0, v3, v4, v5, v6, v7, v8, v9, v10, v11, v12, v13, v14, v15, v16, v17, v18], #[11], ra68_3, rb68_4⟩)) hd he
    refine range_all ⟨_, h10, _, w1, t2.2, .inr ⟨rfl, ?_⟩⟩
    have t1' := t1.keep (hpo (k := h9.next) (o := none)) n12
    simp (implicitDefEqProofs := false) only [run_seq, run_cond, opsS_cons, opsS_nil, sameH_f, sameH_t, run_block, run_loop, run_exit, run_ret, run_skip, ops_cons, ops_nil, ev_tmp, pureS_some, heapS_some, heapN_some, gdS_tt, gdS_ff, gdS_tf, gdS_ft, gdS_undef, List.getD_cons_succ, List.getD_cons_zero, List.set_cons_succ, List.set_cons_zero, Option.bind_some, regR_some, seqR_normal, seqR_ret, seqR_exit, fin0_ret, fin0_normal, fin1_ret, fin1_normal, finN_ret, finN_normal, List.map_cons, List.map_nil, lenV_some, pickV_t, pickV_f, callV_func, callV_yield, extV_tup, condR_true, condR_false, blockR_normal, blockR_ret, blockR_exit, if_true, List.nil_append, List.append_nil, List.cons_append, List.getElem?_cons_zero, List.getElem?_cons_succ, loopR_normal, loopR_exit, loopR_ret, Option.map_some, ite_true, reduceIte]
    rw [end_ret t1'.2]
    exact ⟨_, _, _, rfl, z1, F', (IX.any).keep (pre := []) _ _ _ _ ((IX.any).keep (pre := []) _ _ _ _ j5 (hpo (k := h9.next) (o := none)) fun j hj e => (hd _ (.inr (.inr rfl))).2 (e ▸ hj)) (Other.putOb _) (fun j hj e => (hd _ (.inl rfl)).2 (e ▸ hj)), Rec.put _ t1'.1, z2, rfl⟩
end
theorem all68 : ∀ (M : Nat) {T : Nd}, T.sz ≤ M → AllOK T := by
  intro M
  induction M with
  | zero => intro T hm; have := T.sz_pos; omega
  | succ M ih =>
    intro T hm hB J Jx hb hv I IX m0 yv hyv Y F h hj q b HT hF n hn
    obtain ⟨m, rfl⟩ : ∃ m, n = m + 2 := ⟨n - 2, by omega⟩
    have IH : ∀ x ∈ T.under, AllOK x := fun x hx => ih (by have := Nd.under_sz hx; omega)
    have bx := box_at h hyv
    have qa : Quiet h (h.alloc [yv]) := Other.alloc _ _ _
    have Ha := Has.new h [yv]
    have na : (h.alloc [yv]).next = h.next + 1 := rfl
    generalize h.alloc [yv] = h1 at *
    have c2 : h1.cell? h.next 0 = some yv := Ha.cell (i := 0) rfl
    have r1 := ldS (HT.quiet qa) (n := 10) T.cells_len
    have hFlt : ∀ j, F j → j < h.next := fun j hf => I.lt _ _ _ j hj hf
    obtain ⟨bb, h2, F2, y1, y2, y3⟩ := Y [] T (T.under.flatMap Nd.all) (by rw [Nd.all_eq]; rfl) F h1 (I.quiet hj qa) (q.trans qa) (m + 1) (by omega)
    have n2 := y2.oth.next
    have hF2 : ∀ j, F2 j → F j ∨ h1.next ≤ j := y2.fp
    have st2 : St F F2 h h2 := (St.quiet F qa).trans y2
    have q2 : Quiet hB h2 := st2.base q fun j hf => I.ge _ _ _ j hj hf
    have hnb : ¬ F2 h.next := fun hf => (hF2 _ hf).elim (fun hf => absurd (hFlt _ hf) (by omega)) (by omega)
    show ∃ h' F', X (m + 1 + 1) (.func 68) [yv, .ptr b 0] h = _ ∧ _
    rw [ent68]
    unfold cd68
    cases bb with
    | false =>
      simp (implicitDefEqProofs := false) only [run_seq, run_cond, opsS_cons, opsS_nil, sameH_f, sameH_t, run_block, run_loop, run_exit, run_ret, run_skip, ops_cons, ops_nil, ev_tmp, pureS_some, heapS_some, heapN_some, gdS_tt, gdS_ff, gdS_tf, gdS_ft, gdS_undef, List.getD_cons_succ, List.getD_cons_zero, List.set_cons_succ, List.set_cons_zero, Option.bind_some, regR_some, seqR_normal, seqR_ret, seqR_exit, fin0_ret, fin0_normal, fin1_ret, fin1_normal, finN_ret, finN_normal, List.map_cons, List.map_nil, lenV_some, pickV_t, pickV_f, callV_func, callV_yield, extV_tup, condR_true, condR_false, blockR_normal, blockR_ret, blockR_exit, if_true, List.nil_append, List.append_nil, List.cons_append, List.getElem?_cons_zero, List.getElem?_cons_succ, loopR_normal, loopR_exit, loopR_ret, Option.map_some, ite_true, reduceIte, reg68_0, st68_0_0, reg68_1, st68_1_0, st68_1_1, st68_1_2, st68_1_3, reg68_2, st68_2_0, st68_2_1, reg68_3, st68_3_0, st68_3_1, reg68_4, st68_4_0, st68_4_1, reg68_5, st68_5_0, st68_5_1, reg68_6, st68_6_0, st68_6_1, st68_6_2, st68_6_3, bx, ld53, c2, ld49, r1, y1, not_b, Bool.not_false]
      exact ⟨_, F2, rfl, st2, .inr ⟨_, by simpa using y3⟩⟩
    | true =>
      have y3 : J [T] F2 h2 := by simpa using y3
      have r2 := ldS (HT.keep st2.oth hF) (n := 10) T.cells_len
      have b53 := below53 T h2 m
      have qb : Quiet h2 (h2.alloc T.cells) := Other.alloc _ _ _
      have Hb := Has.new h2 T.cells
      have nb : (h2.alloc T.cells).next = h2.next + 1 := rfl
      generalize h2.alloc T.cells = h3 at *
      have hq3 : Quiet hB h3 := q2.trans qb
      have hrd : rdOK none h3 = true := rfl
      have qn := Other.newOb h3 (.loop ⟨.ready, 68, [yv, .ptr b 0, .ptr h.next 0, .tup [], .tup [], yv, .agg T.cells, .bool true, .bool false, .agg T.cells, .fn (.func 69) [] [.ptr h2.next 0], .tup [], .tup [], .tup [], .tup [], .tup [], .tup [], .tup [], .tup []], #[11], ra68_3, rb68_4⟩)
      have rn : Rec (h3.newOb (.loop ⟨.ready, 68, [yv, .ptr b 0, .ptr h.next 0, .tup [], .tup [], yv, .agg T.cells, .bool true, .bool false, .agg T.cells, .fn (.func 69) [] [.ptr h2.next 0], .tup [], .tup [], .tup [], .tup [], .tup [], .tup [], .tup [], .tup []], #[11], ra68_3, rb68_4⟩)) h3.next ⟨.ready, 68, [yv, .ptr b 0, .ptr h.next 0, .tup [], .tup [], yv, .agg T.cells, .bool true, .bool false, .agg T.cells, .fn (.func 69) [] [.ptr h2.next 0], .tup [], .tup [], .tup [], .tup [], .tup [], .tup [], .tup [], .tup []], #[11], ra68_3, rb68_4⟩ := ⟨Nat.lt_succ_self _, by rw [AH.ob?_newOb, if_pos rfl]⟩
      have nn : (h3.newOb (.loop ⟨.ready, 68, [yv, .ptr b 0, .ptr h.next 0, .tup [], .tup [], yv, .agg T.cells, .bool true, .bool false, .agg T.cells, .fn (.func 69) [] [.ptr h2.next 0], .tup [], .tup [], .tup [], .tup [], .tup [], .tup [], .tup [], .tup []], #[11], ra68_3, rb68_4⟩)).next = h3.next + 1 := rfl
      have hid1 : hB.next ≤ h3.next := hq3.next
      have hb2 : hB.next ≤ h.next := q.next
      have hlt2 : ∀ j, F2 j → j < h2.next := fun j hf => I.lt _ _ _ j y3 hf
      have hE1 : ∀ j, E1 h3.next h.next j → j < h3.next + 1 ∧ ¬ F2 j := fun j hj => by
        rcases hj with rfl | rfl
        · exact ⟨by omega, fun hf => absurd (hlt2 _ hf) (by omega)⟩
        · exact ⟨by omega, hnb⟩
      have Y1 := yield1 (id1 := h3.next) (b2 := h.next) I IX hb hv IH Y (by omega) hid1 hb2 yv (.ptr b 0) (.tup []) (.tup []) yv (.agg T.cells) (.bool true) (.bool false) (.agg T.cells) (.fn (.func 69) [] [.ptr h2.next 0]) (.tup []) (.tup []) (.tup []) (.tup []) (.tup []) (.tup []) (.tup []) (.tup [])
      obtain ⟨h4, F4, w1, w2, w3⟩ := under69 hb hv (inv_J1 (yv := yv) I T [yv, .ptr b 0, .ptr h.next 0, .tup [], .tup [], yv, .agg T.cells, .bool true, .bool false, .agg T.cells, .fn (.func 69) [] [.ptr h2.next 0], .tup [], .tup [], .tup [], .tup [], .tup [], .tup [], .tup [], .tup []] hid1 hb2) Y1
        (F := fun j => F2 j ∨ E1 h3.next h.next j) ⟨F2, by simpa using I.quiet (I.quiet y3 qb) qn, ⟨rn, ((Ha.keep y2.oth (fun hf => absurd (hFlt _ hf) (by omega))).quiet qb).quiet qn⟩, hE1, rfl⟩ (hq3.trans qn) (b := h2.next) (Hb.quiet qn)
        (fun hf => hf.elim (fun hf => absurd (hlt2 _ hf) (by omega)) fun hf => by rcases hf with hf | hf <;> omega) (m + 1) (by omega) (by have := T.sz_pos; omega)
      have n4 := w2.oth.next
      have fin : ∀ {F' : Nat → Prop}, (∀ j, E1 h3.next h.next j → j < h4.next ∧ ¬ F' j) → (F4 = fun j => F' j ∨ E1 h3.next h.next j) → St F F' h (h4.putOb h3.next none) := fun {F'} hd he => by
        subst he
        have hG : ∀ j, F2 j ∨ E1 h3.next h.next j → F j ∨ h.next ≤ j := fun j hj => by
          rcases hj with hj | hj | hj
          · exact (hF2 j hj).imp_right fun h => by omega
          · exact .inr (by omega)
          · exact .inr (by omega)
        refine ⟨?_, fun j hj => ?_⟩
        · exact (((st2.oth.trans qb.any).trans qn.any).plus w2.oth hG).plus (Other.putOb none) fun j e => .inr (by omega)
        · rcases w2.fp j (.inl hj) with h1 | h1
          · exact hG j h1
          · exact .inr (by omega)
      simp (implicitDefEqProofs := false) only [run_seq, run_cond, opsS_cons, opsS_nil, sameH_f, sameH_t, run_block, run_loop, run_exit, run_ret, run_skip, ops_cons, ops_nil, ev_tmp, pureS_some, heapS_some, heapN_some, gdS_tt, gdS_ff, gdS_tf, gdS_ft, gdS_undef, List.getD_cons_succ, List.getD_cons_zero, List.set_cons_succ, List.set_cons_zero, Option.bind_some, regR_some, seqR_normal, seqR_ret, seqR_exit, fin0_ret, fin0_normal, fin1_ret, fin1_normal, finN_ret, finN_normal, List.map_cons, List.map_nil, lenV_some, pickV_t, pickV_f, callV_func, callV_yield, extV_tup, condR_true, condR_false, blockR_normal, blockR_ret, blockR_exit, if_true, List.nil_append, List.append_nil, List.cons_append, List.getElem?_cons_zero, List.getElem?_cons_succ, loopR_normal, loopR_exit, loopR_ret, Option.map_some, ite_true, reduceIte, reg68_0, st68_0_0, reg68_1, st68_1_0, st68_1_1, st68_1_2, st68_1_3, reg68_2, st68_2_0, st68_2_1, reg68_3, st68_3_0, st68_3_1, reg68_4, st68_4_0, st68_4_1, reg68_5, st68_5_0, st68_5_1, reg68_6, st68_6_0, st68_6_1, st68_6_2, st68_6_3, bx, ld53, c2, ld49, r1, y1, not_b, Bool.not_true, r2, b53, run_range, hrd, callF_func, hb69]
      generalize hr : rangeEnd _ _ _ = r
      revert r hr
      rcases w3 with w3 | ⟨_, w3⟩
      · obtain ⟨F', j5, ⟨t1, t2⟩, hd, he⟩ := w3
        refine range_all ⟨_, h4, _, w1, t1.2, .inl ⟨rfl, ?_⟩⟩
        simp (implicitDefEqProofs := false) only [run_seq, run_cond, opsS_cons, opsS_nil, sameH_f, sameH_t, run_block, run_loop, run_exit, run_ret, run_skip, ops_cons, ops_nil, ev_tmp, pureS_some, heapS_some, heapN_some, gdS_tt, gdS_ff, gdS_tf, gdS_ft, gdS_undef, List.getD_cons_succ, List.getD_cons_zero, List.set_cons_succ, List.set_cons_zero, Option.bind_some, regR_some, seqR_normal, seqR_ret, seqR_exit, fin0_ret, fin0_normal, fin1_ret, fin1_normal, finN_ret, finN_normal, List.map_cons, List.map_nil, lenV_some, pickV_t, pickV_f, callV_func, callV_yield, extV_tup, condR_true, condR_false, blockR_normal, blockR_ret, blockR_exit, if_true, List.nil_append, List.append_nil, List.cons_append, List.getElem?_cons_zero, List.getElem?_cons_succ, loopR_normal, loopR_exit, loopR_ret, Option.map_some, ite_true, reduceIte]
        refine ⟨_, F', rfl, fin hd he, .inl ?_⟩
        rw [Nd.all_eq]
        exact I.keep _ _ _ _ _ j5 (Other.putOb _) fun j hj e => (hd _ (.inl rfl)).2 (e ▸ hj)
      · obtain ⟨F', j5, t1, hd, he⟩ := w3
        refine range_all ⟨_, h4, _, w1, t1.2, .inr ⟨rfl, ?_⟩⟩
        simp (implicitDefEqProofs := false) only [run_seq, run_cond, opsS_cons, opsS_nil, sameH_f, sameH_t, run_block, run_loop, run_exit, run_ret, run_skip, ops_cons, ops_nil, ev_tmp, pureS_some, heapS_some, heapN_some, gdS_tt, gdS_ff, gdS_tf, gdS_ft, gdS_undef, List.getD_cons_succ, List.getD_cons_zero, List.set_cons_succ, List.set_cons_zero, Option.bind_some, regR_some, seqR_normal, seqR_ret, seqR_exit, fin0_ret, fin0_normal, fin1_ret, fin1_normal, finN_ret, finN_normal, List.map_cons, List.map_nil, lenV_some, pickV_t, pickV_f, callV_func, callV_yield, extV_tup, condR_true, condR_false, blockR_normal, blockR_ret, blockR_exit, if_true, List.nil_append, List.append_nil, List.cons_append, List.getElem?_cons_zero, List.getElem?_cons_succ, loopR_normal, loopR_exit, loopR_ret, Option.map_some, ite_true, reduceIte]
        exact ⟨_, F', rfl, fin hd he, .inr ((IX.any).keep (pre := []) _ _ _ _ j5 (Other.putOb _) fun j hj e => (hd _ (.inl rfl)).2 (e ▸ hj))⟩
end Go.Proofs.Ytgnacecplaemlaa
