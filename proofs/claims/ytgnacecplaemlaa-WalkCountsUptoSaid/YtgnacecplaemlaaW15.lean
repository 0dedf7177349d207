/-
  walk.All: a command, and all that stand below it, are handed on, one after the other.
-/
import Derived.Test.YtgnacecplaemlaaW14
namespace Go.Proofs.Ytgnacecplaemlaa
open AI
set_option linter.unusedSimpArgs false
def Rec (h : AH) (id : Nat) (L : ALoop) : Prop := id < h.next ∧ h.ob? id = some (.loop L)
theorem Rec.keep {h h' : AH} {id : Nat} {L : ALoop} {G : Nat → Prop} (r : Rec h id L) (o : Other G h h') (hG : ¬ G id) : Rec h' id L := ⟨Nat.lt_of_lt_of_le r.1 o.next, (o.ob id r.1 hG).trans r.2⟩
theorem Rec.put {h : AH} {id : Nat} (L : ALoop) (hl : id < h.next) : Rec (h.putOb id (some (.loop L))) id L := ⟨hl, by rw [AH.ob?_putOb, if_pos rfl]⟩
/-- A state, and more that stands on E. -/
def With (J : List Nd → (Nat → Prop) → AH → Prop) (R : AH → Prop) (E : Nat → Prop) : List Nd → (Nat → Prop) → AH → Prop :=
  fun pre F1 h => ∃ F, J pre F h ∧ R h ∧ (∀ j, E j → j < h.next ∧ ¬ F j) ∧ F1 = fun j => F j ∨ E j
theorem Inv.with {hB : AH} {J : List Nd → (Nat → Prop) → AH → Prop} (I : Inv hB J) {R : AH → Prop} {E : Nat → Prop} (hE : ∀ j, E j → hB.next ≤ j) (hR : ∀ G h h', R h → Other G h h' → (∀ j, E j → ¬ G j) → R h') : Inv hB (With J R E) where
  lt := fun pre F1 h j ⟨F, a, _, c, e⟩ hj => by
    subst e
    exact hj.elim (I.lt _ _ _ j a) fun hj => (c j hj).1
  ge := fun pre F1 h j ⟨F, a, _, c, e⟩ hj => by
    subst e
    exact hj.elim (I.ge _ _ _ j a) (hE j)
  keep := fun pre F1 G h h' ⟨F, a, b, c, e⟩ o hG => by
    subst e
    exact ⟨F, I.keep _ _ _ _ _ a o fun j hj => hG j (.inl hj), hR G h h' b o fun j hj => hG j (.inr hj), fun j hj => ⟨Nat.lt_of_lt_of_le (c j hj).1 o.next, (c j hj).2⟩, rfl⟩
theorem Inv.re {hB : AH} {J : List Nd → (Nat → Prop) → AH → Prop} (I : Inv hB J) (g : List Nd → List Nd) : Inv hB (fun pre => J (g pre)) := ⟨fun _ => I.lt _, fun _ => I.ge _, fun _ => I.keep _⟩
theorem Inv.any {hB : AH} {J : List Nd → (Nat → Prop) → AH → Prop} (I : Inv hB J) : Inv hB (fun _ F h => ∃ pre, J pre F h) :=
  ⟨fun _ F h j ⟨p, x⟩ => I.lt p F h j x, fun _ F h j ⟨p, x⟩ => I.ge p F h j x, fun _ F G h h' ⟨p, x⟩ o hG => ⟨p, I.keep p F G h h' x o hG⟩⟩

/-! ### The round of the inner loop -/
section
variable (J Jx : List Nd → (Nat → Prop) → AH → Prop) (id1 b2 id2 : Nat) (R1 : ALoop) (fr2 : List AV) (yv : AV)
def E2 : Nat → Prop := fun j => j = id1 ∨ j = b2 ∨ j = id2
def J2 (A : List Nd) := With (fun pre => J (A ++ pre)) (fun h => Rec h id1 R1 ∧ Rec h id2 ⟨.ready, 68, fr2, #[14], ra68_5, rb68_6⟩ ∧ Has h b2 0 [yv]) (E2 id1 b2 id2)
def Jx2 := With (fun _ F h => ∃ pre, Jx pre F h) (fun h => Rec h id1 R1 ∧ Rec h id2 ⟨.ret, 68, fr2, #[14], ra68_5, rb68_6⟩) (E2 id1 b2 id2)
end
section
variable {J Jx : List Nd → (Nat → Prop) → AH → Prop} {id1 b2 id2 : Nat} {R1 : ALoop} {yv : AV} {hB : AH}
theorem inv_J2 (I : Inv hB J) (A : List Nd) (fr2 : List AV) (h1 : hB.next ≤ id1) (h2 : hB.next ≤ b2) (h3 : hB.next ≤ id2) : Inv hB (J2 J id1 b2 id2 R1 fr2 yv A) :=
  (I.re (A ++ ·)).with (fun j hj => by rcases hj with rfl | rfl | rfl <;> assumption) fun G h h' ⟨a, b, c⟩ o hG => ⟨a.keep o (hG _ (.inl rfl)), b.keep o (hG _ (.inr (.inr rfl))), c.keep o (hG _ (.inr (.inl rfl)))⟩
theorem inv_Jx2 (I : Inv hB Jx) (fr2 : List AV) (h1 : hB.next ≤ id1) (h2 : hB.next ≤ b2) (h3 : hB.next ≤ id2) : Inv hB (Jx2 Jx id1 b2 id2 R1 fr2) :=
  I.any.with (fun j hj => by rcases hj with rfl | rfl | rfl <;> assumption) fun G h h' ⟨a, b⟩ o hG => ⟨a.keep o (hG _ (.inl rfl)), b.keep o (hG _ (.inr (.inr rfl)))⟩
theorem yield2 (I : Inv hB J) (IX : Inv hB Jx) {m0 : Nat} {L A post : List Nd} {x : Nd} (Y : Yields m0 hB yv L J Jx) (hL : L = A ++ x.all ++ post) (hok : ∀ y ∈ x.all, y.ok hB) (n12 : id1 ≠ id2) (nb2 : b2 ≠ id2) (hid2 : hB.next ≤ id2) (v0 v1 v3 v4 v5 v6 v7 v8 v9 v10 v11 v12 v13 v14 v15 v16 v17 v18 : AV) :
    Yields (m0 + 1) hB (.fn (.yield id2) [] []) x.all (J2 J id1 b2 id2 R1 [v0, v1, .ptr b2 0, v3, v4, v5, v6, v7, v8, v9, v10, v11, v12, v13, v14, v15, v16, v17, v18] yv A) (Jx2 Jx id1 b2 id2 R1 [v0, v1, .ptr b2 0, v3, v4, v5, v6, v7, v8, v9, v10, v11, v12, v13, v14, v15, v16, v17, v18]) := by
  intro pre y post2 hpre F2 h hj q n hn
  obtain ⟨m, rfl⟩ : ∃ m, n = m + 1 := ⟨n - 1, by omega⟩
  obtain ⟨F, hj, ⟨r1, r2, r3⟩, hE, rfl⟩ := hj
  have hyok := hok y (by rw [hpre]; simp)
  have e1 : E2 id1 b2 id2 id1 := .inl rfl
  have e2 : E2 id1 b2 id2 b2 := .inr (.inl rfl)
  have e3 : E2 id1 b2 id2 id2 := .inr (.inr rfl)
  obtain ⟨h7, f1, f2, f3, _⟩ := fill h [.int .i64 0, .str [], .bool false, .bool false, .nilSl, .nilSl, .nilSl, .nilSl, .nilSl, .nilSl] y.cells y.cells_len
  have sx := stV_agg (t := 49) (n := 10) (l := y.cells) z49 y.cells_len (Nd.atoms hyok) h.next 0 (h.alloc [.int .i64 0, .str [], .bool false, .bool false, .nilSl, .nilSl, .nilSl, .nilSl, .nilSl, .nilSl])
  rw [f1] at sx
  simp only [Option.map_some] at sx
  have r2' := r2.keep f3 (fun x => x)
  show ∃ b h' F', X (m + 1) (.yield id2) [.agg y.cells] h = some (.bool b, h') ∧ _
  rw [yield_run r2.2]
  unfold ra68_5
  simp (implicitDefEqProofs := false) only [run_seq, run_cond, opsS_cons, opsS_nil, sameH_f, sameH_t, run_block, run_loop, run_exit, run_ret, run_skip, ops_cons, ops_nil, ev_tmp, pureS_some, heapS_some, heapN_some, gdS_tt, gdS_ff, gdS_tf, gdS_ft, gdS_undef, List.getD_cons_succ, List.getD_cons_zero, List.set_cons_succ, List.set_cons_zero, Option.bind_some, regR_some, seqR_normal, seqR_ret, seqR_exit, fin0_ret, fin0_normal, fin1_ret, fin1_normal, finN_ret, finN_normal, List.map_cons, List.map_nil, lenV_some, pickV_t, pickV_f, callV_func, callV_yield, extV_tup, condR_true, condR_false, blockR_normal, blockR_ret, blockR_exit, if_true, List.nil_append, List.append_nil, List.cons_append, List.getElem?_cons_zero, List.getElem?_cons_succ, loopR_normal, loopR_exit, loopR_ret, Option.map_some, ite_true, reduceIte, reg68_0, st68_0_0, reg68_1, st68_1_0, st68_1_1, st68_1_2, st68_1_3, reg68_2, st68_2_0, st68_2_1, reg68_3, st68_3_0, st68_3_1, reg68_4, st68_4_0, st68_4_1, reg68_5, st68_5_0, st68_5_1, reg68_6, st68_6_0, st68_6_1, st68_6_2, st68_6_3, new49, sx]
  rw [mid_ready r2'.2]
  have ob := Other.putOb (h := h7) (id := id2) (some (.loop ⟨.busy, 68, [v0, v1, .ptr b2 0, v3, v4, v5, v6, v7, v8, v9, v10, v11, v12, v13, v14, v15, v16, v17, v18], #[14], ra68_5, rb68_6⟩))
  have rb := Rec.put (h := h7) (id := id2) ⟨.busy, 68, [v0, v1, .ptr b2 0, v3, v4, v5, v6, v7, v8, v9, v10, v11, v12, v13, v14, v15, v16, v17, v18], #[14], ra68_5, rb68_6⟩ r2'.1
  have n7 := f3.next
  have k2 : ∀ {id off l}, Has h7 id off l → id ≠ id2 → Has _ id off l := fun H hne => H.keep ob hne
  generalize hh8 : AH.putOb h7 id2 (some (.loop ⟨.busy, 68, [v0, v1, .ptr b2 0, v3, v4, v5, v6, v7, v8, v9, v10, v11, v12, v13, v14, v15, v16, v17, v18], #[14], ra68_5, rb68_6⟩)) = h8 at *
  have hlt := (hE id2 e3).1
  have c2 : h8.cell? b2 0 = some yv := (k2 (r3.quiet f3) nb2).cell (i := 0) rfl
  have r5 := ldS (k2 f2.has (by omega)) (n := 10) y.cells_len
  have j8 : J (A ++ pre) F h8 := I.keep _ _ _ _ _ (I.quiet hj f3) ob fun j hj e => (hE id2 e3).2 (e ▸ hj)
  have q8 : Quiet hB h8 := (q.trans f3).plus ob fun j e => .inr (e ▸ hid2)
  obtain ⟨bb, h9, F', y1, y2, y3⟩ := Y (A ++ pre) y (post2 ++ post) (by rw [hL, hpre]; simp) F h8 j8 q8 m (by omega)
  have n8 : h8.next = h7.next := by rw [← hh8]; rfl
  have hF' : ∀ j, E2 id1 b2 id2 j → j < h9.next ∧ ¬ F' j := fun j hj => ⟨Nat.lt_of_lt_of_le (hE j hj).1 (by have := y2.oth.next; omega), fun hf => (y2.fp j hf).elim (hE j hj).2 (by have := (hE j hj).1; omega)⟩
  have hid1 : ∀ {o}, Rec (AH.putOb h9 id2 o) id1 R1 := fun {o} => (((r1.keep f3 (fun x => x)).keep ob n12).keep y2.oth (hE id1 e1).2).keep (Other.putOb o) n12
  have ro := rb.keep y2.oth (hE id2 e3).2
  have oth : ∀ {o}, St (fun j => F j ∨ E2 id1 b2 id2 j) (fun j => F' j ∨ E2 id1 b2 id2 j) h (AH.putOb h9 id2 o) := fun {o} =>
    ⟨((f3.any.trans (ob.mono fun j _ e => .inr (e ▸ e3))).trans (y2.oth.mono fun j _ hj => .inl hj)).trans ((Other.putOb o).mono fun j _ e => .inr (e ▸ e3)), fun j hj => hj.elim (fun hj => (y2.fp j hj).elim (fun h => .inl (.inl h)) fun h => .inr (by omega)) fun h => .inl (.inr h)⟩
  have hpo : ∀ {o}, Other (fun j => j = id2) h9 (AH.putOb h9 id2 o) := fun {o} => Other.putOb o
  unfold rb68_6
  cases bb with
  | false =>
    simp (implicitDefEqProofs := false) only [run_seq, run_cond, opsS_cons, opsS_nil, sameH_f, sameH_t, run_block, run_loop, run_exit, run_ret, run_skip, ops_cons, ops_nil, ev_tmp, pureS_some, heapS_some, heapN_some, gdS_tt, gdS_ff, gdS_tf, gdS_ft, gdS_undef, List.getD_cons_succ, List.getD_cons_zero, List.set_cons_succ, List.set_cons_zero, Option.bind_some, regR_some, seqR_normal, seqR_ret, seqR_exit, fin0_ret, fin0_normal, fin1_ret, fin1_normal, finN_ret, finN_normal, List.map_cons, List.map_nil, lenV_some, pickV_t, pickV_f, callV_func, callV_yield, extV_tup, condR_true, condR_false, blockR_normal, blockR_ret, blockR_exit, if_true, List.nil_append, List.append_nil, List.cons_append, List.getElem?_cons_zero, List.getElem?_cons_succ, loopR_normal, loopR_exit, loopR_ret, Option.map_some, ite_true, reduceIte, reg68_0, st68_0_0, reg68_1, st68_1_0, st68_1_1, st68_1_2, st68_1_3, reg68_2, st68_2_0, st68_2_1, reg68_3, st68_3_0, st68_3_1, reg68_4, st68_4_0, st68_4_1, reg68_5, st68_5_0, st68_5_1, reg68_6, st68_6_0, st68_6_1, st68_6_2, st68_6_3, ld53, c2, ld49, r5, y1, not_b, Bool.not_false]
    rw [end_ret ro.2]
    exact ⟨_, _, _, rfl, oth, F', ⟨_, IX.keep _ _ _ _ _ (by simpa using y3) hpo fun j hj e => (hF' id2 e3).2 (e ▸ hj)⟩, ⟨hid1, Rec.put _ ro.1⟩, hF', rfl⟩
  | true =>
    simp (implicitDefEqProofs := false) only [run_seq, run_cond, opsS_cons, opsS_nil, sameH_f, sameH_t, run_block, run_loop, run_exit, run_ret, run_skip, ops_cons, ops_nil, ev_tmp, pureS_some, heapS_some, heapN_some, gdS_tt, gdS_ff, gdS_tf, gdS_ft, gdS_undef, List.getD_cons_succ, List.getD_cons_zero, List.set_cons_succ, List.set_cons_zero, Option.bind_some, regR_some, seqR_normal, seqR_ret, seqR_exit, fin0_ret, fin0_normal, fin1_ret, fin1_normal, finN_ret, finN_normal, List.map_cons, List.map_nil, lenV_some, pickV_t, pickV_f, callV_func, callV_yield, extV_tup, condR_true, condR_false, blockR_normal, blockR_ret, blockR_exit, if_true, List.nil_append, List.append_nil, List.cons_append, List.getElem?_cons_zero, List.getElem?_cons_succ, loopR_normal, loopR_exit, loopR_ret, Option.map_some, ite_true, reduceIte, reg68_0, st68_0_0, reg68_1, st68_1_0, st68_1_1, st68_1_2, st68_1_3, reg68_2, st68_2_0, st68_2_1, reg68_3, st68_3_0, st68_3_1, reg68_4, st68_4_0, st68_4_1, reg68_5, st68_5_0, st68_5_1, reg68_6, st68_6_0, st68_6_1, st68_6_2, st68_6_3, ld53, c2, ld49, r5, y1, not_b, Bool.not_true]
    rw [end_normal ro.2]
    refine ⟨_, _, _, rfl, oth, ?_⟩
    rw [if_pos rfl]
    refine ⟨F', ?_, ⟨hid1, Rec.put _ ro.1, ?_⟩, hF', rfl⟩
    · exact I.keep _ _ _ _ _ (by simpa using y3) hpo fun j hj e => (hF' id2 e3).2 (e ▸ hj)
    · exact ((k2 (r3.quiet f3) nb2).keep y2.oth (hE b2 e2).2).keep hpo nb2
end
end Go.Proofs.Ytgnacecplaemlaa
