/-
  slices.Grow, slices.Concat as walk.own uses them; walk.own.
-/
import Derived.Test.YtgnacecplaemlaaW10
namespace Go.Proofs.Ytgnacecplaemlaa
open AI
set_option linter.unusedSimpArgs false
theorem app_zeros (h : AH) (k : Nat) (hk : 0 < k) (hb : k ≤ 1048576) : ∃ l, l.length = k ∧ aappend Try.prog 44 3 .nilSl (.int .i64 (k : Int)) h = some (.sl h.next 0 k 1 none, h.alloc l) := by
  have hi : (Try.prog.info? 60).map (fun i => (i.size, i.bytes, i.zero.map fun z => ((ofConst z).isTop, (ofConst z).cells.length))) = some (1, 24, some (false, 1)) := by kernel_rfl
  cases hq : Try.prog.info? 60 with
  | none => rw [hq] at hi; simp at hi
  | some i =>
    rw [hq] at hi
    simp only [Option.map_some, Option.some.injEq, Prod.mk.injEq] at hi
    obtain ⟨e1, e2, e3⟩ := hi
    cases hz : i.zero with
    | none => rw [hz] at e3; simp at e3
    | some z =>
      rw [hz] at e3
      simp only [Option.map_some, Option.some.injEq, Prod.mk.injEq] at e3
      obtain ⟨e4, e5⟩ := e3
      have w : IntKind.i64.wrap (k : Int) = k := wrap_nat k (by omega)
      have hu3 : Try.prog.underlying 3 = some (.int .i64) := by kernel_rfl
      refine ⟨arep (ofConst z).cells k, by rw [length_arep, e5, Nat.mul_one], ?_⟩
      unfold aappend azeros
      rw [u44, hu3]
      simp only [hq, hz, e4, e5, e1, e2, w, Int.toNat_natCast]
      have hblt : Nat.blt 140737488355328 (k * 24) = false := by
        cases hx : Nat.blt 140737488355328 (k * 24) with
        | false => rfl
        | true => have := Nat.blt_eq.mp hx; omega
      have hd : decide ((k : Int) ≤ 0) = false := by simp; omega
      rw [hblt, hd]
      simp
theorem slice0 (id k : Nat) : aslice Try.prog 44 (.sl id 0 k 1 none) none (some (.int .i64 0)) none = some (.sl id 0 0 1 none) := by
  unfold aslice
  rw [u44]
  simp [z60, abound, aIx]
theorem grow85 (h : AH) (k : Nat) (hb : k ≤ 1048576) (n : Nat) : ∃ s2 h2, X (n + 1) (.func 85) [.nilSl, .int .i64 (k : Int)] h = some (s2, h2) ∧ Own h2 s2 1 [] h.next ∧ Quiet h h2 := by
  have a1 : acap Try.prog 44 .nilSl = some 0 := by kernel_rfl
  have a2 : alen Try.prog 44 .nilSl = some 0 := by kernel_rfl
  have a3 : aslice Try.prog 44 .nilSl none (some (.int .i64 0)) none = some .nilSl := by kernel_rfl
  have w0 : IntKind.i64.wrap ((0 : Int) - 0) = 0 := by decide
  have w1 : IntKind.i64.wrap ((k : Int) - 0) = k := wrap_eq (by omega) (by omega)
  have d1 : decide ((k : Int) < 0) = false := by simp
  rw [ent85]
  unfold cd85
  by_cases hk : k = 0
  · have d2 : decide ((k : Int) > 0) = false := by simp; omega
    simp (implicitDefEqProofs := false) only [run_seq, run_cond, opsS_cons, opsS_nil, sameH_f, sameH_t, run_block, run_loop, run_exit, run_ret, run_skip, ops_cons, ops_nil, ev_tmp, pureS_some, heapS_some, heapN_some, gdS_tt, gdS_ff, gdS_tf, gdS_ft, gdS_undef, List.getD_cons_succ, List.getD_cons_zero, List.set_cons_succ, List.set_cons_zero, Option.bind_some, regR_some, seqR_normal, seqR_ret, seqR_exit, fin0_ret, fin0_normal, fin1_ret, fin1_normal, finN_ret, finN_normal, List.map_cons, List.map_nil, lenV_some, pickV_t, pickV_f, callV_func, callV_yield, extV_tup, condR_true, condR_false, blockR_normal, blockR_ret, blockR_exit, if_true, List.nil_append, List.append_nil, List.cons_append, List.getElem?_cons_zero, List.getElem?_cons_succ, loopR_normal, loopR_exit, loopR_ret, Option.map_some, ite_true, reduceIte, reg85_0, st85_0_0, reg85_1, st85_1_0, st85_1_1, reg85_2, reg85_3, st85_3_0, st85_3_1, st85_3_2, st85_3_3, st85_3_4, st85_3_5, st85_3_6, st85_3_7, reg85_4, st85_4_0, st85_4_1, reg85_5, st85_5_0, st85_5_1, st85_5_2, st85_5_3, st85_5_4, st85_5_5, st85_5_6, st85_5_7, st85_5_8, st85_5_9, reg85_6, st85_6_0, st85_6_1, i_lss, d1, a1, a2, nat0, i_sub, w0, w1, i_gtr, d2]
    exact ⟨_, _, nrm_flat (Other.refl _ _) rfl, Own.nil _ _ _, Other.refl _ _⟩
  · have d2 : decide ((k : Int) > 0) = true := by simp; omega
    obtain ⟨l, hl, e⟩ := app_zeros h k (by omega) hb
    have s0 := slice0 h.next k
    simp (implicitDefEqProofs := false) only [run_seq, run_cond, opsS_cons, opsS_nil, sameH_f, sameH_t, run_block, run_loop, run_exit, run_ret, run_skip, ops_cons, ops_nil, ev_tmp, pureS_some, heapS_some, heapN_some, gdS_tt, gdS_ff, gdS_tf, gdS_ft, gdS_undef, List.getD_cons_succ, List.getD_cons_zero, List.set_cons_succ, List.set_cons_zero, Option.bind_some, regR_some, seqR_normal, seqR_ret, seqR_exit, fin0_ret, fin0_normal, fin1_ret, fin1_normal, finN_ret, finN_normal, List.map_cons, List.map_nil, lenV_some, pickV_t, pickV_f, callV_func, callV_yield, extV_tup, condR_true, condR_false, blockR_normal, blockR_ret, blockR_exit, if_true, List.nil_append, List.append_nil, List.cons_append, List.getElem?_cons_zero, List.getElem?_cons_succ, loopR_normal, loopR_exit, loopR_ret, Option.map_some, ite_true, reduceIte, reg85_0, st85_0_0, reg85_1, st85_1_0, st85_1_1, reg85_2, reg85_3, st85_3_0, st85_3_1, st85_3_2, st85_3_3, st85_3_4, st85_3_5, st85_3_6, st85_3_7, reg85_4, st85_4_0, st85_4_1, reg85_5, st85_5_0, st85_5_1, st85_5_2, st85_5_3, st85_5_4, st85_5_5, st85_5_6, st85_5_7, st85_5_8, st85_5_9, reg85_6, st85_6_0, st85_6_1, i_lss, d1, a1, a2, a3, nat0, i_sub, w0, w1, i_gtr, d2, e, s0]
    have R := Row.new h l
    obtain ⟨_, b, hb1, hro, hlo, hhi, _⟩ := R
    refine ⟨_, _, nrm_of ⟨Other.alloc _ _ _, .inr ⟨h.next, 0, 0, 1, none, b, [], rfl, Nat.le_refl _, hb1, hro, hlo, by omega, by simp [AH.cells?_zero], by simp, rfl, rfl⟩⟩, ?_, Other.alloc _ _ _⟩
    exact .inr ⟨h.next, 0, none, rfl, rfl, Nat.le_refl _, Row.new h []⟩

/-! ### slices.Concat -/
/-- All the words of lists of them. -/
def catW (L : List (AV × List Wd)) : List Wd := L.flatMap (·.2)
theorem catW_append (a b : List (AV × List Wd)) : catW (a ++ b) = catW a ++ catW b := by simp [catW]
theorem catW_one (c : AV × List Wd) : catW [c] = c.2 := by simp [catW]
theorem catW_take (L : List (AV × List Wd)) (i : Nat) : (catW (L.take i)).length ≤ (catW L).length := by
  conv => rhs; rw [← List.take_append_drop i L, catW_append, List.length_append]
  omega
/-- The cell of a word. -/
def Wd.sl : Wd → AV
  | .mk s _ => s
theorem wd_flat' (L : List Wd) : (L.map Wd.cells).flatten = L.map Wd.sl := by
  induction L with
  | nil => rfl
  | cons w l ih => cases w; simp [ih, Wd.cells, Wd.sl]
theorem Wd.sl_atom {h : AH} {w : Wd} (hv : w.ok h) : w.sl.atom = true := by cases w; simp only [Wd.ok] at hv; exact hv.1.atom
theorem Wd.sl_old {h : AH} {w : Wd} (hv : w.ok h) : oldAV h.next w.sl = true := by cases w; simp only [Wd.ok] at hv; exact hv.1.old
theorem concat74 {h : AH} {s : AV} {L : List (AV × List Wd)} {hB : AH} (qB : Quiet hB h) (S : Sl h s 1 (L.map fun c => [c.1])) (hL : ∀ c ∈ L, Sl hB c.1 1 (c.2.map Wd.cells) ∧ okW hB c.2) (hb : (catW L).length ≤ 1048576) (hlen : L.length ≤ 1000) (n : Nat) (hn : L.length + 3 ≤ n) :
    ∃ s2 h2, X n (.func 74) [s] h = some (s2, h2) ∧ Sl h2 s2 1 ((catW L).map Wd.cells) ∧ Quiet h h2 ∧ Own h2 s2 1 ((catW L).map Wd.cells).flatten h.next := by
  obtain ⟨m, rfl⟩ : ∃ m, n = m + 1 := ⟨n - 1, by omega⟩
  have hl : alen Try.prog 104 s = some L.length := by rw [S.alen u104, List.length_map]
  have hold : ∀ c ∈ L, ∀ w ∈ c.2, w.ok h := fun c hc w hw => (okW_mem (hL c hc).2 w hw).quiet qB
  have holdW : ∀ w ∈ catW L, w.ok h := fun w hw => by
    unfold catW at hw
    obtain ⟨c, hc, hw⟩ := List.mem_flatMap.mp hw
    exact hold c hc w hw
  rw [ent74]
  unfold cd74
  simp (implicitDefEqProofs := false) only [run_seq, run_cond, opsS_cons, opsS_nil, sameH_f, sameH_t, run_block, run_loop, run_exit, run_ret, run_skip, ops_cons, ops_nil, ev_tmp, pureS_some, heapS_some, heapN_some, gdS_tt, gdS_ff, gdS_tf, gdS_ft, gdS_undef, List.getD_cons_succ, List.getD_cons_zero, List.set_cons_succ, List.set_cons_zero, Option.bind_some, regR_some, seqR_normal, seqR_ret, seqR_exit, fin0_ret, fin0_normal, fin1_ret, fin1_normal, finN_ret, finN_normal, List.map_cons, List.map_nil, lenV_some, pickV_t, pickV_f, callV_func, callV_yield, extV_tup, condR_true, condR_false, blockR_normal, blockR_ret, blockR_exit, if_true, List.nil_append, List.append_nil, List.cons_append, List.getElem?_cons_zero, List.getElem?_cons_succ, loopR_normal, loopR_exit, loopR_ret, Option.map_some, ite_true, reduceIte, reg74_0, st74_0_0, reg74_1, st74_1_0, reg74_2, st74_2_0, st74_2_1, st74_2_2, reg74_3, st74_3_0, reg74_4, st74_4_0, st74_4_1, st74_4_2, reg74_5, st74_5_0, st74_5_1, st74_5_2, st74_5_3, st74_5_4, reg74_6, st74_6_0, st74_6_1, reg74_7, reg74_8, st74_8_0, st74_8_1, reg74_9, st74_9_0, st74_9_1, st74_9_2, reg74_10, st74_10_0, st74_10_1, st74_10_2, reg74_11, st74_11_0, reg74_12, st74_12_0, st74_12_1, st74_12_2, reg74_13, st74_13_0, st74_13_1, st74_13_2, st74_13_3, reg74_14, st74_14_0, st74_14_1, reg74_15, st74_15_0, st74_15_1, hl]
  generalize hr : aloop _ _ _ _ _ = r
  revert r hr
  refine loop_all L.length (fun i h' fr => h' = h ∧ fr = C74_3 s (.int .i64 ((catW (L.take i)).length : Int)) s (.int .i64 (L.length : Int)) (.int .i64 (i : Int))) ?_ ?_ ⟨rfl, by rw [cl74_3]; rfl⟩ (by omega)
  · rintro i h' fr hi ⟨rfl, e⟩ k hk
    have hm : L[i]? = some L[i] := List.getElem?_eq_getElem hi
    have htk := take_next hi
    have hx : (L.map fun c => [c.1])[i]? = some [L[i].1] := by rw [List.getElem?_map, hm]; rfl
    obtain ⟨id, off, i1, H⟩ := S.ix u104 z44 hx
    have hc := hL _ (List.getElem_mem hi)
    have hct : (catW (L.take (i + 1))).length = (catW (L.take i)).length + L[i].2.length := by rw [htk, catW_append, catW_one, List.length_append]
    have hle := catW_take L (i + 1)
    generalize L[i] = x at *
    have hlx : alen Try.prog 44 x.1 = some x.2.length := by rw [hc.1.alen u44, List.length_map]
    have c0 : h'.cell? id off = some x.1 := by have := H.cell (i := 0) rfl; rwa [Nat.add_zero] at this
    have d : decide ((i : Int) < (L.length : Int)) = true := by simp; omega
    have w := wrap_succ i (by omega)
    have w2 : IntKind.i64.wrap (((catW (L.take i)).length : Int) + (x.2.length : Int)) = ((catW (L.take (i + 1))).length : Int) := wrap_eq (by omega) (by omega)
    have d2 : decide (((catW (L.take (i + 1))).length : Int) < 0) = false := by simp
    rw [e]
    unfold C74_3 lp74_3
    simp (implicitDefEqProofs := false) only [run_seq, run_cond, opsS_cons, opsS_nil, sameH_f, sameH_t, run_block, run_loop, run_exit, run_ret, run_skip, ops_cons, ops_nil, ev_tmp, pureS_some, heapS_some, heapN_some, gdS_tt, gdS_ff, gdS_tf, gdS_ft, gdS_undef, List.getD_cons_succ, List.getD_cons_zero, List.set_cons_succ, List.set_cons_zero, Option.bind_some, regR_some, seqR_normal, seqR_ret, seqR_exit, fin0_ret, fin0_normal, fin1_ret, fin1_normal, finN_ret, finN_normal, List.map_cons, List.map_nil, lenV_some, pickV_t, pickV_f, callV_func, callV_yield, extV_tup, condR_true, condR_false, blockR_normal, blockR_ret, blockR_exit, if_true, List.nil_append, List.append_nil, List.cons_append, List.getElem?_cons_zero, List.getElem?_cons_succ, loopR_normal, loopR_exit, loopR_ret, Option.map_some, ite_true, reduceIte, reg74_0, st74_0_0, reg74_1, st74_1_0, reg74_2, st74_2_0, st74_2_1, st74_2_2, reg74_3, st74_3_0, reg74_4, st74_4_0, st74_4_1, st74_4_2, reg74_5, st74_5_0, st74_5_1, st74_5_2, st74_5_3, st74_5_4, reg74_6, st74_6_0, st74_6_1, reg74_7, reg74_8, st74_8_0, st74_8_1, reg74_9, st74_9_0, st74_9_1, st74_9_2, reg74_10, st74_10_0, st74_10_1, st74_10_2, reg74_11, st74_11_0, reg74_12, st74_12_0, st74_12_1, st74_12_2, reg74_13, st74_13_0, st74_13_1, st74_13_2, st74_13_3, reg74_14, st74_14_0, st74_14_1, reg74_15, st74_15_0, st74_15_1, i_lss, d, i1, ld44, c0, hlx, i_add, w, w2, d2]
    exact hk _ _ ⟨rfl, by rw [cl74_3]⟩
  · rintro h' fr ⟨rfl, e⟩ k
    have d : decide ((L.length : Int) < (L.length : Int)) = false := by simp
    obtain ⟨m2, rfl⟩ : ∃ m2, m = m2 + 1 := ⟨m - 1, by omega⟩
    obtain ⟨t0, h1, g1, g2, g3⟩ := grow85 h' (catW L).length hb m2
    rw [e, List.take_length]
    unfold C74_3 lp74_3
    simp (implicitDefEqProofs := false) only [run_seq, run_cond, opsS_cons, opsS_nil, sameH_f, sameH_t, run_block, run_loop, run_exit, run_ret, run_skip, ops_cons, ops_nil, ev_tmp, pureS_some, heapS_some, heapN_some, gdS_tt, gdS_ff, gdS_tf, gdS_ft, gdS_undef, List.getD_cons_succ, List.getD_cons_zero, List.set_cons_succ, List.set_cons_zero, Option.bind_some, regR_some, seqR_normal, seqR_ret, seqR_exit, fin0_ret, fin0_normal, fin1_ret, fin1_normal, finN_ret, finN_normal, List.map_cons, List.map_nil, lenV_some, pickV_t, pickV_f, callV_func, callV_yield, extV_tup, condR_true, condR_false, blockR_normal, blockR_ret, blockR_exit, if_true, List.nil_append, List.append_nil, List.cons_append, List.getElem?_cons_zero, List.getElem?_cons_succ, loopR_normal, loopR_exit, loopR_ret, Option.map_some, ite_true, reduceIte, reg74_0, st74_0_0, reg74_1, st74_1_0, reg74_2, st74_2_0, st74_2_1, st74_2_2, reg74_3, st74_3_0, reg74_4, st74_4_0, st74_4_1, st74_4_2, reg74_5, st74_5_0, st74_5_1, st74_5_2, st74_5_3, st74_5_4, reg74_6, st74_6_0, st74_6_1, reg74_7, reg74_8, st74_8_0, st74_8_1, reg74_9, st74_9_0, st74_9_1, st74_9_2, reg74_10, st74_10_0, st74_10_1, st74_10_2, reg74_11, st74_11_0, reg74_12, st74_12_0, st74_12_1, st74_12_2, reg74_13, st74_13_0, st74_13_1, st74_13_2, st74_13_3, reg74_14, st74_14_0, st74_14_1, reg74_15, st74_15_0, st74_15_1, i_lss, d, g1, hl]
    generalize hr : aloop _ _ _ _ _ = r
    revert r hr
    refine loop_all L.length (fun i h'' fr => ∃ t, Quiet h' h'' ∧ Own h'' t 1 ((catW (L.take i)).map Wd.sl) h'.next ∧ fr = C74_11 t s (.int .i64 (L.length : Int)) (.int .i64 (i : Int))) ?_ ?_ ⟨t0, g3, by simpa [catW] using g2, by rw [cl74_11]; rfl⟩ (by omega)
    · rintro i h'' fr hi ⟨t, q, o, e⟩ k2 hk2
      have hm : L[i]? = some L[i] := List.getElem?_eq_getElem hi
      have htk := take_next hi
      have hx : (L.map fun c => [c.1])[i]? = some [L[i].1] := by rw [List.getElem?_map, hm]; rfl
      obtain ⟨id, off, i1, H⟩ := S.ix u104 z44 hx
      have hc := hL _ (List.getElem_mem hi)
      have hw := hold _ (List.getElem_mem hi)
      have hct : catW (L.take (i + 1)) = catW (L.take i) ++ L[i].2 := by rw [htk, catW_append, catW_one]
      have hle := catW_take L (i + 1)
      generalize L[i] = x at *
      have c0 : h''.cell? id off = some x.1 := by have := (H.quiet q).cell (i := 0) rfl; rwa [Nat.add_zero] at this
      have hS := (hc.1.quiet qB).quiet q
      have hle2 : ((catW (L.take i)).map Wd.sl).length + (x.2.map Wd.sl).length ≤ 1048576 := by rw [hct] at hle; simp at hle ⊢; omega
      obtain ⟨s3, h3, p1, p2, p3, _⟩ := own_app (x := x.1) (new := x.2.map Wd.sl) (n := x.2.length) o q.next el60 u44 u44 rfl (by rw [hS.alenOf, List.length_map]) (by rw [hS.first, wd_flat']) (by simp) (atoms_map _ _ fun w hww => Wd.sl_atom (hw w hww)) (by omega)
      have d : decide ((i : Int) < (L.length : Int)) = true := by simp; omega
      have w := wrap_succ i (by omega)
      rw [e]
      unfold C74_11 lp74_11
      simp (implicitDefEqProofs := false) only [run_seq, run_cond, opsS_cons, opsS_nil, sameH_f, sameH_t, run_block, run_loop, run_exit, run_ret, run_skip, ops_cons, ops_nil, ev_tmp, pureS_some, heapS_some, heapN_some, gdS_tt, gdS_ff, gdS_tf, gdS_ft, gdS_undef, List.getD_cons_succ, List.getD_cons_zero, List.set_cons_succ, List.set_cons_zero, Option.bind_some, regR_some, seqR_normal, seqR_ret, seqR_exit, fin0_ret, fin0_normal, fin1_ret, fin1_normal, finN_ret, finN_normal, List.map_cons, List.map_nil, lenV_some, pickV_t, pickV_f, callV_func, callV_yield, extV_tup, condR_true, condR_false, blockR_normal, blockR_ret, blockR_exit, if_true, List.nil_append, List.append_nil, List.cons_append, List.getElem?_cons_zero, List.getElem?_cons_succ, loopR_normal, loopR_exit, loopR_ret, Option.map_some, ite_true, reduceIte, reg74_0, st74_0_0, reg74_1, st74_1_0, reg74_2, st74_2_0, st74_2_1, st74_2_2, reg74_3, st74_3_0, reg74_4, st74_4_0, st74_4_1, st74_4_2, reg74_5, st74_5_0, st74_5_1, st74_5_2, st74_5_3, st74_5_4, reg74_6, st74_6_0, st74_6_1, reg74_7, reg74_8, st74_8_0, st74_8_1, reg74_9, st74_9_0, st74_9_1, st74_9_2, reg74_10, st74_10_0, st74_10_1, st74_10_2, reg74_11, st74_11_0, reg74_12, st74_12_0, st74_12_1, st74_12_2, reg74_13, st74_13_0, st74_13_1, st74_13_2, st74_13_3, reg74_14, st74_14_0, st74_14_1, reg74_15, st74_15_0, st74_15_1, i_lss, d, i1, ld44, c0, p1, i_add, w]
      exact hk2 _ _ ⟨s3, q.beyond p3, by rw [hct, List.map_append]; exact p2, by rw [cl74_11]⟩
    · rintro h'' fr ⟨t, q, o, e⟩ k2
      have d : decide ((L.length : Int) < (L.length : Int)) = false := by simp
      rw [e]
      unfold C74_11 lp74_11
      simp (implicitDefEqProofs := false) only [run_seq, run_cond, opsS_cons, opsS_nil, sameH_f, sameH_t, run_block, run_loop, run_exit, run_ret, run_skip, ops_cons, ops_nil, ev_tmp, pureS_some, heapS_some, heapN_some, gdS_tt, gdS_ff, gdS_tf, gdS_ft, gdS_undef, List.getD_cons_succ, List.getD_cons_zero, List.set_cons_succ, List.set_cons_zero, Option.bind_some, regR_some, seqR_normal, seqR_ret, seqR_exit, fin0_ret, fin0_normal, fin1_ret, fin1_normal, finN_ret, finN_normal, List.map_cons, List.map_nil, lenV_some, pickV_t, pickV_f, callV_func, callV_yield, extV_tup, condR_true, condR_false, blockR_normal, blockR_ret, blockR_exit, if_true, List.nil_append, List.append_nil, List.cons_append, List.getElem?_cons_zero, List.getElem?_cons_succ, loopR_normal, loopR_exit, loopR_ret, Option.map_some, ite_true, reduceIte, reg74_0, st74_0_0, reg74_1, st74_1_0, reg74_2, st74_2_0, st74_2_1, st74_2_2, reg74_3, st74_3_0, reg74_4, st74_4_0, st74_4_1, st74_4_2, reg74_5, st74_5_0, st74_5_1, st74_5_2, st74_5_3, st74_5_4, reg74_6, st74_6_0, st74_6_1, reg74_7, reg74_8, st74_8_0, st74_8_1, reg74_9, st74_9_0, st74_9_1, st74_9_2, reg74_10, st74_10_0, st74_10_1, st74_10_2, reg74_11, st74_11_0, reg74_12, st74_12_0, st74_12_1, st74_12_2, reg74_13, st74_13_0, st74_13_1, st74_13_2, st74_13_3, reg74_14, st74_14_0, st74_14_1, reg74_15, st74_15_0, st74_15_1, i_lss, d]
      rw [List.take_length, ← wd_flat'] at o
      exact nrm_own' o q (fun x hx => by obtain ⟨c, _, rfl⟩ := List.mem_map.mp hx; exact c.cells_len) (by omega) (fun a ha => by
        rw [wd_flat'] at ha
        obtain ⟨c, hc, rfl⟩ := List.mem_map.mp ha
        exact Wd.sl_old (holdW c hc))
end Go.Proofs.Ytgnacecplaemlaa
