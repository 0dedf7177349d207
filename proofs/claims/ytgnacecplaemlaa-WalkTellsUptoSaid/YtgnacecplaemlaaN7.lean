/-
  Part 7 of 9 of the proof of WalkTells: what follows.
-/
import Derived.Test.YtgnacecplaemlaaN6
/-
  The reference's Cmds; Count.
-/
namespace Go.Proofs.Ytgnacecplaemlaa
open AI
set_option linter.unusedSimpArgs false
theorem AI.Other.beyond {h0 h h' : AH} (q : Quiet h0 h) (b : Other (fun j => h0.next ≤ j) h h') : Quiet h0 h' := q.plus b fun _ hj => .inr hj
theorem AI.Other.more {h0 h : AH} (q : Quiet h0 h) (l : List AV) : Quiet h0 (h.alloc l) := q.trans (Other.alloc _ _ _)
theorem cmds_append : ∀ (a b : List Pt), cmds (a ++ b) = cmds a ++ cmds b
  | [], b => by simp [cmds]
  | .mk k t o sk kids sc cs :: a, b => by simp [cmds, cmds_append a b]
theorem take_next {α : Type} {l : List α} {i : Nat} (hi : i < l.length) : l.take (i + 1) = l.take i ++ [l[i]] := by
  rw [List.take_add_one, List.getElem?_eq_getElem hi]; rfl
theorem szP_take (l : List Pt) (i : Nat) : szP (l.take i) ≤ szP l := by
  induction l generalizing i with
  | nil => simp [szP]
  | cons p l ih => cases i with
    | zero => simp [szP]
    | succ i => have := ih i; simp only [List.take_succ_cons, szP]; omega
theorem atoms_map {α : Type} (g : α → AV) : ∀ (l : List α), (∀ x ∈ l, (g x).atom = true) → atoms (l.map g) = true
  | [], _ => rfl
  | x :: l, h => by simp only [List.map_cons, atoms, h x (by simp), atoms_map g l (fun y hy => h y (by simp [hy])), Bool.and_self]
/-- The slices of the commands in parts. -/
def cmdSl (ps : List Pt) : List AV := (cmds ps).map (·.1)
theorem cmdSl_flat (ps : List Pt) : ((cmds ps).map fun c => [c.1]).flatten = cmdSl ps := by
  unfold cmdSl
  induction cmds ps with
  | nil => rfl
  | cons c l ih => simp [ih]
theorem cmdSl_atoms {h : AH} {ps : List Pt} (hv : okP h ps) : atoms (cmdSl ps) = true := atoms_map _ _ fun c hc => (cmds_ok hv c hc).1.atom
theorem cmdSl_len (ps : List Pt) : (cmdSl ps).length ≤ szP ps := by unfold cmdSl; rw [List.length_map]; exact cmds_len ps

theorem cmds67 : ∀ (N : Nat) {h : AH} {s : AV} {ps : List Pt}, szP ps ≤ N → szP ps ≤ 1048576 → okP h ps → Sl h s 5 (ps.map Pt.cells) → ∀ n, 4 * szP ps + 2 ≤ n →
    ∃ s2 h2, X n (.func 67) [s] h = some (s2, h2) ∧ Sl h2 s2 1 ((cmds ps).map fun c => [c.1]) ∧ Quiet h h2 ∧ SlNew s2 h.next := by
    intro N
    induction N using Nat.strongRecOn
    rename_i N ih
    intro h s ps hN hb hv S n hn
    obtain ⟨m, rfl⟩ : ∃ m, n = m + 1 := ⟨n - 1, by omega⟩
    have hlen := szP_len ps
    have hl : alen Try.prog 58 s = some ps.length := by rw [S.alen u58, List.length_map]
    rw [ent67]
    unfold cd67
    simp (implicitDefEqProofs := false) only [core, reduceIte, R67, S67]
    generalize hr : aloop _ _ _ _ _ = r
    revert r hr
    refine loop_all ps.length (fun i h' fr => ∃ t, Quiet h h' ∧ Own h' t 1 (cmdSl (ps.take i)) h.next ∧ fr = C67_3 s t (.int .i64 (i : Int))) ?_ ?_ ⟨.nilSl, Other.refl _ _, by simpa [cmdSl, cmds] using Own.nil h 1 h.next, by rw [cl67_3]; rfl⟩ (by omega)
    · rintro i h' fr hi ⟨t, q, o, e⟩ k hk
      have hm : ps[i]? = some ps[i] := List.getElem?_eq_getElem hi
      have htk := take_next hi
      have hmem : ps[i] ∈ ps := List.getElem_mem hi
      have hx : (ps.map Pt.cells)[i]? = some ps[i].cells := by rw [List.getElem?_map, hm]; rfl
      obtain ⟨id, off, i1, H⟩ := S.ix u58 z78 hx
      have hsz := szP_mem hmem
      have hok := okP_mem hv _ hmem
      have htl := szP_take ps i
      have hcl := cmdSl_len (ps.take i)
      generalize ps[i] = x at *
      obtain ⟨kd, tx, op, sk, kids, sc, cs⟩ := x
      simp only [Pt.ok] at hok
      obtain ⟨v1, v2, v3, v4⟩ := hok
      simp only [Pt.sz] at hsz
      have H1 := H.quiet q
      have c0 : h'.cell? id (off + 0) = some (.int .i64 kd) := H1.cell (i := 0) rfl
      have d : decide ((i : Int) < (ps.length : Int)) = true := by simp; omega
      have w := wrap_succ i (by omega)
      rw [e]
      have fin : ∀ (t1 : AV) (h1 : AH), Quiet h h1 → Own h1 t1 1 (cmdSl (ps.take i) ++ (if kd = 6 then [sc] else [])) h.next → ∃ s2 h2 s3 h3,
          h1.cell? id (off + 3) = some sk ∧ X m (.func 67) [sk] h1 = some (s2, h2) ∧ aappend Try.prog 89 89 t1 s2 h2 = some (s3, h3) ∧ Quiet h h3 ∧ Own h3 s3 1 (cmdSl (ps.take (i + 1))) h.next := by
        intro t1 h1 q1 o1
        have hkd : okP h1 kids := okP.quiet q1 v2
        obtain ⟨s2, h2, r1, r2, r3, _⟩ := ih (N - 1) (by omega) (h := h1) (s := sk) (ps := kids) (by omega) (by omega) hkd (v1.quiet q1) m (by omega)
        have hln : (cmdSl (ps.take i) ++ (if kd = 6 then [sc] else [])).length ≤ 1048576 + 1 := by
          rw [List.length_append]; split <;> simp <;> omega
        have hln2 := cmdSl_len kids
        have hfl : ((cmds kids).map fun c => [c.1]).length = (cmdSl kids).length := by simp [cmdSl]
        obtain ⟨s3, h3, p1, p2, p3, _⟩ := own_app (o1.quiet r3) (Nat.le_trans q1.next r3.next) el47 u89 u89 rfl r2.alenOf (by rw [r2.first, cmdSl_flat]) (by rw [hfl, Nat.mul_one]) (cmdSl_atoms hkd) (by omega)
        refine ⟨s2, h2, s3, h3, (H.quiet q1).cell (i := 3) rfl, r1, p1, (q1.trans r3).beyond p3, ?_⟩
        rw [htk]
        have ec : cmdSl (ps.take i ++ [.mk kd tx op sk kids sc cs]) = cmdSl (ps.take i) ++ (if kd = 6 then [sc] else []) ++ cmdSl kids := by
          unfold cmdSl
          rw [cmds_append]
          simp only [cmds, List.map_append, List.append_nil]
          split <;> simp
        rw [ec]
        exact p2
      by_cases hk6 : kd = 6
      · have t6 : (kd == (6 : Int)) = true := by simp [hk6]
        have c4 : h'.cell? id (off + 4) = some sc := H1.cell (i := 4) rfl
        have hat : sc.atom = true := v3.atom
        have b1 := bsl47 h' sc hat
        have hs1 : (cmdSl (ps.take i)).length + [sc].length ≤ 1048577 := by simp; omega
        obtain ⟨t1, h1, p1, p2, p3, _⟩ := own_app (x := .sl h'.next 0 1 1 (some 1)) (new := [sc]) (n := 1) (o.quiet (Other.alloc _ h' [sc])) (Nat.le_trans q.next (Nat.le_succ _)) el47 u89 u89 rfl rfl ((sl_one sc (some 1)).first) rfl (by simp [atoms, hat]) (by omega)
        obtain ⟨s2, h2, s3, h3, f1, f2, f3, f4, f5⟩ := fin t1 h1 ((q.more [sc]).beyond p3) (by rw [if_pos hk6]; exact p2)
        unfold C67_3 lp67_3
        simp (implicitDefEqProofs := false) only [core, reduceIte, R67, S67, hl, i_lss, d, i1, fa78_0, fa78_3, fa78_4, ld3, ld47, ld58, c0, c4, i_eql, t6, b1, p1, f1, f2, f3, i_add, w]
        exact hk _ _ ⟨s3, f4, f5, by rw [cl67_3]⟩
      · have t6 : (kd == (6 : Int)) = false := by simp [hk6]
        obtain ⟨s2, h2, s3, h3, f1, f2, f3, f4, f5⟩ := fin t h' q (by rw [if_neg hk6, List.append_nil]; exact o)
        unfold C67_3 lp67_3
        simp (implicitDefEqProofs := false) only [core, reduceIte, R67, S67, hl, i_lss, d, i1, fa78_0, fa78_3, fa78_4, ld3, ld47, ld58, c0, i_eql, t6, f1, f2, f3, i_add, w]
        exact hk _ _ ⟨s3, f4, f5, by rw [cl67_3]⟩
    · rintro h' fr ⟨t, q, o, e⟩ k
      have d : decide ((ps.length : Int) < (ps.length : Int)) = false := by simp
      rw [e]
      unfold C67_3 lp67_3
      simp (implicitDefEqProofs := false) only [core, reduceIte, R67, S67, hl, i_lss, d]
      rw [List.take_length, ← cmdSl_flat] at o
      exact nrm_own3 o q (fun x hx => by obtain ⟨c, _, rfl⟩ := List.mem_map.mp hx; rfl) (by omega) (fun a ha => by
        rw [cmdSl_flat] at ha
        obtain ⟨c, hc, rfl⟩ := List.mem_map.mp ha
        exact (cmds_ok hv c hc).1.old)
end Go.Proofs.Ytgnacecplaemlaa
/-
  Count.
-/
namespace Go.Proofs.Ytgnacecplaemlaa
open AI
set_option linter.unusedSimpArgs false
theorem wrap_eq {a : Int} {n : Nat} (h : a = (n : Int)) (hn : n < 4611686018427387904) : IntKind.i64.wrap a = (n : Int) := by rw [h]; exact wrap_nat n hn
theorem cntN_append (a b : List Nd) : cntN (a ++ b) = cntN a + cntN b := by
  induction a with
  | nil => simp [cntN]
  | cons x a ih => simp only [List.cons_append, cntN, ih]; omega
theorem cntW_append (a b : List Wd) : cntW (a ++ b) = cntW a + cntW b := by
  induction a with
  | nil => simp [cntW]
  | cons x a ih => cases x; simp only [List.cons_append, cntW, ih]; omega
theorem cntR_append (a b : List Rdr) : cntR (a ++ b) = cntR a + cntR b := by
  induction a with
  | nil => simp [cntR]
  | cons x a ih => cases x; simp only [List.cons_append, cntR, ih]; omega
theorem cntM_append (a b : List Am) : cntM (a ++ b) = cntM a + cntM b := by
  induction a with
  | nil => simp [cntM]
  | cons x a ih => cases x; simp only [List.cons_append, cntM, ih]; omega
theorem szN_take (l : List Nd) (i : Nat) : szN (l.take i) ≤ szN l := by
  induction l generalizing i with
  | nil => simp [szN]
  | cons p l ih => cases i with
    | zero => simp [szN]
    | succ i => have := ih i; simp only [List.take_succ_cons, szN]; omega
theorem szW_take (l : List Wd) (i : Nat) : szW (l.take i) ≤ szW l := by
  induction l generalizing i with
  | nil => simp [szW]
  | cons p l ih => cases i with
    | zero => simp [szW]
    | succ i => have := ih i; simp only [List.take_succ_cons, szW]; omega
theorem szR_take (l : List Rdr) (i : Nat) : szR (l.take i) ≤ szR l := by
  induction l generalizing i with
  | nil => simp [szR]
  | cons p l ih => cases i with
    | zero => simp [szR]
    | succ i => have := ih i; simp only [List.take_succ_cons, szR]; omega
theorem szM_take (l : List Am) (i : Nat) : szM (l.take i) ≤ szM l := by
  induction l generalizing i with
  | nil => simp [szM]
  | cons p l ih => cases i with
    | zero => simp [szM]
    | succ i => have := ih i; simp only [List.take_succ_cons, szM]; omega

def sumC (L : List (AV × List Nd)) : Nat := (L.map fun c => cntN c.2).sum
theorem sumC_nil : sumC [] = 0 := rfl
theorem sumC_append (a b : List (AV × List Nd)) : sumC (a ++ b) = sumC a + sumC b := by simp [sumC]
theorem sumC_one (c : AV × List Nd) : sumC [c] = cntN c.2 := by simp [sumC]

end Go.Proofs.Ytgnacecplaemlaa
/-
  How much there is (the laws' guard): some number, whatever it is; the heap stays.
-/
namespace Go.Proofs.Ytgnacecplaemlaa
open AI
set_option linter.unusedSimpArgs false
def Num (n : Nat) (f : FuncId) (args : List AV) (h : AH) : Prop := ∃ z : Int, X n (.func f) args h = some (.int .i64 z, h)

theorem much65 : ∀ (N : Nat) {h : AH} {s : AV} {ps : List Pt}, szP ps ≤ N → szP ps ≤ 1048576 → okP h ps → Sl h s 5 (ps.map Pt.cells) → ∀ n, 8 * szP ps + 2 ≤ n → Num n 65 [s] h := by
  intro N
  induction N using Nat.strongRecOn
  rename_i N ih
  intro h s ps hN hb hv S n hn
  obtain ⟨m, rfl⟩ : ∃ m, n = m + 1 := ⟨n - 1, by omega⟩
  have hlen := szP_len ps
  have hl : alen Try.prog 58 s = some ps.length := by rw [S.alen u58, List.length_map]
  unfold Num
  rw [ent65]
  unfold cd65
  simp (implicitDefEqProofs := false) only [core, reduceIte, R65, D65, S65, hl]
  generalize hr : aloop _ _ _ _ _ = r
  revert r hr
  refine loop_all ps.length (fun i h' fr => ∃ z : Int, h' = h ∧ fr = C65_3 s (.int .i64 z) (.int .i64 (i : Int))) ?_ ?_ ⟨(ps.length : Int), rfl, by rw [cl65_3]; rfl⟩ (by omega)
  · rintro i h' fr hi ⟨z, rfl, e⟩ k hk
    have hm : ps[i]? = some ps[i] := List.getElem?_eq_getElem hi
    have hmem : ps[i] ∈ ps := List.getElem_mem hi
    have hx : (ps.map Pt.cells)[i]? = some ps[i].cells := by rw [List.getElem?_map, hm]; rfl
    obtain ⟨id, off, i1, H⟩ := S.ix u58 z78 hx
    have hsz := szP_mem hmem
    have hok := okP_mem hv _ hmem
    generalize ps[i] = x at *
    obtain ⟨kd, tx, op, sk, kids, sc, cs⟩ := x
    simp only [Pt.ok] at hok
    obtain ⟨v1, v2, v3, v4⟩ := hok
    simp only [Pt.sz] at hsz
    have d : decide ((i : Int) < (ps.length : Int)) = true := by simp; omega
    have w := wrap_succ i (by omega)
    rw [e]
    by_cases hz : z ≤ 1000
    · have d2 : decide (z ≤ 1000) = true := by simp [hz]
      have c1 : h'.cell? id (off + 1) = some (.str tx) := H.cell (i := 1) rfl
      have c2 : h'.cell? id (off + 2) = some (.str op) := H.cell (i := 2) rfl
      have c3 : h'.cell? id (off + 3) = some sk := H.cell (i := 3) rfl
      have c4 : h'.cell? id (off + 4) = some sc := H.cell (i := 4) rfl
      have hl4 : alen Try.prog 47 sc = some cs.length := by rw [v3.alen u47, List.length_map]
      obtain ⟨z2, e2⟩ := ih (N - 1) (by omega) (h := h') (s := sk) (ps := kids) (by omega) (by omega) v2 v1 m (by omega)
      unfold C65_3 lp65_3
      simp (implicitDefEqProofs := false) only [core, reduceIte, R65, D65, S65, fas, hl, i_lss, i_leq, d, d2, i1, ld9, ld47, ld58, c1, c2, c3, c4, len9, hl4, i_quo10, i_add, e2, w]
      exact hk _ _ ⟨_, rfl, by rw [cl65_3]⟩
    · have d2 : decide (z ≤ 1000) = false := by simp [hz]
      unfold C65_3 lp65_3
      simp (implicitDefEqProofs := false) only [core, reduceIte, R65, D65, S65, hl, i_lss, i_leq, d, d2]
      exact ⟨z, nrm_flat (Other.refl _ _) rfl⟩
  · rintro h' fr ⟨z, rfl, e⟩ k
    have d : decide ((ps.length : Int) < (ps.length : Int)) = false := by simp
    rw [e]
    unfold C65_3 lp65_3
    simp (implicitDefEqProofs := false) only [core, reduceIte, R65, D65, S65, hl, i_lss, d]
    exact ⟨z, nrm_flat (Other.refl _ _) rfl⟩

/-- All lists of commands that stand in parts. -/
def allc : List Pt → List (AV × List Nd)
  | [] => []
  | .mk _ _ _ _ kids sc cs :: l => (sc, cs) :: (allc kids ++ allc l)
theorem allc_ok {h : AH} : ∀ {ps : List Pt}, okP h ps → ∀ c ∈ allc ps, Sl h c.1 10 (c.2.map Nd.cells) ∧ okN h c.2 ∧ szN c.2 + 1 ≤ szP ps
  | [], _, c, hc => by simp [allc] at hc
  | .mk k t o sk kids sc cs :: l, hv, c, hc => by
    simp only [okP, Pt.ok] at hv
    obtain ⟨⟨v1, v2, v3, v4⟩, v5⟩ := hv
    simp only [allc, List.mem_cons, List.mem_append] at hc
    simp only [szP, Pt.sz]
    rcases hc with rfl | hc | hc
    · exact ⟨v3, v4, by dsimp only; omega⟩
    · obtain ⟨q1, q2, q3⟩ := allc_ok v2 c hc; exact ⟨q1, q2, by omega⟩
    · obtain ⟨q1, q2, q3⟩ := allc_ok v5 c hc; exact ⟨q1, q2, by omega⟩
theorem allc_mem : ∀ {ps : List Pt} {k : Int} {t o : List Nat} {sk : AV} {kids : List Pt} {sc : AV} {cs : List Nd}, Pt.mk k t o sk kids sc cs ∈ ps → (sc, cs) ∈ allc ps ∧ ∀ c ∈ allc kids, c ∈ allc ps
  | p :: ps, k, t, o, sk, kids, sc, cs, hm => by
    obtain ⟨k', t', o', sk', kids', sc', cs'⟩ := p
    simp only [allc, List.mem_cons, List.mem_append]
    rcases List.mem_cons.mp hm with e | hm
    · injection e with e1 e2 e3 e4 e5 e6 e7
      subst e4 e5 e6 e7
      exact ⟨.inl rfl, fun c hc => .inr (.inl hc)⟩
    · obtain ⟨g1, g2⟩ := allc_mem hm
      exact ⟨.inr (.inr g1), fun c hc => .inr (.inr (g2 c hc))⟩
/-- Lists of commands that stand in parts. -/
def InP (ps : List Pt) (L : List (AV × List Nd)) : Prop := ∀ c ∈ L, c ∈ allc ps
theorem flat_map1 (L : List (AV × List Nd)) : (L.map fun c => [c.1]).flatten = L.map (·.1) := by
  induction L with
  | nil => rfl
  | cons c l ih => simp [ih]
theorem cmds66 : ∀ (N : Nat) {h : AH} {s : AV} {ps : List Pt}, szP ps ≤ N → szP ps ≤ 1048576 → okP h ps → Sl h s 5 (ps.map Pt.cells) → ∀ n, 8 * szP ps + 2 ≤ n →
    ∃ L, InP ps L ∧ L.length ≤ szP ps ∧ ∃ s2 h2, X n (.func 66) [s] h = some (s2, h2) ∧ Sl h2 s2 1 (L.map fun c => [c.1]) ∧ Quiet h h2 := by
  intro N
  induction N using Nat.strongRecOn
  rename_i N ih
  intro h s ps hN hb hv S n hn
  obtain ⟨m, rfl⟩ : ∃ m, n = m + 1 := ⟨n - 1, by omega⟩
  have hlen := szP_len ps
  have hl : alen Try.prog 58 s = some ps.length := by rw [S.alen u58, List.length_map]
  rw [ent66]
  unfold cd66
  simp (implicitDefEqProofs := false) only [core, reduceIte, R66, S66]
  generalize hr : aloop _ _ _ _ _ = r
  revert r hr
  have endL : ∀ (t : AV) (h' : AH) (L : List (AV × List Nd)), Quiet h h' → Own h' t 1 (L.map (·.1)) h.next → InP ps L → L.length ≤ szP ps →
      ∃ L, InP ps L ∧ L.length ≤ szP ps ∧ ∃ s2 h2, nrm h (some (t, h')) = some (s2, h2) ∧ Sl h2 s2 1 (L.map fun c => [c.1]) ∧ Quiet h h2 := fun t h' L q o hL hLl => by
    rw [← flat_map1] at o
    obtain ⟨s2, h2, g1, g2, g3⟩ := nrm_own o q (fun x hx => by obtain ⟨c, _, rfl⟩ := List.mem_map.mp hx; rfl) (by omega) (fun a ha => by
      rw [flat_map1] at ha
      obtain ⟨c, hc, rfl⟩ := List.mem_map.mp ha
      exact (allc_ok hv c (hL c hc)).1.old)
    exact ⟨L, hL, hLl, s2, h2, g1, g2, g3⟩
  refine loop_all ps.length (fun i h' fr => ∃ t L, Quiet h h' ∧ Own h' t 1 (List.map (·.1) L) h.next ∧ InP ps L ∧ L.length ≤ szP (ps.take i) ∧ fr = C66_3 s t (.int .i64 (i : Int))) ?_ ?_ ⟨.nilSl, [], Other.refl _ _, Own.nil h 1 h.next, fun c hc => by simp at hc, Nat.zero_le _, by rw [cl66_3]; rfl⟩ (by omega)
  · rintro i h' fr hi ⟨t, L, q, o, hL, hLl, e⟩ k hk
    have hm : ps[i]? = some ps[i] := List.getElem?_eq_getElem hi
    have htk := take_next hi
    have hmem : ps[i] ∈ ps := List.getElem_mem hi
    have hx : (ps.map Pt.cells)[i]? = some ps[i].cells := by rw [List.getElem?_map, hm]; rfl
    obtain ⟨id, off, i1, H⟩ := S.ix u58 z78 hx
    have hsz := szP_mem hmem
    have hok := okP_mem hv _ hmem
    have htl := szP_take ps (i + 1)
    have hta : szP (ps.take (i + 1)) = szP (ps.take i) + ps[i].sz := by
      rw [htk]
      have : ∀ (a : List Pt) (x : Pt), szP (a ++ [x]) = szP a + x.sz := fun a x => by
        induction a with
        | nil => simp [szP]
        | cons y a ih => simp only [List.cons_append, szP, ih]; omega
      exact this _ _
    have htl0 := szP_take ps i
    generalize ps[i] = x at *
    obtain ⟨kd, tx, op, sk, kids, sc, cs⟩ := x
    simp only [Pt.ok] at hok
    obtain ⟨v1, v2, v3, v4⟩ := hok
    simp only [Pt.sz] at hsz hta
    have d : decide ((i : Int) < (ps.length : Int)) = true := by simp; omega
    have w := wrap_succ i (by omega)
    rw [e]
    by_cases hz : (i : Int) < 1000
    · have d2 : decide ((i : Int) < 1000) = true := by simp; omega
      have H1 := H.quiet q
      have c4 : h'.cell? id (off + 4) = some sc := H1.cell (i := 4) rfl
      have hl4 : alen Try.prog 47 sc = some cs.length := by rw [v3.alen u47, List.length_map]
      have fin : ∀ (t1 : AV) (h1 : AH) (L1 : List (AV × List Nd)), Quiet h h1 → Own h1 t1 1 (L1.map (·.1)) h.next → InP ps L1 → L1.length ≤ szP (ps.take i) + 1 → ∃ L2 s2 h2 s3 h3,
          h1.cell? id (off + 3) = some sk ∧ X m (.func 66) [sk] h1 = some (s2, h2) ∧ aappend Try.prog 89 89 t1 s2 h2 = some (s3, h3) ∧ Quiet h h3 ∧ Own h3 s3 1 (List.map (·.1) L2) h.next ∧ InP ps L2 ∧ L2.length ≤ szP (ps.take (i + 1)) := by
        intro t1 h1 L1 q1 o1 hL1 hl1
        have hkd : okP h1 kids := okP.quiet q1 v2
        obtain ⟨L2, g1, g2, s2, h2, r1, r2, r3⟩ := ih (N - 1) (by omega) (h := h1) (s := sk) (ps := kids) (by omega) (by omega) hkd (v1.quiet q1) m (by omega)
        obtain ⟨s3, h3, p1, p2, p3, _⟩ := own_app (o1.quiet r3) (Nat.le_trans q1.next r3.next) el47 u89 u89 rfl r2.alenOf (by rw [r2.first, flat_map1]) (by simp) (atoms_map _ _ fun c hc => (allc_ok hkd c (g1 c hc)).1.atom) (by simp; omega)
        refine ⟨L1 ++ L2, s2, h2, s3, h3, (H.quiet q1).cell (i := 3) rfl, r1, p1, (q1.trans r3).beyond p3, by rw [List.map_append]; exact p2, fun c hc => ?_, by rw [List.length_append]; omega⟩
        rcases List.mem_append.mp hc with hc | hc
        · exact hL1 c hc
        · exact (allc_mem hmem).2 c (g1 c hc)
      by_cases hc0 : cs.length = 0
      · have d3 : decide (((cs.length : Nat) : Int) > 0) = false := by simp [hc0]
        obtain ⟨L2, s2, h2, s3, h3, f1, f2, f3, f4, f5, f6, f7⟩ := fin t h' L q o hL (by omega)
        unfold C66_3 lp66_3
        simp (implicitDefEqProofs := false) only [core, reduceIte, R66, S66, fas, hl, i_lss, i_gtr, d, d2, i1, ld47, ld58, c4, hl4, d3, f1, f2, f3, i_add, w]
        exact hk _ _ ⟨s3, L2, f4, f5, f6, f7, by rw [cl66_3]⟩
      · have d3 : decide (((cs.length : Nat) : Int) > 0) = true := by simp; omega
        have hat : sc.atom = true := v3.atom
        have b1 := bsl47 h' sc hat
        obtain ⟨t1, h1, p1, p2, p3, _⟩ := own_app (x := .sl h'.next 0 1 1 (some 1)) (new := [sc]) (n := 1) (o.quiet (Other.alloc _ h' [sc])) (Nat.le_trans q.next (Nat.le_succ _)) el47 u89 u89 rfl rfl ((sl_one sc (some 1)).first) rfl (by simp [atoms, hat]) (by simp; omega)
        obtain ⟨L2, s2, h2, s3, h3, f1, f2, f3, f4, f5, f6, f7⟩ := fin t1 h1 (L ++ [(sc, cs)]) ((q.more [sc]).beyond p3) (by simpa using p2) (fun c hc => by
          rcases List.mem_append.mp hc with hc | hc
          · exact hL c hc
          · simp only [List.mem_singleton] at hc; subst hc; exact (allc_mem hmem).1) (by simp; omega)
        unfold C66_3 lp66_3
        simp (implicitDefEqProofs := false) only [core, reduceIte, R66, S66, fas, hl, i_lss, i_gtr, d, d2, i1, ld47, ld58, c4, hl4, d3, b1, p1, f1, f2, f3, i_add, w]
        exact hk _ _ ⟨s3, L2, f4, f5, f6, f7, by rw [cl66_3]⟩
    · have d2 : decide ((i : Int) < 1000) = false := by simp; omega
      unfold C66_3 lp66_3
      simp (implicitDefEqProofs := false) only [core, reduceIte, R66, S66, hl, i_lss, d, d2]
      exact endL t h' L q o hL (by omega)
  · rintro h' fr ⟨t, L, q, o, hL, hLl, e⟩ k
    have d : decide ((ps.length : Int) < (ps.length : Int)) = false := by simp
    rw [e]
    unfold C66_3 lp66_3
    simp (implicitDefEqProofs := false) only [core, reduceIte, R66, S66, hl, i_lss, d]
    rw [List.take_length] at hLl
    exact endL t h' L q o hL hLl
end Go.Proofs.Ytgnacecplaemlaa
/-
  How much there is, on: words, lists of commands, a command.
-/
namespace Go.Proofs.Ytgnacecplaemlaa
open AI
set_option linter.unusedSimpArgs false
structure MuchFam (N : Nat) : Prop where
  one : ∀ {h : AH} {T : Nd}, T.sz ≤ N → T.sz ≤ 1048576 → T.ok h → ∀ n, 8 * T.sz + 4 ≤ n → Num n 25 [.agg T.cells] h
  all : ∀ {h : AH} {s : AV} {l : List Nd}, szN l ≤ N → szN l ≤ 1048576 → okN h l → Sl h s 10 (l.map Nd.cells) → ∀ n, 8 * szN l + 5 ≤ n → Num n 47 [s] h
  wd : ∀ {h : AH} {w : Wd}, w.sz ≤ N → w.sz ≤ 1048576 → w.ok h → ∀ n, 8 * w.sz + 6 ≤ n → Num n 48 [.agg w.cells] h
  wds : ∀ {h : AH} {s : AV} {l : List Wd}, szW l ≤ N → szW l ≤ 1048576 → okW h l → Sl h s 1 (l.map Wd.cells) → ∀ n, 8 * szW l + 7 ≤ n → Num n 46 [s] h

theorem much47 {N : Nat} (one : ∀ {h : AH} {T : Nd}, T.sz ≤ N → T.sz ≤ 1048576 → T.ok h → ∀ n, 8 * T.sz + 4 ≤ n → Num n 25 [.agg T.cells] h)
    {h : AH} {s : AV} {l : List Nd} (hN : szN l ≤ N) (hb : szN l ≤ 1048576) (hv : okN h l) (S : Sl h s 10 (l.map Nd.cells)) (n : Nat) (hn : 8 * szN l + 5 ≤ n) : Num n 47 [s] h := by
  obtain ⟨m, rfl⟩ : ∃ m, n = m + 1 := ⟨n - 1, by omega⟩
  have hlen := szN_len l
  have hl : alen Try.prog 47 s = some l.length := by rw [S.alen u47, List.length_map]
  unfold Num
  rw [ent47]
  unfold cd47
  simp (implicitDefEqProofs := false) only [core, reduceIte, R47, S47, hl]
  generalize hr : aloop _ _ _ _ _ = r
  revert r hr
  refine loop_all l.length (fun i h' fr => ∃ z : Int, h' = h ∧ fr = C47_3 s (.int .i64 z) (.int .i64 (i : Int))) ?_ ?_ ⟨(l.length : Int), rfl, by rw [cl47_3]; rfl⟩ (by omega)
  · rintro i h' fr hi ⟨z, rfl, e⟩ k hk
    have hm : l[i]? = some l[i] := List.getElem?_eq_getElem hi
    have hmem : l[i] ∈ l := List.getElem_mem hi
    have hx : (l.map Nd.cells)[i]? = some l[i].cells := by rw [List.getElem?_map, hm]; rfl
    obtain ⟨id, off, i1, H⟩ := S.ix u47 z49 hx
    have hsz := szN_mem hmem
    have hok := okN_mem hv _ hmem
    generalize l[i] = x at *
    have d : decide ((i : Int) < (l.length : Int)) = true := by simp; omega
    have w := wrap_succ i (by omega)
    rw [e]
    by_cases hz : z ≤ 1000
    · have d2 : decide (z ≤ 1000) = true := by simp [hz]
      obtain ⟨z2, e1⟩ := one (h := h') (T := x) (by omega) (by omega) hok m (by omega)
      have r1 := ldS H x.cells_len
      unfold C47_3 lp47_3
      simp (implicitDefEqProofs := false) only [core, reduceIte, R47, S47, hl, i_lss, i_leq, d, d2, i1, ld49, r1, e1, i_add, w]
      exact hk _ _ ⟨_, rfl, by rw [cl47_3]⟩
    · have d2 : decide (z ≤ 1000) = false := by simp [hz]
      unfold C47_3 lp47_3
      simp (implicitDefEqProofs := false) only [core, reduceIte, R47, S47, hl, i_lss, i_leq, d, d2]
      exact ⟨z, nrm_flat (Other.refl _ _) rfl⟩
  · rintro h' fr ⟨z, rfl, e⟩ k
    have d : decide ((l.length : Int) < (l.length : Int)) = false := by simp
    rw [e]
    unfold C47_3 lp47_3
    simp (implicitDefEqProofs := false) only [core, reduceIte, R47, S47, hl, i_lss, d]
    exact ⟨z, nrm_flat (Other.refl _ _) rfl⟩

theorem much46 {N : Nat} (wd : ∀ {h : AH} {w : Wd}, w.sz ≤ N → w.sz ≤ 1048576 → w.ok h → ∀ n, 8 * w.sz + 6 ≤ n → Num n 48 [.agg w.cells] h)
    {h : AH} {s : AV} {l : List Wd} (hN : szW l ≤ N) (hb : szW l ≤ 1048576) (hv : okW h l) (S : Sl h s 1 (l.map Wd.cells)) (n : Nat) (hn : 8 * szW l + 7 ≤ n) : Num n 46 [s] h := by
  obtain ⟨m, rfl⟩ : ∃ m, n = m + 1 := ⟨n - 1, by omega⟩
  have hlen := szW_len l
  have hl : alen Try.prog 44 s = some l.length := by rw [S.alen u44, List.length_map]
  unfold Num
  rw [ent46]
  unfold cd46
  simp (implicitDefEqProofs := false) only [core, reduceIte, R46, S46, hl]
  generalize hr : aloop _ _ _ _ _ = r
  revert r hr
  refine loop_all l.length (fun i h' fr => ∃ z : Int, h' = h ∧ fr = C46_3 s (.int .i64 z) (.int .i64 (i : Int))) ?_ ?_ ⟨(l.length : Int), rfl, by rw [cl46_3]; rfl⟩ (by omega)
  · rintro i h' fr hi ⟨z, rfl, e⟩ k hk
    have hm : l[i]? = some l[i] := List.getElem?_eq_getElem hi
    have hmem : l[i] ∈ l := List.getElem_mem hi
    have hx : (l.map Wd.cells)[i]? = some l[i].cells := by rw [List.getElem?_map, hm]; rfl
    obtain ⟨id, off, i1, H⟩ := S.ix u44 z60 hx
    have hsz := szW_mem hmem
    have hok := okW_mem hv _ hmem
    generalize l[i] = x at *
    have d : decide ((i : Int) < (l.length : Int)) = true := by simp; omega
    have w := wrap_succ i (by omega)
    rw [e]
    by_cases hz : z ≤ 1000
    · have d2 : decide (z ≤ 1000) = true := by simp [hz]
      obtain ⟨z2, e1⟩ := wd (h := h') (w := x) (by omega) (by omega) hok m (by omega)
      have r1 := ldS H x.cells_len
      unfold C46_3 lp46_3
      simp (implicitDefEqProofs := false) only [core, reduceIte, R46, S46, hl, i_lss, i_leq, d, d2, i1, ld60, r1, e1, i_add, w]
      exact hk _ _ ⟨_, rfl, by rw [cl46_3]⟩
    · have d2 : decide (z ≤ 1000) = false := by simp [hz]
      unfold C46_3 lp46_3
      simp (implicitDefEqProofs := false) only [core, reduceIte, R46, S46, hl, i_lss, i_leq, d, d2]
      exact ⟨z, nrm_flat (Other.refl _ _) rfl⟩
  · rintro h' fr ⟨z, rfl, e⟩ k
    have d : decide ((l.length : Int) < (l.length : Int)) = false := by simp
    rw [e]
    unfold C46_3 lp46_3
    simp (implicitDefEqProofs := false) only [core, reduceIte, R46, S46, hl, i_lss, d]
    exact ⟨z, nrm_flat (Other.refl _ _) rfl⟩

theorem much48 {N : Nat} (all : ∀ {h : AH} {s : AV} {l : List Nd}, szN l ≤ N → szN l ≤ 1048576 → okN h l → Sl h s 10 (l.map Nd.cells) → ∀ n, 8 * szN l + 5 ≤ n → Num n 47 [s] h)
    {h : AH} {w : Wd} (hN : w.sz ≤ N) (hb : w.sz ≤ 1048576) (hv : w.ok h) (n : Nat) (hn : 8 * w.sz + 6 ≤ n) : Num n 48 [.agg w.cells] h := by
  obtain ⟨m, rfl⟩ : ∃ m, n = m + 1 := ⟨n - 1, by omega⟩
  obtain ⟨s, ps⟩ := w
  simp only [Wd.sz] at hN hb hn
  simp only [Wd.ok] at hv
  have q1 : Quiet h (h.alloc [s]) := Other.alloc _ _ _
  have c0 : (h.alloc [s]).cell? h.next 0 = some s := cell_alloc _ _ _
  have hv2 := okP.quiet q1 hv.2
  have hv1 := hv.1.quiet q1
  generalize hh1 : h.alloc [s] = h1 at *
  obtain ⟨z1, e1⟩ := much65 (szP ps) (h := h1) (s := s) (ps := ps) (Nat.le_refl _) (by omega) hv2 hv1 m (by omega)
  obtain ⟨L, g1, g2, s2, h2, r1, r2, r3⟩ := cmds66 (szP ps) (h := h1) (s := s) (ps := ps) (Nat.le_refl _) (by omega) hv2 hv1 m (by omega)
  have hl : alen Try.prog 89 s2 = some L.length := by rw [r2.alen u89, List.length_map]
  unfold Num
  rw [ent48]
  unfold cd48
  simp (implicitDefEqProofs := false) only [core, reduceIte, R48, S48, Wd.cells, box_agg, hh1, fas, Nat.zero_add, ld58, c0, e1, r1]
  generalize hr : aloop _ _ _ _ _ = r
  revert r hr
  refine loop_all L.length (fun i h' fr => ∃ z : Int, h' = h2 ∧ fr = C48_4 (.int .i64 z) s2 (.int .i64 (i : Int))) ?_ ?_ ⟨z1, rfl, by rw [cl48_4]; rfl⟩ (by omega)
  · rintro i h' fr hi ⟨z, rfl, e⟩ k hk
    have hm : L[i]? = some L[i] := List.getElem?_eq_getElem hi
    have hmem : L[i] ∈ L := List.getElem_mem hi
    have hx : (L.map fun c => [c.1])[i]? = some [L[i].1] := by rw [List.getElem?_map, hm]; rfl
    obtain ⟨id, off, i1, H⟩ := r2.ix u89 z47 hx
    obtain ⟨k1, k2, k3⟩ := allc_ok hv2 _ (g1 _ hmem)
    generalize L[i] = x at *
    have d : decide ((i : Int) < (L.length : Int)) = true := by simp; omega
    have w := wrap_succ i (by omega)
    rw [e]
    by_cases hz : z ≤ 1000
    · have d2 : decide (z ≤ 1000) = true := by simp [hz]
      obtain ⟨z2, e2⟩ := all (h := h') (s := x.1) (l := x.2) (by omega) (by omega) (okN.quiet r3 k2) (k1.quiet r3) m (by omega)
      have c1 : h'.cell? id off = some x.1 := by have := H.cell (i := 0) rfl; rwa [Nat.add_zero] at this
      unfold C48_4 lp48_4
      simp (implicitDefEqProofs := false) only [core, reduceIte, R48, S48, hl, i_lss, i_leq, d, d2, i1, ld47, c1, e2, i_add, w]
      exact hk _ _ ⟨_, rfl, by rw [cl48_4]⟩
    · have d2 : decide (z ≤ 1000) = false := by simp [hz]
      unfold C48_4 lp48_4
      simp (implicitDefEqProofs := false) only [core, reduceIte, R48, S48, hl, i_lss, i_leq, d, d2]
      exact ⟨z, nrm_flat (q1.trans r3) rfl⟩
  · rintro h' fr ⟨z, rfl, e⟩ k
    have d : decide ((L.length : Int) < (L.length : Int)) = false := by simp
    rw [e]
    unfold C48_4 lp48_4
    simp (implicitDefEqProofs := false) only [core, reduceIte, R48, S48, hl, i_lss, d]
    exact ⟨z, nrm_flat (q1.trans r3) rfl⟩

theorem much25 {N : Nat} (F : ∀ M, M < N → MuchFam M) {h : AH} {T : Nd} (hN : T.sz ≤ N) (hb : T.sz ≤ 1048576) (hv : T.ok h) (n : Nat) (hn : 8 * T.sz + 4 ≤ n) : Num n 25 [.agg T.cells] h := by
  obtain ⟨m, rfl⟩ : ∃ m, n = m + 1 := ⟨n - 1, by omega⟩
  obtain ⟨kd, name, nt, inn, so, ops, sa, az, sw, ws, sr, rs, sm, ms, sk, kids⟩ := T
  simp only [Nd.sz] at hN hb hn
  simp only [Nd.ok] at hv
  obtain ⟨vo, ⟨va1, va2⟩, ⟨vw1, vw2⟩, ⟨vr1, vr2⟩, ⟨vm1, vm2⟩, vk1, vk2⟩ := hv
  have G := F (N - 1) (by omega)
  have q1 : Quiet h (h.alloc (Nd.cells (.mk kd name nt inn so ops sa az sw ws sr rs sm ms sk kids))) := Other.alloc _ _ _
  have HB := Has.new h (Nd.cells (.mk kd name nt inn so ops sa az sw ws sr rs sm ms sk kids))
  generalize hh1 : h.alloc (Nd.cells (.mk kd name nt inn so ops sa az sw ws sr rs sm ms sk kids)) = h1 at *
  have cell : ∀ {h' : AH}, Quiet h1 h' → ∀ i v, (Nd.cells (.mk kd name nt inn so ops sa az sw ws sr rs sm ms sk kids))[i]? = some v → h'.cell? h.next i = some v := fun q i v hi => by
    have := (HB.quiet q).cell hi
    rwa [Nat.zero_add] at this
  have c1 := cell (Other.refl _ _) 1 (.str name) rfl
  have c4 := cell (Other.refl _ _) 4 so rfl
  have c9 := cell (Other.refl _ _) 9 sk rfl
  have c5 := cell (Other.refl _ _) 5 sa rfl
  have c6 := cell (Other.refl _ _) 6 sw rfl
  have c7 := cell (Other.refl _ _) 7 sr rfl
  have c8 := cell (Other.refl _ _) 8 sm rfl
  have hlo : alen Try.prog 43 so = some ops.length := by rw [vo.alen u43, List.length_map]
  obtain ⟨z1, e1⟩ := G.wds (h := h1) (s := sa) (l := az) (by omega) (by omega) (okW.quiet q1 va2) (va1.quiet q1) m (by omega)
  obtain ⟨z2, e2⟩ := G.wds (h := h1) (s := sw) (l := ws) (by omega) (by omega) (okW.quiet q1 vw2) (vw1.quiet q1) m (by omega)
  obtain ⟨z3, e3⟩ := G.all (h := h1) (s := sk) (l := kids) (by omega) (by omega) (okN.quiet q1 vk2) (vk1.quiet q1) m (by omega)
  have lr2 := szR_len rs
  have lm2 := szM_len ms
  have hlr : alen Try.prog 45 sr = some rs.length := by rw [vr1.alen u45, List.length_map]
  have hlm : alen Try.prog 46 sm = some ms.length := by rw [vm1.alen u46, List.length_map]
  unfold Num
  rw [ent25]
  unfold cd25
  simp (implicitDefEqProofs := false) only [core, reduceIte, R25, D25, S25, box_agg, hh1, fas, Nat.zero_add, ld9, ld43, ld47, ld44, c1, c4, c9, c5, c6, len9, hlo, i_quo10, e1, e2, e3, i_add]
  generalize hr : aloop _ _ _ _ _ = r
  revert r hr
  -- the second loop, wherever it begins
  have second : ∀ (z : Int) (fr : List AV), aclear (HK 25) lp25_7 fr = C25_7 (.ptr h.next 0) (.int .i64 z) (.int .i64 0) → ∃ z', nrm h (fin1 (seqR (blockR 2 (aloop (arun Try.prog (HK 25) 25 (X m) m none lp25_7) (aclear (HK 25) lp25_7) m fr h1)) (arun Try.prog (HK 25) 25 (X m) m none ((Code.region 10 (rg Try.f25 10) false).seq .ret))) 2) = some (.int .i64 z', h) := by
    intro z fr0 e0
    generalize hr : aloop _ _ _ _ _ = r
    revert r hr
    refine loop_all ms.length (fun i h'' fr => ∃ z : Int, h'' = h1 ∧ fr = C25_7 (.ptr h.next 0) (.int .i64 z) (.int .i64 (i : Int))) ?_ ?_ ⟨z, rfl, e0⟩ (by omega)
    · rintro i h'' fr hi ⟨z, rfl, e⟩ k2 hk2
      have hm : ms[i]? = some ms[i] := List.getElem?_eq_getElem hi
      have hmem : ms[i] ∈ ms := List.getElem_mem hi
      have hx : (ms.map Am.cells)[i]? = some ms[i].cells := by rw [List.getElem?_map, hm]; rfl
      obtain ⟨id, off, i1, H⟩ := vm1.ix u46 z76 hx
      have hsz := szM_mem hmem
      have hok := okM_mem vm2 _ hmem
      generalize ms[i] = x at *
      obtain ⟨s, pats, body⟩ := x
      simp only [Am.ok] at hok
      simp only [Am.sz] at hsz
      have H0 := H.quiet q1
      have a0 : h''.cell? id (off + 0) = some s := H0.cell (i := 0) rfl
      have H1 : Has h'' id (off + 1) body.cells := by
        have := Has.part (a := [s]) (p := body.cells) (c := []) (by simpa [Am.cells] using H0)
        exact this
      have r2 := ldS H1 body.cells_len
      have d : decide ((i : Int) < (ms.length : Int)) = true := by simp; omega
      have w := wrap_succ i (by omega)
      rw [e]
      by_cases hz : z ≤ 1000
      · have d2 : decide (z ≤ 1000) = true := by simp [hz]
        obtain ⟨z4, e4⟩ := G.wds (h := h'') (s := s) (l := pats) (by omega) (by omega) (okW.quiet q1 hok.2.1) (hok.1.quiet q1) m (by omega)
        obtain ⟨z5, e5⟩ := G.one (h := h'') (T := body) (by omega) (by omega) (hok.2.2.quiet q1) m (by omega)
        unfold C25_7 lp25_7
        simp (implicitDefEqProofs := false) only [core, reduceIte, R25, D25, S25, fas, Nat.zero_add, ld46, c8, hlm, i_lss, i_leq, d, d2, i1, ld44, a0, ld49, r2, e4, e5, i_add, w]
        exact hk2 _ _ ⟨_, rfl, by rw [cl25_7]⟩
      · have d2 : decide (z ≤ 1000) = false := by simp [hz]
        unfold C25_7 lp25_7
        simp (implicitDefEqProofs := false) only [core, reduceIte, R25, D25, S25, fas, Nat.zero_add, ld46, c8, hlm, i_lss, i_leq, d, d2]
        exact ⟨z, nrm_flat q1 rfl⟩
    · rintro h'' fr ⟨z, rfl, e⟩ k2
      have d : decide ((ms.length : Int) < (ms.length : Int)) = false := by simp
      rw [e]
      unfold C25_7 lp25_7
      simp (implicitDefEqProofs := false) only [core, reduceIte, R25, D25, S25, fas, Nat.zero_add, ld46, c8, hlm, i_lss, d]
      exact ⟨z, nrm_flat q1 rfl⟩
  refine loop_all rs.length (fun i h' fr => ∃ z : Int, h' = h1 ∧ fr = C25_3 (.ptr h.next 0) (.int .i64 z) (.int .i64 (i : Int))) ?_ ?_ ⟨_, rfl, by rw [cl25_3]; rfl⟩ (by omega)
  · rintro i h' fr hi ⟨z, rfl, e⟩ k hk
    have hm : rs[i]? = some rs[i] := List.getElem?_eq_getElem hi
    have hmem : rs[i] ∈ rs := List.getElem_mem hi
    have hx : (rs.map Rdr.cells)[i]? = some rs[i].cells := by rw [List.getElem?_map, hm]; rfl
    obtain ⟨id, off, i1, H⟩ := vr1.ix u45 z73 hx
    have hsz := szR_mem hmem
    have hok := okR_mem vr2 _ hmem
    generalize rs[i] = x at *
    obtain ⟨num, op, s, ps, here⟩ := x
    simp only [Rdr.ok] at hok
    simp only [Rdr.sz] at hsz
    have H0 := H.quiet q1
    have a0 : h'.cell? id (off + 0) = some (.str num) := H0.cell (i := 0) rfl
    have a3 : h'.cell? id (off + 3) = some (.str here) := H0.cell (i := 3) rfl
    have H2 : Has h' id (off + 2) [s] := H0.part (a := [.str num, .int .i64 op]) (p := [s]) (c := [.str here])
    have r2 := ldS H2 (n := 1) rfl
    have d : decide ((i : Int) < (rs.length : Int)) = true := by simp; omega
    have w := wrap_succ i (by omega)
    rw [e]
    by_cases hz : z ≤ 1000
    · have d2 : decide (z ≤ 1000) = true := by simp [hz]
      obtain ⟨z4, e4⟩ := G.wd (h := h') (w := .mk s ps) (by simp only [Wd.sz]; omega) (by simp only [Wd.sz]; omega) (by simp only [Wd.ok]; exact ⟨hok.1.quiet q1, okP.quiet q1 hok.2⟩) m (by simp only [Wd.sz]; omega)
      simp only [Wd.cells] at e4
      unfold C25_3 lp25_3
      simp (implicitDefEqProofs := false) only [core, reduceIte, R25, D25, S25, fas, Nat.zero_add, ld45, c7, hlr, i_lss, i_leq, d, d2, i1, ld9, a0, a3, len9, i_quo10, ld60, r2, e4, i_add, w]
      exact hk _ _ ⟨_, rfl, by rw [cl25_3]⟩
    · have d2 : decide (z ≤ 1000) = false := by simp [hz]
      unfold C25_3 lp25_3
      simp (implicitDefEqProofs := false) only [core, reduceIte, R25, D25, S25, fas, Nat.zero_add, ld45, c7, hlr, i_lss, i_leq, d, d2]
      exact second z _ (by rw [cl25_7])
  · rintro h' fr ⟨z, rfl, e⟩ k
    have d : decide ((rs.length : Int) < (rs.length : Int)) = false := by simp
    rw [e]
    unfold C25_3 lp25_3
    simp (implicitDefEqProofs := false) only [core, reduceIte, R25, D25, S25, fas, Nat.zero_add, ld45, c7, hlr, i_lss, d]
    exact second z _ (by rw [cl25_7])
theorem much_fam : ∀ N, MuchFam N := by
  intro N
  induction N using Nat.strongRecOn
  rename_i N ih
  have one : ∀ {h : AH} {T : Nd}, T.sz ≤ N → T.sz ≤ 1048576 → T.ok h → ∀ n, 8 * T.sz + 4 ≤ n → Num n 25 [.agg T.cells] h := fun h1 h2 h3 n hn => much25 ih h1 h2 h3 n hn
  have all : ∀ {h : AH} {s : AV} {l : List Nd}, szN l ≤ N → szN l ≤ 1048576 → okN h l → Sl h s 10 (l.map Nd.cells) → ∀ n, 8 * szN l + 5 ≤ n → Num n 47 [s] h := fun h1 h2 h3 h4 n hn => much47 one h1 h2 h3 h4 n hn
  have wd : ∀ {h : AH} {w : Wd}, w.sz ≤ N → w.sz ≤ 1048576 → w.ok h → ∀ n, 8 * w.sz + 6 ≤ n → Num n 48 [.agg w.cells] h := fun h1 h2 h3 n hn => much48 all h1 h2 h3 n hn
  exact ⟨one, all, wd, fun h1 h2 h3 h4 n hn => much46 wd h1 h2 h3 h4 n hn⟩
theorem much_ok {h : AH} {T : Nd} (hb : T.sz ≤ 1048576) (hv : T.ok h) (n : Nat) (hn : 8 * T.sz + 4 ≤ n) : Num n 25 [.agg T.cells] h := (much_fam T.sz).one (Nat.le_refl _) hb hv n hn
end Go.Proofs.Ytgnacecplaemlaa
/-
  A variable that holds a slice of one's own; boxes that are filled; part.Cmds.
-/
namespace Go.Proofs.Ytgnacecplaemlaa
open AI
set_option linter.unusedSimpArgs false
theorem stV_agg {t : TypeId} {n : Nat} {l : List AV} (hz : asize Try.prog t = some n) (hl : l.length = n) (ha : atoms l = true) (id off : Nat) (h : AH) : stV Try.prog t (.ptr id off) (.agg l) h = (h.write id off l).map fun h' => (.tup [], h') := by
  unfold stV
  simp only [hz]
  rw [if_neg (by simp [AV.isTop, AV.cells, hl, ha])]
  rfl
theorem stV_one {t : TypeId} {v : AV} (hz : asize Try.prog t = some 1) (hv : v.atom = true) (id off : Nat) (h : AH) : stV Try.prog t (.ptr id off) v h = (h.write id off [v]).map fun h' => (.tup [], h') := by
  have h1 : v.isTop = false := by cases v <;> first | rfl | simp [AV.atom] at hv
  have h2 : v.cells = [v] := by cases v <;> first | rfl | simp [AV.atom] at hv
  unfold stV
  simp only [hz]
  rw [if_neg (by simp [h1, h2, atoms, hv]), h2]
theorem new3 (h : AH) : newV Try.prog 3 h = some (.ptr h.next 0, h.alloc [.int .i64 0]) := by kernel_rfl
theorem new40 (h : AH) : newV Try.prog 40 h = some (.ptr h.next 0, h.alloc [.nilSl]) := by kernel_rfl
theorem new44 (h : AH) : newV Try.prog 44 h = some (.ptr h.next 0, h.alloc [.nilSl]) := by kernel_rfl
theorem new47 (h : AH) : newV Try.prog 47 h = some (.ptr h.next 0, h.alloc [.nilSl]) := by kernel_rfl
theorem new89 (h : AH) : newV Try.prog 89 h = some (.ptr h.next 0, h.alloc [.nilSl]) := by kernel_rfl
theorem new60 (h : AH) : newV Try.prog 60 h = some (.ptr h.next 0, h.alloc [.nilSl]) := by kernel_rfl
theorem new73 (h : AH) : newV Try.prog 73 h = some (.ptr h.next 0, h.alloc [.str [], .int .i64 0, .nilSl, .str []]) := by kernel_rfl
theorem new78 (h : AH) : newV Try.prog 78 h = some (.ptr h.next 0, h.alloc [.int .i64 0, .str [], .str [], .nilSl, .nilSl]) := by kernel_rfl
theorem new49 (h : AH) : newV Try.prog 49 h = some (.ptr h.next 0, h.alloc [.int .i64 0, .str [], .bool false, .bool false, .nilSl, .nilSl, .nilSl, .nilSl, .nilSl, .nilSl]) := by kernel_rfl
theorem new76 (h : AH) : newV Try.prog 76 h = some (.ptr h.next 0, h.alloc [.nilSl, .int .i64 0, .str [], .bool false, .bool false, .nilSl, .nilSl, .nilSl, .nilSl, .nilSl, .nilSl]) := by kernel_rfl
/-- A new variable, and what is put into it. -/
theorem fill (h : AH) (z l : List AV) (hl : l.length = z.length) : ∃ h2, (h.alloc z).write h.next 0 l = some h2 ∧ Row h2 h.next 0 l ∧ Quiet h h2 ∧ h2.next = h.next + 1 := by
  have R := Row.new h z
  have R' : Row (h.alloc z) h.next 0 ([] ++ z ++ []) := by simpa using R
  obtain ⟨h2, w, n2, R2, O2⟩ := Row.write R' l hl
  refine ⟨h2, by simpa using w, by simpa using R2, (Other.alloc (fun _ => False) h z).plus O2 (fun j hj => by subst hj; exact .inr (Nat.le_refl _)), n2⟩

theorem at_int (k : IntKind) (n : Int) : (AV.int k n).atom = true := rfl
theorem at_str (s : List Nat) : (AV.str s).atom = true := rfl
theorem at_bool (b : Bool) : (AV.bool b).atom = true := rfl
theorem Rdr.atoms {h : AH} {r : Rdr} (hv : r.ok h) : AI.atoms r.cells = true := by
  cases r; simp only [Rdr.ok] at hv; simp only [Rdr.cells, AI.atoms, at_int, at_str, hv.1.atom, Bool.and_self]
theorem Pt.atoms {h : AH} {p : Pt} (hv : p.ok h) : AI.atoms p.cells = true := by
  cases p; simp only [Pt.ok] at hv; simp only [Pt.cells, AI.atoms, at_int, at_str, hv.1.atom, hv.2.2.1.atom, Bool.and_self]
theorem Wd.atoms {h : AH} {w : Wd} (hv : w.ok h) : AI.atoms w.cells = true := by
  cases w; simp only [Wd.ok] at hv; simp only [Wd.cells, AI.atoms, hv.1.atom, Bool.and_self]
theorem Nd.atoms {h : AH} {n : Nd} (hv : n.ok h) : AI.atoms n.cells = true := by
  cases n; simp only [Nd.ok] at hv
  obtain ⟨v1, ⟨v2, _⟩, ⟨v3, _⟩, ⟨v4, _⟩, ⟨v5, _⟩, v6, _⟩ := hv
  simp only [Nd.cells, AI.atoms, at_int, at_str, at_bool, v1.atom, v2.atom, v3.atom, v4.atom, v5.atom, v6.atom, Bool.and_self]
theorem Am.atoms {h : AH} {m : Am} (hv : m.ok h) : AI.atoms m.cells = true := by
  cases m; simp only [Am.ok] at hv; simp only [Am.cells, AI.atoms, hv.1.atom, Nd.atoms hv.2.2, Bool.and_self]

/-- A variable, and the slice of one's own that it holds. -/
structure Out (h : AH) (p : Nat) (t : AV) (es : Nat) (l : List AV) (N : Nat) : Prop where
  row : Row h p 0 [t]
  own : Own h t es l N
  le : N ≤ p
  ne : ∀ id off len c, t = .sl id off len es c → id ≠ p
theorem Out.cell {h : AH} {p es N : Nat} {t : AV} {l : List AV} (o : Out h p t es l N) : h.cell? p 0 = some t := o.row.cell (i := 0) rfl
theorem Out.quiet {h h' : AH} {p es N : Nat} {t : AV} {l : List AV} (o : Out h p t es l N) (q : Quiet h h') : Out h' p t es l N := ⟨o.row.keep q (fun x => x), o.own.quiet q, o.le, o.ne⟩
/-- The blocks that it stands on. -/
def OutF (p : Nat) (t : AV) : Nat → Prop := fun j => j = p ∨ ∃ off len es c, t = .sl j off len es c
theorem Out.keep {h h' : AH} {p es N : Nat} {t : AV} {l : List AV} {F : Nat → Prop} (o : Out h p t es l N) (q : Other F h h') (hF : ∀ j, OutF p t j → ¬ F j) : Out h' p t es l N :=
  ⟨o.row.keep q (hF _ (.inl rfl)), o.own.keep q (fun _ off len c e => hF _ (.inr ⟨off, len, es, c, e⟩)), o.le, o.ne⟩
theorem Out.ge {h : AH} {p es N : Nat} {t : AV} {l : List AV} (o : Out h p t es l N) : ∀ j, OutF p t j → N ≤ j := by
  rintro j (rfl | ⟨off, len, es', c, rfl⟩)
  · exact o.le
  · rcases o.own with ⟨e, _⟩ | ⟨_, len', c', e, _, hn, _⟩
    · cases e
    · injection e with e1; subst e1; exact hn
theorem Out.lt {h : AH} {p es N : Nat} {t : AV} {l : List AV} (o : Out h p t es l N) : ∀ j, OutF p t j → j < h.next := by
  rintro j (rfl | ⟨off, len, es', c, rfl⟩)
  · exact o.row.1
  · rcases o.own with ⟨e, _⟩ | ⟨id, len', c', e, _, _, R⟩
    · cases e
    · injection e with e1; subst e1; exact R.1
/-- What has turned between: its blocks; where it stands now. -/
structure OS (h h' : AH) (p : Nat) (tv t : AV) : Prop where
  oth : Other (OutF p tv) h h'
  fp : ∀ j, OutF p t j → OutF p tv j ∨ h.next ≤ j
theorem OS.refl (h : AH) (p : Nat) (t : AV) : OS h h p t t := ⟨Other.refl _ _, fun _ hj => .inl hj⟩
theorem OS.trans {h h' h'' : AH} {p : Nat} {a b c : AV} (x : OS h h' p a b) (y : OS h' h'' p b c) : OS h h'' p a c :=
  ⟨x.oth.plus y.oth x.fp, fun j hj => (y.fp j hj).elim (x.fp j) fun h => .inr (Nat.le_trans x.oth.next h)⟩
theorem OS.of_quiet {h h' : AH} {p : Nat} (t : AV) (q : Quiet h h') : OS h h' p t t := ⟨q.any, fun _ hj => .inl hj⟩
theorem OS.base {hB h h' : AH} {p : Nat} {a b : AV} (x : OS h h' p a b) (q : Quiet hB h) (ha : ∀ j, OutF p a j → hB.next ≤ j) : Quiet hB h' := q.plus x.oth fun j hj => .inr (ha j hj)
/-- More is put behind what it holds. -/
theorem out_app {h : AH} {p : Nat} {tv x : AV} {es nb N n : Nat} {l new : List AV} {t t1 e : TypeId} {d1 : TypeDesc} (o : Out h p tv es l N) (hN : N ≤ h.next) (E : Elem e es nb) (ht : Try.prog.underlying t = some (.slice e))
    (ht1 : Try.prog.underlying t1 = some d1) (hd1 : isSeq d1 = true) (hn : alenOf x = some n) (hf : afirst h es x = some new) (hnew : new.length = n * es) (ha : atoms new = true) (hb : (l.length + new.length) * nb ≤ 140737488355328) :
    ∃ s' h1 h2, aappend Try.prog t t1 tv x h = some (s', h1) ∧ h1.write p 0 [s'] = some h2 ∧ s'.atom = true ∧ Out h2 p s' es (l ++ new) N ∧ OS h h2 p tv s' := by
  obtain ⟨s', h1, a1, a2, _, a4, a3⟩ := own_app o.own hN E ht ht1 hd1 hn hf hnew ha hb
  have hnp : ¬ SlF tv p := by
    rintro ⟨off, len, es', c, rfl⟩
    rcases o.own with ⟨e, _⟩ | ⟨id, len', c', e, _, _, _⟩
    · cases e
    · injection e with e1 e2 e3 e4 e5
      subst e4
      exact o.ne _ _ _ _ rfl rfl
  have R1 : Row h1 p 0 ([] ++ [tv] ++ []) := by simpa using o.row.keep a3 hnp
  obtain ⟨h2, w, n2, R2, O2⟩ := Row.write R1 [s'] rfl
  have hne : ∀ id off len c, s' = .sl id off len es c → id ≠ p := fun id off len c e => by
    rcases a4 id off len c e with ⟨off', len', c', e'⟩ | h3
    · exact o.ne _ _ _ _ e'
    · have := o.row.1; omega
  refine ⟨s', h1, h2, a1, by simpa using w, a2.atom, ⟨by simpa using R2, a2.keep O2 hne, o.le, hne⟩, ?_, ?_⟩
  · exact (a3.mono fun j _ hj => .inr hj).trans (O2.mono fun j _ hj => .inl hj)
  · rintro j (rfl | ⟨off, len, es', c, e⟩)
    · exact .inl (.inl rfl)
    · rcases a2 with ⟨e2, _⟩ | ⟨id, len2, c2, e2, _⟩
      · rw [e2] at e; cases e
      · rw [e2] at e
        injection e with e3
        subst e3
        rcases a4 _ _ _ _ e2 with ⟨off', len', c', e'⟩ | h3
        · exact .inl (.inr ⟨_, _, _, _, e'⟩)
        · exact .inr h3
end Go.Proofs.Ytgnacecplaemlaa
/-
  part.Cmds: what it hands back.
-/
namespace Go.Proofs.Ytgnacecplaemlaa
open AI
set_option linter.unusedSimpArgs false
theorem cmds83 {hB h : AH} {p N : Nat} {tv : AV} {l : List AV} {kd : Int} {tx op : List Nat} {sk sc : AV} {cs : List Nd} (o : Out h p tv 1 l N) (hN : N ≤ h.next) (hsc : Sl hB sc 10 (cs.map Nd.cells))
    (hb : l.length + 1 ≤ 4194304) (n : Nat) :
    ∃ t2 h2, X (n + 1) (.func 83) [.agg [.int .i64 kd, .str tx, .str op, sk, sc], .ptr p 0] h = some (.tup [], h2) ∧ Out h2 p t2 1 (l ++ if kd = 6 then [sc] else []) N ∧ OS h h2 p tv t2 := by
  have q1 : Quiet h (h.alloc [.int .i64 kd, .str tx, .str op, sk, sc]) := Other.alloc _ _ _
  have c0 : (h.alloc [.int .i64 kd, .str tx, .str op, sk, sc]).cell? h.next 0 = some (.int .i64 kd) := cell_alloc _ _ _
  have c4 : (h.alloc [.int .i64 kd, .str tx, .str op, sk, sc]).cell? h.next 4 = some sc := cell_alloc _ _ _
  generalize hh1 : h.alloc [.int .i64 kd, .str tx, .str op, sk, sc] = h1 at *
  have o1 := o.quiet q1
  have cp := o1.cell
  rw [ent83]
  unfold cd83
  by_cases hk6 : kd = 6
  · have t6 : (kd == (6 : Int)) = true := by simp [hk6]
    have hat := hsc.atom
    have b1 := bsl47 h1 sc hat
    have q2 : Quiet h1 (h1.alloc [sc]) := Other.alloc _ _ _
    obtain ⟨s', h3, h2, a1, a2, a3, a4, a5⟩ := out_app (x := .sl h1.next 0 1 1 (some 1)) (new := [sc]) (n := 1) (o1.quiet q2) (Nat.le_trans hN (Nat.le_trans q1.next q2.next)) el47 u89 u89 rfl rfl ((sl_one sc (some 1)).first) rfl (by simp only [atoms, hat, Bool.and_self]) (by simp; omega)
    have st := stV_one (t := 89) (v := s') (by kernel_rfl) a3 p 0 h3
    rw [a2] at st
    simp only [Option.map_some] at st
    simp (implicitDefEqProofs := false) only [core, reduceIte, R83, S83, box_agg, hh1, fas, Nat.zero_add, ld3, ld47, ld89, c0, c4, cp, i_eql, t6, b1, a1, st]
    exact ⟨s', h2, rfl, by rw [if_pos hk6]; exact a4, ((OS.of_quiet tv q1).trans (OS.of_quiet tv q2)).trans a5⟩
  · have t6 : (kd == (6 : Int)) = false := by simp [hk6]
    simp (implicitDefEqProofs := false) only [core, reduceIte, R83, S83, box_agg, hh1, fas, Nat.zero_add, ld3, c0, i_eql, t6]
    exact ⟨tv, h1, rfl, by rw [if_neg hk6, List.append_nil]; exact o1, OS.of_quiet tv q1⟩

theorem each82 : ∀ (M : Nat) {hB h : AH} {p N : Nat} {tv s : AV} {l : List AV} {ps : List Pt}, szP ps ≤ M → szP ps ≤ 1048576 → l.length + szP ps ≤ 3145728 → okP hB ps → Sl hB s 5 (ps.map Pt.cells) → Quiet hB h → hB.next ≤ N → N ≤ h.next → Out h p tv 1 l N →
    ∀ n, 4 * szP ps + 2 ≤ n → ∃ t2 h2, X n (.func 82) [s, .fn (.func 83) [] [.ptr p 0]] h = some (.tup [], h2) ∧ Out h2 p t2 1 (l ++ cmdSl ps) N ∧ OS h h2 p tv t2 := by
  intro M
  induction M using Nat.strongRecOn
  rename_i M ih
  intro hB h p N tv s l ps hM hb hbl hv S qB hBN hN o n hn
  obtain ⟨m, rfl⟩ : ∃ m, n = m + 1 := ⟨n - 1, by omega⟩
  have hlen := szP_len ps
  have hl : alen Try.prog 58 s = some ps.length := by rw [S.alen u58, List.length_map]
  rw [ent82]
  unfold cd82
  simp (implicitDefEqProofs := false) only [core, reduceIte, R82, S82, hl]
  generalize hr : aloop _ _ _ _ _ = r
  revert r hr
  refine loop_all ps.length (fun i h' fr => ∃ t, Out h' p t 1 (l ++ cmdSl (ps.take i)) N ∧ OS h h' p tv t ∧ fr = C82_1 (.fn (.func 83) [] [.ptr p 0]) s (.int .i64 (ps.length : Int)) (.int .i64 (i : Int))) ?_ ?_
    ⟨tv, by simpa [cmdSl, cmds] using o, OS.refl _ _ _, by rw [cl82_1]; rfl⟩ (by omega)
  · rintro i h' fr hi ⟨t, o1, os1, e⟩ k hk
    have hm : ps[i]? = some ps[i] := List.getElem?_eq_getElem hi
    have htk := take_next hi
    have hmem : ps[i] ∈ ps := List.getElem_mem hi
    have hx : (ps.map Pt.cells)[i]? = some ps[i].cells := by rw [List.getElem?_map, hm]; rfl
    obtain ⟨id, off, i1, H⟩ := S.ix u58 z78 hx
    have hsz := szP_mem hmem
    have hok := okP_mem hv _ hmem
    have hta : szP (ps.take (i + 1)) = szP (ps.take i) + ps[i].sz := by
      rw [htk]
      have : ∀ (a : List Pt) (x : Pt), szP (a ++ [x]) = szP a + x.sz := fun a x => by
        induction a with
        | nil => simp [szP]
        | cons y a ih => simp only [List.cons_append, szP, ih]; omega
      exact this _ _
    have htl := szP_take ps (i + 1)
    have hcl := cmdSl_len (ps.take i)
    have hat := Pt.atoms hok
    generalize ps[i] = x at *
    obtain ⟨kd, tx, op, sk, kids, sc, cs⟩ := x
    simp only [Pt.ok] at hok
    obtain ⟨v1, v2, v3, v4⟩ := hok
    simp only [Pt.sz] at hsz hta
    simp only [Pt.cells] at hat H
    have qB1 : Quiet hB h' := os1.base qB (fun j hj => Nat.le_trans hBN (o.ge j hj))
    have r1 := ldS (H.quiet qB1) (n := 5) rfl
    obtain ⟨h2, f1, f2, f3, _⟩ := fill h' [.int .i64 0, .str [], .str [], .nilSl, .nilSl] [.int .i64 kd, .str tx, .str op, sk, sc] rfl
    have st := stV_agg (t := 78) (n := 5) (l := [.int .i64 kd, .str tx, .str op, sk, sc]) z78 rfl hat h'.next 0 (h'.alloc [.int .i64 0, .str [], .str [], .nilSl, .nilSl])
    rw [f1] at st
    simp only [Option.map_some] at st
    have r2 := ldS f2.has (n := 5) rfl
    have o2 := o1.quiet f3
    have hN2 : N ≤ h2.next := Nat.le_trans hN (Nat.le_trans os1.oth.next f3.next)
    obtain ⟨m2, rfl⟩ : ∃ m2, m = m2 + 1 := ⟨m - 1, by omega⟩
    have hl1 : (l ++ cmdSl (ps.take i)).length = l.length + (cmdSl (ps.take i)).length := List.length_append
    obtain ⟨t3, h3, e3, o3, os3⟩ := cmds83 (hB := hB) (kd := kd) (tx := tx) (op := op) (sk := sk) (sc := sc) (cs := cs) o2 hN2 v3 (by rw [hl1]; omega) m2
    have c3 : h3.cell? h'.next 3 = some sk := by
      have hr3 : Row h3 h'.next 0 [.int .i64 kd, .str tx, .str op, sk, sc] := f2.keep os3.oth (fun hj => by have := o1.lt _ hj; omega)
      have := hr3.cell (i := 3) rfl
      rwa [Nat.zero_add] at this
    have qB3 : Quiet hB h3 := os3.base (qB1.trans f3) (fun j hj => Nat.le_trans hBN (o2.ge j hj))
    obtain ⟨t4, h4, e4, o4, os4⟩ := ih (M - 1) (by omega) (hB := hB) (h := h3) (p := p) (N := N) (tv := t3) (s := sk) (ps := kids) (by omega) (by omega) (by simp only [List.length_append]; split <;> simp <;> omega) v2 v1 qB3 hBN (Nat.le_trans hN2 os3.oth.next) o3 (m2 + 1) (by omega)
    have d : decide ((i : Int) < (ps.length : Int)) = true := by simp; omega
    have w := wrap_succ i (by omega)
    rw [e]
    unfold C82_1 lp82_1
    simp (implicitDefEqProofs := false) only [core, reduceIte, R82, S82, i_lss, d, i1, ld78, r1, new78, st, r2, e3, fas, Nat.zero_add, ld58, c3, e4, i_add, w]
    refine hk _ _ ⟨t4, ?_, ((os1.trans (OS.of_quiet t f3)).trans os3).trans os4, by rw [cl82_1]⟩
    have ec : l ++ cmdSl (ps.take (i + 1)) = l ++ cmdSl (ps.take i) ++ (if kd = 6 then [sc] else []) ++ cmdSl kids := by
      rw [htk]
      unfold cmdSl
      rw [cmds_append]
      simp only [cmds, List.map_append, List.append_nil]
      split <;> simp
    rw [ec]
    exact o4
  · rintro h' fr ⟨t, o1, os1, e⟩ k
    have d : decide ((ps.length : Int) < (ps.length : Int)) = false := by simp
    rw [e]
    unfold C82_1 lp82_1
    simp (implicitDefEqProofs := false) only [core, reduceIte, R82, S82, i_lss, d]
    rw [List.take_length] at o1
    exact ⟨t, h', rfl, o1, os1⟩

theorem cmds70 {h : AH} {s : AV} {ps : List Pt} (hb : szP ps ≤ 1048576) (hv : okP h ps) (S : Sl h s 5 (ps.map Pt.cells)) (n : Nat) (hn : 4 * szP ps + 3 ≤ n) :
    ∃ s2 h2, X n (.func 70) [.agg [s]] h = some (s2, h2) ∧ Sl h2 s2 1 ((cmds ps).map fun c => [c.1]) ∧ Quiet h h2 ∧ SlNew s2 h.next := by
  obtain ⟨m, rfl⟩ : ∃ m, n = m + 1 := ⟨n - 1, by omega⟩
  have q1 : Quiet h (h.alloc [s]) := Other.alloc _ _ _
  have c0 : (h.alloc [s]).cell? h.next 0 = some s := cell_alloc _ _ _
  have n1 : (h.alloc [s]).next = h.next + 1 := rfl
  generalize hh1 : h.alloc [s] = h1 at *
  have q2 : Quiet h1 (h1.alloc [.nilSl]) := Other.alloc _ _ _
  have R := Row.new h1 [.nilSl]
  have c02 : (h1.alloc [.nilSl]).cell? h.next 0 = some s := by
    rw [AH.cell?_eq, AH.blk?_alloc, if_neg (by omega), ← AH.cell?_eq]; exact c0
  have o : Out (h1.alloc [.nilSl]) h1.next .nilSl 1 [] h.next := ⟨R, Own.nil _ _ _, by omega, fun _ _ _ _ e => by cases e⟩
  generalize hh2 : h1.alloc [.nilSl] = h2 at *
  obtain ⟨t, h3, e1, o3, os⟩ := each82 (szP ps) (hB := h) (h := h2) (p := h1.next) (N := h.next) (Nat.le_refl _) hb (by simp; omega) hv S (q1.trans q2) (Nat.le_refl _) (by have := q2.next; omega) o m (by omega)
  have cp := o3.cell
  rw [ent70]
  unfold cd70
  simp (implicitDefEqProofs := false) only [core, reduceIte, R70, S70, box_agg, hh1, new89, hh2, fas, Nat.zero_add, ld58, c02, e1, ld89, cp]
  have ow := o3.own
  rw [List.nil_append, ← cmdSl_flat] at ow
  exact nrm_own3 ow (os.base (q1.trans q2) (fun j hj => o.ge j hj)) (fun x hx => by obtain ⟨c, _, rfl⟩ := List.mem_map.mp hx; rfl) (by omega) (fun a ha => by
    rw [cmdSl_flat] at ha
    obtain ⟨c, hc, rfl⟩ := List.mem_map.mp ha
    exact (cmds_ok hv c hc).1.old)
end Go.Proofs.Ytgnacecplaemlaa
/-
  slices.Grow, slices.Concat as walk.own uses them; walk.own.
-/
namespace Go.Proofs.Ytgnacecplaemlaa
open AI
set_option linter.unusedSimpArgs false
theorem app_zeros (h : AH) (k : Nat) (hk : 0 < k) (hb : k ≤ 1048576) : ∃ l, l.length = k ∧ aappend Try.prog 44 3 .nilSl (.int .i64 (k : Int)) h = some (.sl h.next 0 k 1 none, h.alloc l) := by
  have hi : (Try.prog.info? 60).map (fun i => (i.size, i.bytes, i.zero.map fun z => ((ofConst z).isTop, (ofConst z).cells.length))) = some (1, 24, some (false, 1)) := by kernel_rfl
  cases hq : Try.prog.info? 60 with
  | none => rw [hq] at hi; simp at hi
  | some i =>
    rw [hq] at hi
    simp only [Option.map_some, Option.some.injEq, Prod.mk.injEq] at hi
    obtain ⟨e1, e2, e3⟩ := hi
    cases hz : i.zero with
    | none => rw [hz] at e3; simp at e3
    | some z =>
      rw [hz] at e3
      simp only [Option.map_some, Option.some.injEq, Prod.mk.injEq] at e3
      obtain ⟨e4, e5⟩ := e3
      have w : IntKind.i64.wrap (k : Int) = k := wrap_nat k (by omega)
      have hu3 : Try.prog.underlying 3 = some (.int .i64) := by kernel_rfl
      refine ⟨arep (ofConst z).cells k, by rw [length_arep, e5, Nat.mul_one], ?_⟩
      unfold aappend azeros
      rw [u44, hu3]
      simp only [hq, hz, e4, e5, e1, e2, w, Int.toNat_natCast]
      have hblt : Nat.blt 140737488355328 (k * 24) = false := by
        cases hx : Nat.blt 140737488355328 (k * 24) with
        | false => rfl
        | true => have := Nat.blt_eq.mp hx; omega
      have hd : decide ((k : Int) ≤ 0) = false := by simp; omega
      rw [hblt, hd]
      simp
theorem slice0 (id k : Nat) : aslice Try.prog 44 (.sl id 0 k 1 none) none (some (.int .i64 0)) none = some (.sl id 0 0 1 none) := by
  unfold aslice
  rw [u44]
  simp [z60, abound, aIx]
theorem grow85 (h : AH) (k : Nat) (hb : k ≤ 1048576) (n : Nat) : ∃ s2 h2, X (n + 1) (.func 85) [.nilSl, .int .i64 (k : Int)] h = some (s2, h2) ∧ Own h2 s2 1 [] h.next ∧ Quiet h h2 := by
  have a1 : acap Try.prog 44 .nilSl = some 0 := by kernel_rfl
  have a2 : alen Try.prog 44 .nilSl = some 0 := by kernel_rfl
  have a3 : aslice Try.prog 44 .nilSl none (some (.int .i64 0)) none = some .nilSl := by kernel_rfl
  have w0 : IntKind.i64.wrap ((0 : Int) - 0) = 0 := by decide
  have w1 : IntKind.i64.wrap ((k : Int) - 0) = k := wrap_eq (by omega) (by omega)
  have d1 : decide ((k : Int) < 0) = false := by simp
  rw [ent85]
  unfold cd85
  by_cases hk : k = 0
  · have d2 : decide ((k : Int) > 0) = false := by simp; omega
    simp (implicitDefEqProofs := false) only [core, reduceIte, R85, S85, i_lss, d1, a1, a2, nat0, i_sub, w0, w1, i_gtr, d2]
    exact ⟨_, _, nrm_flat (Other.refl _ _) rfl, Own.nil _ _ _, Other.refl _ _⟩
  · have d2 : decide ((k : Int) > 0) = true := by simp; omega
    obtain ⟨l, hl, e⟩ := app_zeros h k (by omega) hb
    have s0 := slice0 h.next k
    simp (implicitDefEqProofs := false) only [core, reduceIte, R85, S85, i_lss, d1, a1, a2, a3, nat0, i_sub, w0, w1, i_gtr, d2, e, s0]
    have R := Row.new h l
    obtain ⟨_, b, hb1, hro, hlo, hhi, _⟩ := R
    refine ⟨_, _, nrm_of ⟨Other.alloc _ _ _, .inr ⟨h.next, 0, 0, 1, none, b, [], rfl, Nat.le_refl _, hb1, hro, hlo, by omega, by simp [AH.cells?_zero], by simp, rfl, rfl⟩⟩, ?_, Other.alloc _ _ _⟩
    exact .inr ⟨h.next, 0, none, rfl, rfl, Nat.le_refl _, Row.new h []⟩

/-! ### slices.Concat -/
/-- All the words of lists of them. -/
def catW (L : List (AV × List Wd)) : List Wd := L.flatMap (·.2)
theorem catW_append (a b : List (AV × List Wd)) : catW (a ++ b) = catW a ++ catW b := by simp [catW]
theorem catW_one (c : AV × List Wd) : catW [c] = c.2 := by simp [catW]
theorem catW_take (L : List (AV × List Wd)) (i : Nat) : (catW (L.take i)).length ≤ (catW L).length := by
  conv => rhs; rw [← List.take_append_drop i L, catW_append, List.length_append]
  omega
/-- The cell of a word. -/
def Wd.sl : Wd → AV
  | .mk s _ => s
theorem wd_flat' (L : List Wd) : (L.map Wd.cells).flatten = L.map Wd.sl := by
  induction L with
  | nil => rfl
  | cons w l ih => cases w; simp [ih, Wd.cells, Wd.sl]
theorem Wd.sl_atom {h : AH} {w : Wd} (hv : w.ok h) : w.sl.atom = true := by cases w; simp only [Wd.ok] at hv; exact hv.1.atom
theorem Wd.sl_old {h : AH} {w : Wd} (hv : w.ok h) : oldAV h.next w.sl = true := by cases w; simp only [Wd.ok] at hv; exact hv.1.old
theorem concat74 {h : AH} {s : AV} {L : List (AV × List Wd)} {hB : AH} (qB : Quiet hB h) (S : Sl h s 1 (L.map fun c => [c.1])) (hL : ∀ c ∈ L, Sl hB c.1 1 (c.2.map Wd.cells) ∧ okW hB c.2) (hb : (catW L).length ≤ 1048576) (hlen : L.length ≤ 1000) (n : Nat) (hn : L.length + 3 ≤ n) :
    ∃ s2 h2, X n (.func 74) [s] h = some (s2, h2) ∧ Sl h2 s2 1 ((catW L).map Wd.cells) ∧ Quiet h h2 ∧ Own h2 s2 1 ((catW L).map Wd.cells).flatten h.next := by
  obtain ⟨m, rfl⟩ : ∃ m, n = m + 1 := ⟨n - 1, by omega⟩
  have hl : alen Try.prog 104 s = some L.length := by rw [S.alen u104, List.length_map]
  have hold : ∀ c ∈ L, ∀ w ∈ c.2, w.ok h := fun c hc w hw => (okW_mem (hL c hc).2 w hw).quiet qB
  have holdW : ∀ w ∈ catW L, w.ok h := fun w hw => by
    unfold catW at hw
    obtain ⟨c, hc, hw⟩ := List.mem_flatMap.mp hw
    exact hold c hc w hw
  rw [ent74]
  unfold cd74
  simp (implicitDefEqProofs := false) only [core, reduceIte, R74, S74, hl]
  generalize hr : aloop _ _ _ _ _ = r
  revert r hr
  refine loop_all L.length (fun i h' fr => h' = h ∧ fr = C74_3 s (.int .i64 ((catW (L.take i)).length : Int)) s (.int .i64 (L.length : Int)) (.int .i64 (i : Int))) ?_ ?_ ⟨rfl, by rw [cl74_3]; rfl⟩ (by omega)
  · rintro i h' fr hi ⟨rfl, e⟩ k hk
    have hm : L[i]? = some L[i] := List.getElem?_eq_getElem hi
    have htk := take_next hi
    have hx : (L.map fun c => [c.1])[i]? = some [L[i].1] := by rw [List.getElem?_map, hm]; rfl
    obtain ⟨id, off, i1, H⟩ := S.ix u104 z44 hx
    have hc := hL _ (List.getElem_mem hi)
    have hct : (catW (L.take (i + 1))).length = (catW (L.take i)).length + L[i].2.length := by rw [htk, catW_append, catW_one, List.length_append]
    have hle := catW_take L (i + 1)
    generalize L[i] = x at *
    have hlx : alen Try.prog 44 x.1 = some x.2.length := by rw [hc.1.alen u44, List.length_map]
    have c0 : h'.cell? id off = some x.1 := by have := H.cell (i := 0) rfl; rwa [Nat.add_zero] at this
    have d : decide ((i : Int) < (L.length : Int)) = true := by simp; omega
    have w := wrap_succ i (by omega)
    have w2 : IntKind.i64.wrap (((catW (L.take i)).length : Int) + (x.2.length : Int)) = ((catW (L.take (i + 1))).length : Int) := wrap_eq (by omega) (by omega)
    have d2 : decide (((catW (L.take (i + 1))).length : Int) < 0) = false := by simp
    rw [e]
    unfold C74_3 lp74_3
    simp (implicitDefEqProofs := false) only [core, reduceIte, R74, S74, i_lss, d, i1, ld44, c0, hlx, i_add, w, w2, d2]
    exact hk _ _ ⟨rfl, by rw [cl74_3]⟩
  · rintro h' fr ⟨rfl, e⟩ k
    have d : decide ((L.length : Int) < (L.length : Int)) = false := by simp
    obtain ⟨m2, rfl⟩ : ∃ m2, m = m2 + 1 := ⟨m - 1, by omega⟩
    obtain ⟨t0, h1, g1, g2, g3⟩ := grow85 h' (catW L).length hb m2
    rw [e, List.take_length]
    unfold C74_3 lp74_3
    simp (implicitDefEqProofs := false) only [core, reduceIte, R74, S74, i_lss, d, g1, hl]
    generalize hr : aloop _ _ _ _ _ = r
    revert r hr
    refine loop_all L.length (fun i h'' fr => ∃ t, Quiet h' h'' ∧ Own h'' t 1 ((catW (L.take i)).map Wd.sl) h'.next ∧ fr = C74_11 t s (.int .i64 (L.length : Int)) (.int .i64 (i : Int))) ?_ ?_ ⟨t0, g3, by simpa [catW] using g2, by rw [cl74_11]; rfl⟩ (by omega)
    · rintro i h'' fr hi ⟨t, q, o, e⟩ k2 hk2
      have hm : L[i]? = some L[i] := List.getElem?_eq_getElem hi
      have htk := take_next hi
      have hx : (L.map fun c => [c.1])[i]? = some [L[i].1] := by rw [List.getElem?_map, hm]; rfl
      obtain ⟨id, off, i1, H⟩ := S.ix u104 z44 hx
      have hc := hL _ (List.getElem_mem hi)
      have hw := hold _ (List.getElem_mem hi)
      have hct : catW (L.take (i + 1)) = catW (L.take i) ++ L[i].2 := by rw [htk, catW_append, catW_one]
      have hle := catW_take L (i + 1)
      generalize L[i] = x at *
      have c0 : h''.cell? id off = some x.1 := by have := (H.quiet q).cell (i := 0) rfl; rwa [Nat.add_zero] at this
      have hS := (hc.1.quiet qB).quiet q
      have hle2 : ((catW (L.take i)).map Wd.sl).length + (x.2.map Wd.sl).length ≤ 1048576 := by rw [hct] at hle; simp at hle ⊢; omega
      obtain ⟨s3, h3, p1, p2, p3, _⟩ := own_app (x := x.1) (new := x.2.map Wd.sl) (n := x.2.length) o q.next el60 u44 u44 rfl (by rw [hS.alenOf, List.length_map]) (by rw [hS.first, wd_flat']) (by simp) (atoms_map _ _ fun w hww => Wd.sl_atom (hw w hww)) (by omega)
      have d : decide ((i : Int) < (L.length : Int)) = true := by simp; omega
      have w := wrap_succ i (by omega)
      rw [e]
      unfold C74_11 lp74_11
      simp (implicitDefEqProofs := false) only [core, reduceIte, R74, S74, i_lss, d, i1, ld44, c0, p1, i_add, w]
      exact hk2 _ _ ⟨s3, q.beyond p3, by rw [hct, List.map_append]; exact p2, by rw [cl74_11]⟩
    · rintro h'' fr ⟨t, q, o, e⟩ k2
      have d : decide ((L.length : Int) < (L.length : Int)) = false := by simp
      rw [e]
      unfold C74_11 lp74_11
      simp (implicitDefEqProofs := false) only [core, reduceIte, R74, S74, i_lss, d]
      rw [List.take_length, ← wd_flat'] at o
      exact nrm_own' o q (fun x hx => by obtain ⟨c, _, rfl⟩ := List.mem_map.mp hx; exact c.cells_len) (by omega) (fun a ha => by
        rw [wd_flat'] at ha
        obtain ⟨c, hc, rfl⟩ := List.mem_map.mp ha
        exact Wd.sl_old (holdW c hc))
end Go.Proofs.Ytgnacecplaemlaa
/-
  walk.own: a command's own words.
-/
namespace Go.Proofs.Ytgnacecplaemlaa
open AI
set_option linter.unusedSimpArgs false
def Rdr.to : Rdr → Wd
  | .mk _ _ s ps _ => .mk s ps
def Am.pats : Am → List Wd
  | .mk _ pats _ => pats
def Am.body : Am → Nd
  | .mk _ _ body => body
/-- A command's own words. -/
def Nd.own : Nd → List Wd
  | .mk _ _ _ _ _ _ _ az _ ws _ rs _ ms _ _ => az ++ ws ++ rs.map Rdr.to ++ ms.flatMap Am.pats
theorem szR_to (rs : List Rdr) : szW (rs.map Rdr.to) = szR rs := by
  induction rs with
  | nil => simp [szW, szR]
  | cons r l ih => cases r; simp only [List.map_cons, szW, szR, Rdr.to, Wd.sz, Rdr.sz, ih]
theorem szW_append (a b : List Wd) : szW (a ++ b) = szW a + szW b := by
  induction a with
  | nil => simp [szW]
  | cons x a ih => simp only [List.cons_append, szW, ih]; omega
theorem szM_pats (ms : List Am) : szW (ms.flatMap Am.pats) ≤ szM ms := by
  induction ms with
  | nil => simp [szW, szM]
  | cons r l ih => cases r; simp only [List.flatMap_cons, szW_append, szM, Am.pats, Am.sz]; omega
theorem Nd.own_sz (T : Nd) : szW T.own + 1 ≤ T.sz := by
  cases T
  simp only [Nd.own, szW_append, szR_to, Nd.sz]
  have := szM_pats ‹List Am›
  omega
theorem okW_append {h : AH} {a b : List Wd} (ha : okW h a) (hb : okW h b) : okW h (a ++ b) := by
  induction a with
  | nil => exact hb
  | cons x a ih => simp only [okW] at ha; simp only [List.cons_append, okW]; exact ⟨ha.1, ih ha.2⟩
theorem okR_to {h : AH} {rs : List Rdr} (hv : okR h rs) : okW h (rs.map Rdr.to) := by
  induction rs with
  | nil => simp only [List.map_nil, okW]
  | cons r l ih => cases r; simp only [okR, Rdr.ok] at hv; simp only [List.map_cons, okW, Rdr.to, Wd.ok]; exact ⟨hv.1, ih hv.2⟩
theorem okM_pats {h : AH} {ms : List Am} (hv : okM h ms) : okW h (ms.flatMap Am.pats) := by
  induction ms with
  | nil => simp only [List.flatMap_nil, okW]
  | cons r l ih => cases r; simp only [okM, Am.ok] at hv; simp only [List.flatMap_cons, Am.pats]; exact okW_append hv.1.2.1 (ih hv.2)
theorem Nd.own_ok {h : AH} {T : Nd} (hv : T.ok h) : okW h T.own := by
  cases T
  simp only [Nd.ok] at hv
  obtain ⟨_, ⟨_, v2⟩, ⟨_, v3⟩, ⟨_, v4⟩, ⟨_, v5⟩, _⟩ := hv
  exact okW_append (okW_append (okW_append v2 v3) (okR_to v4)) (okM_pats v5)
theorem bsl104 {h0 h : AH} {a b : AV} {ea eb : Nat} {La Lb : List (List AV)} (Sa : Sl h0 a ea La) (Sb : Sl h0 b eb Lb) : bslV Try.prog 104 2 [(0, a), (1, b)] h = some (.sl h.next 0 2 1 (some 2), h.alloc [a, b]) := by
  rcases Sa.2 with ⟨rfl, rfl | ⟨id, off, c, rfl, _⟩⟩ | ⟨id, off, c, rfl, _⟩ <;> rcases Sb.2 with ⟨rfl, rfl | ⟨id', off', c', rfl, _⟩⟩ | ⟨id', off', c', rfl, _⟩ <;> kernel_rfl
theorem own57 {h : AH} {T : Nd} (hb : T.sz ≤ 1048576) (hv : T.ok h) (n : Nat) (hn : T.sz + 8 ≤ n) :
    ∃ s2 h2, X n (.func 57) [.agg T.cells] h = some (s2, h2) ∧ Sl h2 s2 1 (T.own.map Wd.cells) ∧ Quiet h h2 ∧ SlNew s2 h.next := by
  obtain ⟨m, rfl⟩ : ∃ m, n = m + 1 := ⟨n - 1, by omega⟩
  have howns := T.own_sz
  have hownl := szW_len T.own
  have hownk := Nd.own_ok hv
  obtain ⟨kd, name, nt, inn, so, ops, sa, az, sw, ws, sr, rs, sm, ms, sk, kids⟩ := T
  simp only [Nd.sz] at hb hn howns
  simp only [Nd.ok] at hv
  obtain ⟨vo, ⟨va1, va2⟩, ⟨vw1, vw2⟩, ⟨vr1, vr2⟩, ⟨vm1, vm2⟩, vk1, vk2⟩ := hv
  have q1 : Quiet h (h.alloc (Nd.cells (.mk kd name nt inn so ops sa az sw ws sr rs sm ms sk kids))) := Other.alloc _ _ _
  have HB := Has.new h (Nd.cells (.mk kd name nt inn so ops sa az sw ws sr rs sm ms sk kids))
  generalize hh1 : h.alloc (Nd.cells (.mk kd name nt inn so ops sa az sw ws sr rs sm ms sk kids)) = h1 at *
  have cell : ∀ {h' : AH}, Quiet h1 h' → ∀ i v, (Nd.cells (.mk kd name nt inn so ops sa az sw ws sr rs sm ms sk kids))[i]? = some v → h'.cell? h.next i = some v := fun q i v hi => by
    have := (HB.quiet q).cell hi
    rwa [Nat.zero_add] at this
  have c5 := cell (Other.refl _ _) 5 sa rfl
  have c6 := cell (Other.refl _ _) 6 sw rfl
  have b1 := bsl104 (h := h1) va1 vw1
  have q2 : Quiet h1 (h1.alloc [sa, sw]) := Other.alloc _ _ _
  have Sc : Sl (h1.alloc [sa, sw]) (.sl h1.next 0 2 1 (some 2)) 1 ([(sa, az), (sw, ws)].map fun c => [c.1]) := Sl.of_has (L := [[sa], [sw]]) (by simp) (Has.new h1 [sa, sw])
  have ec : catW [(sa, az), (sw, ws)] = az ++ ws := by simp [catW]
  have la := szW_len az
  have lw := szW_len ws
  have lr2 := szR_len rs
  have lm2 := szM_len ms
  obtain ⟨t0, h2, g1, _, g3, g4⟩ := concat74 (hB := h) (L := [(sa, az), (sw, ws)]) (q1.trans q2) Sc (fun c hc => by
    simp only [List.mem_cons, List.not_mem_nil, or_false] at hc
    rcases hc with rfl | rfl
    · exact ⟨va1, va2⟩
    · exact ⟨vw1, vw2⟩) (by rw [ec]; simp; omega) (by simp) m (by simp; omega)
  rw [ec, wd_flat'] at g4
  have q3 : Quiet h1 h2 := q2.trans g3
  have c7 := cell q3 7 sr rfl
  have hlr : alen Try.prog 45 sr = some rs.length := by rw [vr1.alen u45, List.length_map]
  have hlm : alen Try.prog 46 sm = some ms.length := by rw [vm1.alen u46, List.length_map]
  rw [ent57]
  unfold cd57
  simp (implicitDefEqProofs := false) only [core, reduceIte, R57, S57, box_agg, hh1, fas, Nat.zero_add, ld44, c5, c6, b1, g1, ld45, c7, hlr]
  generalize hr : aloop _ _ _ _ _ = r
  revert r hr
  have ga : Own h2 t0 1 ((az ++ ws).map Wd.sl) h1.next := by
    rcases g4 with g | ⟨id, len, c, e1, e2, e3, e4⟩
    · exact .inl g
    · exact .inr ⟨id, len, c, e1, e2, Nat.le_trans q2.next e3, e4⟩
  have tot : ∀ (a : List Wd), (∃ b, (Nd.mk kd name nt inn so ops sa az sw ws sr rs sm ms sk kids).own = a ++ b) → a.length ≤ 1048576 ∧ okW h a := fun a ⟨b, e⟩ => by
    rw [e] at hownl hownk howns
    rw [List.length_append] at hownl
    refine ⟨by omega, ?_⟩
    have : ∀ (a b : List Wd), okW h (a ++ b) → okW h a := fun a b => by
      induction a with
      | nil => intro _; simp only [okW]
      | cons x a ih => intro hv; simp only [List.cons_append, okW] at *; exact ⟨hv.1, ih hv.2⟩
    exact this a b hownk
  refine loop_all rs.length (fun i h' fr => ∃ t, Quiet h1 h' ∧ Own h' t 1 ((az ++ ws ++ (rs.take i).map Rdr.to).map Wd.sl) h1.next ∧ fr = C57_3 (.ptr h.next 0) t sr (.int .i64 (rs.length : Int)) (.int .i64 (i : Int))) ?_ ?_ ⟨t0, q3, by simpa using ga, by rw [cl57_3]; rfl⟩ (by omega)
  · rintro i h' fr hi ⟨t, q, o, e⟩ k hk
    have hm : rs[i]? = some rs[i] := List.getElem?_eq_getElem hi
    have htk := take_next hi
    have hmem : rs[i] ∈ rs := List.getElem_mem hi
    have hx : (rs.map Rdr.cells)[i]? = some rs[i].cells := by rw [List.getElem?_map, hm]; rfl
    obtain ⟨id, off, i1, H⟩ := vr1.ix u45 z73 hx
    have hok := okR_mem vr2 _ hmem
    have hat := Rdr.atoms hok
    have hto : (az ++ ws ++ (rs.take (i + 1)).map Rdr.to).map Wd.sl = (az ++ ws ++ (rs.take i).map Rdr.to).map Wd.sl ++ [rs[i].to.sl] := by rw [htk]; simp only [List.map_append, List.map_cons, List.map_nil, List.append_assoc]
    have htl := (tot (az ++ ws ++ (rs.take (i + 1)).map Rdr.to) ⟨(rs.drop (i + 1)).map Rdr.to ++ ms.flatMap Am.pats, by
      have : rs.map Rdr.to = (rs.take (i + 1)).map Rdr.to ++ (rs.drop (i + 1)).map Rdr.to := by rw [← List.map_append, List.take_append_drop]
      simp only [Nd.own, this, List.append_assoc]⟩).1
    have hlen : ((az ++ ws ++ (rs.take i).map Rdr.to).map Wd.sl).length + 1 ≤ 1048576 := by
      have hl := congrArg List.length hto
      simp only [List.length_append, List.length_map, List.length_cons, List.length_nil] at hl htl ⊢
      omega
    generalize rs[i] = x at *
    obtain ⟨num, op, s, ps, here⟩ := x
    simp only [Rdr.ok] at hok
    simp only [Rdr.cells] at H hat
    have qq := q1.trans q
    have r1 := ldS (H.quiet qq) (n := 4) rfl
    obtain ⟨h3, f1, f2, f3, _⟩ := fill h' [.str [], .int .i64 0, .nilSl, .str []] [.str num, .int .i64 op, s, .str here] rfl
    have st := stV_agg (t := 73) (n := 4) (l := [.str num, .int .i64 op, s, .str here]) z73 rfl hat h'.next 0 (h'.alloc [.str [], .int .i64 0, .nilSl, .str []])
    rw [f1] at st
    simp only [Option.map_some] at st
    have r2 : (h3.cells? h'.next 1 2).map AV.agg = some (.agg [s]) := by
      have := ldS (Has.part (a := [.str num, .int .i64 op]) (p := [s]) (c := [.str here]) f2.has) (n := 1) rfl
      rwa [Nat.zero_add] at this
    have b2 := bsl60 h3 s
    obtain ⟨s4, h4, p1, p2, p3, _⟩ := own_app (x := .sl h3.next 0 1 1 (some 1)) (new := [s]) (n := 1) ((o.quiet f3).quiet (Other.alloc _ h3 [s])) (Nat.le_trans q.next (Nat.le_trans f3.next (Nat.le_succ _))) el60 u44 u44 rfl rfl ((sl_one s (some 1)).first) rfl (by simp only [atoms, hok.1.atom, Bool.and_self]) (by simp only [List.length_singleton]; omega)
    have d : decide ((i : Int) < (rs.length : Int)) = true := by simp; omega
    have w := wrap_succ i (by omega)
    rw [e]
    unfold C57_3 lp57_3
    simp (implicitDefEqProofs := false) only [core, reduceIte, R57, S57, i_lss, d, i1, ld73, r1, new73, st, fas, Nat.zero_add, ld60, r2, b2, p1, i_add, w]
    exact hk _ _ ⟨s4, ((q.trans f3).more [s]).beyond p3, by rw [hto]; exact p2, by rw [cl57_3]⟩
  · rintro h' fr ⟨t, q, o, e⟩ k
    have c8 := cell q 8 sm rfl
    have d : decide ((rs.length : Int) < (rs.length : Int)) = false := by simp
    rw [e]
    unfold C57_3 lp57_3
    simp (implicitDefEqProofs := false) only [core, reduceIte, R57, S57, i_lss, d, fas, Nat.zero_add, ld46, c8, hlm]
    generalize hr : aloop _ _ _ _ _ = r
    revert r hr
    rw [List.take_length] at o
    refine loop_all ms.length (fun i h'' fr => ∃ t, Quiet h1 h'' ∧ Own h'' t 1 ((az ++ ws ++ rs.map Rdr.to ++ (ms.take i).flatMap Am.pats).map Wd.sl) h1.next ∧ fr = C57_8 t sm (.int .i64 (ms.length : Int)) (.int .i64 (i : Int))) ?_ ?_ ⟨t, q, by simpa using o, by rw [cl57_8]; rfl⟩ (by omega)
    · rintro i h'' fr hi ⟨t, q, o, e⟩ k2 hk2
      have hm : ms[i]? = some ms[i] := List.getElem?_eq_getElem hi
      have htk := take_next hi
      have hmem : ms[i] ∈ ms := List.getElem_mem hi
      have hx : (ms.map Am.cells)[i]? = some ms[i].cells := by rw [List.getElem?_map, hm]; rfl
      obtain ⟨id, off, i1, H⟩ := vm1.ix u46 z76 hx
      have hok := okM_mem vm2 _ hmem
      have hat := Am.atoms hok
      have hcl := ms[i].cells_len
      have hto : (az ++ ws ++ rs.map Rdr.to ++ (ms.take (i + 1)).flatMap Am.pats).map Wd.sl = (az ++ ws ++ rs.map Rdr.to ++ (ms.take i).flatMap Am.pats).map Wd.sl ++ ms[i].pats.map Wd.sl := by
        rw [htk]; simp only [List.map_append, List.flatMap_append, List.flatMap_cons, List.flatMap_nil, List.append_nil, List.append_assoc]
      have htl := (tot (az ++ ws ++ rs.map Rdr.to ++ (ms.take (i + 1)).flatMap Am.pats) ⟨(ms.drop (i + 1)).flatMap Am.pats, by
        have : ms.flatMap Am.pats = (ms.take (i + 1)).flatMap Am.pats ++ (ms.drop (i + 1)).flatMap Am.pats := by rw [← List.flatMap_append, List.take_append_drop]
        simp only [Nd.own, this, List.append_assoc]⟩).1
      have hlen : ((az ++ ws ++ rs.map Rdr.to ++ (ms.take i).flatMap Am.pats).map Wd.sl).length + (ms[i].pats.map Wd.sl).length ≤ 1048576 := by
        have hl := congrArg List.length hto
        simp only [List.length_append, List.length_map] at hl htl ⊢
        omega
      generalize ms[i] = x at *
      obtain ⟨s, pats, body⟩ := x
      simp only [Am.ok] at hok
      simp only [Am.pats] at hto hlen
      have qq := q1.trans q
      have r1 := ldS (H.quiet qq) (n := 11) hcl
      obtain ⟨h3, f1, f2, f3, _⟩ := fill h'' [.nilSl, .int .i64 0, .str [], .bool false, .bool false, .nilSl, .nilSl, .nilSl, .nilSl, .nilSl, .nilSl] (Am.cells (.mk s pats body)) hcl
      have st := stV_agg (t := 76) (n := 11) (l := Am.cells (.mk s pats body)) z76 hcl hat h''.next 0 (h''.alloc [.nilSl, .int .i64 0, .str [], .bool false, .bool false, .nilSl, .nilSl, .nilSl, .nilSl, .nilSl, .nilSl])
      rw [f1] at st
      simp only [Option.map_some] at st
      have r2 : h3.cell? h''.next 0 = some s := by have := f2.cell (i := 0) (v := s) rfl; rwa [Nat.zero_add] at this
      have hS := (hok.1.quiet qq).quiet f3
      have hpo : ∀ w ∈ pats, w.ok h := fun w hw => okW_mem hok.2.1 w hw
      obtain ⟨s4, h4, p1, p2, p3, _⟩ := own_app (x := s) (new := pats.map Wd.sl) (n := pats.length) (o.quiet f3) (Nat.le_trans q.next f3.next) el60 u44 u44 rfl (by rw [hS.alenOf, List.length_map]) (by rw [hS.first, wd_flat']) (by simp) (atoms_map _ _ fun w hww => Wd.sl_atom (hpo w hww)) (by omega)
      have d : decide ((i : Int) < (ms.length : Int)) = true := by simp; omega
      have w := wrap_succ i (by omega)
      rw [e]
      unfold C57_8 lp57_8
      simp (implicitDefEqProofs := false) only [core, reduceIte, R57, S57, i_lss, d, i1, ld76, r1, new76, st, fas, Nat.zero_add, ld44, r2, p1, i_add, w]
      exact hk2 _ _ ⟨s4, (q.trans f3).beyond p3, by rw [hto]; exact p2, by rw [cl57_8]⟩
    · rintro h'' fr ⟨t, q, o, e⟩ k2
      have d : decide ((ms.length : Int) < (ms.length : Int)) = false := by simp
      rw [e]
      unfold C57_8 lp57_8
      simp (implicitDefEqProofs := false) only [core, reduceIte, R57, S57, i_lss, d]
      rw [List.take_length, ← wd_flat'] at o
      have o2 : Own h'' t 1 ((Nd.mk kd name nt inn so ops sa az sw ws sr rs sm ms sk kids).own.map Wd.cells).flatten h.next := by
        rcases o with g | ⟨id, len, c, e1, e2, e3, e4⟩
        · exact .inl g
        · exact .inr ⟨id, len, c, e1, e2, Nat.le_trans q1.next e3, e4⟩
      exact nrm_own3 o2 (q1.trans q) (fun x hx => by obtain ⟨c, _, rfl⟩ := List.mem_map.mp hx; exact c.cells_len) (by omega) (fun a ha => by
        rw [wd_flat'] at ha
        obtain ⟨c, hc, rfl⟩ := List.mem_map.mp ha
        exact Wd.sl_old (okW_mem hownk c hc))
end Go.Proofs.Ytgnacecplaemlaa
/-
  Iterators: what a function that hands on one command after the other may count on; rounds.
-/
namespace Go.Proofs.Ytgnacecplaemlaa
open AI
set_option linter.unusedSimpArgs false

/-! ### What stands below a command, in order -/
def Wd.ps : Wd → List Pt
  | .mk _ ps => ps
def Wd.cmds (w : Wd) : List Nd := (Ytgnacecplaemlaa.cmds w.ps).flatMap (·.2)
def Nd.arms : Nd → List Am
  | .mk _ _ _ _ _ _ _ _ _ _ _ _ _ ms _ _ => ms
def Nd.kids : Nd → List Nd
  | .mk _ _ _ _ _ _ _ _ _ _ _ _ _ _ _ kids => kids
def Nd.under (n : Nd) : List Nd := n.own.flatMap Wd.cmds ++ n.arms.map Am.body ++ n.kids
theorem cmds_sz {ps : List Pt} : ∀ c ∈ cmds ps, szN c.2 + 1 ≤ szP ps := by
  intro c hc
  have : ∀ {ps : List Pt}, ∀ c ∈ cmds ps, szN c.2 + 1 ≤ szP ps := by
    intro ps
    induction h : szP ps using Nat.strongRecOn generalizing ps
    rename_i N ih
    intro c hc
    cases ps with
    | nil => simp [cmds] at hc
    | cons p l =>
      obtain ⟨k, t, o, sk, kids, sc, cs⟩ := p
      simp only [szP, Pt.sz] at h
      simp only [cmds, List.mem_append] at hc
      rcases hc with (hc | hc) | hc
      · split at hc
        · simp only [List.mem_singleton] at hc; subst hc; dsimp only; omega
        · simp at hc
      · have := ih (szP kids) (by omega) rfl c hc; omega
      · have := ih (szP l) (by omega) rfl c hc; omega
  exact this c hc
theorem Nd.under_sz {n x : Nd} (hx : x ∈ n.under) : x.sz < n.sz := by
  have ho := n.own_sz
  have hk : szN n.kids + szM n.arms + 1 ≤ n.sz := by cases n; simp only [Nd.kids, Nd.arms, Nd.sz]; omega
  unfold Nd.under at hx
  simp only [List.mem_append] at hx
  rcases hx with (hx | hx) | hx
  · obtain ⟨w, hw, hx⟩ := List.mem_flatMap.mp hx
    have h1 := szW_mem hw
    obtain ⟨s, ps⟩ := w
    unfold Wd.cmds at hx
    obtain ⟨c, hc, hx⟩ := List.mem_flatMap.mp hx
    have h2 := cmds_sz c hc
    have h3 := szN_mem hx
    simp only [Wd.ps] at h2
    simp only [Wd.sz] at h1
    omega
  · obtain ⟨m, hm, rfl⟩ := List.mem_map.mp hx
    have h1 := szM_mem hm
    obtain ⟨s, pats, body⟩ := m
    simp only [Am.sz] at h1
    simp only [Am.body]
    omega
  · have := szN_mem hx; omega
/-- A command, and all that stand below it. -/
def Nd.all (n : Nd) : List Nd := n :: n.under.attach.flatMap (fun x => x.1.all)
 termination_by n.sz
 decreasing_by exact Nd.under_sz x.2
theorem Nd.all_eq (n : Nd) : n.all = n :: n.under.flatMap Nd.all := by
  rw [Nd.all]
  congr 1
  rw [List.flatMap_def, List.flatMap_def]
  congr 1
  exact (List.map_attach_eq_pmap ..).trans (List.pmap_eq_map ..)
theorem Nd.under_ok {h : AH} {n x : Nd} (hv : n.ok h) (hx : x ∈ n.under) : x.ok h := by
  have ho := Nd.own_ok hv
  unfold Nd.under at hx
  simp only [List.mem_append] at hx
  rcases hx with (hx | hx) | hx
  · obtain ⟨w, hw, hx⟩ := List.mem_flatMap.mp hx
    have h1 := okW_mem ho w hw
    obtain ⟨s, ps⟩ := w
    simp only [Wd.ok] at h1
    unfold Wd.cmds at hx
    obtain ⟨c, hc, hx⟩ := List.mem_flatMap.mp hx
    exact okN_mem (cmds_ok h1.2 c hc).2.1 x hx
  · obtain ⟨m, hm, rfl⟩ := List.mem_map.mp hx
    have hm2 : okM h n.arms := by cases n; simp only [Nd.ok] at hv; exact hv.2.2.2.2.1.2
    have h1 := okM_mem hm2 m hm
    cases m
    simp only [Am.ok] at h1
    exact h1.2.2
  · have hk : okN h n.kids := by cases n; simp only [Nd.ok] at hv; exact hv.2.2.2.2.2.2
    exact okN_mem hk x hx

/-! ### What turns between, and who stands on what -/
structure St (F F' : Nat → Prop) (h h' : AH) : Prop where
  oth : Other F h h'
  fp : ∀ j, F' j → F j ∨ h.next ≤ j
theorem St.refl (F : Nat → Prop) (h : AH) : St F F h h := ⟨Other.refl _ _, fun _ hj => .inl hj⟩
theorem St.trans {F F' F'' : Nat → Prop} {a b c : AH} (x : St F F' a b) (y : St F' F'' b c) : St F F'' a c :=
  ⟨x.oth.plus y.oth x.fp, fun j hj => (y.fp j hj).elim (x.fp j) fun h => .inr (Nat.le_trans x.oth.next h)⟩
theorem St.quiet {h h' : AH} (F : Nat → Prop) (q : Quiet h h') : St F F h h' := ⟨q.any, fun _ hj => .inl hj⟩
theorem St.base {hB h h' : AH} {F F' : Nat → Prop} (x : St F F' h h') (q : Quiet hB h) (hF : ∀ j, F j → hB.next ≤ j) : Quiet hB h' := q.plus x.oth fun j hj => .inr (hF j hj)
/-- A state of what the rounds build: what it stands on. -/
structure Inv (hB : AH) (J : List Nd → (Nat → Prop) → AH → Prop) : Prop where
  lt : ∀ pre F h j, J pre F h → F j → j < h.next
  ge : ∀ pre F h j, J pre F h → F j → hB.next ≤ j
  keep : ∀ pre F G h h', J pre F h → Other G h h' → (∀ j, F j → ¬ G j) → J pre F h'
theorem Inv.quiet {hB : AH} {J : List Nd → (Nat → Prop) → AH → Prop} (I : Inv hB J) {pre : List Nd} {F : Nat → Prop} {h h' : AH} (hj : J pre F h) (q : Quiet h h') : J pre F h' := I.keep pre F _ h h' hj q fun _ _ x => x
/-- What a round does with the next command. -/
def Yields (m0 : Nat) (hB : AH) (yv : AV) (L : List Nd) (J Jx : List Nd → (Nat → Prop) → AH → Prop) : Prop :=
  ∀ pre x post, L = pre ++ x :: post → ∀ F h, J pre F h → Quiet hB h → ∀ m, m0 ≤ m → ∃ b h' F', callV (X m) yv [.agg x.cells] h = some (.bool b, h') ∧ St F F' h h' ∧ (if b then J (pre ++ [x]) F' h' else Jx (pre ++ [x]) F' h')

/-! ### Rounds, run -/
theorem run_range {P : Program} {K : Hint} {fid : FuncId} {call : ACall} {lf : Nat} {rd : Option Nat} (g : Operand) (ps : Array Tmp) (asg body : Code) (fr : List AV) (h : AH) (hrd : rdOK rd h = true) :
    arun P K fid call lf rd (.rangeFunc g ps asg body) fr h = rangeEnd h.next fr (callF P call (aev fr g) [.fn (.yield h.next) [] []] (h.newOb (.loop ⟨.ready, fid, fr, ps, asg, body⟩))) := by
  show (match rdOK rd h with | true => rangeEnd h.next fr (callF P call (aev fr g) [.fn (.yield h.next) [] []] (h.newOb (.loop ⟨.ready, fid, fr, ps, asg, body⟩))) | false => none) = _
  rw [hrd]
theorem rd_none (h : AH) : rdOK none h = true := rfl
theorem rd_some {h : AH} {id : Nat} {L : ALoop} (hob : h.ob? id = some (.loop L)) : rdOK (some id) h = true := by unfold rdOK; simp only [hob]
theorem callF_func (call : ACall) (g : FuncId) (a c l : List AV) (h : AH) (hb : hasBody Try.prog g = true) : callF Try.prog call (.fn (.func g) a c) l h = call (.func g) (a ++ l ++ c) h := by
  show (if hasBody Try.prog g then call (.func g) (a ++ l ++ c) h else none) = _
  rw [if_pos hb]
theorem hb68 : hasBody Try.prog 68 = true := by kernel_rfl
theorem hb69 : hasBody Try.prog 69 = true := by kernel_rfl
theorem range_all {Post : ARes → Prop} {id : Nat} {fr : List AV} {x : Option (AV × AH)}
    (hc : ∃ v h2 L, x = some (v, h2) ∧ h2.ob? id = some (.loop L) ∧ ((L.st = .ready ∧ Post (some (.normal, fr, h2.putOb id none))) ∨ (L.st = .ret ∧ Post (some (.ret, fr, h2.putOb id none))))) : ∀ r, rangeEnd id fr x = r → Post r := by
  rintro r rfl
  obtain ⟨v, h2, L, rfl, hob, hp⟩ := hc
  unfold rangeEnd
  simp only [hob]
  rcases hp with ⟨e, hp⟩ | ⟨e, hp⟩
  · rw [e]; exact hp
  · rw [e]; exact hp
theorem yield_run {id k : Nat} {fr : List AV} {t : Tmp} {asg body : Code} {h : AH} (hob : h.ob? id = some (.loop ⟨.ready, k, fr, #[t], asg, body⟩)) (m : Nat) (a : AV) :
    X (m + 1) (.yield id) [a] h = roundEnd id (roundMid id (arun Try.prog (HK k) k (X m) m (some id) body) (arun Try.prog (HK k) k (X m) m (some id) asg (fr.set t a) h)) := by
  rw [X_yield]
  unfold ayield
  simp only [hob]
  rfl
theorem mid_ready {id k : Nat} {fr fr1 : List AV} {ps : Array Tmp} {asg body : Code} {h : AH} (hob : h.ob? id = some (.loop ⟨.ready, k, fr, ps, asg, body⟩)) (b : List AV → AH → ARes) :
    roundMid id b (some (.normal, fr1, h)) = b fr1 (h.putOb id (some (.loop ⟨.busy, k, fr, ps, asg, body⟩))) := by
  show (match h.ob? id with | some (.loop L) => (match L.st with | .ready => b fr1 (h.putOb id (some (.loop { L with st := .busy }))) | _ => none) | _ => none) = _
  rw [hob]
theorem end_normal {id k : Nat} {st : LSt} {fr fr1 : List AV} {ps : Array Tmp} {asg body : Code} {h : AH} (hob : h.ob? id = some (.loop ⟨st, k, fr, ps, asg, body⟩)) :
    roundEnd id (some (.normal, fr1, h)) = some (.bool true, h.putOb id (some (.loop ⟨.ready, k, fr, ps, asg, body⟩))) := by
  show (match h.ob? id with | some (.loop L) => some (AV.bool true, h.putOb id (some (.loop { L with st := .ready }))) | _ => none) = _
  rw [hob]
theorem end_ret {id k : Nat} {st : LSt} {fr fr1 : List AV} {ps : Array Tmp} {asg body : Code} {h : AH} (hob : h.ob? id = some (.loop ⟨st, k, fr, ps, asg, body⟩)) :
    roundEnd id (some (.ret, fr1, h)) = some (.bool false, h.putOb id (some (.loop ⟨.ret, k, fr, ps, asg, body⟩))) := by
  show (match h.ob? id with | some (.loop L) => some (AV.bool false, h.putOb id (some (.loop { L with st := .ret }))) | _ => none) = _
  rw [hob]
theorem Other.putOb {h : AH} {id : Nat} (o : Option AObj) : Other (fun j => j = id) h (h.putOb id o) :=
  ⟨Nat.le_refl _, fun _ _ _ => rfl, fun j _ hj => by rw [AH.ob?_putOb, if_neg hj]⟩
theorem Other.newOb (h : AH) (o : AObj) : Quiet h (h.newOb o) := ⟨Nat.le_succ _, fun _ _ _ => rfl, fun j hj _ => by rw [AH.ob?_newOb, if_neg (by omega)]⟩
theorem box_at {v : AV} (h : AH) (hv : v.atom = true) : boxV v h = some (.ptr h.next 0, h.alloc [v]) := by
  have h1 : v.isTop = false := by cases v <;> first | rfl | simp [AV.atom] at hv
  have h2 : v.cells = [v] := by cases v <;> first | rfl | simp [AV.atom] at hv
  unfold boxV
  rw [h1, h2]; rfl
theorem below53 (T : Nd) (h : AH) (n : Nat) : X (n + 1) (.func 53) [.agg T.cells] h = some (.fn (.func 69) [] [.ptr h.next 0], h.alloc T.cells) := by
  rw [ent53]
  unfold cd53
  simp (implicitDefEqProofs := false) only [core, reduceIte, R53, S53, box_agg]
theorem all51 (T : Nd) (h : AH) (n : Nat) : X (n + 1) (.func 51) [.agg T.cells] h = some (.fn (.func 68) [] [.ptr h.next 0], h.alloc T.cells) := by
  rw [ent51]
  unfold cd51
  simp (implicitDefEqProofs := false) only [core, reduceIte, R51, S51, box_agg]
end Go.Proofs.Ytgnacecplaemlaa
/-
  walk.below: what stands below a command is handed on, one after the other.
-/
namespace Go.Proofs.Ytgnacecplaemlaa
open AI
set_option linter.unusedSimpArgs false
theorem flatMap_split {α β : Type} {l : List α} (f : α → List β) {i : Nat} (hi : i < l.length) : l.flatMap f = (l.take i).flatMap f ++ (f l[i] ++ (l.drop (i + 1)).flatMap f) := by
  have : l = l.take i ++ l[i] :: l.drop (i + 1) := by rw [List.getElem_cons_drop, List.take_append_drop]
  conv => lhs; rw [this]
  rw [List.flatMap_append, List.flatMap_cons]
theorem flatMap_next {α β : Type} {l : List α} (f : α → List β) {i : Nat} (hi : i < l.length) : (l.take (i + 1)).flatMap f = (l.take i).flatMap f ++ f l[i] := by
  rw [take_next hi, List.flatMap_append, List.flatMap_cons, List.flatMap_nil, List.append_nil]
theorem under69 {hB : AH} {T : Nd} (hb : T.sz ≤ 1048576) (hv : T.ok hB) {J Jx : List Nd → (Nat → Prop) → AH → Prop} (I : Inv hB J) {m0 : Nat} {yv : AV} (Y : Yields m0 hB yv T.under J Jx)
    {F : Nat → Prop} {h : AH} (hj : J [] F h) (q : Quiet hB h) {b : Nat} (HT : Has h b 0 T.cells) (hF : ¬ F b) (n : Nat) (hn : m0 + 1 ≤ n) (hn2 : 4 * T.sz + 16 ≤ n) :
    ∃ h' F', X n (.func 69) [yv, .ptr b 0] h = some (.tup [], h') ∧ St F F' h h' ∧ (J T.under F' h' ∨ ∃ pre, Jx pre F' h') := by
  obtain ⟨m, rfl⟩ : ∃ m, n = m + 1 := ⟨n - 1, by omega⟩
  have howns := T.own_sz
  have hownl := szW_len T.own
  have hownk := Nd.own_ok hv
  have hFlt : ∀ j, F j → j < h.next := fun j hf => I.lt _ _ _ j hj hf
  have hFge : ∀ j, F j → hB.next ≤ j := fun j hf => I.ge _ _ _ j hj hf
  have r0 := ldS HT (n := 10) T.cells_len
  obtain ⟨s2, h2, g1, g2, g3, g4⟩ := own57 hb (hv.quiet q) m (by omega)
  have hl1 : alen Try.prog 44 s2 = some T.own.length := by rw [g2.alen u44, List.length_map]
  have q2 : Quiet hB h2 := q.trans g3
  have hs2 : ∀ id off len es c, s2 = .sl id off len es c → ¬ F id := fun id off len es c e hf => by
    have := g4 id off len es c e
    have := hFlt id hf
    omega
  have tot : ∀ {F' h'}, St F F' h2 h' → St F F' h h' := fun s => (St.quiet F g3).trans s
  have bas : ∀ {F' h'}, St F F' h2 h' → Quiet hB h' := fun s => s.base q2 hFge
  rw [ent69]
  unfold cd69
  simp (implicitDefEqProofs := false) only [core, reduceIte, R69, S69, ld49, r0, g1, hl1]
  generalize hr : aloop _ _ _ _ _ = r
  revert r hr
  refine loop_all T.own.length (fun i h' fr => ∃ F', J ((T.own.take i).flatMap Wd.cmds) F' h' ∧ St F F' h2 h' ∧ fr = C69_1 yv (.ptr b 0) s2 (.int .i64 (T.own.length : Int)) (.int .i64 (i : Int))) ?_ ?_ ⟨F, by simpa using I.quiet hj g3, St.refl _ _, by rw [cl69_1]; rfl⟩ (by omega)
  · rintro i h1 fr hi ⟨F1, j1, st1, e⟩ k hk
    have hx : (T.own.map Wd.cells)[i]? = some T.own[i].cells := by rw [List.getElem?_map, List.getElem?_eq_getElem hi]; rfl
    obtain ⟨id, off, i1, H⟩ := (g2.keep st1.oth hs2).ix u44 z60 hx
    have hok := okW_mem hownk _ (List.getElem_mem hi)
    have hsz := szW_mem (List.getElem_mem hi)
    have hsp := flatMap_split Wd.cmds hi
    have hne := flatMap_next Wd.cmds hi
    generalize T.own[i] = w at *
    obtain ⟨s, ps⟩ := w
    simp only [Wd.ok] at hok
    simp only [Wd.sz] at hsz
    simp only [Wd.cells] at H
    have qb1 := bas st1
    have r1 := ldS H (n := 1) rfl
    obtain ⟨h3, f1, f2, f3, _⟩ := fill h1 [.nilSl] [s] rfl
    have st := stV_agg (t := 60) (n := 1) (l := [s]) z60 rfl (by simp only [atoms, hok.1.atom, Bool.and_self]) h1.next 0 (h1.alloc [.nilSl])
    rw [f1] at st
    simp only [Option.map_some] at st
    have r2 := ldS f2.has (n := 1) rfl
    have qb3 : Quiet hB h3 := qb1.trans f3
    obtain ⟨s3, h4, p1, p2, p3, p4⟩ := cmds70 (by omega) (okP.quiet qb3 hok.2) (hok.1.quiet qb3) m (by omega)
    have hl2 : alen Try.prog 89 s3 = some (cmds ps).length := by rw [p2.alen u89, List.length_map]
    have hcl := cmds_len ps
    have hF1 : ∀ j, F1 j → j < h1.next := fun j hf => I.lt _ _ _ j j1 hf
    have hs3 : ∀ id off len es c, s3 = .sl id off len es c → ¬ F1 id := fun id off len es c e hf => by
      have := p4 id off len es c e
      have := hF1 id hf
      have := f3.next
      omega
    have q14 : Quiet h1 h4 := f3.trans p3
    have st4 : St F F1 h2 h4 := st1.trans (St.quiet F1 q14)
    have d : decide ((i : Int) < (T.own.length : Int)) = true := by simp; omega
    have w := wrap_succ i (by omega)
    rw [e]
    unfold C69_1 lp69_1
    simp (implicitDefEqProofs := false) only [core, reduceIte, R69, S69, i_lss, d, i1, ld60, r1, new60, st, r2, p1, hl2]
    generalize hr : aloop _ _ _ _ _ = r
    revert r hr
    refine loop_all (cmds ps).length (fun j h' fr => ∃ F', J ((T.own.take i).flatMap Wd.cmds ++ ((cmds ps).take j).flatMap (·.2)) F' h' ∧ St F F' h2 h' ∧ St F1 F' h4 h' ∧ fr = C69_4 yv (.ptr b 0) s2 (.int .i64 (T.own.length : Int)) (.int .i64 (i : Int)) s3 (.int .i64 ((cmds ps).length : Int)) (.int .i64 (j : Int))) ?_ ?_
      ⟨F1, by simpa using I.quiet j1 q14, st4, St.refl _ _, by rw [cl69_4]; rfl⟩ (by omega)
    · rintro j h5 fr hj2 ⟨F2, j2, st2, st2', e⟩ k2 hk2
      have hx2 : ((cmds ps).map fun c => [c.1])[j]? = some [(cmds ps)[j].1] := by rw [List.getElem?_map, List.getElem?_eq_getElem hj2]; rfl
      obtain ⟨id2, off2, i2, H2⟩ := (p2.keep st2'.oth hs3).ix u89 z47 hx2
      have hck := cmds_ok hok.2 _ (List.getElem_mem hj2)
      have hsp2 := flatMap_split (·.2) hj2
      have hne2 := flatMap_next (·.2) hj2
      generalize (cmds ps)[j] = c at *
      obtain ⟨sc, cs⟩ := c
      dsimp only at hck hsp2 hne2 H2
      have r3 : h5.cell? id2 off2 = some sc := H2.cell (i := 0) rfl
      have hl3 : alen Try.prog 47 sc = some cs.length := by rw [hck.1.alen u47, List.length_map]
      have hcsl := szN_len cs
      have d2 : decide ((j : Int) < ((cmds ps).length : Int)) = true := by simp; omega
      have w2 := wrap_succ j (by omega)
      rw [e]
      unfold C69_4 lp69_4
      simp (implicitDefEqProofs := false) only [core, reduceIte, R69, S69, i_lss, d2, i2, ld47, r3, hl3]
      generalize hr : aloop _ _ _ _ _ = r
      revert r hr
      refine loop_all cs.length (fun l h' fr => ∃ F', J ((T.own.take i).flatMap Wd.cmds ++ ((cmds ps).take j).flatMap (·.2) ++ cs.take l) F' h' ∧ St F F' h2 h' ∧ St F1 F' h4 h' ∧ fr = C69_7 yv (.ptr b 0) s2 (.int .i64 (T.own.length : Int)) (.int .i64 (i : Int)) s3 (.int .i64 ((cmds ps).length : Int)) (.int .i64 (j : Int)) sc (.int .i64 (cs.length : Int)) (.int .i64 (l : Int))) ?_ ?_
        ⟨F2, by simpa using j2, st2, st2', by rw [cl69_7]; rfl⟩ (by omega)
      · rintro l h6 fr hl ⟨F3, j3, st3, st3', e⟩ k3 hk3
        have hx3 : (cs.map Nd.cells)[l]? = some cs[l].cells := by rw [List.getElem?_map, List.getElem?_eq_getElem hl]; rfl
        obtain ⟨id3, off3, i3, H3⟩ := hck.1.ix u47 z49 hx3
        have hxk := okN_mem hck.2.1 _ (List.getElem_mem hl)
        have hsp3 : cs = cs.take l ++ cs[l] :: cs.drop (l + 1) := by rw [List.getElem_cons_drop, List.take_append_drop]
        have hne3 := take_next hl
        have hw : ∃ post, T.under = ((T.own.take i).flatMap Wd.cmds ++ ((cmds ps).take j).flatMap (·.2) ++ cs.take l) ++ cs[l] :: post :=
          ⟨cs.drop (l + 1) ++ ((cmds ps).drop (j + 1)).flatMap (·.2) ++ (T.own.drop (i + 1)).flatMap Wd.cmds ++ T.arms.map Am.body ++ T.kids, by
            have e1 : T.under = T.own.flatMap Wd.cmds ++ T.arms.map Am.body ++ T.kids := rfl
            have e2 : Wd.cmds (.mk s ps) = (cmds ps).flatMap (·.2) := rfl
            rw [e1, hsp, e2, hsp2]
            conv => lhs; rw [hsp3]
            simp only [List.append_assoc, List.cons_append, List.nil_append]⟩
        generalize cs[l] = x at *
        have qb := bas st3
        have r4 := ldS (H3.quiet qb) (n := 10) x.cells_len
        obtain ⟨h7, f1, f2, f3, _⟩ := fill h6 [.int .i64 0, .str [], .bool false, .bool false, .nilSl, .nilSl, .nilSl, .nilSl, .nilSl, .nilSl] x.cells x.cells_len
        have sx := stV_agg (t := 49) (n := 10) (l := x.cells) z49 x.cells_len (Nd.atoms hxk) h6.next 0 (h6.alloc [.int .i64 0, .str [], .bool false, .bool false, .nilSl, .nilSl, .nilSl, .nilSl, .nilSl, .nilSl])
        rw [f1] at sx
        simp only [Option.map_some] at sx
        have r5 := ldS f2.has (n := 10) x.cells_len
        obtain ⟨post, hw⟩ := hw
        obtain ⟨bb, h8, F4, y1, y2, y3⟩ := Y _ x post hw F3 h7 (I.quiet j3 f3) (qb.trans f3) m (by omega)
        have st5 := (st3.trans (St.quiet F3 f3)).trans y2
        have st5' := (st3'.trans (St.quiet F3 f3)).trans y2
        have d3 : decide ((l : Int) < (cs.length : Int)) = true := by simp; omega
        have w3 := wrap_succ l (by omega)
        cases bb with
        | false =>
          rw [e]
          unfold C69_7 lp69_7
          simp (implicitDefEqProofs := false) only [core, reduceIte, R69, S69, i_lss, d3, i3, ld49, r4, new49, sx, r5, y1, not_b, Bool.not_false]
          exact ⟨_, F4, rfl, tot st5, .inr ⟨_, by simpa using y3⟩⟩
        | true =>
          rw [e]
          unfold C69_7 lp69_7
          simp (implicitDefEqProofs := false) only [core, reduceIte, R69, S69, i_lss, d3, i3, ld49, r4, new49, sx, r5, y1, not_b, Bool.not_true, i_add, w3]
          exact hk3 _ _ ⟨F4, by rw [hne3, ← List.append_assoc]; simpa using y3, st5, st5', by rw [cl69_7]⟩
      · rintro h6 fr ⟨F3, j3, st3, st3', e⟩ k3
        have d3 : decide ((cs.length : Int) < (cs.length : Int)) = false := by simp
        rw [e]
        unfold C69_7 lp69_7
        simp (implicitDefEqProofs := false) only [core, reduceIte, R69, S69, i_lss, d3, i_add, w2]
        exact hk2 _ _ ⟨F3, by rw [hne2, ← List.append_assoc]; simpa using j3, st3, st3', by rw [cl69_4]⟩
    · rintro h5 fr ⟨F2, j2, st2, st2', e⟩ k2
      have d2 : decide (((cmds ps).length : Int) < ((cmds ps).length : Int)) = false := by simp
      rw [e]
      unfold C69_4 lp69_4
      simp (implicitDefEqProofs := false) only [core, reduceIte, R69, S69, i_lss, d2, i_add, w]
      exact hk _ _ ⟨F2, by rw [hne]; simpa [Wd.cmds, Wd.ps] using j2, st2, by rw [cl69_1]⟩
  · rintro h1 fr ⟨F1, j1, st1, e⟩ k
    have d : decide ((T.own.length : Int) < (T.own.length : Int)) = false := by simp
    rw [List.take_length] at j1
    rw [e]
    unfold C69_1 lp69_1
    have HB : ∀ {F' h'}, St F F' h2 h' → Has h' b 0 T.cells := fun s => HT.keep (tot s).oth hF
    have hms : ∃ sm, T.cells[8]? = some sm ∧ Sl hB sm 11 (T.arms.map Am.cells) ∧ okM hB T.arms ∧ szM T.arms ≤ T.sz := by
      cases T; simp only [Nd.ok] at hv; exact ⟨_, rfl, hv.2.2.2.2.1.1, hv.2.2.2.2.1.2, by simp only [Nd.arms, Nd.sz]; omega⟩
    have hks : ∃ sk, T.cells[9]? = some sk ∧ Sl hB sk 10 (T.kids.map Nd.cells) ∧ okN hB T.kids ∧ szN T.kids ≤ T.sz := by
      cases T; simp only [Nd.ok] at hv; exact ⟨_, rfl, hv.2.2.2.2.2.1, hv.2.2.2.2.2.2, by simp only [Nd.kids, Nd.sz]; omega⟩
    obtain ⟨sm, m1, m2, m3, m4⟩ := hms
    obtain ⟨sk, k1, k2, k3, k4⟩ := hks
    have c8 : h1.cell? b 8 = some sm := by have := (HB st1).cell m1; rwa [Nat.zero_add] at this
    have hl4 : alen Try.prog 46 sm = some T.arms.length := by rw [m2.alen u46, List.length_map]
    have hml := szM_len T.arms
    have hkl := szN_len T.kids
    simp (implicitDefEqProofs := false) only [core, reduceIte, R69, S69, i_lss, d, fa49_8, Nat.zero_add, ld46, c8, hl4]
    generalize hr : aloop _ _ _ _ _ = r
    revert r hr
    refine loop_all T.arms.length (fun i h' fr => ∃ F', J (T.own.flatMap Wd.cmds ++ (T.arms.take i).map Am.body) F' h' ∧ St F F' h2 h' ∧ fr = C69_14 yv (.ptr b 0) sm (.int .i64 (T.arms.length : Int)) (.int .i64 (i : Int))) ?_ ?_ ⟨F1, by simpa using j1, st1, by rw [cl69_14]; rfl⟩ (by omega)
    · rintro l h6 fr hl ⟨F3, j3, st3, e⟩ k3 hk3
      have hx3 : (T.arms.map Am.cells)[l]? = some T.arms[l].cells := by rw [List.getElem?_map, List.getElem?_eq_getElem hl]; rfl
      obtain ⟨id3, off3, i3, H3⟩ := m2.ix u46 z76 hx3
      have hxk := okM_mem m3 _ (List.getElem_mem hl)
      have hsp3 : T.arms.map Am.body = (T.arms.take l).map Am.body ++ T.arms[l].body :: (T.arms.drop (l + 1)).map Am.body := by
        conv => lhs; rw [show T.arms = T.arms.take l ++ T.arms[l] :: T.arms.drop (l + 1) by rw [List.getElem_cons_drop, List.take_append_drop]]
        simp only [List.map_append, List.map_cons]
      have hne3 : (T.arms.take (l + 1)).map Am.body = (T.arms.take l).map Am.body ++ [T.arms[l].body] := by rw [take_next hl]; simp only [List.map_append, List.map_cons, List.map_nil]
      have hw : ∃ post, T.under = (T.own.flatMap Wd.cmds ++ (T.arms.take l).map Am.body) ++ T.arms[l].body :: post :=
        ⟨(T.arms.drop (l + 1)).map Am.body ++ T.kids, by
          have e1 : T.under = T.own.flatMap Wd.cmds ++ T.arms.map Am.body ++ T.kids := rfl
          rw [e1, hsp3]
          simp only [List.append_assoc, List.cons_append]⟩
      have hat := Am.atoms hxk
      have hcl := T.arms[l].cells_len
      generalize T.arms[l] = x at *
      obtain ⟨s, pats, body⟩ := x
      simp only [Am.body] at hw hne3
      have qb := bas st3
      have r4 := ldS (H3.quiet qb) (n := 11) hcl
      obtain ⟨h7, f1, f2, f3, _⟩ := fill h6 [.nilSl, .int .i64 0, .str [], .bool false, .bool false, .nilSl, .nilSl, .nilSl, .nilSl, .nilSl, .nilSl] (Am.cells (.mk s pats body)) hcl
      have sx := stV_agg (t := 76) (n := 11) (l := Am.cells (.mk s pats body)) z76 hcl hat h6.next 0 (h6.alloc [.nilSl, .int .i64 0, .str [], .bool false, .bool false, .nilSl, .nilSl, .nilSl, .nilSl, .nilSl, .nilSl])
      rw [f1] at sx
      simp only [Option.map_some] at sx
      have r5 : (h7.cells? h6.next 10 1).map AV.agg = some (.agg body.cells) := by
        have := ldS (Has.part (a := [s]) (p := body.cells) (c := []) (by simpa [Am.cells] using f2.has)) (n := 10) body.cells_len
        simpa using this
      obtain ⟨post, hw⟩ := hw
      obtain ⟨bb, h8, F4, y1, y2, y3⟩ := Y _ body post hw F3 h7 (I.quiet j3 f3) (qb.trans f3) m (by omega)
      have st5 := (st3.trans (St.quiet F3 f3)).trans y2
      have d3 : decide ((l : Int) < (T.arms.length : Int)) = true := by simp; omega
      have w3 := wrap_succ l (by omega)
      cases bb with
      | false =>
        rw [e]
        unfold C69_14 lp69_14
        simp (implicitDefEqProofs := false) only [core, reduceIte, R69, S69, i_lss, d3, i3, ld76, r4, new76, sx, fa76_1, Nat.zero_add, ld49, r5, y1, not_b, Bool.not_false]
        exact ⟨_, F4, rfl, tot st5, .inr ⟨_, by simpa using y3⟩⟩
      | true =>
        rw [e]
        unfold C69_14 lp69_14
        simp (implicitDefEqProofs := false) only [core, reduceIte, R69, S69, i_lss, d3, i3, ld76, r4, new76, sx, fa76_1, Nat.zero_add, ld49, r5, y1, not_b, Bool.not_true, i_add, w3]
        exact hk3 _ _ ⟨F4, by rw [hne3, ← List.append_assoc]; simpa using y3, st5, by rw [cl69_14]⟩
    · rintro h6 fr ⟨F3, j3, st3, e⟩ k3
      have d3 : decide ((T.arms.length : Int) < (T.arms.length : Int)) = false := by simp
      have c9 : h6.cell? b 9 = some sk := by have := (HB st3).cell k1; rwa [Nat.zero_add] at this
      have hl5 : alen Try.prog 47 sk = some T.kids.length := by rw [k2.alen u47, List.length_map]
      rw [List.take_length] at j3
      rw [e]
      unfold C69_14 lp69_14
      simp (implicitDefEqProofs := false) only [core, reduceIte, R69, S69, i_lss, d3, fa49_9, Nat.zero_add, ld47, c9, hl5]
      generalize hr : aloop _ _ _ _ _ = r
      revert r hr
      refine loop_all T.kids.length (fun i h' fr => ∃ F', J (T.own.flatMap Wd.cmds ++ T.arms.map Am.body ++ T.kids.take i) F' h' ∧ St F F' h2 h' ∧ fr = C69_19 yv sk (.int .i64 (T.kids.length : Int)) (.int .i64 (i : Int))) ?_ ?_ ⟨F3, by simpa using j3, st3, by rw [cl69_19]; rfl⟩ (by omega)
      · rintro l h6 fr hl ⟨F3, j3, st3, e⟩ k3 hk3
        have hx3 : (T.kids.map Nd.cells)[l]? = some T.kids[l].cells := by rw [List.getElem?_map, List.getElem?_eq_getElem hl]; rfl
        obtain ⟨id3, off3, i3, H3⟩ := k2.ix u47 z49 hx3
        have hxk := okN_mem ‹okN hB T.kids› _ (List.getElem_mem hl)
        have hsp3 : T.kids = T.kids.take l ++ T.kids[l] :: T.kids.drop (l + 1) := by rw [List.getElem_cons_drop, List.take_append_drop]
        have hne3 := take_next hl
        have hw : ∃ post, T.under = (T.own.flatMap Wd.cmds ++ T.arms.map Am.body ++ T.kids.take l) ++ T.kids[l] :: post :=
          ⟨T.kids.drop (l + 1), by
            have e1 : T.under = T.own.flatMap Wd.cmds ++ T.arms.map Am.body ++ T.kids := rfl
            rw [e1]
            conv => lhs; rw [hsp3]
            simp only [List.append_assoc]⟩
        generalize T.kids[l] = x at *
        have qb := bas st3
        have r4 := ldS (H3.quiet qb) (n := 10) x.cells_len
        obtain ⟨h7, f1, f2, f3, _⟩ := fill h6 [.int .i64 0, .str [], .bool false, .bool false, .nilSl, .nilSl, .nilSl, .nilSl, .nilSl, .nilSl] x.cells x.cells_len
        have sx := stV_agg (t := 49) (n := 10) (l := x.cells) z49 x.cells_len (Nd.atoms hxk) h6.next 0 (h6.alloc [.int .i64 0, .str [], .bool false, .bool false, .nilSl, .nilSl, .nilSl, .nilSl, .nilSl, .nilSl])
        rw [f1] at sx
        simp only [Option.map_some] at sx
        have r5 := ldS f2.has (n := 10) x.cells_len
        obtain ⟨post, hw⟩ := hw
        obtain ⟨bb, h8, F4, y1, y2, y3⟩ := Y _ x post hw F3 h7 (I.quiet j3 f3) (qb.trans f3) m (by omega)
        have st5 := (st3.trans (St.quiet F3 f3)).trans y2
        have d3 : decide ((l : Int) < (T.kids.length : Int)) = true := by simp; omega
        have w3 := wrap_succ l (by omega)
        cases bb with
        | false =>
          rw [e]
          unfold C69_19 lp69_19
          simp (implicitDefEqProofs := false) only [core, reduceIte, R69, S69, i_lss, d3, i3, ld49, r4, new49, sx, r5, y1, not_b, Bool.not_false]
          exact ⟨_, F4, rfl, tot st5, .inr ⟨_, by simpa using y3⟩⟩
        | true =>
          rw [e]
          unfold C69_19 lp69_19
          simp (implicitDefEqProofs := false) only [core, reduceIte, R69, S69, i_lss, d3, i3, ld49, r4, new49, sx, r5, y1, not_b, Bool.not_true, i_add, w3]
          exact hk3 _ _ ⟨F4, by rw [hne3, ← List.append_assoc]; simpa using y3, st5, by rw [cl69_19]⟩
      · rintro h6 fr ⟨F3, j3, st3, e⟩ k3
        have d3 : decide ((T.kids.length : Int) < (T.kids.length : Int)) = false := by simp
        rw [List.take_length] at j3
        rw [e]
        unfold C69_19 lp69_19
        simp (implicitDefEqProofs := false) only [core, reduceIte, R69, S69, i_lss, d3]
        exact ⟨_, F3, rfl, tot st3, .inl j3⟩
end Go.Proofs.Ytgnacecplaemlaa
/-
  walk.All: a command, and all that stand below it, are handed on, one after the other.
-/
namespace Go.Proofs.Ytgnacecplaemlaa
open AI
set_option linter.unusedSimpArgs false
def Rec (h : AH) (id : Nat) (L : ALoop) : Prop := id < h.next ∧ h.ob? id = some (.loop L)
theorem Rec.keep {h h' : AH} {id : Nat} {L : ALoop} {G : Nat → Prop} (r : Rec h id L) (o : Other G h h') (hG : ¬ G id) : Rec h' id L := ⟨Nat.lt_of_lt_of_le r.1 o.next, (o.ob id r.1 hG).trans r.2⟩
theorem Rec.put {h : AH} {id : Nat} (L : ALoop) (hl : id < h.next) : Rec (h.putOb id (some (.loop L))) id L := ⟨hl, by rw [AH.ob?_putOb, if_pos rfl]⟩
/-- A state, and more that stands on E. -/
def With (J : List Nd → (Nat → Prop) → AH → Prop) (R : AH → Prop) (E : Nat → Prop) : List Nd → (Nat → Prop) → AH → Prop :=
  fun pre F1 h => ∃ F, J pre F h ∧ R h ∧ (∀ j, E j → j < h.next ∧ ¬ F j) ∧ F1 = fun j => F j ∨ E j
theorem Inv.with {hB : AH} {J : List Nd → (Nat → Prop) → AH → Prop} (I : Inv hB J) {R : AH → Prop} {E : Nat → Prop} (hE : ∀ j, E j → hB.next ≤ j) (hR : ∀ G h h', R h → Other G h h' → (∀ j, E j → ¬ G j) → R h') : Inv hB (With J R E) where
  lt := fun pre F1 h j ⟨F, a, _, c, e⟩ hj => by
    subst e
    exact hj.elim (I.lt _ _ _ j a) fun hj => (c j hj).1
  ge := fun pre F1 h j ⟨F, a, _, c, e⟩ hj => by
    subst e
    exact hj.elim (I.ge _ _ _ j a) (hE j)
  keep := fun pre F1 G h h' ⟨F, a, b, c, e⟩ o hG => by
    subst e
    exact ⟨F, I.keep _ _ _ _ _ a o fun j hj => hG j (.inl hj), hR G h h' b o fun j hj => hG j (.inr hj), fun j hj => ⟨Nat.lt_of_lt_of_le (c j hj).1 o.next, (c j hj).2⟩, rfl⟩
theorem Inv.re {hB : AH} {J : List Nd → (Nat → Prop) → AH → Prop} (I : Inv hB J) (g : List Nd → List Nd) : Inv hB (fun pre => J (g pre)) := ⟨fun _ => I.lt _, fun _ => I.ge _, fun _ => I.keep _⟩
theorem Inv.any {hB : AH} {J : List Nd → (Nat → Prop) → AH → Prop} (I : Inv hB J) : Inv hB (fun _ F h => ∃ pre, J pre F h) :=
  ⟨fun _ F h j ⟨p, x⟩ => I.lt p F h j x, fun _ F h j ⟨p, x⟩ => I.ge p F h j x, fun _ F G h h' ⟨p, x⟩ o hG => ⟨p, I.keep p F G h h' x o hG⟩⟩

/-! ### The round of the inner loop -/
section
variable (J Jx : List Nd → (Nat → Prop) → AH → Prop) (id1 b2 id2 : Nat) (R1 : ALoop) (fr2 : List AV) (yv : AV)
def E2 : Nat → Prop := fun j => j = id1 ∨ j = b2 ∨ j = id2
def J2 (A : List Nd) := With (fun pre => J (A ++ pre)) (fun h => Rec h id1 R1 ∧ Rec h id2 ⟨.ready, 68, fr2, #[14], ra68_5, rb68_6⟩ ∧ Has h b2 0 [yv]) (E2 id1 b2 id2)
def Jx2 := With (fun _ F h => ∃ pre, Jx pre F h) (fun h => Rec h id1 R1 ∧ Rec h id2 ⟨.ret, 68, fr2, #[14], ra68_5, rb68_6⟩) (E2 id1 b2 id2)
end
section
variable {J Jx : List Nd → (Nat → Prop) → AH → Prop} {id1 b2 id2 : Nat} {R1 : ALoop} {yv : AV} {hB : AH}
theorem inv_J2 (I : Inv hB J) (A : List Nd) (fr2 : List AV) (h1 : hB.next ≤ id1) (h2 : hB.next ≤ b2) (h3 : hB.next ≤ id2) : Inv hB (J2 J id1 b2 id2 R1 fr2 yv A) :=
  (I.re (A ++ ·)).with (fun j hj => by rcases hj with rfl | rfl | rfl <;> assumption) fun G h h' ⟨a, b, c⟩ o hG => ⟨a.keep o (hG _ (.inl rfl)), b.keep o (hG _ (.inr (.inr rfl))), c.keep o (hG _ (.inr (.inl rfl)))⟩
theorem inv_Jx2 (I : Inv hB Jx) (fr2 : List AV) (h1 : hB.next ≤ id1) (h2 : hB.next ≤ b2) (h3 : hB.next ≤ id2) : Inv hB (Jx2 Jx id1 b2 id2 R1 fr2) :=
  I.any.with (fun j hj => by rcases hj with rfl | rfl | rfl <;> assumption) fun G h h' ⟨a, b⟩ o hG => ⟨a.keep o (hG _ (.inl rfl)), b.keep o (hG _ (.inr (.inr rfl)))⟩
theorem yield2 (I : Inv hB J) (IX : Inv hB Jx) {m0 : Nat} {L A post : List Nd} {x : Nd} (Y : Yields m0 hB yv L J Jx) (hL : L = A ++ x.all ++ post) (hok : ∀ y ∈ x.all, y.ok hB) (n12 : id1 ≠ id2) (nb2 : b2 ≠ id2) (hid2 : hB.next ≤ id2) (v0 v1 v3 v4 v5 v6 v7 v8 v9 v10 v11 v12 v13 v14 v15 v16 v17 v18 : AV) :
    Yields (m0 + 1) hB (.fn (.yield id2) [] []) x.all (J2 J id1 b2 id2 R1 [v0, v1, .ptr b2 0, v3, v4, v5, v6, v7, v8, v9, v10, v11, v12, v13, v14, v15, v16, v17, v18] yv A) (Jx2 Jx id1 b2 id2 R1 [v0, v1, .ptr b2 0, v3, v4, v5, v6, v7, v8, v9, v10, v11, v12, v13, v14, v15, v16, v17, v18]) := by
  intro pre y post2 hpre F2 h hj q n hn
  obtain ⟨m, rfl⟩ : ∃ m, n = m + 1 := ⟨n - 1, by omega⟩
  obtain ⟨F, hj, ⟨r1, r2, r3⟩, hE, rfl⟩ := hj
  have hyok := hok y (by rw [hpre]; simp)
  have e1 : E2 id1 b2 id2 id1 := .inl rfl
  have e2 : E2 id1 b2 id2 b2 := .inr (.inl rfl)
  have e3 : E2 id1 b2 id2 id2 := .inr (.inr rfl)
  obtain ⟨h7, f1, f2, f3, _⟩ := fill h [.int .i64 0, .str [], .bool false, .bool false, .nilSl, .nilSl, .nilSl, .nilSl, .nilSl, .nilSl] y.cells y.cells_len
  have sx := stV_agg (t := 49) (n := 10) (l := y.cells) z49 y.cells_len (Nd.atoms hyok) h.next 0 (h.alloc [.int .i64 0, .str [], .bool false, .bool false, .nilSl, .nilSl, .nilSl, .nilSl, .nilSl, .nilSl])
  rw [f1] at sx
  simp only [Option.map_some] at sx
  have r2' := r2.keep f3 (fun x => x)
  show ∃ b h' F', X (m + 1) (.yield id2) [.agg y.cells] h = some (.bool b, h') ∧ _
  rw [yield_run r2.2]
  unfold ra68_5
  simp (implicitDefEqProofs := false) only [core, reduceIte, R68, S68, new49, sx]
  rw [mid_ready r2'.2]
  have ob := Other.putOb (h := h7) (id := id2) (some (.loop ⟨.busy, 68, [v0, v1, .ptr b2 0, v3, v4, v5, v6, v7, v8, v9, v10, v11, v12, v13, v14, v15, v16, v17, v18], #[14], ra68_5, rb68_6⟩))
  have rb := Rec.put (h := h7) (id := id2) ⟨.busy, 68, [v0, v1, .ptr b2 0, v3, v4, v5, v6, v7, v8, v9, v10, v11, v12, v13, v14, v15, v16, v17, v18], #[14], ra68_5, rb68_6⟩ r2'.1
  have n7 := f3.next
  have k2 : ∀ {id off l}, Has h7 id off l → id ≠ id2 → Has _ id off l := fun H hne => H.keep ob hne
  generalize hh8 : AH.putOb h7 id2 (some (.loop ⟨.busy, 68, [v0, v1, .ptr b2 0, v3, v4, v5, v6, v7, v8, v9, v10, v11, v12, v13, v14, v15, v16, v17, v18], #[14], ra68_5, rb68_6⟩)) = h8 at *
  have hlt := (hE id2 e3).1
  have c2 : h8.cell? b2 0 = some yv := (k2 (r3.quiet f3) nb2).cell (i := 0) rfl
  have r5 := ldS (k2 f2.has (by omega)) (n := 10) y.cells_len
  have j8 : J (A ++ pre) F h8 := I.keep _ _ _ _ _ (I.quiet hj f3) ob fun j hj e => (hE id2 e3).2 (e ▸ hj)
  have q8 : Quiet hB h8 := (q.trans f3).plus ob fun j e => .inr (e ▸ hid2)
  obtain ⟨bb, h9, F', y1, y2, y3⟩ := Y (A ++ pre) y (post2 ++ post) (by rw [hL, hpre]; simp) F h8 j8 q8 m (by omega)
  have n8 : h8.next = h7.next := by rw [← hh8]; rfl
  have hF' : ∀ j, E2 id1 b2 id2 j → j < h9.next ∧ ¬ F' j := fun j hj => ⟨Nat.lt_of_lt_of_le (hE j hj).1 (by have := y2.oth.next; omega), fun hf => (y2.fp j hf).elim (hE j hj).2 (by have := (hE j hj).1; omega)⟩
  have hid1 : ∀ {o}, Rec (AH.putOb h9 id2 o) id1 R1 := fun {o} => (((r1.keep f3 (fun x => x)).keep ob n12).keep y2.oth (hE id1 e1).2).keep (Other.putOb o) n12
  have ro := rb.keep y2.oth (hE id2 e3).2
  have oth : ∀ {o}, St (fun j => F j ∨ E2 id1 b2 id2 j) (fun j => F' j ∨ E2 id1 b2 id2 j) h (AH.putOb h9 id2 o) := fun {o} =>
    ⟨((f3.any.trans (ob.mono fun j _ e => .inr (e ▸ e3))).trans (y2.oth.mono fun j _ hj => .inl hj)).trans ((Other.putOb o).mono fun j _ e => .inr (e ▸ e3)), fun j hj => hj.elim (fun hj => (y2.fp j hj).elim (fun h => .inl (.inl h)) fun h => .inr (by omega)) fun h => .inl (.inr h)⟩
  have hpo : ∀ {o}, Other (fun j => j = id2) h9 (AH.putOb h9 id2 o) := fun {o} => Other.putOb o
  unfold rb68_6
  cases bb with
  | false =>
    simp (implicitDefEqProofs := false) only [core, reduceIte, R68, S68, ld53, c2, ld49, r5, y1, not_b, Bool.not_false]
    rw [end_ret ro.2]
    exact ⟨_, _, _, rfl, oth, F', ⟨_, IX.keep _ _ _ _ _ (by simpa using y3) hpo fun j hj e => (hF' id2 e3).2 (e ▸ hj)⟩, ⟨hid1, Rec.put _ ro.1⟩, hF', rfl⟩
  | true =>
    simp (implicitDefEqProofs := false) only [core, reduceIte, R68, S68, ld53, c2, ld49, r5, y1, not_b, Bool.not_true]
    rw [end_normal ro.2]
    refine ⟨_, _, _, rfl, oth, ?_⟩
    rw [if_pos rfl]
    refine ⟨F', ?_, ⟨hid1, Rec.put _ ro.1, ?_⟩, hF', rfl⟩
    · exact I.keep _ _ _ _ _ (by simpa using y3) hpo fun j hj e => (hF' id2 e3).2 (e ▸ hj)
    · exact ((k2 (r3.quiet f3) nb2).keep y2.oth (hE b2 e2).2).keep hpo nb2
end
end Go.Proofs.Ytgnacecplaemlaa
/-
  walk.All: the outer round; all.
-/
namespace Go.Proofs.Ytgnacecplaemlaa
open AI
set_option linter.unusedSimpArgs false
theorem Nd.under_all_sz {n : Nd} : ∀ (M : Nat), n.sz ≤ M → ∀ y ∈ n.all, y.sz ≤ n.sz := by
  intro M
  induction M generalizing n with
  | zero => intro hm; have := n.sz_pos; omega
  | succ M ih =>
    intro hm y hy
    rw [Nd.all_eq] at hy
    rcases List.mem_cons.mp hy with rfl | hy
    · exact Nat.le_refl _
    · obtain ⟨x, hx, hy⟩ := List.mem_flatMap.mp hy
      have h1 := Nd.under_sz hx
      have h2 := ih (n := x) (by omega) y hy
      omega
theorem Nd.all_ok {h : AH} : ∀ (M : Nat) {n : Nd}, n.sz ≤ M → n.ok h → ∀ y ∈ n.all, y.ok h := by
  intro M
  induction M with
  | zero => intro n hm; have := n.sz_pos; omega
  | succ M ih =>
    intro n hm hv y hy
    rw [Nd.all_eq] at hy
    rcases List.mem_cons.mp hy with rfl | hy
    · exact hv
    · obtain ⟨x, hx, hy⟩ := List.mem_flatMap.mp hy
      exact ih (by have := Nd.under_sz hx; omega) (Nd.under_ok hv hx) y hy
section
variable (J Jx : List Nd → (Nat → Prop) → AH → Prop) (id1 b2 : Nat) (fr1 : List AV) (yv : AV)
def E1 : Nat → Prop := fun j => j = id1 ∨ j = b2
def J1 (T : Nd) := With (fun pre => J (T :: pre.flatMap Nd.all)) (fun h => Rec h id1 ⟨.ready, 68, fr1, #[11], ra68_3, rb68_4⟩ ∧ Has h b2 0 [yv]) (E1 id1 b2)
def Jx1 := With (fun _ F h => ∃ pre, Jx pre F h) (fun h => Rec h id1 ⟨.ret, 68, fr1, #[11], ra68_3, rb68_4⟩) (E1 id1 b2)
end
/-- What All says of a command. -/
def AllOK (T : Nd) : Prop :=
  ∀ {hB : AH} {J Jx : List Nd → (Nat → Prop) → AH → Prop}, T.sz ≤ 1048576 → T.ok hB → Inv hB J → Inv hB Jx → ∀ {m0 : Nat} {yv : AV}, yv.atom = true → Yields m0 hB yv T.all J Jx →
    ∀ {F : Nat → Prop} {h : AH}, J [] F h → Quiet hB h → ∀ {b : Nat}, Has h b 0 T.cells → ¬ F b → ∀ n, m0 + 16 * T.sz + 16 ≤ n →
    ∃ h' F', X n (.func 68) [yv, .ptr b 0] h = some (.tup [], h') ∧ St F F' h h' ∧ (J T.all F' h' ∨ ∃ pre, Jx pre F' h')
section
variable {J Jx : List Nd → (Nat → Prop) → AH → Prop} {id1 b2 : Nat} {yv : AV} {hB : AH}
theorem inv_J1 (I : Inv hB J) (T : Nd) (fr1 : List AV) (h1 : hB.next ≤ id1) (h2 : hB.next ≤ b2) : Inv hB (J1 J id1 b2 fr1 yv T) :=
  (I.re (fun pre => T :: pre.flatMap Nd.all)).with (fun j hj => by rcases hj with rfl | rfl <;> assumption) fun G h h' ⟨a, c⟩ o hG => ⟨a.keep o (hG _ (.inl rfl)), c.keep o (hG _ (.inr rfl))⟩
theorem inv_Jx1 (I : Inv hB Jx) (fr1 : List AV) (h1 : hB.next ≤ id1) (h2 : hB.next ≤ b2) : Inv hB (Jx1 Jx id1 b2 fr1) :=
  I.any.with (fun j hj => by rcases hj with rfl | rfl <;> assumption) fun G h h' a o hG => a.keep o (hG _ (.inl rfl))
theorem yield1 (I : Inv hB J) (IX : Inv hB Jx) {m0 : Nat} {T : Nd} (hb : T.sz ≤ 1048576) (hv : T.ok hB) (IH : ∀ x ∈ T.under, AllOK x) (Y : Yields m0 hB yv T.all J Jx) (nb : b2 ≠ id1) (hid1 : hB.next ≤ id1) (hb2 : hB.next ≤ b2) (v0 v1 v3 v4 v5 v6 v7 v8 v9 v10 v11 v12 v13 v14 v15 v16 v17 v18 : AV) :
    Yields (m0 + 16 * T.sz + 4) hB (.fn (.yield id1) [] []) T.under (J1 J id1 b2 [v0, v1, .ptr b2 0, v3, v4, v5, v6, v7, v8, v9, v10, v11, v12, v13, v14, v15, v16, v17, v18] yv T) (Jx1 Jx id1 b2 [v0, v1, .ptr b2 0, v3, v4, v5, v6, v7, v8, v9, v10, v11, v12, v13, v14, v15, v16, v17, v18]) := by
  intro pre x post hpre F1 h hj q n hn
  obtain ⟨m, rfl⟩ : ∃ m, n = m + 2 := ⟨n - 2, by omega⟩
  obtain ⟨F, hj, ⟨r1, r3⟩, hE, rfl⟩ := hj
  have hxm : x ∈ T.under := by rw [hpre]; simp
  have hxok := Nd.under_ok hv hxm
  have hxs := Nd.under_sz hxm
  have e1 : E1 id1 b2 id1 := .inl rfl
  have e2 : E1 id1 b2 b2 := .inr rfl
  obtain ⟨h7, f1, f2, f3, f4⟩ := fill h [.int .i64 0, .str [], .bool false, .bool false, .nilSl, .nilSl, .nilSl, .nilSl, .nilSl, .nilSl] x.cells x.cells_len
  have sx := stV_agg (t := 49) (n := 10) (l := x.cells) z49 x.cells_len (Nd.atoms hxok) h.next 0 (h.alloc [.int .i64 0, .str [], .bool false, .bool false, .nilSl, .nilSl, .nilSl, .nilSl, .nilSl, .nilSl])
  rw [f1] at sx
  simp only [Option.map_some] at sx
  have r1' := r1.keep f3 (fun x => x)
  show ∃ b h' F', X (m + 1 + 1) (.yield id1) [.agg x.cells] h = some (.bool b, h') ∧ _
  rw [yield_run r1.2]
  unfold ra68_3
  simp (implicitDefEqProofs := false) only [core, reduceIte, R68, S68, new49, sx]
  rw [mid_ready r1'.2]
  have ob := Other.putOb (h := h7) (id := id1) (some (.loop ⟨.busy, 68, [v0, v1, .ptr b2 0, v3, v4, v5, v6, v7, v8, v9, v10, v11, v12, v13, v14, v15, v16, v17, v18], #[11], ra68_3, rb68_4⟩))
  have rb := Rec.put (h := h7) (id := id1) ⟨.busy, 68, [v0, v1, .ptr b2 0, v3, v4, v5, v6, v7, v8, v9, v10, v11, v12, v13, v14, v15, v16, v17, v18], #[11], ra68_3, rb68_4⟩ r1'.1
  have n8 : (AH.putOb h7 id1 (some (.loop ⟨.busy, 68, [v0, v1, .ptr b2 0, v3, v4, v5, v6, v7, v8, v9, v10, v11, v12, v13, v14, v15, v16, v17, v18], #[11], ra68_3, rb68_4⟩))).next = h7.next := rfl
  generalize AH.putOb h7 id1 (some (.loop ⟨.busy, 68, [v0, v1, .ptr b2 0, v3, v4, v5, v6, v7, v8, v9, v10, v11, v12, v13, v14, v15, v16, v17, v18], #[11], ra68_3, rb68_4⟩)) = h8 at *
  have k2 : ∀ {id off l}, Has h7 id off l → id ≠ id1 → Has h8 id off l := fun H hne => H.keep ob hne
  have hlt := (hE id1 e1).1
  have hlt2 := (hE b2 e2).1
  have r5 := ldS (k2 f2.has (by omega)) (n := 10) x.cells_len
  -- the inner walk's box
  have qa : Quiet h8 (h8.alloc x.cells) := Other.alloc _ _ _
  have na : (h8.alloc x.cells).next = h8.next + 1 := rfl
  have Ha := Has.new h8 x.cells
  have ra := rb.keep qa (fun x => x)
  have ca : Has (h8.alloc x.cells) b2 0 [yv] := (k2 (r3.quiet f3) nb).quiet qa
  have ja : J (T :: pre.flatMap Nd.all) F (h8.alloc x.cells) := I.quiet (I.keep _ _ _ _ _ (I.quiet hj f3) ob fun j hj e => (hE id1 e1).2 (e ▸ hj)) qa
  have q8 : Quiet hB h8 := (q.trans f3).plus ob fun j e => .inr (e ▸ hid1)
  have q9 : Quiet hB (h8.alloc x.cells) := q8.trans qa
  have o9 : ∀ {G : Nat → Prop}, (∀ j, j = id1 → G j) → Other G h (h8.alloc x.cells) := fun hG => (f3.any.trans (ob.mono fun j _ e => hG j e)).trans qa.any
  have a51 := all51 x h8 m
  generalize h8.alloc x.cells = h9 at *
  have hrd : rdOK (some id1) h9 = true := rd_some ra.2
  have qn := Other.newOb h9 (.loop ⟨.ready, 68, [v0, v1, .ptr b2 0, .ptr h.next 0, v4, v5, v6, v7, v8, v9, v10, .agg x.cells, .agg x.cells, .fn (.func 68) [] [.ptr h8.next 0], v14, v15, v16, v17, v18], #[14], ra68_5, rb68_6⟩)
  have rn : Rec (h9.newOb (.loop ⟨.ready, 68, [v0, v1, .ptr b2 0, .ptr h.next 0, v4, v5, v6, v7, v8, v9, v10, .agg x.cells, .agg x.cells, .fn (.func 68) [] [.ptr h8.next 0], v14, v15, v16, v17, v18], #[14], ra68_5, rb68_6⟩)) h9.next ⟨.ready, 68, [v0, v1, .ptr b2 0, .ptr h.next 0, v4, v5, v6, v7, v8, v9, v10, .agg x.cells, .agg x.cells, .fn (.func 68) [] [.ptr h8.next 0], v14, v15, v16, v17, v18], #[14], ra68_5, rb68_6⟩ := ⟨Nat.lt_succ_self _, by rw [AH.ob?_newOb, if_pos rfl]⟩
  have nn : (h9.newOb (.loop ⟨.ready, 68, [v0, v1, .ptr b2 0, .ptr h.next 0, v4, v5, v6, v7, v8, v9, v10, .agg x.cells, .agg x.cells, .fn (.func 68) [] [.ptr h8.next 0], v14, v15, v16, v17, v18], #[14], ra68_5, rb68_6⟩)).next = h9.next + 1 := rfl
  have hl12 : ∃ post', T.all = (T :: pre.flatMap Nd.all) ++ x.all ++ post' := ⟨post.flatMap Nd.all, by rw [Nd.all_eq, hpre]; simp [List.flatMap_append]⟩
  obtain ⟨post', hl12⟩ := hl12
  have n12 : id1 ≠ h9.next := by omega
  have nb2 : b2 ≠ h9.next := by omega
  have hid2 : hB.next ≤ h9.next := q9.next
  have Y2 := yield2 (id1 := id1) (b2 := b2) (id2 := h9.next) (R1 := ⟨.busy, 68, [v0, v1, .ptr b2 0, v3, v4, v5, v6, v7, v8, v9, v10, v11, v12, v13, v14, v15, v16, v17, v18], #[11], ra68_3, rb68_4⟩) I IX Y hl12 (Nd.all_ok _ (Nat.le_refl _) hxok) n12 nb2 hid2 v0 v1 (.ptr h.next 0) v4 v5 v6 v7 v8 v9 v10 (.agg x.cells) (.agg x.cells) (.fn (.func 68) [] [.ptr h8.next 0]) v14 v15 v16 v17 v18
  have hE2 : ∀ j, E2 id1 b2 h9.next j → j < h9.next + 1 ∧ ¬ F j := fun j hj => by
    rcases hj with rfl | rfl | rfl
    · exact ⟨by omega, (hE _ e1).2⟩
    · exact ⟨by omega, (hE _ e2).2⟩
    · exact ⟨by omega, fun hf => absurd (I.lt _ _ _ _ ja hf) (by omega)⟩
  obtain ⟨h10, F2, w1, w2, w3⟩ := IH x hxm (by omega) hxok (inv_J2 (R1 := ⟨.busy, 68, [v0, v1, .ptr b2 0, v3, v4, v5, v6, v7, v8, v9, v10, v11, v12, v13, v14, v15, v16, v17, v18], #[11], ra68_3, rb68_4⟩) (yv := yv) I (T :: pre.flatMap Nd.all) [v0, v1, .ptr b2 0, .ptr h.next 0, v4, v5, v6, v7, v8, v9, v10, .agg x.cells, .agg x.cells, .fn (.func 68) [] [.ptr h8.next 0], v14, v15, v16, v17, v18] hid1 hb2 hid2)
    (inv_Jx2 (R1 := ⟨.busy, 68, [v0, v1, .ptr b2 0, v3, v4, v5, v6, v7, v8, v9, v10, v11, v12, v13, v14, v15, v16, v17, v18], #[11], ra68_3, rb68_4⟩) IX [v0, v1, .ptr b2 0, .ptr h.next 0, v4, v5, v6, v7, v8, v9, v10, .agg x.cells, .agg x.cells, .fn (.func 68) [] [.ptr h8.next 0], v14, v15, v16, v17, v18] hid1 hb2 hid2) (by rfl) Y2
    (F := fun j => F j ∨ E2 id1 b2 h9.next j) ⟨F, by simpa using I.quiet ja qn, ⟨ra.keep qn (fun x => x), rn, ca.quiet qn⟩, hE2, rfl⟩ (q9.trans qn) (b := h8.next) (Ha.quiet qn)
    (fun hf => hf.elim (fun hf => by
      have h1 := I.lt _ _ _ _ hj hf
      have := f3.next
      omega) fun hf => by
      have := f3.next
      rcases hf with hf | hf | hf <;> omega) (m + 1) (by omega)
  have hpo : ∀ {k o}, Other (fun j => j = k) h10 (AH.putOb h10 k o) := fun {k o} => Other.putOb o
  have n10 := w2.oth.next
  have n7 := f3.next
  -- what is left of the inner loop's state
  have fin : ∀ {F' : Nat → Prop} {o : Option AObj}, (∀ j, E2 id1 b2 h9.next j → j < h10.next ∧ ¬ F' j) → (F2 = fun j => F' j ∨ E2 id1 b2 h9.next j) →
      St (fun j => F j ∨ E1 id1 b2 j) (fun j => F' j ∨ E1 id1 b2 j) h ((h10.putOb h9.next none).putOb id1 o) ∧ (∀ j, E1 id1 b2 j → j < ((h10.putOb h9.next none).putOb id1 o).next ∧ ¬ F' j) := fun {F' o} hd he => by
    subst he
    have hG : ∀ j, F j ∨ E2 id1 b2 h9.next j → (F j ∨ E1 id1 b2 j) ∨ h.next ≤ j := fun j hj => by
      rcases hj with hj | hj | hj | hj
      · exact .inl (.inl hj)
      · exact .inl (.inr (.inl hj))
      · exact .inl (.inr (.inr hj))
      · exact .inr (by omega)
    refine ⟨⟨?_, fun j hj => ?_⟩, fun j hj => ?_⟩
    · have o1 : Other (fun j => F j ∨ E1 id1 b2 j) h h9 := o9 fun j e => .inr (e ▸ e1)
      have o2 := (o1.trans qn.any).plus w2.oth hG
      have o3 := o2.plus (Other.putOb (h := h10) (id := h9.next) none) (fun j e => .inr (by omega))
      exact o3.trans ((Other.putOb (h := h10.putOb h9.next none) (id := id1) o).mono fun j _ e => .inr (e ▸ e1))
    · rcases hj with hj | hj
      · rcases w2.fp j (.inl hj) with h1 | h1
        · exact hG j h1
        · exact .inr (by omega)
      · exact .inl (.inr hj)
    · rcases hj with rfl | rfl
      · exact hd _ (.inl rfl)
      · exact hd _ (.inr (.inl rfl))
  unfold rb68_4
  simp (implicitDefEqProofs := false) only [core, reduceIte, R68, S68, ld49, r5, a51, run_range, hrd, callF_func, hb68]
  generalize hr : rangeEnd _ _ _ = r
  revert r hr
  rcases w3 with w3 | ⟨_, w3⟩
  · obtain ⟨F', j5, ⟨t1, t2, t3⟩, hd, he⟩ := w3
    obtain ⟨z1, z2⟩ := fin (o := some (.loop ⟨.ready, 68, [v0, v1, .ptr b2 0, v3, v4, v5, v6, v7, v8, v9, v10, v11, v12, v13, v14, v15, v16, v17, v18], #[11], ra68_3, rb68_4⟩)) hd he
    refine range_all ⟨_, h10, _, w1, t2.2, .inl ⟨rfl, ?_⟩⟩
    have t1' := t1.keep (hpo (k := h9.next) (o := none)) n12
    simp (implicitDefEqProofs := false) only [core, reduceIte]
    rw [end_normal t1'.2]
    refine ⟨_, _, _, rfl, z1, ?_⟩
    rw [if_pos rfl]
    refine ⟨F', ?_, ⟨Rec.put _ t1'.1, ?_⟩, z2, rfl⟩
    · have e : (T :: (pre ++ [x]).flatMap Nd.all) = T :: pre.flatMap Nd.all ++ x.all := by simp [List.flatMap_append]
      dsimp only
      rw [e]
      exact I.keep _ _ _ _ _ (I.keep _ _ _ _ _ j5 (hpo (k := h9.next) (o := none)) fun j hj e => (hd _ (.inr (.inr rfl))).2 (e ▸ hj)) (Other.putOb _) fun j hj e => (hd _ (.inl rfl)).2 (e ▸ hj)
    · exact (t3.keep hpo nb2).keep (Other.putOb _) nb
  · obtain ⟨F', j5, ⟨t1, t2⟩, hd, he⟩ := w3
    obtain ⟨z1, z2⟩ := fin (o := some (.loop ⟨.ret, 68, [v0, v1, .ptr b2 0, v3, v4, v5, v6, v7, v8, v9, v10, v11, v12, v13, v14, v15, v16, v17, v18], #[11], ra68_3, rb68_4⟩)) hd he
    refine range_all ⟨_, h10, _, w1, t2.2, .inr ⟨rfl, ?_⟩⟩
    have t1' := t1.keep (hpo (k := h9.next) (o := none)) n12
    simp (implicitDefEqProofs := false) only [core, reduceIte]
    rw [end_ret t1'.2]
    exact ⟨_, _, _, rfl, z1, F', (IX.any).keep (pre := []) _ _ _ _ ((IX.any).keep (pre := []) _ _ _ _ j5 (hpo (k := h9.next) (o := none)) fun j hj e => (hd _ (.inr (.inr rfl))).2 (e ▸ hj)) (Other.putOb _) (fun j hj e => (hd _ (.inl rfl)).2 (e ▸ hj)), Rec.put _ t1'.1, z2, rfl⟩
end
theorem all68 : ∀ (M : Nat) {T : Nd}, T.sz ≤ M → AllOK T := by
  intro M
  induction M with
  | zero => intro T hm; have := T.sz_pos; omega
  | succ M ih =>
    intro T hm hB J Jx hb hv I IX m0 yv hyv Y F h hj q b HT hF n hn
    obtain ⟨m, rfl⟩ : ∃ m, n = m + 2 := ⟨n - 2, by omega⟩
    have IH : ∀ x ∈ T.under, AllOK x := fun x hx => ih (by have := Nd.under_sz hx; omega)
    have bx := box_at h hyv
    have qa : Quiet h (h.alloc [yv]) := Other.alloc _ _ _
    have Ha := Has.new h [yv]
    have na : (h.alloc [yv]).next = h.next + 1 := rfl
    generalize h.alloc [yv] = h1 at *
    have c2 : h1.cell? h.next 0 = some yv := Ha.cell (i := 0) rfl
    have r1 := ldS (HT.quiet qa) (n := 10) T.cells_len
    have hFlt : ∀ j, F j → j < h.next := fun j hf => I.lt _ _ _ j hj hf
    obtain ⟨bb, h2, F2, y1, y2, y3⟩ := Y [] T (T.under.flatMap Nd.all) (by rw [Nd.all_eq]; rfl) F h1 (I.quiet hj qa) (q.trans qa) (m + 1) (by omega)
    have n2 := y2.oth.next
    have hF2 : ∀ j, F2 j → F j ∨ h1.next ≤ j := y2.fp
    have st2 : St F F2 h h2 := (St.quiet F qa).trans y2
    have q2 : Quiet hB h2 := st2.base q fun j hf => I.ge _ _ _ j hj hf
    have hnb : ¬ F2 h.next := fun hf => (hF2 _ hf).elim (fun hf => absurd (hFlt _ hf) (by omega)) (by omega)
    show ∃ h' F', X (m + 1 + 1) (.func 68) [yv, .ptr b 0] h = _ ∧ _
    rw [ent68]
    unfold cd68
    cases bb with
    | false =>
      simp (implicitDefEqProofs := false) only [core, reduceIte, R68, S68, bx, ld53, c2, ld49, r1, y1, not_b, Bool.not_false]
      exact ⟨_, F2, rfl, st2, .inr ⟨_, by simpa using y3⟩⟩
    | true =>
      have y3 : J [T] F2 h2 := by simpa using y3
      have r2 := ldS (HT.keep st2.oth hF) (n := 10) T.cells_len
      have b53 := below53 T h2 m
      have qb : Quiet h2 (h2.alloc T.cells) := Other.alloc _ _ _
      have Hb := Has.new h2 T.cells
      have nb : (h2.alloc T.cells).next = h2.next + 1 := rfl
      generalize h2.alloc T.cells = h3 at *
      have hq3 : Quiet hB h3 := q2.trans qb
      have hrd : rdOK none h3 = true := rfl
      have qn := Other.newOb h3 (.loop ⟨.ready, 68, [yv, .ptr b 0, .ptr h.next 0, .tup [], .tup [], yv, .agg T.cells, .bool true, .bool false, .agg T.cells, .fn (.func 69) [] [.ptr h2.next 0], .tup [], .tup [], .tup [], .tup [], .tup [], .tup [], .tup [], .tup []], #[11], ra68_3, rb68_4⟩)
      have rn : Rec (h3.newOb (.loop ⟨.ready, 68, [yv, .ptr b 0, .ptr h.next 0, .tup [], .tup [], yv, .agg T.cells, .bool true, .bool false, .agg T.cells, .fn (.func 69) [] [.ptr h2.next 0], .tup [], .tup [], .tup [], .tup [], .tup [], .tup [], .tup [], .tup []], #[11], ra68_3, rb68_4⟩)) h3.next ⟨.ready, 68, [yv, .ptr b 0, .ptr h.next 0, .tup [], .tup [], yv, .agg T.cells, .bool true, .bool false, .agg T.cells, .fn (.func 69) [] [.ptr h2.next 0], .tup [], .tup [], .tup [], .tup [], .tup [], .tup [], .tup [], .tup []], #[11], ra68_3, rb68_4⟩ := ⟨Nat.lt_succ_self _, by rw [AH.ob?_newOb, if_pos rfl]⟩
      have nn : (h3.newOb (.loop ⟨.ready, 68, [yv, .ptr b 0, .ptr h.next 0, .tup [], .tup [], yv, .agg T.cells, .bool true, .bool false, .agg T.cells, .fn (.func 69) [] [.ptr h2.next 0], .tup [], .tup [], .tup [], .tup [], .tup [], .tup [], .tup [], .tup []], #[11], ra68_3, rb68_4⟩)).next = h3.next + 1 := rfl
      have hid1 : hB.next ≤ h3.next := hq3.next
      have hb2 : hB.next ≤ h.next := q.next
      have hlt2 : ∀ j, F2 j → j < h2.next := fun j hf => I.lt _ _ _ j y3 hf
      have hE1 : ∀ j, E1 h3.next h.next j → j < h3.next + 1 ∧ ¬ F2 j := fun j hj => by
        rcases hj with rfl | rfl
        · exact ⟨by omega, fun hf => absurd (hlt2 _ hf) (by omega)⟩
        · exact ⟨by omega, hnb⟩
      have Y1 := yield1 (id1 := h3.next) (b2 := h.next) I IX hb hv IH Y (by omega) hid1 hb2 yv (.ptr b 0) (.tup []) (.tup []) yv (.agg T.cells) (.bool true) (.bool false) (.agg T.cells) (.fn (.func 69) [] [.ptr h2.next 0]) (.tup []) (.tup []) (.tup []) (.tup []) (.tup []) (.tup []) (.tup []) (.tup [])
      obtain ⟨h4, F4, w1, w2, w3⟩ := under69 hb hv (inv_J1 (yv := yv) I T [yv, .ptr b 0, .ptr h.next 0, .tup [], .tup [], yv, .agg T.cells, .bool true, .bool false, .agg T.cells, .fn (.func 69) [] [.ptr h2.next 0], .tup [], .tup [], .tup [], .tup [], .tup [], .tup [], .tup [], .tup []] hid1 hb2) Y1
        (F := fun j => F2 j ∨ E1 h3.next h.next j) ⟨F2, by simpa using I.quiet (I.quiet y3 qb) qn, ⟨rn, ((Ha.keep y2.oth (fun hf => absurd (hFlt _ hf) (by omega))).quiet qb).quiet qn⟩, hE1, rfl⟩ (hq3.trans qn) (b := h2.next) (Hb.quiet qn)
        (fun hf => hf.elim (fun hf => absurd (hlt2 _ hf) (by omega)) fun hf => by rcases hf with hf | hf <;> omega) (m + 1) (by omega) (by have := T.sz_pos; omega)
      have n4 := w2.oth.next
      have fin : ∀ {F' : Nat → Prop}, (∀ j, E1 h3.next h.next j → j < h4.next ∧ ¬ F' j) → (F4 = fun j => F' j ∨ E1 h3.next h.next j) → St F F' h (h4.putOb h3.next none) := fun {F'} hd he => by
        subst he
        have hG : ∀ j, F2 j ∨ E1 h3.next h.next j → F j ∨ h.next ≤ j := fun j hj => by
          rcases hj with hj | hj | hj
          · exact (hF2 j hj).imp_right fun h => by omega
          · exact .inr (by omega)
          · exact .inr (by omega)
        refine ⟨?_, fun j hj => ?_⟩
        · exact (((st2.oth.trans qb.any).trans qn.any).plus w2.oth hG).plus (Other.putOb none) fun j e => .inr (by omega)
        · rcases w2.fp j (.inl hj) with h1 | h1
          · exact hG j h1
          · exact .inr (by omega)
      simp (implicitDefEqProofs := false) only [core, reduceIte, R68, S68, bx, ld53, c2, ld49, r1, y1, not_b, Bool.not_true, r2, b53, run_range, hrd, callF_func, hb69]
      generalize hr : rangeEnd _ _ _ = r
      revert r hr
      rcases w3 with w3 | ⟨_, w3⟩
      · obtain ⟨F', j5, ⟨t1, t2⟩, hd, he⟩ := w3
        refine range_all ⟨_, h4, _, w1, t1.2, .inl ⟨rfl, ?_⟩⟩
        simp (implicitDefEqProofs := false) only [core, reduceIte]
        refine ⟨_, F', rfl, fin hd he, .inl ?_⟩
        rw [Nd.all_eq]
        exact I.keep _ _ _ _ _ j5 (Other.putOb _) fun j hj e => (hd _ (.inl rfl)).2 (e ▸ hj)
      · obtain ⟨F', j5, t1, hd, he⟩ := w3
        refine range_all ⟨_, h4, _, w1, t1.2, .inr ⟨rfl, ?_⟩⟩
        simp (implicitDefEqProofs := false) only [core, reduceIte]
        exact ⟨_, F', rfl, fin hd he, .inr ((IX.any).keep (pre := []) _ _ _ _ j5 (Other.putOb _) fun j hj e => (hd _ (.inl rfl)).2 (e ▸ hj))⟩
end Go.Proofs.Ytgnacecplaemlaa
/-
  walk.Deep.
-/
namespace Go.Proofs.Ytgnacecplaemlaa
open AI
set_option linter.unusedSimpArgs false
def mx (l : List Nat) : Nat := l.foldl max 0
theorem mx_snoc (l : List Nat) (a : Nat) : mx (l ++ [a]) = max (mx l) a := by simp [mx]
theorem foldl_max (l : List Nat) : ∀ k B, k ≤ B → (∀ a ∈ l, a ≤ B) → l.foldl max k ≤ B := by
  induction l with
  | nil => intro k B h _; exact h
  | cons a l ih =>
    intro k B h hl
    exact ih _ B (Nat.max_le.mpr ⟨h, hl a (by simp)⟩) fun b hb => hl b (by simp [hb])
theorem mx_le {l : List Nat} {B : Nat} (hl : ∀ a ∈ l, a ≤ B) : mx l ≤ B := foldl_max l 0 B (by omega) hl
theorem sum_mem {l : List Nat} {a : Nat} (ha : a ∈ l) : a ≤ l.sum := by
  induction l with
  | nil => simp at ha
  | cons b l ih =>
    rw [List.sum_cons]
    rcases List.mem_cons.mp ha with rfl | ha
    · omega
    · have := ih ha; omega
/-- How deep a command is. -/
def Nd.deep (n : Nd) : Nat := mx (n.under.attach.map (fun x => x.1.deep)) + 1
 termination_by n.sz
 decreasing_by exact Nd.under_sz x.2
theorem Nd.deep_eq (n : Nd) : n.deep = mx (n.under.map Nd.deep) + 1 := by
  rw [Nd.deep]
  congr 2
  exact (List.map_attach_eq_pmap ..).trans (List.pmap_eq_map ..)
theorem Nd.deep_le : ∀ (M : Nat) {n : Nd}, n.sz ≤ M → n.deep ≤ n.all.length := by
  intro M
  induction M with
  | zero => intro n hm; have := n.sz_pos; omega
  | succ M ih =>
    intro n hm
    rw [Nd.deep_eq, Nd.all_eq]
    simp only [List.length_cons]
    refine Nat.succ_le_succ (mx_le fun a ha => ?_)
    obtain ⟨x, hx, rfl⟩ := List.mem_map.mp ha
    have h1 := ih (n := x) (by have := Nd.under_sz hx; omega)
    rw [List.length_flatMap]
    exact Nat.le_trans h1 (sum_mem (List.mem_map.mpr ⟨x, hx, rfl⟩))
theorem Nd.deep_sz : ∀ (M : Nat) {n : Nd}, n.sz ≤ M → n.deep ≤ n.sz := by
  intro M
  induction M with
  | zero => intro n hm; have := n.sz_pos; omega
  | succ M ih =>
    intro n hm
    rw [Nd.deep_eq]
    have hp := n.sz_pos
    have : mx (n.under.map Nd.deep) ≤ n.sz - 1 := mx_le fun a ha => by
      obtain ⟨x, hx, rfl⟩ := List.mem_map.mp ha
      have h0 := Nd.under_sz hx
      have h1 := ih (n := x) (by omega)
      omega
    omega
theorem row_set {t : TypeId} {h : AH} {p : Nat} {a v : AV} (hz : asize Try.prog t = some 1) (R : Row h p 0 [a]) (hv : v.atom = true) :
    ∃ h', stV Try.prog t (.ptr p 0) v h = some (.tup [], h') ∧ h'.next = h.next ∧ Row h' p 0 [v] ∧ Other (fun j => j = p) h h' := by
  obtain ⟨h', w1, w2, w3, w4⟩ := Row.write (a := []) (p := [a]) (c := []) R [v] rfl
  refine ⟨h', ?_, w2, w3, w4⟩
  rw [stV_one hz hv]
  have w1 : h.write p 0 [v] = some h' := w1
  rw [w1]
  rfl
section
variable (id0 p : Nat) (fr : List AV)
/-- Between two rounds. -/
def JD (pre : List Nd) (F : Nat → Prop) (h : AH) : Prop :=
  Rec h id0 ⟨.ready, 29, fr, #[7], ra29_3, rb29_4⟩ ∧ Row h p 0 [.int .i64 (mx (pre.map Nd.deep) : Nat)] ∧ p < h.next ∧ F = fun j => j = id0 ∨ j = p
theorem inv_JD {hB : AH} (h1 : hB.next ≤ id0) (h2 : hB.next ≤ p) : Inv hB (JD id0 p fr) where
  lt := fun pre F h j ⟨a, b, c, e⟩ hj => by subst e; exact hj.elim (fun e => e ▸ a.1) fun e => e ▸ c
  ge := fun pre F h j ⟨a, b, c, e⟩ hj => by subst e; exact hj.elim (fun e => e ▸ h1) fun e => e ▸ h2
  keep := fun pre F G h h' ⟨a, b, c, e⟩ o hG => by
    subst e
    exact ⟨a.keep o (hG _ (.inl rfl)), b.keep o (hG _ (.inr rfl)), Nat.lt_of_lt_of_le c o.next, rfl⟩
end
theorem deep29 : ∀ (M : Nat) {h : AH} {T : Nd}, T.sz ≤ M → T.sz ≤ 1048576 → T.ok h → ∀ n, 4 * T.sz + 20 ≤ n → X n (.func 29) [.agg T.cells] h = some (.int .i64 (T.deep : Nat), h) := by
  intro M
  induction M with
  | zero => intro h T hm; have := T.sz_pos; omega
  | succ M ih =>
    intro h T hm hb hv n hn
    obtain ⟨m, rfl⟩ : ∃ m, n = m + 2 := ⟨n - 2, by omega⟩
    have hdT := Nd.deep_sz _ (Nat.le_refl T.sz)
    have qa : Quiet h (h.alloc T.cells) := Other.alloc _ _ _
    have Ha := Has.new h T.cells
    have na : (h.alloc T.cells).next = h.next + 1 := rfl
    rw [ent29]
    unfold cd29
    have bx : boxV (.agg T.cells) h = some (.ptr h.next 0, h.alloc T.cells) := box_agg h T.cells
    generalize h.alloc T.cells = h1 at *
    obtain ⟨h2, f1, f2, f3, f4⟩ := fill h1 [.int .i64 0] [.int .i64 0] rfl
    have st0 := stV_one (t := 3) (v := .int .i64 0) z3 rfl h1.next 0 (h1.alloc [.int .i64 0])
    rw [f1] at st0
    simp only [Option.map_some] at st0
    have r1 := ldS (Ha.quiet f3) (n := 10) T.cells_len
    have b53 := below53 T h2 m
    have qb : Quiet h2 (h2.alloc T.cells) := Other.alloc _ _ _
    have Hb := Has.new h2 T.cells
    have nb : (h2.alloc T.cells).next = h2.next + 1 := rfl
    have f2' := f2.keep (F := fun _ => False) qb (fun x => x)
    generalize h2.alloc T.cells = h3 at *
    have q13 : Quiet h h3 := (qa.trans f3).trans qb
    have hrd : rdOK none h3 = true := rfl
    have qn := Other.newOb h3 (.loop ⟨.ready, 29, [.agg T.cells, .ptr h.next 0, .int .i64 0, .ptr h1.next 0, .tup [], .agg T.cells, .fn (.func 69) [] [.ptr h2.next 0], .tup [], .tup [], .tup [], .tup [], .tup [], .tup [], .tup []], #[7], ra29_3, rb29_4⟩)
    have rn : Rec (h3.newOb (.loop ⟨.ready, 29, [.agg T.cells, .ptr h.next 0, .int .i64 0, .ptr h1.next 0, .tup [], .agg T.cells, .fn (.func 69) [] [.ptr h2.next 0], .tup [], .tup [], .tup [], .tup [], .tup [], .tup [], .tup []], #[7], ra29_3, rb29_4⟩)) h3.next ⟨.ready, 29, [.agg T.cells, .ptr h.next 0, .int .i64 0, .ptr h1.next 0, .tup [], .agg T.cells, .fn (.func 69) [] [.ptr h2.next 0], .tup [], .tup [], .tup [], .tup [], .tup [], .tup [], .tup []], #[7], ra29_3, rb29_4⟩ := ⟨Nat.lt_succ_self _, by rw [AH.ob?_newOb, if_pos rfl]⟩
    have nn : (h3.newOb (.loop ⟨.ready, 29, [.agg T.cells, .ptr h.next 0, .int .i64 0, .ptr h1.next 0, .tup [], .agg T.cells, .fn (.func 69) [] [.ptr h2.next 0], .tup [], .tup [], .tup [], .tup [], .tup [], .tup [], .tup []], #[7], ra29_3, rb29_4⟩)).next = h3.next + 1 := rfl
    have hid0 : h.next ≤ h3.next := q13.next
    have hp : h.next ≤ h1.next := by omega
    have hne : h1.next ≠ h3.next := by omega
    have I := inv_JD (hB := h) h3.next h1.next [.agg T.cells, .ptr h.next 0, .int .i64 0, .ptr h1.next 0, .tup [], .agg T.cells, .fn (.func 69) [] [.ptr h2.next 0], .tup [], .tup [], .tup [], .tup [], .tup [], .tup [], .tup []] hid0 hp
    have Y : Yields (4 * T.sz + 17) h (.fn (.yield h3.next) [] []) T.under (JD h3.next h1.next [.agg T.cells, .ptr h.next 0, .int .i64 0, .ptr h1.next 0, .tup [], .agg T.cells, .fn (.func 69) [] [.ptr h2.next 0], .tup [], .tup [], .tup [], .tup [], .tup [], .tup [], .tup []]) (fun _ _ _ => False) := by
      intro pre x post hpre F g hj q n2 hn2
      obtain ⟨k, rfl⟩ : ∃ k, n2 = k + 1 := ⟨n2 - 1, by omega⟩
      obtain ⟨r1, r2, r3, rfl⟩ := hj
      have hxm : x ∈ T.under := by rw [hpre]; simp
      have hxok := Nd.under_ok hv hxm
      have hxs := Nd.under_sz hxm
      obtain ⟨g1, f1, f2, f3, f4⟩ := fill g [.int .i64 0, .str [], .bool false, .bool false, .nilSl, .nilSl, .nilSl, .nilSl, .nilSl, .nilSl] x.cells x.cells_len
      have sx := stV_agg (t := 49) (n := 10) (l := x.cells) z49 x.cells_len (Nd.atoms hxok) g.next 0 (g.alloc [.int .i64 0, .str [], .bool false, .bool false, .nilSl, .nilSl, .nilSl, .nilSl, .nilSl, .nilSl])
      rw [f1] at sx
      simp only [Option.map_some] at sx
      have r1' := r1.keep f3 (fun x => x)
      have r1l := r1.1
      show ∃ b h' F', X (k + 1) (.yield h3.next) [.agg x.cells] g = some (.bool b, h') ∧ _
      rw [yield_run r1.2]
      unfold ra29_3
      simp (implicitDefEqProofs := false) only [core, reduceIte, R29, D29, S29, new49, sx]
      rw [mid_ready r1'.2]
      have ob := Other.putOb (h := g1) (id := h3.next) (some (.loop ⟨.busy, 29, [.agg T.cells, .ptr h.next 0, .int .i64 0, .ptr h1.next 0, .tup [], .agg T.cells, .fn (.func 69) [] [.ptr h2.next 0], .tup [], .tup [], .tup [], .tup [], .tup [], .tup [], .tup []], #[7], ra29_3, rb29_4⟩))
      have rb := Rec.put (h := g1) (id := h3.next) ⟨.busy, 29, [.agg T.cells, .ptr h.next 0, .int .i64 0, .ptr h1.next 0, .tup [], .agg T.cells, .fn (.func 69) [] [.ptr h2.next 0], .tup [], .tup [], .tup [], .tup [], .tup [], .tup [], .tup []], #[7], ra29_3, rb29_4⟩ r1'.1
      have ng : (AH.putOb g1 h3.next (some (.loop ⟨.busy, 29, [.agg T.cells, .ptr h.next 0, .int .i64 0, .ptr h1.next 0, .tup [], .agg T.cells, .fn (.func 69) [] [.ptr h2.next 0], .tup [], .tup [], .tup [], .tup [], .tup [], .tup [], .tup []], #[7], ra29_3, rb29_4⟩))).next = g1.next := rfl
      have q2 : Quiet h (AH.putOb g1 h3.next (some (.loop ⟨.busy, 29, [.agg T.cells, .ptr h.next 0, .int .i64 0, .ptr h1.next 0, .tup [], .agg T.cells, .fn (.func 69) [] [.ptr h2.next 0], .tup [], .tup [], .tup [], .tup [], .tup [], .tup [], .tup []], #[7], ra29_3, rb29_4⟩))) := (q.trans f3).plus ob fun j e => .inr (e ▸ hid0)
      generalize AH.putOb g1 h3.next (some (.loop ⟨.busy, 29, [.agg T.cells, .ptr h.next 0, .int .i64 0, .ptr h1.next 0, .tup [], .agg T.cells, .fn (.func 69) [] [.ptr h2.next 0], .tup [], .tup [], .tup [], .tup [], .tup [], .tup [], .tup []], #[7], ra29_3, rb29_4⟩)) = g2 at *
      have R2 := (r2.keep f3 (fun x => x)).keep ob hne
      have hF2 := f2.keep ob (F := fun j => j = h3.next) (by omega)
      have c3 : g2.cell? h1.next 0 = some (.int .i64 (mx (pre.map Nd.deep) : Nat)) := R2.cell (i := 0) rfl
      have r5 := ldS hF2.has (n := 10) x.cells_len
      have hcall := ih (by omega) (by omega) (hxok.quiet q2) k (by omega)
      have hmax : (if ((x.deep : Nat) : Int) > ((mx (pre.map Nd.deep) : Nat) : Int) then ((x.deep : Nat) : Int) else ((mx (pre.map Nd.deep) : Nat) : Int)) = ((mx ((pre ++ [x]).map Nd.deep) : Nat) : Int) := by
        rw [List.map_append, List.map_cons, List.map_nil, mx_snoc]
        split <;> omega
      obtain ⟨g3, w1, w2, w3, w4⟩ := row_set (t := 3) (v := .int .i64 (mx ((pre ++ [x]).map Nd.deep) : Nat)) z3 R2 rfl
      have ro := rb.keep w4 (fun e => hne e.symm)
      unfold rb29_4
      simp (implicitDefEqProofs := false) only [core, reduceIte, R29, D29, S29, ld3, c3, ld49, r5, hcall, max_int, hmax, w1]
      rw [end_normal ro.2]
      refine ⟨true, _, fun j => j = h3.next ∨ j = h1.next, rfl, ⟨((f3.any.trans (ob.mono fun j _ e => .inl e)).trans (w4.mono fun j _ e => .inr e)).trans ((Other.putOb _).mono fun j _ e => .inl e), fun j hj => .inl hj⟩, ?_⟩
      rw [if_pos rfl]
      have n3 := f3.next
      have hnx : (AH.putOb g3 h3.next (some (.loop ⟨.ready, 29, [.agg T.cells, .ptr h.next 0, .int .i64 0, .ptr h1.next 0, .tup [], .agg T.cells, .fn (.func 69) [] [.ptr h2.next 0], .tup [], .tup [], .tup [], .tup [], .tup [], .tup [], .tup []], #[7], ra29_3, rb29_4⟩))).next = g3.next := rfl
      exact ⟨Rec.put _ ro.1, w3.keep (Other.putOb _) hne, by omega, rfl⟩
    obtain ⟨h4, F4, w1, w2, w3⟩ := under69 hb hv I Y (F := fun j => j = h3.next ∨ j = h1.next) ⟨rn, f2'.keep (F := fun _ => False) qn (fun x => x), by omega, rfl⟩ (q13.trans qn) (b := h2.next) (Hb.quiet qn) (fun e => by rcases e with e | e <;> omega) (m + 1) (by omega) (by omega)
    simp (implicitDefEqProofs := false) only [core, reduceIte, R29, D29, S29, bx, new3, st0, ld49, r1, b53, run_range, hrd, callF_func, hb69]
    generalize hr : rangeEnd _ _ _ = r
    revert r hr
    rcases w3 with ⟨t1, t2, t3, rfl⟩ | ⟨_, w3⟩
    · refine range_all ⟨_, h4, _, w1, t1.2, .inl ⟨rfl, ?_⟩⟩
      have R5 := t2.keep (Other.putOb (id := h3.next) none) hne
      have c5 := R5.cell (i := 0) (v := .int .i64 (mx (T.under.map Nd.deep) : Nat)) rfl
      have hde := T.deep_eq
      have w := wrap_succ (mx (T.under.map Nd.deep)) (by omega)
      have qf : Quiet h (h4.putOb h3.next none) := ((q13.trans qn).plus w2.oth fun j hj => .inr (by rcases hj with rfl | rfl <;> omega)).plus (Other.putOb none) fun j e => .inr (e ▸ hid0)
      simp (implicitDefEqProofs := false) only [core, reduceIte, R29, D29, S29, ld3, c5, i_add, w]
      rw [hde]
      exact nrm_flat qf rfl
    · exact w3.elim
end Go.Proofs.Ytgnacecplaemlaa
/-
  The law's nodes: the first nodes that come.
-/
namespace Go.Proofs.Ytgnacecplaemlaa
open AI
set_option linter.unusedSimpArgs false
theorem bsl49z (h : AH) : bslV Try.prog 47 1 [(0, (.agg [.int .i64 0, .str [], .bool false, .bool false, .nilSl, .nilSl, .nilSl, .nilSl, .nilSl, .nilSl]))] h = some (.sl h.next 0 1 10 (some 1), h.alloc [.int .i64 0, .str [], .bool false, .bool false, .nilSl, .nilSl, .nilSl, .nilSl, .nilSl, .nilSl]) := by kernel_rfl
theorem ix47 (id len : Nat) (i : Nat) (cc : Option Nat) (hi : i < len) : aindexAt Try.prog 47 (.sl id 0 len 10 cc) (.int .i64 (i : Int)) = some (.ptr id (0 + i * 10)) := by
  unfold aindexAt
  rw [u47]
  simp only [z49]
  rw [if_pos ⟨trivial, by omega, by omega⟩, Int.toNat_natCast]
theorem flat_cells (l : List Nd) : (l.map Nd.cells).flatten.length = l.length * 10 := by
  rw [Sl.flat_len (es := 10) (fun x hx => by obtain ⟨c, _, rfl⟩ := List.mem_map.mp hx; exact c.cells_len), List.length_map]
theorem out52 {h : AH} {p pm N : Nat} {tv : AV} {pre : List Nd} {x : Nd} {most : Int} (o : Out h p tv 10 (pre.map Nd.cells).flatten N) (hN : N ≤ h.next) (hx : atoms x.cells = true) (hm : Has h pm 0 [.int .i64 most]) (hF : ¬ OutF p tv pm)
    (hlen : pre.length + 1 ≤ 1048576) (n : Nat) :
    ∃ s' h', X (n + 1) (.func 52) [.agg x.cells, .ptr p 0, .ptr pm 0] h = some (.bool (decide (((pre.length + 1 : Nat) : Int) < most)), h') ∧ Out h' p s' 10 ((pre ++ [x]).map Nd.cells).flatten N ∧ OS h h' p tv s' := by
  have q1 : Quiet h (h.alloc x.cells) := Other.alloc _ _ _
  have H1 := Has.new h x.cells
  have n1 : (h.alloc x.cells).next = h.next + 1 := rfl
  have bx : boxV (.agg x.cells) h = some (.ptr h.next 0, h.alloc x.cells) := box_agg h x.cells
  generalize h.alloc x.cells = h1 at *
  have o1 := o.quiet q1
  have c1 := o1.cell
  have l1 := ldS H1 (n := 10) x.cells_len
  have q2 : Quiet h1 (h1.alloc [.int .i64 0, .str [], .bool false, .bool false, .nilSl, .nilSl, .nilSl, .nilSl, .nilSl, .nilSl]) := Other.alloc _ _ _
  have n2 : (h1.alloc [.int .i64 0, .str [], .bool false, .bool false, .nilSl, .nilSl, .nilSl, .nilSl, .nilSl, .nilSl]).next = h1.next + 1 := rfl
  have bz := bsl49z h1
  have Sz : Sl (h1.alloc [.int .i64 0, .str [], .bool false, .bool false, .nilSl, .nilSl, .nilSl, .nilSl, .nilSl, .nilSl]) (.sl h1.next 0 1 10 (some 1)) 10 [[.int .i64 0, .str [], .bool false, .bool false, .nilSl, .nilSl, .nilSl, .nilSl, .nilSl, .nilSl]] :=
    Sl.of_has (L := [[.int .i64 0, .str [], .bool false, .bool false, .nilSl, .nilSl, .nilSl, .nilSl, .nilSl, .nilSl]]) (by simp) (Has.new _ _)
  generalize h1.alloc [.int .i64 0, .str [], .bool false, .bool false, .nilSl, .nilSl, .nilSl, .nilSl, .nilSl, .nilSl] = h2 at *
  have o2 := o1.quiet q2
  have c2 := o2.cell
  have l2 := ldS (H1.quiet q2) (n := 10) x.cells_len
  have hfl := flat_cells pre
  have hal : alen Try.prog 47 tv = some pre.length := by
    rw [(o1.own.sl (L := pre.map Nd.cells) (fun x hx => by obtain ⟨c, _, rfl⟩ := List.mem_map.mp hx; exact c.cells_len) (by omega)).alen u47, List.length_map]
  obtain ⟨s', h3, a1, a2, _, a4, a3⟩ := own_app (x := .sl h1.next 0 1 10 (some 1)) (new := [.int .i64 0, .str [], .bool false, .bool false, .nilSl, .nilSl, .nilSl, .nilSl, .nilSl, .nilSl]) (n := 1) o2.own (by omega) el49 u47 u47 rfl rfl Sz.first rfl rfl (by simp only [List.length_cons, List.length_nil]; omega)
  have hnp : ¬ SlF tv p := by
    rintro ⟨off, len, es', c, rfl⟩
    rcases o.own with ⟨e, _⟩ | ⟨id, len', c', e, _, _, _⟩
    · cases e
    · injection e with e1 e2 e3 e4 e5
      subst e4
      exact o.ne _ _ _ _ rfl rfl
  have R3 := o2.row.keep a3 hnp
  rcases a2 with ⟨_, e⟩ | ⟨id, len, c, rfl, e2, e3, R⟩
  · simp at e
  have hlen2 : len = pre.length + 1 := by
    simp only [List.length_append, List.length_cons, List.length_nil, hfl] at e2
    omega
  subst hlen2
  have hidp : id ≠ p := by
    rcases a4 id 0 _ _ rfl with ⟨off', len', c', e'⟩ | h3
    · exact o.ne _ _ _ _ e'
    · have := o.row.1; omega
  obtain ⟨h4, w1, w2, w3, w4⟩ := Row.write (a := (pre.map Nd.cells).flatten) (c := []) (by simpa using R) x.cells (by rw [x.cells_len]; rfl)
  obtain ⟨h5, x1, x2, x3, x4⟩ := row_set (t := 47) (v := .sl id 0 (pre.length + 1) 10 c) z47 (R3.keep w4 hidp.symm) rfl
  have hix := ix47 id (pre.length + 1) pre.length c (by omega)
  rw [hfl] at w1
  have sx := stV_agg (t := 49) (n := 10) (l := x.cells) z49 x.cells_len hx id (0 + pre.length * 10) h3
  rw [w1] at sx
  simp only [Option.map_some] at sx
  have n3 := a3.next
  -- what stands where, behind it
  have O5 : Out h5 p (.sl id 0 (pre.length + 1) 10 c) 10 ((pre ++ [x]).map Nd.cells).flatten N := by
    refine ⟨x3, .inr ⟨id, _, _, rfl, by rw [flat_cells]; simp, e3, ?_⟩, o.le, fun id2 off2 len2 c2 e => by injection e with e; rw [← e]; exact hidp⟩
    have hq : ((pre ++ [x]).map Nd.cells).flatten = (pre.map Nd.cells).flatten ++ x.cells ++ [] := by simp
    rw [hq]
    exact w3.keep x4 hidp
  have S5 : OS h h5 p tv (.sl id 0 (pre.length + 1) 10 c) := by
    have hG : ∀ j, j = id → OutF p tv j ∨ h.next ≤ j := fun j e => by
      subst e
      rcases a4 _ 0 _ _ rfl with ⟨off', len', c', e'⟩ | h3
      · exact .inl (.inr ⟨_, _, _, _, e'⟩)
      · exact .inr (by omega)
    refine ⟨?_, fun j hj => ?_⟩
    · have y1 : Other (OutF p tv) h h3 := (q1.trans q2).any.trans (a3.mono fun j _ hj => .inr hj)
      exact (y1.plus w4 hG).trans (x4.mono fun j _ e => .inl e)
    · rcases hj with rfl | ⟨off, len, es, c3, e⟩
      · exact .inl (.inl rfl)
      · injection e with e
        exact hG j e.symm
  have c5 := O5.cell
  have hal5 : alen Try.prog 47 (.sl id 0 (pre.length + 1) 10 c) = some (pre.length + 1) := by kernel_rfl
  have m5 : h5.cell? pm 0 = some (.int .i64 most) := (hm.keep S5.oth hF).cell (i := 0) rfl
  rw [ent52]
  unfold cd52
  have h0 : aops Try.prog (X n) (rg Try.f52 1) [0, 1, 2, 3, 4, 5, 6, 7] [.agg x.cells, .ptr p 0, .ptr pm 0, .ptr h.next 0, .bool false, .tup [], .tup [], .tup [], .tup [], .tup [], .tup [], .tup [], .tup [], .tup [], .tup []] h1 =
      some ([.agg x.cells, .ptr p 0, .ptr pm 0, .ptr h.next 0, .bool false, tv, .agg x.cells, .int .i64 (pre.length : Int), .sl h1.next 0 1 10 (some 1), .sl id 0 (pre.length + 1) 10 c, .ptr id (0 + pre.length * 10), .tup [], .tup [], .tup [], .tup []], h5) := by
    simp (implicitDefEqProofs := false) only [core, reduceIte, R52, S52, ld47, c1, ld49, l1, hal, bz, a1, hix, sx, x1]
  have hd := drw52_1 52 (X n) n none _ _ h0
    (fun q hq => by
      simp only [List.mem_cons, List.not_mem_nil, or_false] at hq
      rcases hq with rfl | rfl
      · exact ⟨([.agg x.cells, .ptr p 0, .ptr pm 0, .ptr h.next 0, .bool false, .tup [], .tup [], .tup [], .tup [], .tup [], .tup [], .tup [], .tup [], .tup [], .tup []], h1), ([.agg x.cells, .ptr p 0, .ptr pm 0, .ptr h.next 0, .bool false, tv, .agg x.cells, .int .i64 (pre.length : Int), .tup [], .tup [], .tup [], .tup [], .tup [], .tup [], .tup []], h1), ([.agg x.cells, .ptr p 0, .ptr pm 0, .ptr h.next 0, .bool false, tv, .agg x.cells, .int .i64 (pre.length : Int), .sl h1.next 0 1 10 (some 1), .tup [], .tup [], .tup [], .tup [], .tup [], .tup []], h2), tv, by dsimp only; rw [rng52_1_0]; rfl,
          by dsimp only; rw [rng52_1_3]; simp (implicitDefEqProofs := false) only [core, reduceIte, R52, S52, ld47, c1, ld49, l1, hal, bz],
          by dsimp only; rw [rng52_1_4]; simp (implicitDefEqProofs := false) only [core, reduceIte, R52, S52, ld47, c1, ld49, l1, hal, bz],
          by dsimp only; rw [li52_1_0]; simp (implicitDefEqProofs := false) only [core, reduceIte, ld47, c1], by dsimp only; rw [li52_1_0]; simp (implicitDefEqProofs := false) only [core, reduceIte, ld47, c1], by dsimp only; rw [li52_1_0]; simp (implicitDefEqProofs := false) only [core, reduceIte, ld47, c2]⟩
      · exact ⟨([.agg x.cells, .ptr p 0, .ptr pm 0, .ptr h.next 0, .bool false, tv, .tup [], .tup [], .tup [], .tup [], .tup [], .tup [], .tup [], .tup [], .tup []], h1), ([.agg x.cells, .ptr p 0, .ptr pm 0, .ptr h.next 0, .bool false, tv, .agg x.cells, .int .i64 (pre.length : Int), .tup [], .tup [], .tup [], .tup [], .tup [], .tup [], .tup []], h1), ([.agg x.cells, .ptr p 0, .ptr pm 0, .ptr h.next 0, .bool false, tv, .agg x.cells, .int .i64 (pre.length : Int), .sl h1.next 0 1 10 (some 1), .tup [], .tup [], .tup [], .tup [], .tup [], .tup []], h2), .agg x.cells, by dsimp only; rw [rng52_1_1]; simp (implicitDefEqProofs := false) only [core, reduceIte, R52, S52, ld47, c1],
          by dsimp only; rw [rng52_1_3]; simp (implicitDefEqProofs := false) only [core, reduceIte, R52, S52, ld47, c1, ld49, l1, hal, bz],
          by dsimp only; rw [rng52_1_4]; simp (implicitDefEqProofs := false) only [core, reduceIte, R52, S52, ld47, c1, ld49, l1, hal, bz],
          by dsimp only; rw [li52_1_1]; simp (implicitDefEqProofs := false) only [core, reduceIte, ld49, l1], by dsimp only; rw [li52_1_1]; simp (implicitDefEqProofs := false) only [core, reduceIte, ld49, l1], by dsimp only; rw [li52_1_1]; simp (implicitDefEqProofs := false) only [core, reduceIte, ld49, l2]⟩)
    (fun i hi => by
      simp only [List.mem_cons, List.not_mem_nil, or_false] at hi
      subst hi
      rw [siz52_1]
      exact ⟨([.agg x.cells, .ptr p 0, .ptr pm 0, .ptr h.next 0, .bool false, tv, .agg x.cells, .int .i64 (pre.length : Int), .sl h1.next 0 1 10 (some 1), .sl id 0 (pre.length + 1) 10 c, .ptr id (0 + pre.length * 10), .tup [], .tup [], .tup [], .tup []], h3), ([.agg x.cells, .ptr p 0, .ptr pm 0, .ptr h.next 0, .bool false, tv, .agg x.cells, .int .i64 (pre.length : Int), .sl h1.next 0 1 10 (some 1), .sl id 0 (pre.length + 1) 10 c, .ptr id (0 + pre.length * 10), .tup [], .tup [], .tup [], .tup []], h4), id, p,
        by rw [rng52_1_6]; simp (implicitDefEqProofs := false) only [core, reduceIte, R52, S52, ld47, c1, ld49, l1, hal, bz, a1, hix],
        by rw [rng52_1_7]; simp (implicitDefEqProofs := false) only [core, reduceIte, R52, S52, ld47, c1, ld49, l1, hal, bz, a1, hix, sx], by kernel_rfl, by kernel_rfl, hidp⟩)
  have w : ((pre.length : Int) + 1) = ((pre.length + 1 : Nat) : Int) := by omega
  simp (implicitDefEqProofs := false) only [core, reduceIte, R52, S52, bx, hd, ld47, c5, hal5, ld3, m5, i_lss]
  exact ⟨_, _, rfl, O5, S5⟩
section
variable (p pm N : Nat) (most : Int) (all : List Nd)
def JN (pre : List Nd) (F : Nat → Prop) (h : AH) : Prop :=
  ∃ tv, Out h p tv 10 (pre.map Nd.cells).flatten N ∧ Has h pm 0 [.int .i64 most] ∧ ¬ OutF p tv pm ∧ (pre.length : Int) < most ∧ F = fun j => OutF p tv j ∨ j = pm
def JxN (pre : List Nd) (F : Nat → Prop) (h : AH) : Prop :=
  ∃ tv, Out h p tv 10 (pre.map Nd.cells).flatten N ∧ (pre.length : Int) = most ∧ (∃ post, all = pre ++ post) ∧ F = fun j => OutF p tv j
theorem inv_JN {hB : AH} (h1 : hB.next ≤ N) (h2 : hB.next ≤ pm) : Inv hB (JN p pm N most) where
  lt := fun pre F h j ⟨tv, a, b, c, d, e⟩ hj => by subst e; exact hj.elim (a.lt j) fun e => e ▸ b.1
  ge := fun pre F h j ⟨tv, a, b, c, d, e⟩ hj => by subst e; exact hj.elim (fun hj => Nat.le_trans h1 (a.ge j hj)) fun e => e ▸ h2
  keep := fun pre F G h h' ⟨tv, a, b, c, d, e⟩ o hG => by
    subst e
    exact ⟨tv, a.keep o fun j hj => hG j (.inl hj), b.keep o (hG _ (.inr rfl)), c, d, rfl⟩
theorem inv_JxN {hB : AH} (h1 : hB.next ≤ N) : Inv hB (JxN p N most all) where
  lt := fun pre F h j ⟨tv, a, b, c, e⟩ hj => by subst e; exact a.lt j hj
  ge := fun pre F h j ⟨tv, a, b, c, e⟩ hj => by subst e; exact Nat.le_trans h1 (a.ge j hj)
  keep := fun pre F G h h' ⟨tv, a, b, c, e⟩ o hG => by
    subst e
    exact ⟨tv, a.keep o fun j hj => hG j hj, b, c, rfl⟩
end
theorem bnil80 (l : List AV) : abin Try.prog .eql 80 (.tmp 11) (.const .nilFunc) (.fn (.func 68) [] l) .nilFn = some (.bool false) := by kernel_rfl
theorem outF_nil {p j : Nat} (hj : OutF p .nilSl j) : j = p := hj.elim id fun ⟨_, _, _, _, e⟩ => by cases e
theorem Nd.cells_old {h : AH} {n : Nd} (hv : n.ok h) : ∀ a ∈ n.cells, oldAV h.next a = true := by
  cases n
  simp only [Nd.ok] at hv
  obtain ⟨v0, ⟨v1, _⟩, ⟨v2, _⟩, ⟨v3, _⟩, ⟨v4, _⟩, v5, _⟩ := hv
  intro a ha
  simp only [Nd.cells, List.mem_cons, List.not_mem_nil, or_false] at ha
  rcases ha with rfl | rfl | rfl | rfl | rfl | rfl | rfl | rfl | rfl | rfl
  · rfl
  · rfl
  · rfl
  · rfl
  · exact v0.old
  · exact v1.old
  · exact v2.old
  · exact v3.old
  · exact v4.old
  · exact v5.old
theorem nodes28 {h : AH} {T : Nd} {most : Nat} (hb : T.sz ≤ 1048576) (hall : T.all.length ≤ 1048576) (hm : (most : Int) ≤ 4611686018427387904) (hv : T.ok h) (n : Nat) (hn : 16 * T.sz + 30 ≤ n) :
    ∃ s2 h2, X n (.func 28) [.agg T.cells, .int .i64 most] h = some (s2, h2) ∧ Sl h2 s2 10 ((T.all.take most).map Nd.cells) ∧ Quiet h h2 ∧ SlNew s2 h.next := by
  obtain ⟨m, rfl⟩ : ∃ m, n = m + 2 := ⟨n - 2, by omega⟩
  have q1 : Quiet h (h.alloc T.cells) := Other.alloc _ _ _
  have H1 := Has.new h T.cells
  have n1 : (h.alloc T.cells).next = h.next + 1 := rfl
  have bx : boxV (.agg T.cells) h = some (.ptr h.next 0, h.alloc T.cells) := box_agg h T.cells
  rw [ent28]
  unfold cd28
  generalize h.alloc T.cells = h1 at *
  have q2 : Quiet h1 (h1.alloc [.int .i64 most]) := Other.alloc _ _ _
  have H2 := Has.new h1 [.int .i64 (most : Int)]
  have n2 : (h1.alloc [.int .i64 most]).next = h1.next + 1 := rfl
  have bi : boxV (.int .i64 most) h1 = some (.ptr h1.next 0, h1.alloc [.int .i64 most]) := box_int _ _ .i64
  generalize h1.alloc [.int .i64 most] = h2 at *
  have q3 : Quiet h2 (h2.alloc [.nilSl]) := Other.alloc _ _ _
  have R3 := Row.new h2 [.nilSl]
  have n3 : (h2.alloc [.nilSl]).next = h2.next + 1 := rfl
  have bn := new47 h2
  generalize h2.alloc [.nilSl] = h3 at *
  have q03 : Quiet h h3 := (q1.trans q2).trans q3
  have c2 : h3.cell? h1.next 0 = some (.int .i64 most) := (H2.quiet q3).cell (i := 0) rfl
  by_cases h0 : most = 0
  · subst h0
    have d : decide (((0 : Nat) : Int) ≤ 0) = true := rfl
    simp (implicitDefEqProofs := false) only [core, reduceIte, R28, S28, bx, bi, bn, ld3, c2, i_leq, d]
    exact ⟨_, _, nrm_flat q03 rfl, Sl.nil, Other.refl _ _, fun id off len es c e => by cases e⟩
  have d : decide ((most : Int) ≤ 0) = false := by simp; omega
  have r1 := ldS ((H1.quiet q2).quiet q3) (n := 10) T.cells_len
  have a51 := all51 T h3 m
  have q4 : Quiet h3 (h3.alloc T.cells) := Other.alloc _ _ _
  have H4 := Has.new h3 T.cells
  have n4 : (h3.alloc T.cells).next = h3.next + 1 := rfl
  generalize h3.alloc T.cells = h4 at *
  have q04 : Quiet h h4 := q03.trans q4
  have I := inv_JN (hB := h) h2.next h1.next h.next most (Nat.le_refl _) (by omega)
  have IX := inv_JxN (hB := h) h2.next h.next most T.all (Nat.le_refl _)
  have Y : Yields 1 h (.fn (.func 52) [] [.ptr h2.next 0, .ptr h1.next 0]) T.all (JN h2.next h1.next h.next most) (JxN h2.next h.next most T.all) := by
    intro pre x post hpre F g hj q k hk
    obtain ⟨k, rfl⟩ : ∃ j, k = j + 1 := ⟨k - 1, by omega⟩
    obtain ⟨tv, o, hc, hF, hlt, rfl⟩ := hj
    have hxok := Nd.all_ok _ (Nat.le_refl T.sz) hv x (by rw [hpre]; simp)
    have hlen : pre.length + 1 ≤ 1048576 := by
      have := congrArg List.length hpre
      simp only [List.length_append, List.length_cons] at this
      omega
    obtain ⟨s', g', w1, w2, w3⟩ := out52 (N := h.next) o q.next (Nd.atoms hxok) hc hF hlen k
    have hcg := hc.keep w3.oth hF
    have hFg : ¬ OutF h2.next s' h1.next := fun hf => (w3.fp _ hf).elim hF (by have := hc.1; omega)
    refine ⟨_, g', if decide (((pre.length + 1 : Nat) : Int) < (most : Int)) then (fun j => OutF h2.next s' j ∨ j = h1.next) else (fun j => OutF h2.next s' j), by rw [callV_func]; exact w1, ?_, ?_⟩
    · refine ⟨w3.oth.mono fun j _ hj => .inl hj, fun j hj => ?_⟩
      split at hj
      · rcases hj with hj | hj
        · exact (w3.fp j hj).imp_left .inl
        · exact .inl (.inr hj)
      · exact (w3.fp j hj).imp_left .inl
    · by_cases hd : ((pre.length + 1 : Nat) : Int) < (most : Int)
      · simp only [hd, decide_true, if_true]
        exact ⟨s', w2, hcg, hFg, by simpa using hd, rfl⟩
      · simp only [hd, decide_false, Bool.false_eq_true, if_false]
        exact ⟨s', w2, by simp only [List.length_append, List.length_cons, List.length_nil]; omega, ⟨post, by rw [hpre]; simp⟩, rfl⟩
  obtain ⟨h5, F5, w1, w2, w3⟩ := all68 _ (Nat.le_refl T.sz) hb hv I IX (by rfl) Y (F := fun j => OutF h2.next .nilSl j ∨ j = h1.next) (h := h4)
    ⟨.nilSl, ⟨R3.keep (F := fun _ => False) q4 (fun x => x), Own.nil _ _ _, by omega, fun _ _ _ _ e => by cases e⟩, (H2.quiet q3).quiet q4, fun hf => absurd (outF_nil hf) (by omega), by simp only [List.length_nil]; omega, rfl⟩ q04 (b := h3.next) H4
    (fun hf => hf.elim (fun hf => absurd (outF_nil hf) (by omega)) (by omega)) (m + 1) (by omega)
  have hF5 : ∀ j, OutF h2.next .nilSl j ∨ j = h1.next → h.next ≤ j := fun j hf => by
    rcases hf with hf | hf
    · have := outF_nil hf; omega
    · omega
  have qf : Quiet h h5 := q04.plus w2.oth fun j hj => .inr (hF5 j hj)
  have fin : ∃ tv, Out h5 h2.next tv 10 ((T.all.take most).map Nd.cells).flatten h.next := by
    rcases w3 with ⟨tv, a, _, _, d, _⟩ | ⟨pre, tv, a, b, ⟨post, c⟩, _⟩
    · exact ⟨tv, by rw [List.take_of_length_le (by omega)]; exact a⟩
    · have : T.all.take most = pre := by
        have hm : pre.length = most := by omega
        rw [c, ← hm, List.take_left']
        rfl
      exact ⟨tv, by rw [this]; exact a⟩
  obtain ⟨tv, o5⟩ := fin
  have c5 := o5.cell
  simp (implicitDefEqProofs := false) only [core, reduceIte, R28, S28, bx, bi, bn, ld3, c2, i_leq, d, ld49, r1, a51, bnil80, w1, ld47, c5]
  exact nrm_own3 o5.own qf (fun x hx => by obtain ⟨c, _, rfl⟩ := List.mem_map.mp hx; exact c.cells_len) (by omega) (fun a ha => by
    obtain ⟨l, hl, ha⟩ := List.mem_flatten.mp ha
    obtain ⟨c, hc, rfl⟩ := List.mem_map.mp hl
    exact Nd.cells_old (Nd.all_ok _ (Nat.le_refl T.sz) hv c (List.mem_of_mem_take hc)) a ha)
end Go.Proofs.Ytgnacecplaemlaa
/-
  unquote.Plain; walk.Calls.
-/
namespace Go.Proofs.Ytgnacecplaemlaa
open AI
set_option linter.unusedSimpArgs false
/-- A plain word's text. -/
def plain : List Pt → Option (List Nat)
  | [.mk k t _ _ _ _ _] => if k = 1 then some t else none
  | _ => none
theorem plain54 {h : AH} {s : AV} {ps : List Pt} (S : Sl h s 5 (ps.map Pt.cells)) (n : Nat) : X (n + 1) (.func 54) [.agg [s]] h = some (.tup [.str ((plain ps).getD []), .bool (plain ps).isSome], h) := by
  have q1 : Quiet h (h.alloc [s]) := Other.alloc _ _ _
  have c0 : (h.alloc [s]).cell? h.next 0 = some s := cell_alloc _ _ _
  have bx : boxV (.agg [s]) h = some (.ptr h.next 0, h.alloc [s]) := box_agg h [s]
  have S1 := S.quiet q1
  rw [ent54]
  unfold cd54
  generalize h.alloc [s] = h1 at *
  have hal : alen Try.prog 58 s = some ps.length := by rw [S1.alen u58, List.length_map]
  match ps, hal, S1 with
  | [], hal, _ =>
    have e : ((([] : List Pt).length : Int) == 1) = false := rfl
    simp (implicitDefEqProofs := false) only [core, reduceIte, R54, S54, bx, fa60_0, Nat.zero_add, ld58, c0, hal, i_eql, e]
    exact nrm_tup q1
  | p :: x :: l, hal, _ =>
    have e : (((p :: x :: l).length : Int) == 1) = false := by simp only [List.length_cons, beq_eq_false_iff_ne, ne_eq]; omega
    have e3 : plain (p :: x :: l) = none := by cases p; rfl
    rw [e3]
    simp (implicitDefEqProofs := false) only [core, reduceIte, R54, S54, bx, fa60_0, Nat.zero_add, ld58, c0, hal, i_eql, e]
    exact nrm_tup q1
  | [.mk k t o sk kids sc cs], hal, S1 =>
    have e : ((([(.mk k t o sk kids sc cs : Pt)] : List Pt).length : Int) == 1) = true := rfl
    obtain ⟨id, off, i1, H⟩ := S1.ix u58 z78 (i := 0) (x := [.int .i64 k, .str t, .str o, sk, sc]) rfl
    have i1 := i1 .i64
    simp only [nat0] at i1
    have c1 : h1.cell? id (off + 0) = some (.int .i64 k) := H.cell (i := 0) rfl
    have c2 : h1.cell? id (off + 1) = some (.str t) := H.cell (i := 1) rfl
    by_cases hk : k = 1
    · subst hk
      have e2 : ((1 : Int) == 1) = true := rfl
      simp (implicitDefEqProofs := false) only [core, reduceIte, R54, S54, bx, fa60_0, Nat.zero_add, ld58, c0, hal, i_eql, e, i1, fa78_0, fa78_1, ld3, ld9, c1, c2, e2]
      exact nrm_tup q1
    · have e2 : (k == 1) = false := by simpa using hk
      have e3 : plain [.mk k t o sk kids sc cs] = none := if_neg hk
      rw [e3]
      simp (implicitDefEqProofs := false) only [core, reduceIte, R54, S54, bx, fa60_0, Nat.zero_add, ld58, c0, hal, i_eql, e, i1, fa78_0, fa78_1, ld3, ld9, c1, c2, e2]
      exact nrm_tup q1
/-- What a command calls. -/
def Nd.call : Nd → Option (List Nat)
  | .mk k _ _ _ _ _ _ _ _ ws _ _ _ _ _ _ => if k = 4 then (match ws with | [] => none | .mk _ ps :: _ => plain ps) else none
theorem bsl40 (h : AH) (s : List Nat) : bslV Try.prog 40 1 [(0, .str s)] h = some (.sl h.next 0 1 1 (some 1), h.alloc [.str s]) := by kernel_rfl
section
variable (id0 p N : Nat) (fr : List AV)
def JC (pre : List Nd) (F : Nat → Prop) (h : AH) : Prop :=
  ∃ tv, Rec h id0 ⟨.ready, 30, fr, #[9], ra30_3, rb30_4⟩ ∧ Out h p tv 1 ((pre.filterMap Nd.call).map .str) N ∧ ¬ OutF p tv id0 ∧ F = fun j => OutF p tv j ∨ j = id0
theorem inv_JC {hB : AH} (h1 : hB.next ≤ id0) (h2 : hB.next ≤ N) : Inv hB (JC id0 p N fr) where
  lt := fun pre F h j ⟨tv, a, b, c, e⟩ hj => by subst e; exact hj.elim (b.lt j) fun e => e ▸ a.1
  ge := fun pre F h j ⟨tv, a, b, c, e⟩ hj => by subst e; exact hj.elim (fun hj => Nat.le_trans h2 (b.ge j hj)) fun e => e ▸ h1
  keep := fun pre F G h h' ⟨tv, a, b, c, e⟩ o hG => by
    subst e
    exact ⟨tv, a.keep o (hG _ (.inr rfl)), b.keep o (fun j hj => hG j (.inl hj)), c, rfl⟩
end
theorem yield30 {hB : AH} {T : Nd} (hv : T.ok hB) (hall : T.all.length ≤ 1048576) {id0 p N : Nat} (hid : hB.next ≤ id0) (v0 v1 v2 v4 v5 v6 v7 v8 v9 v10 v11 v12 v13 v14 v15 v16 v17 v18 v19 v20 v21 v22 v23 v24 v25 v26 v27 v28 v29 v30 v31 v32 : AV) :
    Yields 2 hB (.fn (.yield id0) [] []) T.all (JC id0 p N [v0, v1, v2, .ptr p 0, v4, v5, v6, v7, v8, v9, v10, v11, v12, v13, v14, v15, v16, v17, v18, v19, v20, v21, v22, v23, v24, v25, v26, v27, v28, v29, v30, v31, v32]) (fun _ _ _ => False) := by
  intro pre x post hpre F g hj q n2 hn2
  obtain ⟨k, rfl⟩ : ∃ k, n2 = k + 2 := ⟨n2 - 2, by omega⟩
  obtain ⟨tv, r1, o, hF, rfl⟩ := hj
  have hxok := Nd.all_ok _ (Nat.le_refl T.sz) hv x (by rw [hpre]; simp)
  have hlen : (pre.filterMap Nd.call).length + 1 ≤ 1048576 := by
    have h1 := congrArg List.length hpre
    simp only [List.length_append, List.length_cons] at h1
    have := List.length_filterMap_le Nd.call pre
    omega
  obtain ⟨g1, f1, f2, f3, f4⟩ := fill g [.int .i64 0, .str [], .bool false, .bool false, .nilSl, .nilSl, .nilSl, .nilSl, .nilSl, .nilSl] x.cells x.cells_len
  have sx := stV_agg (t := 49) (n := 10) (l := x.cells) z49 x.cells_len (Nd.atoms hxok) g.next 0 (g.alloc [.int .i64 0, .str [], .bool false, .bool false, .nilSl, .nilSl, .nilSl, .nilSl, .nilSl, .nilSl])
  rw [f1] at sx
  simp only [Option.map_some] at sx
  have r1' := r1.keep f3 (fun x => x)
  have r1l := r1.1
  have n1 := f3.next
  show ∃ b h' F', X (k + 1 + 1) (.yield id0) [.agg x.cells] g = some (.bool b, h') ∧ _
  rw [yield_run r1.2]
  unfold ra30_3
  simp (implicitDefEqProofs := false) only [core, reduceIte, R30, S30, new49, sx]
  rw [mid_ready r1'.2]
  have ob := Other.putOb (h := g1) (id := id0) (some (.loop ⟨.busy, 30, [v0, v1, v2, .ptr p 0, v4, v5, v6, v7, v8, v9, v10, v11, v12, v13, v14, v15, v16, v17, v18, v19, v20, v21, v22, v23, v24, v25, v26, v27, v28, v29, v30, v31, v32], #[9], ra30_3, rb30_4⟩))
  have rb := Rec.put (h := g1) (id := id0) ⟨.busy, 30, [v0, v1, v2, .ptr p 0, v4, v5, v6, v7, v8, v9, v10, v11, v12, v13, v14, v15, v16, v17, v18, v19, v20, v21, v22, v23, v24, v25, v26, v27, v28, v29, v30, v31, v32], #[9], ra30_3, rb30_4⟩ r1'.1
  have ng : (AH.putOb g1 id0 (some (.loop ⟨.busy, 30, [v0, v1, v2, .ptr p 0, v4, v5, v6, v7, v8, v9, v10, v11, v12, v13, v14, v15, v16, v17, v18, v19, v20, v21, v22, v23, v24, v25, v26, v27, v28, v29, v30, v31, v32], #[9], ra30_3, rb30_4⟩))).next = g1.next := rfl
  have q2 : Quiet hB (AH.putOb g1 id0 (some (.loop ⟨.busy, 30, [v0, v1, v2, .ptr p 0, v4, v5, v6, v7, v8, v9, v10, v11, v12, v13, v14, v15, v16, v17, v18, v19, v20, v21, v22, v23, v24, v25, v26, v27, v28, v29, v30, v31, v32], #[9], ra30_3, rb30_4⟩))) := (q.trans f3).plus ob fun j e => .inr (e ▸ hid)
  generalize AH.putOb g1 id0 (some (.loop ⟨.busy, 30, [v0, v1, v2, .ptr p 0, v4, v5, v6, v7, v8, v9, v10, v11, v12, v13, v14, v15, v16, v17, v18, v19, v20, v21, v22, v23, v24, v25, v26, v27, v28, v29, v30, v31, v32], #[9], ra30_3, rb30_4⟩)) = g2 at *
  have O2 : Out g2 p tv 1 ((pre.filterMap Nd.call).map .str) N := (o.quiet f3).keep ob fun j hj e => hF (e ▸ hj)
  have H2 := (f2.keep ob (F := fun j => j = id0) (by omega)).has
  -- behind the body
  have close : ∀ (fr' : List AV) (g3 : AH) (tv' : AV), Out g3 p tv' 1 (((pre ++ [x]).filterMap Nd.call).map .str) N → OS g2 g3 p tv tv' →
      ∃ b h' F', roundEnd id0 (some (.normal, fr', g3)) = some (.bool b, h') ∧ St (fun j => OutF p tv j ∨ j = id0) F' g h' ∧ (if b then JC id0 p N [v0, v1, v2, .ptr p 0, v4, v5, v6, v7, v8, v9, v10, v11, v12, v13, v14, v15, v16, v17, v18, v19, v20, v21, v22, v23, v24, v25, v26, v27, v28, v29, v30, v31, v32] (pre ++ [x]) F' h' else False) := by
    intro fr' g3 tv' O3 os
    have ro := rb.keep os.oth hF
    rw [end_normal ro.2]
    have hF3 : ¬ OutF p tv' id0 := fun hf => (os.fp _ hf).elim hF (by omega)
    refine ⟨true, _, fun j => OutF p tv' j ∨ j = id0, rfl, ⟨((f3.any.trans (ob.mono fun j _ e => .inr e)).trans (os.oth.mono fun j _ hj => .inl hj)).trans ((Other.putOb _).mono fun j _ e => .inr e), fun j hj => ?_⟩, ?_⟩
    · rcases hj with hj | hj
      · exact (os.fp j hj).elim (fun h => .inl (.inl h)) fun h => .inr (by omega)
      · exact .inl (.inr hj)
    · rw [if_pos rfl]
      exact ⟨tv', Rec.put _ ro.1, O3.keep (Other.putOb _) fun j hj e => hF3 (e ▸ hj), hF3, rfl⟩
  have none_ : x.call = none → ((pre ++ [x]).filterMap Nd.call) = pre.filterMap Nd.call := fun e => by rw [List.filterMap_append]; simp [e]
  unfold rb30_4
  obtain ⟨kd, name, nt, inn, so, ops, sa, az, sw, ws, sr, rs, sm, ms, sk, kids⟩ := x
  have c0 : g2.cell? g.next (0 + 0) = some (.int .i64 kd) := H2.cell (i := 0) rfl
  have c6 : g2.cell? g.next (0 + 6) = some sw := H2.cell (i := 6) rfl
  simp only [Nd.ok] at hxok
  obtain ⟨_, _, ⟨vw1, vw2⟩, _⟩ := hxok
  have Sw := vw1.quiet q2
  have hal : alen Try.prog 44 sw = some ws.length := by rw [Sw.alen u44, List.length_map]
  by_cases hk : kd = 4
  · subst hk
    have d : ((4 : Int) != 4) = false := rfl
    match ws, hal, Sw, vw2, close, none_ with
    | [], hal, _, _, close, none_ =>
      have e : ((([] : List Wd).length : Int) == 0) = true := rfl
      simp (implicitDefEqProofs := false) only [core, reduceIte, R30, S30, fa49_0, fa49_6, ld3, ld44, c0, c6, i_neq, d, hal, i_eql, e]
      exact close _ _ tv (by rw [none_ rfl]; exact O2) (OS.refl _ _ _)
    | .mk s ps :: l, hal, Sw, vw2, close, none_ =>
      have e : (((.mk s ps :: l : List Wd).length : Int) == 0) = false := by simp only [List.length_cons, beq_eq_false_iff_ne, ne_eq]; omega
      obtain ⟨id, off, i1, Hw⟩ := Sw.ix u44 z60 (i := 0) (x := [s]) rfl
      have i1 := i1 .i64
      simp only [nat0] at i1
      have rw1 := ldS Hw (n := 1) rfl
      simp only [okW, Wd.ok] at vw2
      have p54 := plain54 (vw2.1.1.quiet q2) k
      cases hp : plain ps with
      | none =>
        rw [hp] at p54
        simp only [Option.getD_none, Option.isSome_none] at p54
        simp (implicitDefEqProofs := false) only [core, reduceIte, R30, S30, fa49_0, fa49_6, ld3, ld44, c0, c6, i_neq, d, hal, i_eql, e, i1, ld60, rw1, p54]
        exact close _ _ tv (by rw [none_ hp]; exact O2) (OS.refl _ _ _)
      | some t =>
        rw [hp] at p54
        simp only [Option.getD_some, Option.isSome_some] at p54
        have co := O2.cell
        have b1 := bsl40 g2 t
        have qb : Quiet g2 (g2.alloc [.str t]) := Other.alloc _ _ _
        have Sb : Sl (g2.alloc [.str t]) (.sl g2.next 0 1 1 (some 1)) 1 [[.str t]] := sl_one (.str t) (some 1)
        have nb : (g2.alloc [.str t]).next = g2.next + 1 := rfl
        generalize g2.alloc [.str t] = g3 at *
        have hNg : N ≤ g3.next := by have := O2.le; have := O2.row.1; omega
        obtain ⟨s', g4, g5, a1, a2, a3, a4, a5⟩ := out_app (x := .sl g2.next 0 1 1 (some 1)) (new := [.str t]) (n := 1) (O2.quiet qb) hNg el9 u40 u40 rfl rfl Sb.first rfl rfl (by simp only [List.length_map, List.length_cons, List.length_nil]; omega)
        have st := stV_one (t := 40) (v := s') (by kernel_rfl) a3 p 0 g4
        rw [a2] at st
        simp only [Option.map_some] at st
        simp (implicitDefEqProofs := false) only [core, reduceIte, R30, S30, fa49_0, fa49_6, ld3, ld44, c0, c6, i_neq, d, hal, i_eql, e, i1, ld60, rw1, p54, ld40, co, b1, a1, st]
        refine close _ _ s' ?_ ((OS.of_quiet tv qb).trans a5)
        have hc : Nd.call (.mk 4 name nt inn so ops sa az sw (.mk s ps :: l) sr rs sm ms sk kids) = some t := hp
        rw [List.filterMap_append, List.filterMap_cons, hc, List.filterMap_nil, List.map_append]
        exact a4
  · have d : (kd != 4) = true := by simpa using hk
    simp (implicitDefEqProofs := false) only [core, reduceIte, R30, S30, fa49_0, fa49_6, ld3, ld44, c0, c6, i_neq, d]
    exact close _ _ tv (by rw [none_ (if_neg hk)]; exact O2) (OS.refl _ _ _)
theorem calls30 {h : AH} {T : Nd} (hb : T.sz ≤ 1048576) (hall : T.all.length ≤ 1048576) (hv : T.ok h) (n : Nat) (hn : 16 * T.sz + 30 ≤ n) :
    ∃ s2 h2, X n (.func 30) [.agg T.cells] h = some (s2, h2) ∧ Sl h2 s2 1 ((T.all.filterMap Nd.call).map fun t => [.str t]) ∧ Quiet h h2 ∧ SlNew s2 h.next := by
  obtain ⟨m, rfl⟩ : ∃ m, n = m + 2 := ⟨n - 2, by omega⟩
  have q1 : Quiet h (h.alloc T.cells) := Other.alloc _ _ _
  have H1 := Has.new h T.cells
  have n1 : (h.alloc T.cells).next = h.next + 1 := rfl
  have bx : boxV (.agg T.cells) h = some (.ptr h.next 0, h.alloc T.cells) := box_agg h T.cells
  rw [ent30]
  unfold cd30
  generalize h.alloc T.cells = h1 at *
  have q3 : Quiet h1 (h1.alloc [.nilSl]) := Other.alloc _ _ _
  have R3 := Row.new h1 [.nilSl]
  have n3 : (h1.alloc [.nilSl]).next = h1.next + 1 := rfl
  have bn := new40 h1
  generalize h1.alloc [.nilSl] = h3 at *
  have r1 := ldS (H1.quiet q3) (n := 10) T.cells_len
  have a51 := all51 T h3 m
  have q4 : Quiet h3 (h3.alloc T.cells) := Other.alloc _ _ _
  have H4 := Has.new h3 T.cells
  have n4 : (h3.alloc T.cells).next = h3.next + 1 := rfl
  generalize h3.alloc T.cells = h4 at *
  have q04 : Quiet h h4 := (q1.trans q3).trans q4
  have hrd : rdOK none h4 = true := rfl
  have qn := Other.newOb h4 (.loop ⟨.ready, 30, [.agg T.cells, .ptr h.next 0, .nilSl, .ptr h1.next 0, .tup [], .tup [], .tup [], .agg T.cells, .fn (.func 68) [] [.ptr h3.next 0], .tup [], .tup [], .tup [], .tup [], .tup [], .tup [], .tup [], .tup [], .tup [], .tup [], .tup [], .tup [], .tup [], .tup [], .tup [], .tup [], .tup [], .tup [], .tup [], .tup [], .tup [], .tup [], .tup [], .tup []], #[9], ra30_3, rb30_4⟩)
  have rn : Rec (h4.newOb (.loop ⟨.ready, 30, [.agg T.cells, .ptr h.next 0, .nilSl, .ptr h1.next 0, .tup [], .tup [], .tup [], .agg T.cells, .fn (.func 68) [] [.ptr h3.next 0], .tup [], .tup [], .tup [], .tup [], .tup [], .tup [], .tup [], .tup [], .tup [], .tup [], .tup [], .tup [], .tup [], .tup [], .tup [], .tup [], .tup [], .tup [], .tup [], .tup [], .tup [], .tup [], .tup [], .tup []], #[9], ra30_3, rb30_4⟩)) h4.next _ := ⟨Nat.lt_succ_self _, by rw [AH.ob?_newOb, if_pos rfl]⟩
  have nn : (h4.newOb (.loop ⟨.ready, 30, [.agg T.cells, .ptr h.next 0, .nilSl, .ptr h1.next 0, .tup [], .tup [], .tup [], .agg T.cells, .fn (.func 68) [] [.ptr h3.next 0], .tup [], .tup [], .tup [], .tup [], .tup [], .tup [], .tup [], .tup [], .tup [], .tup [], .tup [], .tup [], .tup [], .tup [], .tup [], .tup [], .tup [], .tup [], .tup [], .tup [], .tup [], .tup [], .tup [], .tup []], #[9], ra30_3, rb30_4⟩)).next = h4.next + 1 := rfl
  have Y := yield30 (id0 := h4.next) (p := h1.next) (N := h.next) hv hall q04.next (.agg T.cells) (.ptr h.next 0) .nilSl (.tup []) (.tup []) (.tup []) (.agg T.cells) (.fn (.func 68) [] [.ptr h3.next 0]) (.tup []) (.tup []) (.tup []) (.tup []) (.tup []) (.tup []) (.tup []) (.tup []) (.tup []) (.tup []) (.tup []) (.tup []) (.tup []) (.tup []) (.tup []) (.tup []) (.tup []) (.tup []) (.tup []) (.tup []) (.tup []) (.tup []) (.tup []) (.tup [])
  have I := inv_JC (hB := h) h4.next h1.next h.next [.agg T.cells, .ptr h.next 0, .nilSl, .ptr h1.next 0, .tup [], .tup [], .tup [], .agg T.cells, .fn (.func 68) [] [.ptr h3.next 0], .tup [], .tup [], .tup [], .tup [], .tup [], .tup [], .tup [], .tup [], .tup [], .tup [], .tup [], .tup [], .tup [], .tup [], .tup [], .tup [], .tup [], .tup [], .tup [], .tup [], .tup [], .tup [], .tup [], .tup []] q04.next (Nat.le_refl _)
  have IX : Inv h (fun _ _ _ => False) := ⟨fun _ _ _ _ h => h.elim, fun _ _ _ _ h => h.elim, fun _ _ _ _ _ h => h.elim⟩
  obtain ⟨h5, F5, w1, w2, w3⟩ := all68 _ (Nat.le_refl T.sz) hb hv I IX (by rfl) Y (F := fun j => OutF h1.next .nilSl j ∨ j = h4.next)
    ⟨.nilSl, rn, ⟨(R3.keep (F := fun _ => False) q4 (fun x => x)).keep (F := fun _ => False) qn (fun x => x), Own.nil _ _ _, by omega, fun _ _ _ _ e => by cases e⟩, fun hf => absurd (outF_nil hf) (by omega), rfl⟩ (q04.trans qn) (b := h3.next) (H4.quiet qn)
    (fun hf => hf.elim (fun hf => absurd (outF_nil hf) (by omega)) (by omega)) (m + 1) (by omega)
  have hF5 : ∀ j, OutF h1.next .nilSl j ∨ j = h4.next → h.next ≤ j := fun j hf => by
    rcases hf with hf | hf
    · have := outF_nil hf; omega
    · omega
  have qf : Quiet h h5 := (q04.trans qn).plus w2.oth fun j hj => .inr (hF5 j hj)
  simp (implicitDefEqProofs := false) only [core, reduceIte, R30, S30, bx, bn, ld49, r1, a51, run_range, hrd, callF_func, hb68]
  generalize hr : rangeEnd _ _ _ = r
  revert r hr
  rcases w3 with ⟨tv, t1, t2, t3, _⟩ | ⟨_, w3⟩
  · refine range_all ⟨_, h5, _, w1, t1.2, .inl ⟨rfl, ?_⟩⟩
    have O6 := t2.keep (Other.putOb (id := h4.next) none) fun j hj e => t3 (e ▸ hj)
    have c5 := O6.cell
    have qg : Quiet h (h5.putOb h4.next none) := qf.plus (Other.putOb none) fun j e => .inr (by omega)
    simp (implicitDefEqProofs := false) only [core, reduceIte, R30, S30, ld40, c5]
    have hfl : ((T.all.filterMap Nd.call).map fun t => [AV.str t]).flatten = (T.all.filterMap Nd.call).map .str := by
      generalize T.all.filterMap Nd.call = l
      induction l with
      | nil => rfl
      | cons a l ih => simp only [List.map_cons, List.flatten_cons, ih, List.cons_append, List.nil_append]
    have O7 := O6.own
    rw [← hfl] at O7
    exact nrm_own3 O7 qg (fun x hx => by obtain ⟨c, _, rfl⟩ := List.mem_map.mp hx; rfl) (by omega) (fun a ha => by
      rw [hfl] at ha
      obtain ⟨t, _, rfl⟩ := List.mem_map.mp ha
      rfl)
  · exact w3.elim
end Go.Proofs.Ytgnacecplaemlaa
/-
  The law of the counts, and the statement's function.
-/
namespace Go.Proofs.Ytgnacecplaemlaa
open AI
set_option linter.unusedSimpArgs false
theorem sum_flatMap {α β : Type} (g : β → Nat) (f : α → List β) (l : List α) : ((l.flatMap f).map g).sum = (l.map fun a => ((f a).map g).sum).sum := by
  induction l with
  | nil => rfl
  | cons a l ih => simp only [List.flatMap_cons, List.map_append, List.sum_append, ih, List.map_cons, List.sum_cons]
theorem sum_cnt (l : List Nd) : (l.map Nd.cnt).sum = cntN l := by
  induction l with
  | nil => simp [cntN]
  | cons a l ih => simp only [List.map_cons, List.sum_cons, ih, cntN]
theorem Wd.cmds_cnt (w : Wd) : (w.cmds.map Nd.cnt).sum = cntP w.ps := by
  unfold Wd.cmds
  rw [sum_flatMap, ← cnt_cmds]
  congr 2
  funext c
  exact sum_cnt c.2
def cntWs (l : List Wd) : Nat := (l.map fun w => cntP w.ps).sum
theorem cntWs_append (a b : List Wd) : cntWs (a ++ b) = cntWs a + cntWs b := by simp [cntWs]
theorem cntWs_eq (l : List Wd) : cntWs l = cntW l := by
  induction l with
  | nil => simp [cntWs, cntW]
  | cons w l ih => cases w; simp only [cntWs, List.map_cons, List.sum_cons, cntW, Wd.ps] at *; omega
theorem cntR_eq (l : List Rdr) : cntWs (l.map Rdr.to) = cntR l := by
  induction l with
  | nil => simp [cntWs, cntR]
  | cons w l ih => cases w; simp only [cntWs, List.map_cons, List.sum_cons, cntR, Wd.ps, Rdr.to] at *; omega
theorem cntM_eq (l : List Am) : cntWs (l.flatMap Am.pats) + ((l.map Am.body).map Nd.cnt).sum = cntM l := by
  induction l with
  | nil => simp [cntWs, cntM]
  | cons w l ih =>
    obtain ⟨s, pats, body⟩ := w
    have e := cntWs_append pats (l.flatMap Am.pats)
    have e2 := cntWs_eq pats
    simp only [List.flatMap_cons, List.map_cons, List.sum_cons, cntM, Am.pats, Am.body]
    omega
theorem cmds_cntWs (l : List Wd) : ((l.flatMap Wd.cmds).map Nd.cnt).sum = cntWs l := by
  rw [sum_flatMap]
  unfold cntWs
  congr 2
  funext w
  exact w.cmds_cnt
theorem Nd.under_cnt (n : Nd) : (n.under.map Nd.cnt).sum + 1 = n.cnt := by
  have e : n.under = n.own.flatMap Wd.cmds ++ n.arms.map Am.body ++ n.kids := rfl
  rw [e, List.map_append, List.map_append, List.sum_append, List.sum_append, cmds_cntWs, sum_cnt n.kids]
  cases n with
  | mk k name nt inn so ops sa az sw ws sr rs sm ms sk kids =>
    have h0 : cntWs (Nd.own (.mk k name nt inn so ops sa az sw ws sr rs sm ms sk kids)) = cntWs az + cntWs ws + cntWs (rs.map Rdr.to) + cntWs (ms.flatMap Am.pats) := by
      simp only [Nd.own]
      rw [cntWs_append, cntWs_append, cntWs_append]
    have h1 := cntWs_eq az
    have h2 := cntWs_eq ws
    have h3 := cntR_eq rs
    have h4 := cntM_eq ms
    simp only [Nd.kids, Nd.arms, Nd.cnt]
    omega
theorem all_len : ∀ (M : Nat) {n : Nd}, n.sz ≤ M → n.all.length = n.cnt := by
  intro M
  induction M with
  | zero => intro n hm; have := n.sz_pos; omega
  | succ M ih =>
    intro n hm
    rw [Nd.all_eq, List.length_cons, List.length_flatMap, ← n.under_cnt]
    congr 2
    refine List.map_congr_left fun x hx => ?_
    exact ih (by have := Nd.under_sz hx; omega)
end Go.Proofs.Ytgnacecplaemlaa
/-
  The reference's words of a command.
-/
namespace Go.Proofs.Ytgnacecplaemlaa
open AI
set_option linter.unusedSimpArgs false
theorem pair_mk {call : ACall} {ops : Array Oper} {fr : List AV} {h : AH} {i j : Nat} (s sj sj1 : List AV × AH) (v : AV) (a : aops Try.prog call ops (List.range i) fr h = some s) (b : aops Try.prog call ops (List.range j) fr h = some sj)
    (c : aops Try.prog call ops (List.range (j + 1)) fr h = some sj1) (d : loadI Try.prog ops i s.1 s.2 = some v) (e : loadI Try.prog ops i s.1 sj.2 = some v) (g : loadI Try.prog ops i s.1 sj1.2 = some v) : PairOK Try.prog call ops fr h i j :=
  ⟨s, sj, sj1, v, a, b, c, d, e, g⟩
theorem bslz44 (h : AH) : bslV Try.prog 44 0 [] h = some (.sl h.next 0 0 1 (some 0), h.alloc []) := by kernel_rfl
theorem words58 {h : AH} {T : Nd} (hb : T.sz ≤ 1048576) (hv : T.ok h) (n : Nat) (hn : T.sz + 8 ≤ n) :
    ∃ s2 h2, X n (.func 58) [.agg T.cells] h = some (s2, h2) ∧ Sl h2 s2 1 (T.own.map Wd.cells) ∧ Quiet h h2 ∧ SlNew s2 h.next := by
  obtain ⟨m, rfl⟩ : ∃ m, n = m + 1 := ⟨n - 1, by omega⟩
  have howns := T.own_sz
  have hownl := szW_len T.own
  have hownk := Nd.own_ok hv
  obtain ⟨kd, name, nt, inn, so, ops, sa, az, sw, ws, sr, rs, sm, ms, sk, kids⟩ := T
  simp only [Nd.sz] at hb hn howns
  simp only [Nd.ok] at hv
  obtain ⟨vo, ⟨va1, va2⟩, ⟨vw1, vw2⟩, ⟨vr1, vr2⟩, ⟨vm1, vm2⟩, vk1, vk2⟩ := hv
  have q1 : Quiet h (h.alloc (Nd.cells (.mk kd name nt inn so ops sa az sw ws sr rs sm ms sk kids))) := Other.alloc _ _ _
  have HB := Has.new h (Nd.cells (.mk kd name nt inn so ops sa az sw ws sr rs sm ms sk kids))
  have bx : boxV (.agg (Nd.cells (.mk kd name nt inn so ops sa az sw ws sr rs sm ms sk kids))) h = some (.ptr h.next 0, h.alloc (Nd.cells (.mk kd name nt inn so ops sa az sw ws sr rs sm ms sk kids))) := box_agg h _
  rw [ent58]
  unfold cd58
  generalize h.alloc (Nd.cells (.mk kd name nt inn so ops sa az sw ws sr rs sm ms sk kids)) = h1 at *
  have cell : ∀ {h' : AH}, Quiet h1 h' → ∀ i v, (Nd.cells (.mk kd name nt inn so ops sa az sw ws sr rs sm ms sk kids))[i]? = some v → h'.cell? h.next i = some v := fun q i v hi => by
    have := (HB.quiet q).cell hi
    rwa [Nat.zero_add] at this
  have q2 : Quiet h1 (h1.alloc []) := Other.alloc _ _ _
  have o2 : Own (h1.alloc []) (.sl h1.next 0 0 1 (some 0)) 1 [] h1.next := .inr ⟨h1.next, 0, some 0, rfl, rfl, Nat.le_refl _, Row.new h1 []⟩
  have bz := bslz44 h1
  have n2 : (h1.alloc []).next = h1.next + 1 := rfl
  generalize h1.alloc [] = h2 at *
  have la := szW_len az
  have lw := szW_len ws
  have lr2 := szR_len rs
  have lm2 := szM_len ms
  have q12 := q1.trans q2
  have Sa := va1.quiet q12
  obtain ⟨s3, h3, a1, a2, a3, _⟩ := own_app (x := sa) (new := az.map Wd.sl) (n := az.length) o2 (by omega) el60 u44 u44 rfl (by rw [Sa.alenOf, List.length_map]) (by rw [Sa.first, wd_flat']) (by simp) (atoms_map _ _ fun w hww => Wd.sl_atom (okW_mem va2 w hww)) (by simp only [List.length_map, List.length_nil]; omega)
  have q3 : Quiet h1 h3 := q2.beyond a3
  have Sw := (vw1.quiet q1).quiet q3
  have n3 := q3.next
  obtain ⟨s4, h4, b1, b2, b3, _⟩ := own_app (x := sw) (new := ws.map Wd.sl) (n := ws.length) a2 n3 el60 u44 u44 rfl (by rw [Sw.alenOf, List.length_map]) (by rw [Sw.first, wd_flat']) (by simp) (atoms_map _ _ fun w hww => Wd.sl_atom (okW_mem vw2 w hww)) (by simp only [List.length_append, List.length_map, List.length_nil]; omega)
  have q4 : Quiet h1 h4 := q3.beyond b3
  have c5_1 := cell (Other.refl _ _) 5 sa rfl
  have c6_1 := cell (Other.refl _ _) 6 sw rfl
  have c5_2 := cell q2 5 sa rfl
  have c6_2 := cell q2 6 sw rfl
  have c6_3 := cell q3 6 sw rfl
  have c7 := cell q4 7 sr rfl
  have h0 : aops Try.prog (X m) (rg Try.f58 1) [0, 1, 2, 3, 4, 5, 6, 7] [.agg (Nd.cells (.mk kd name nt inn so ops sa az sw ws sr rs sm ms sk kids)), .ptr h.next 0, .nilSl, .tup [], .tup [], .tup [], .tup [], .tup [], .tup [], .tup [], .tup [], .tup [], .tup [], .tup [], .tup [], .tup [], .tup [], .tup [], .tup [], .tup [], .tup [], .tup [], .tup [], .tup [], .tup [], .tup [], .tup [], .tup [], .tup [], .tup [], .tup [], .tup [], .tup [], .tup [], .tup [], .tup [], .tup [], .tup [], .tup [], .tup [], .tup [], .tup [], .tup [], .tup [], .tup []] h1 =
      some ([.agg (Nd.cells (.mk kd name nt inn so ops sa az sw ws sr rs sm ms sk kids)), .ptr h.next 0, .nilSl, s4, .tup [], .tup [], .sl h1.next 0 0 1 (some 0), .ptr h.next 5, sa, s3, .ptr h.next 6, sw, s4, .tup [], .tup [], .tup [], .tup [], .tup [], .tup [], .tup [], .tup [], .tup [], .tup [], .tup [], .tup [], .tup [], .tup [], .tup [], .tup [], .tup [], .tup [], .tup [], .tup [], .tup [], .tup [], .tup [], .tup [], .tup [], .tup [], .tup [], .tup [], .tup [], .tup [], .tup [], .tup []], h4) := by
    simp (implicitDefEqProofs := false) only [core, reduceIte, R58, S58, bz, fa49_5, fa49_6, Nat.zero_add, ld44, c5_2, a1, c6_3, b1]
  have hd := drw58_1 58 (X m) m none _ _ h0 (fun q hq => by
    simp only [List.mem_cons, List.not_mem_nil, or_false] at hq
    rcases hq with rfl | rfl | rfl
    · refine pair_mk _ _ _ sa (by rw [rng58_1_2]; simp (implicitDefEqProofs := false) only [core, reduceIte, R58, S58, bz, fa49_5, Nat.zero_add]; rfl) (by rw [rng58_1_0]; rfl) (by rw [rng58_1_1]; simp (implicitDefEqProofs := false) only [core, reduceIte, R58, S58, bz]; rfl) ?_ ?_ ?_
      · rw [li58_1_2]; simp (implicitDefEqProofs := false) only [core, reduceIte, ld44, c5_2]
      · rw [li58_1_2]; simp (implicitDefEqProofs := false) only [core, reduceIte, ld44, c5_1]
      · rw [li58_1_2]; simp (implicitDefEqProofs := false) only [core, reduceIte, ld44, c5_2]
    · refine pair_mk _ _ _ sw (by rw [rng58_1_5]; simp (implicitDefEqProofs := false) only [core, reduceIte, R58, S58, bz, fa49_5, fa49_6, Nat.zero_add, ld44, c5_2, a1]; rfl) (by rw [rng58_1_0]; rfl) (by rw [rng58_1_1]; simp (implicitDefEqProofs := false) only [core, reduceIte, R58, S58, bz]; rfl) ?_ ?_ ?_
      · rw [li58_1_5]; simp (implicitDefEqProofs := false) only [core, reduceIte, ld44, c6_3]
      · rw [li58_1_5]; simp (implicitDefEqProofs := false) only [core, reduceIte, ld44, c6_1]
      · rw [li58_1_5]; simp (implicitDefEqProofs := false) only [core, reduceIte, ld44, c6_2]
    · refine pair_mk _ _ _ sw (by rw [rng58_1_5]; simp (implicitDefEqProofs := false) only [core, reduceIte, R58, S58, bz, fa49_5, fa49_6, Nat.zero_add, ld44, c5_2, a1]; rfl) (by rw [rng58_1_3]; simp (implicitDefEqProofs := false) only [core, reduceIte, R58, S58, bz, fa49_5, Nat.zero_add, ld44, c5_2]; rfl) (by rw [rng58_1_4]; simp (implicitDefEqProofs := false) only [core, reduceIte, R58, S58, bz, fa49_5, Nat.zero_add, ld44, c5_2, a1]; rfl) ?_ ?_ ?_
      · rw [li58_1_5]; simp (implicitDefEqProofs := false) only [core, reduceIte, ld44, c6_3]
      · rw [li58_1_5]; simp (implicitDefEqProofs := false) only [core, reduceIte, ld44, c6_2]
      · rw [li58_1_5]; simp (implicitDefEqProofs := false) only [core, reduceIte, ld44, c6_3])
  simp (implicitDefEqProofs := false) only [core, reduceIte, R58, S58, bx, hd]
  generalize hr : aloop _ _ _ _ _ = r
  revert r hr
  have tot : ∀ (a : List Wd), (∃ b, (Nd.mk kd name nt inn so ops sa az sw ws sr rs sm ms sk kids).own = a ++ b) → a.length ≤ 1048576 := fun a ⟨b, e⟩ => by
    rw [e, List.length_append] at hownl
    rw [e] at howns
    omega
  refine loop_all rs.length (fun i h' fr => ∃ t, Quiet h1 h' ∧ Own h' t 1 ((az ++ ws ++ (rs.take i).map Rdr.to).map Wd.sl) h1.next ∧ fr = C58_3 (.ptr h.next 0) t (.int .i64 (i : Int))) ?_ ?_ ⟨s4, q4, by simpa using b2, by rw [cl58_3]; rfl⟩ (by omega)
  · rintro i h' fr hi ⟨t, q, o, e⟩ k hk
    have hm : rs[i]? = some rs[i] := List.getElem?_eq_getElem hi
    have htk := take_next hi
    have hmem : rs[i] ∈ rs := List.getElem_mem hi
    have hx : (rs.map Rdr.cells)[i]? = some rs[i].cells := by rw [List.getElem?_map, hm]; rfl
    obtain ⟨id, off, i1, H⟩ := vr1.ix u45 z73 hx
    have hok := okR_mem vr2 _ hmem
    have hto : (az ++ ws ++ (rs.take (i + 1)).map Rdr.to).map Wd.sl = (az ++ ws ++ (rs.take i).map Rdr.to).map Wd.sl ++ [rs[i].to.sl] := by rw [htk]; simp only [List.map_append, List.map_cons, List.map_nil, List.append_assoc]
    have htl := tot (az ++ ws ++ (rs.take (i + 1)).map Rdr.to) ⟨(rs.drop (i + 1)).map Rdr.to ++ ms.flatMap Am.pats, by
      have : rs.map Rdr.to = (rs.take (i + 1)).map Rdr.to ++ (rs.drop (i + 1)).map Rdr.to := by rw [← List.map_append, List.take_append_drop]
      simp only [Nd.own, this, List.append_assoc]⟩
    have hlen : ((az ++ ws ++ (rs.take i).map Rdr.to).map Wd.sl).length + 1 ≤ 1048576 := by
      have hl := congrArg List.length hto
      simp only [List.length_append, List.length_map, List.length_cons, List.length_nil] at hl htl ⊢
      omega
    generalize rs[i] = x at *
    obtain ⟨num, op, s, ps, here⟩ := x
    simp only [Rdr.ok] at hok
    simp only [Rdr.cells] at H
    have qq := q1.trans q
    have c7 := cell q 7 sr rfl
    have hlr : alen Try.prog 45 sr = some rs.length := by rw [vr1.alen u45, List.length_map]
    have r2 : (h'.cells? id 1 (off + 2)).map AV.agg = some (.agg [s]) := ldS (Has.part (a := [.str num, .int .i64 op]) (p := [s]) (c := [.str here]) (H.quiet qq)) (n := 1) rfl
    have bl := bsl60 h' s
    obtain ⟨s5, h5, p1, p2, p3, _⟩ := own_app (x := .sl h'.next 0 1 1 (some 1)) (new := [s]) (n := 1) (o.quiet (Other.alloc _ h' [s])) (Nat.le_trans q.next (Nat.le_succ _)) el60 u44 u44 rfl rfl ((sl_one s (some 1)).first) rfl (by simp only [atoms, hok.1.atom, Bool.and_self]) (by simp only [List.length_singleton]; omega)
    have d : decide ((i : Int) < (rs.length : Int)) = true := by simp; omega
    have w := wrap_succ i (by omega)
    rw [e]
    unfold C58_3 lp58_3
    simp (implicitDefEqProofs := false) only [core, reduceIte, R58, S58, fa49_7, Nat.zero_add, ld45, c7, hlr, i_lss, d, i1, fa73_2, ld60, r2, bl, p1, i_add, w]
    exact hk _ _ ⟨s5, (q.more [s]).beyond p3, by rw [hto]; exact p2, by rw [cl58_3]⟩
  · rintro h' fr ⟨t, q, o, e⟩ k
    have c7 := cell q 7 sr rfl
    have hlr : alen Try.prog 45 sr = some rs.length := by rw [vr1.alen u45, List.length_map]
    have d : decide ((rs.length : Int) < (rs.length : Int)) = false := by simp
    rw [e]
    unfold C58_3 lp58_3
    simp (implicitDefEqProofs := false) only [core, reduceIte, R58, S58, fa49_7, Nat.zero_add, ld45, c7, hlr, i_lss, d]
    generalize hr : aloop _ _ _ _ _ = r
    revert r hr
    rw [List.take_length] at o
    refine loop_all ms.length (fun i h'' fr => ∃ t, Quiet h1 h'' ∧ Own h'' t 1 ((az ++ ws ++ rs.map Rdr.to ++ (ms.take i).flatMap Am.pats).map Wd.sl) h1.next ∧ fr = C58_7 (.ptr h.next 0) t (.int .i64 (i : Int))) ?_ ?_ ⟨t, q, by simpa using o, by rw [cl58_7]; rfl⟩ (by omega)
    · rintro i h'' fr hi ⟨t, q, o, e⟩ k2 hk2
      have hm : ms[i]? = some ms[i] := List.getElem?_eq_getElem hi
      have htk := take_next hi
      have hmem : ms[i] ∈ ms := List.getElem_mem hi
      have hx : (ms.map Am.cells)[i]? = some ms[i].cells := by rw [List.getElem?_map, hm]; rfl
      obtain ⟨id, off, i1, H⟩ := vm1.ix u46 z76 hx
      have hok := okM_mem vm2 _ hmem
      have hto : (az ++ ws ++ rs.map Rdr.to ++ (ms.take (i + 1)).flatMap Am.pats).map Wd.sl = (az ++ ws ++ rs.map Rdr.to ++ (ms.take i).flatMap Am.pats).map Wd.sl ++ ms[i].pats.map Wd.sl := by
        rw [htk]; simp only [List.map_append, List.flatMap_append, List.flatMap_cons, List.flatMap_nil, List.append_nil, List.append_assoc]
      have htl := tot (az ++ ws ++ rs.map Rdr.to ++ (ms.take (i + 1)).flatMap Am.pats) ⟨(ms.drop (i + 1)).flatMap Am.pats, by
        have : ms.flatMap Am.pats = (ms.take (i + 1)).flatMap Am.pats ++ (ms.drop (i + 1)).flatMap Am.pats := by rw [← List.flatMap_append, List.take_append_drop]
        simp only [Nd.own, this, List.append_assoc]⟩
      have hlen : ((az ++ ws ++ rs.map Rdr.to ++ (ms.take i).flatMap Am.pats).map Wd.sl).length + (ms[i].pats.map Wd.sl).length ≤ 1048576 := by
        have hl := congrArg List.length hto
        simp only [List.length_append, List.length_map] at hl htl ⊢
        omega
      generalize ms[i] = x at *
      obtain ⟨s, pats, body⟩ := x
      simp only [Am.ok] at hok
      simp only [Am.pats] at hto hlen
      have qq := q1.trans q
      have c8 := cell q 8 sm rfl
      have hlm : alen Try.prog 46 sm = some ms.length := by rw [vm1.alen u46, List.length_map]
      have r2 : h''.cell? id off = some s := by have := (H.quiet qq).cell (i := 0) (v := s) rfl; rwa [Nat.add_zero] at this
      have hS := hok.1.quiet qq
      have hpo : ∀ w ∈ pats, w.ok h := fun w hw => okW_mem hok.2.1 w hw
      obtain ⟨s5, h5, p1, p2, p3, _⟩ := own_app (x := s) (new := pats.map Wd.sl) (n := pats.length) o q.next el60 u44 u44 rfl (by rw [hS.alenOf, List.length_map]) (by rw [hS.first, wd_flat']) (by simp) (atoms_map _ _ fun w hww => Wd.sl_atom (hpo w hww)) (by omega)
      have d : decide ((i : Int) < (ms.length : Int)) = true := by simp; omega
      have w := wrap_succ i (by omega)
      rw [e]
      unfold C58_7 lp58_7
      simp (implicitDefEqProofs := false) only [core, reduceIte, R58, S58, fa49_8, Nat.zero_add, Nat.add_zero, ld46, c8, hlm, i_lss, d, i1, fa76_0, ld44, r2, p1, i_add, w]
      exact hk2 _ _ ⟨s5, q.beyond p3, by rw [hto]; exact p2, by rw [cl58_7]⟩
    · rintro h'' fr ⟨t, q, o, e⟩ k2
      have c8 := cell q 8 sm rfl
      have hlm : alen Try.prog 46 sm = some ms.length := by rw [vm1.alen u46, List.length_map]
      have d : decide ((ms.length : Int) < (ms.length : Int)) = false := by simp
      rw [e]
      unfold C58_7 lp58_7
      simp (implicitDefEqProofs := false) only [core, reduceIte, R58, S58, fa49_8, Nat.zero_add, ld46, c8, hlm, i_lss, d]
      rw [List.take_length, ← wd_flat'] at o
      have o2 : Own h'' t 1 ((Nd.mk kd name nt inn so ops sa az sw ws sr rs sm ms sk kids).own.map Wd.cells).flatten h.next := by
        rcases o with g | ⟨id, len, c, e1, e2, e3, e4⟩
        · exact .inl g
        · exact .inr ⟨id, len, c, e1, e2, Nat.le_trans q1.next e3, e4⟩
      exact nrm_own3 o2 (q1.trans q) (fun x hx => by obtain ⟨c, _, rfl⟩ := List.mem_map.mp hx; exact c.cells_len) (by omega) (fun a ha => by
        rw [wd_flat'] at ha
        obtain ⟨c, hc, rfl⟩ := List.mem_map.mp ha
        exact Wd.sl_old (okW_mem hownk c hc))
end Go.Proofs.Ytgnacecplaemlaa
/-
  The reference's nodes just below a command.
-/
namespace Go.Proofs.Ytgnacecplaemlaa
open AI
set_option linter.unusedSimpArgs false
set_option linter.unusedVariables false
theorem bsl49n (h : AH) (x : Nd) : bslV Try.prog 47 1 [(0, .agg x.cells)] h = some (.sl h.next 0 1 10 (some 1), h.alloc x.cells) := by
  obtain ⟨kd, name, nt, inn, so, ops, sa, az, sw, ws, sr, rs, sm, ms, sk, kids⟩ := x
  unfold Nd.cells
  kernel_rfl
/-- Two slices whose blocks are not one. -/
def Apt (t s : AV) : Prop := ∀ id o1 l1 e1 c1 o2 l2 e2 c2, t = .sl id o1 l1 e1 c1 → s = .sl id o2 l2 e2 c2 → False
theorem Apt.new {t s : AV} {N : Nat} (hs : SlNew s N) (ht : ∀ id off len es c, t = .sl id off len es c → id < N) : Apt t s := fun id o1 l1 e1 c1 o2 l2 e2 c2 x y => by
  have h1 := hs _ _ _ _ _ y
  have h2 := ht _ _ _ _ _ x
  omega
theorem Own.lt {h : AH} {s : AV} {es N : Nat} {l : List AV} (o : Own h s es l N) : ∀ id off len es' c, s = .sl id off len es' c → id < h.next := fun id off len es' c e => by
  rcases o with ⟨rfl, _⟩ | ⟨id', len', c', rfl, _, _, R⟩
  · cases e
  · injection e with e
    rw [← e]; exact R.1
theorem Sl.lt {h : AH} {s : AV} {es : Nat} {L : List (List AV)} (S : Sl h s es L) : ∀ id off len es' c, s = .sl id off len es' c → id < h.next := fun id off len es' c e => by
  rcases S.2 with ⟨rfl, rfl | ⟨id', off', c', rfl, hl⟩⟩ | ⟨id', off', c', rfl, H⟩
  · cases e
  · injection e with e
    rw [← e]; exact hl
  · injection e with e
    rw [← e]; exact H.1
/-- An append to one's own leaves another slice as it is. -/
theorem Sl.app {h h' : AH} {t s : AV} {es : Nat} {L : List (List AV)} (S : Sl h s es L) (a : Apt t s) (o : Other (SlF t) h h') : Sl h' s es L :=
  S.keep o fun id off len es' c e ⟨o1, l1, e1, c1, e2⟩ => a _ _ _ _ _ _ _ _ _ e2 e
theorem Apt.app {h : AH} {t t' s : AV} {es es2 : Nat} {L : List (List AV)} (a : Apt t s) (S : Sl h s es2 L) (hi : ∀ id off len c, t' = .sl id off len es c → (∃ off len c, t = .sl id off len es c) ∨ h.next ≤ id) (he : ∀ id off len es' c, t' = .sl id off len es' c → es' = es) : Apt t' s :=
  fun id o1 l1 e1 c1 o2 l2 e2 c2 x y => by
    have h1 := he _ _ _ _ _ x
    subst h1
    rcases hi _ _ _ _ x with ⟨_, _, _, e⟩ | h1
    · exact a _ _ _ _ _ _ _ _ _ e y
    · have := S.lt _ _ _ _ _ y; omega
theorem Own.es {h : AH} {s : AV} {es N : Nat} {l : List AV} (o : Own h s es l N) : ∀ id off len es' c, s = .sl id off len es' c → es' = es := fun id off len es' c e => by
  rcases o with ⟨rfl, _⟩ | ⟨id', len', c', rfl, _, _, R⟩
  · cases e
  · injection e with e1 e2 e3 e4; exact e4.symm
theorem nd_flat (l : List Nd) : (l.map Nd.cells).flatten.length = l.length * 10 := flat_cells l
theorem nd_atoms {h : AH} {l : List Nd} (hl : ∀ x ∈ l, x.ok h) : atoms (l.map Nd.cells).flatten = true := by
  induction l with
  | nil => rfl
  | cons x l ih =>
    have h1 := Nd.atoms (hl x (by simp))
    have h2 := ih fun y hy => hl y (by simp [hy])
    simp only [List.map_cons, List.flatten_cons]
    have : ∀ (a b : List AV), atoms a = true → atoms b = true → atoms (a ++ b) = true := fun a b ha hb => by
      induction a with
      | nil => exact hb
      | cons y a ih2 => simp only [atoms, List.cons_append, Bool.and_eq_true] at ha ⊢; exact ⟨ha.1, ih2 ha.2⟩
    exact this _ _ h1 h2
theorem under_len (T : Nd) : T.under.length ≤ T.sz := by
  have h1 := T.under_cnt
  have h2 := T.cnt_le
  have h3 : ∀ (l : List Nd), l.length ≤ (l.map Nd.cnt).sum := fun l => by
    induction l with
    | nil => simp
    | cons x l ih =>
      simp only [List.map_cons, List.sum_cons, List.length_cons]
      have : 1 ≤ x.cnt := by cases x; simp only [Nd.cnt]; omega
      omega
  have := h3 T.under
  omega
theorem below55 {h : AH} {T : Nd} (hb : T.sz ≤ 1048576) (hv : T.ok h) (n : Nat) (hn : 4 * T.sz + 12 ≤ n) :
    ∃ s2 h2, X n (.func 55) [.agg T.cells] h = some (s2, h2) ∧ Sl h2 s2 10 (T.under.map Nd.cells) ∧ Quiet h h2 ∧ SlNew s2 h.next := by
  obtain ⟨m, rfl⟩ : ∃ m, n = m + 1 := ⟨n - 1, by omega⟩
  have howns := T.own_sz
  have hownl := szW_len T.own
  have hownk := Nd.own_ok hv
  have hul := under_len T
  have q1 : Quiet h (h.alloc T.cells) := Other.alloc _ _ _
  have HB := Has.new h T.cells
  have bx : boxV (.agg T.cells) h = some (.ptr h.next 0, h.alloc T.cells) := box_agg h _
  rw [ent55]
  unfold cd55
  generalize h.alloc T.cells = h1 at *
  have r1 := ldS HB (n := 10) T.cells_len
  obtain ⟨s2, h2, g1, g2, g3, g4⟩ := words58 hb (hv.quiet q1) m (by omega)
  have q02 : Quiet h h2 := q1.trans g3
  have hl1 : alen Try.prog 44 s2 = some T.own.length := by rw [g2.alen u44, List.length_map]
  have tot : ∀ (a : List Nd), (∃ b, T.under = a ++ b) → a.length ≤ 1048576 ∧ ∀ x ∈ a, x.ok h := fun a ⟨b, e⟩ => by
    refine ⟨?_, fun x hx => Nd.under_ok hv (by rw [e]; simp [hx])⟩
    rw [e, List.length_append] at hul
    omega
  have hun : T.under = T.own.flatMap Wd.cmds ++ T.arms.map Am.body ++ T.kids := rfl
  simp (implicitDefEqProofs := false) only [core, reduceIte, R55, S55, bx, ld49, r1, g1]
  generalize hr : aloop _ _ _ _ _ = r
  revert r hr
  refine loop_all T.own.length (fun i h' fr => ∃ t, Quiet h2 h' ∧ Own h' t 10 (((T.own.take i).flatMap Wd.cmds).map Nd.cells).flatten h2.next ∧ fr = C55_4 (.ptr h.next 0) t s2 (.int .i64 (i : Int))) ?_ ?_ ⟨.nilSl, Other.refl _ _, Own.nil _ _ _, by rw [cl55_4]; rfl⟩ (by omega)
  · rintro i h' fr hi ⟨t, q, o, e⟩ k hk
    have hx : (T.own.map Wd.cells)[i]? = some T.own[i].cells := by rw [List.getElem?_map, List.getElem?_eq_getElem hi]; rfl
    obtain ⟨id, off, i1, H⟩ := (g2.quiet q).ix u44 z60 hx
    have hok := okW_mem hownk _ (List.getElem_mem hi)
    have hsz := szW_mem (List.getElem_mem hi)
    have hsp := flatMap_split Wd.cmds hi
    have hne := flatMap_next Wd.cmds hi
    generalize T.own[i] = w at *
    obtain ⟨s, ps⟩ := w
    simp only [Wd.ok] at hok
    simp only [Wd.sz] at hsz
    simp only [Wd.cells] at H
    have r2 : h'.cell? id off = some s := by have := H.cell (i := 0) (v := s) rfl; rwa [Nat.add_zero] at this
    have qb := q02.trans q
    obtain ⟨s3, h3, p1, p2, p3, p4⟩ := cmds67 _ (Nat.le_refl _) (by omega) (okP.quiet qb hok.2) (hok.1.quiet qb) m (by omega)
    have hl2 : alen Try.prog 89 s3 = some (cmds ps).length := by rw [p2.alen u89, List.length_map]
    have hcl := cmds_len ps
    have d : decide ((i : Int) < (T.own.length : Int)) = true := by simp; omega
    have w := wrap_succ i (by omega)
    rw [e]
    unfold C55_4 lp55_4
    simp (implicitDefEqProofs := false) only [core, reduceIte, R55, S55, hl1, i_lss, d, i1, fa60_0, Nat.add_zero, ld58, r2, p1]
    generalize hr : aloop _ _ _ _ _ = r
    revert r hr
    have hFt := o.lt
    refine loop_all (cmds ps).length (fun j h'' fr => ∃ t, Quiet h2 h'' ∧ Own h'' t 10 (((T.own.take i).flatMap Wd.cmds ++ ((cmds ps).take j).flatMap (·.2)).map Nd.cells).flatten h2.next ∧ Sl h'' s3 1 ((cmds ps).map fun c => [c.1]) ∧ Apt t s3 ∧ fr = C55_8 (.ptr h.next 0) t s2 (.int .i64 (i : Int)) s3 (.int .i64 (j : Int))) ?_ ?_
      ⟨t, q.trans p3, by simpa using o.quiet p3, p2, Apt.new p4 hFt, by rw [cl55_8]; rfl⟩ (by omega)
    · rintro j h5 fr hj2 ⟨t, q, o, S3, ap, e⟩ k2 hk2
      have hx2 : ((cmds ps).map fun c => [c.1])[j]? = some [(cmds ps)[j].1] := by rw [List.getElem?_map, List.getElem?_eq_getElem hj2]; rfl
      obtain ⟨id2, off2, i2, H2⟩ := S3.ix u89 z47 hx2
      have hck := cmds_ok hok.2 _ (List.getElem_mem hj2)
      have hsp2 := flatMap_split (·.2) hj2
      have hne2 := flatMap_next (·.2) hj2
      have ht := tot ((T.own.take i).flatMap Wd.cmds ++ ((cmds ps).take (j + 1)).flatMap (·.2)) ⟨((cmds ps).drop (j + 1)).flatMap (·.2) ++ (T.own.drop (i + 1)).flatMap Wd.cmds ++ T.arms.map Am.body ++ T.kids, by
        have e2 : Wd.cmds (.mk s ps) = (cmds ps).flatMap (·.2) := rfl
        rw [hun, hsp, e2, hsp2, hne2]
        simp only [List.append_assoc]⟩
      rw [hne2] at ht
      generalize (cmds ps)[j] = c at *
      obtain ⟨sc, cs⟩ := c
      dsimp only at hck hsp2 hne2 H2 ht
      have r3 : h5.cell? id2 off2 = some sc := H2.cell (i := 0) rfl
      have qh := q02.trans q
      have Sc := hck.1.quiet qh
      have hlen := ht.1
      simp only [List.length_append] at hlen
      obtain ⟨t2, h6, a1, a2, a3, a4, a5⟩ := own_app (x := sc) (new := (cs.map Nd.cells).flatten) (n := cs.length) o q.next el49 u47 u47 rfl (by rw [Sc.alenOf, List.length_map]) (by rw [Sc.first]) (nd_flat cs) (nd_atoms (h := h) (fun x hx => ht.2 x (by simp [hx]))) (by rw [nd_flat, nd_flat, List.length_append]; omega)
      have hl2' : alen Try.prog 89 s3 = some (cmds ps).length := hl2
      have d2 : decide ((j : Int) < ((cmds ps).length : Int)) = true := by simp; omega
      have w2 := wrap_succ j (by omega)
      rw [e]
      unfold C55_8 lp55_8
      simp (implicitDefEqProofs := false) only [core, reduceIte, R55, S55, hl2', i_lss, d2, i2, ld47, r3, a1, i_add, w2]
      refine hk2 _ _ ⟨t2, q.beyond a3, ?_, S3.app ap a5, ap.app S3 a4 a2.es, by rw [cl55_8]⟩
      rw [hne2, ← List.append_assoc, List.map_append, List.flatten_append]
      exact a2
    · rintro h5 fr ⟨t, q, o, S3, ap, e⟩ k2
      have d2 : decide (((cmds ps).length : Int) < ((cmds ps).length : Int)) = false := by simp
      have hl2' : alen Try.prog 89 s3 = some (cmds ps).length := hl2
      rw [e]
      unfold C55_8 lp55_8
      simp (implicitDefEqProofs := false) only [core, reduceIte, R55, S55, hl2', i_lss, d2, i_add, w]
      exact hk _ _ ⟨t, q, by rw [hne]; simpa [Wd.cmds, Wd.ps] using o, by rw [cl55_4]⟩
  · rintro h' fr ⟨t, q, o, e⟩ k
    have d : decide ((T.own.length : Int) < (T.own.length : Int)) = false := by simp
    rw [List.take_length] at o
    have hms : ∃ sm, T.cells[8]? = some sm ∧ Sl h sm 11 (T.arms.map Am.cells) ∧ okM h T.arms ∧ szM T.arms ≤ T.sz := by
      cases T; simp only [Nd.ok] at hv; exact ⟨_, rfl, hv.2.2.2.2.1.1, hv.2.2.2.2.1.2, by simp only [Nd.arms, Nd.sz]; omega⟩
    have hks : ∃ sk, T.cells[9]? = some sk ∧ Sl h sk 10 (T.kids.map Nd.cells) ∧ okN h T.kids ∧ szN T.kids ≤ T.sz := by
      cases T; simp only [Nd.ok] at hv; exact ⟨_, rfl, hv.2.2.2.2.2.1, hv.2.2.2.2.2.2, by simp only [Nd.kids, Nd.sz]; omega⟩
    obtain ⟨sm, m1, m2, m3, m4⟩ := hms
    obtain ⟨sk, k1, k2, k3, k4⟩ := hks
    have hml := szM_len T.arms
    have hlm : alen Try.prog 46 sm = some T.arms.length := by rw [m2.alen u46, List.length_map]
    rw [e]
    unfold C55_4 lp55_4
    simp (implicitDefEqProofs := false) only [core, reduceIte, R55, S55, hl1, i_lss, d]
    generalize hr : aloop _ _ _ _ _ = r
    revert r hr
    refine loop_all T.arms.length (fun i h' fr => ∃ t, Quiet h2 h' ∧ Own h' t 10 ((T.own.flatMap Wd.cmds ++ (T.arms.take i).map Am.body).map Nd.cells).flatten h2.next ∧ fr = C55_12 (.ptr h.next 0) t (.int .i64 (i : Int))) ?_ ?_ ⟨t, q, by simpa using o, by rw [cl55_12]; rfl⟩ (by omega)
    · rintro l h6 fr hl ⟨t, q, o, e⟩ k3 hk3
      have hx3 : (T.arms.map Am.cells)[l]? = some T.arms[l].cells := by rw [List.getElem?_map, List.getElem?_eq_getElem hl]; rfl
      obtain ⟨id3, off3, i3, H3⟩ := m2.ix u46 z76 hx3
      have hne3 : (T.arms.take (l + 1)).map Am.body = (T.arms.take l).map Am.body ++ [T.arms[l].body] := by rw [take_next hl]; simp only [List.map_append, List.map_cons, List.map_nil]
      have ht := tot (T.own.flatMap Wd.cmds ++ (T.arms.take (l + 1)).map Am.body) ⟨(T.arms.drop (l + 1)).map Am.body ++ T.kids, by
        have : T.arms.map Am.body = (T.arms.take (l + 1)).map Am.body ++ (T.arms.drop (l + 1)).map Am.body := by rw [← List.map_append, List.take_append_drop]
        rw [hun, this]
        simp only [List.append_assoc]⟩
      rw [hne3] at ht
      generalize T.arms[l] = x at *
      obtain ⟨s, pats, body⟩ := x
      simp only [Am.body] at hne3 ht
      have hlen := ht.1
      simp only [List.length_append, List.length_cons, List.length_nil] at hlen
      have qh := q02.trans q
      have c8 : h6.cell? h.next 8 = some sm := by have := (HB.quiet (g3.trans q)).cell m1; rwa [Nat.zero_add] at this
      have r5 : (h6.cells? id3 10 (off3 + 1)).map AV.agg = some (.agg body.cells) := by
        have := ldS (Has.part (a := [s]) (p := body.cells) (c := []) (by simpa [Am.cells] using H3.quiet qh)) (n := 10) body.cells_len
        simpa using this
      have bb := bsl49n h6 body
      have Sb : Sl (h6.alloc body.cells) (.sl h6.next 0 1 10 (some 1)) 10 [body.cells] := Sl.of_has (L := [body.cells]) (by simp [body.cells_len]) (by simpa using Has.new h6 body.cells)
      obtain ⟨t2, h7, a1, a2, a3, a4, a5⟩ := own_app (x := .sl h6.next 0 1 10 (some 1)) (new := body.cells) (n := 1) (o.quiet (Other.alloc _ h6 body.cells)) (Nat.le_trans q.next (Nat.le_succ _)) el49 u47 u47 rfl rfl (by simpa using Sb.first) (by rw [body.cells_len]) (Nd.atoms (ht.2 body (by simp))) (by rw [nd_flat, body.cells_len, List.length_append]; omega)
      have d3 : decide ((l : Int) < (T.arms.length : Int)) = true := by simp; omega
      have w3 := wrap_succ l (by omega)
      rw [e]
      unfold C55_12 lp55_12
      simp (implicitDefEqProofs := false) only [core, reduceIte, R55, S55, fa49_8, Nat.zero_add, ld46, c8, hlm, i_lss, d3, i3, fa76_1, ld49, r5, bb, a1, i_add, w3]
      refine hk3 _ _ ⟨t2, (q.more body.cells).beyond a3, ?_, by rw [cl55_12]⟩
      rw [hne3, ← List.append_assoc, List.map_append, List.flatten_append]
      simpa using a2
    · rintro h6 fr ⟨t, q, o, e⟩ k3
      have d3 : decide ((T.arms.length : Int) < (T.arms.length : Int)) = false := by simp
      rw [List.take_length] at o
      have qh := q02.trans q
      have c8 : h6.cell? h.next 8 = some sm := by have := (HB.quiet (g3.trans q)).cell m1; rwa [Nat.zero_add] at this
      have c9 : h6.cell? h.next 9 = some sk := by have := (HB.quiet (g3.trans q)).cell k1; rwa [Nat.zero_add] at this
      have ht := tot T.under ⟨[], by simp⟩
      have hlen := ht.1
      rw [hun, List.length_append] at hlen
      have Sk := ‹Sl h sk 10 (T.kids.map Nd.cells)›.quiet qh
      obtain ⟨t2, h7, a1, a2, a3, a4, a5⟩ := own_app (x := sk) (new := (T.kids.map Nd.cells).flatten) (n := T.kids.length) o q.next el49 u47 u47 rfl (by rw [Sk.alenOf, List.length_map]) (by rw [Sk.first]) (nd_flat T.kids) (nd_atoms (h := h) (fun x hx => ht.2 x (by rw [hun]; simp [hx]))) (by rw [nd_flat, nd_flat]; omega)
      rw [e]
      unfold C55_12 lp55_12
      simp (implicitDefEqProofs := false) only [core, reduceIte, R55, S55, fa49_8, fa49_9, Nat.zero_add, ld46, ld47, c8, c9, hlm, i_lss, d3, a1]
      have o2 : Own h7 t2 10 (T.under.map Nd.cells).flatten h.next := by
        rw [hun, List.map_append, List.flatten_append]
        rcases a2 with g | ⟨id, len, c, e1, e2, e3, e4⟩
        · exact .inl g
        · exact .inr ⟨id, len, c, e1, e2, Nat.le_trans q02.next e3, e4⟩
      exact nrm_own3 o2 (q02.trans (q.beyond a3)) (fun x hx => by obtain ⟨c, _, rfl⟩ := List.mem_map.mp hx; exact c.cells_len) (by omega) (fun a ha => by
        obtain ⟨l, hl, ha⟩ := List.mem_flatten.mp ha
        obtain ⟨c, hc, rfl⟩ := List.mem_map.mp hl
        exact Nd.cells_old (ht.2 c hc) a ha)
end Go.Proofs.Ytgnacecplaemlaa
/-
  The reference's All and Deep.
-/
namespace Go.Proofs.Ytgnacecplaemlaa
open AI
set_option linter.unusedSimpArgs false
set_option linter.unusedVariables false
theorem all_le (T : Nd) : T.all.length ≤ T.sz := by rw [all_len _ (Nat.le_refl _)]; exact T.cnt_le
theorem allr31 : ∀ (M : Nat) {h : AH} {T : Nd}, T.sz ≤ M → T.sz ≤ 1048576 → T.ok h → ∀ n, 4 * T.sz + 20 ≤ n →
    ∃ s2 h2, X n (.func 31) [.agg T.cells] h = some (s2, h2) ∧ Sl h2 s2 10 (T.all.map Nd.cells) ∧ Quiet h h2 ∧ SlNew s2 h.next := by
  intro M
  induction M with
  | zero => intro h T hm; have := T.sz_pos; omega
  | succ M ih =>
    intro h T hm hb hv n hn
    obtain ⟨m, rfl⟩ : ∃ m, n = m + 1 := ⟨n - 1, by omega⟩
    have hul := under_len T
    have hall := all_le T
    have q1 : Quiet h (h.alloc T.cells) := Other.alloc _ _ _
    have HB := Has.new h T.cells
    have bx : boxV (.agg T.cells) h = some (.ptr h.next 0, h.alloc T.cells) := box_agg h _
    rw [ent31]
    unfold cd31
    generalize h.alloc T.cells = h1 at *
    have r1 := ldS HB (n := 10) T.cells_len
    have bb := bsl49n h1 T
    have qb : Quiet h1 (h1.alloc T.cells) := Other.alloc _ _ _
    have ob : Own (h1.alloc T.cells) (.sl h1.next 0 1 10 (some 1)) 10 (([T] : List Nd).map Nd.cells).flatten h1.next := .inr ⟨h1.next, 1, some 1, rfl, by simp [T.cells_len], Nat.le_refl _, by simpa using Row.new h1 T.cells⟩
    have nb : (h1.alloc T.cells).next = h1.next + 1 := rfl
    generalize h1.alloc T.cells = hb1 at *
    have r2 := ldS (HB.quiet qb) (n := 10) T.cells_len
    have q0b := q1.trans qb
    obtain ⟨s2, h2, g1, g2, g3, g4⟩ := below55 hb (hv.quiet q0b) m (by omega)
    have hl1 : alen Try.prog 47 s2 = some T.under.length := by rw [g2.alen u47, List.length_map]
    have tot : ∀ (a : List Nd), (∃ b, T.all = a ++ b) → a.length ≤ 1048576 := fun a ⟨b, e⟩ => by
      rw [e, List.length_append] at hall
      omega
    have hae := T.all_eq
    simp (implicitDefEqProofs := false) only [core, reduceIte, R31, S31, bx, ld49, r1, bb, r2, g1]
    generalize hr : aloop _ _ _ _ _ = r
    revert r hr
    refine loop_all T.under.length (fun i h' fr => ∃ t, Quiet h1 h' ∧ Own h' t 10 ((T :: (T.under.take i).flatMap Nd.all).map Nd.cells).flatten h1.next ∧ Sl h' s2 10 (T.under.map Nd.cells) ∧ Apt t s2 ∧ fr = C31_4 t s2 (.int .i64 (i : Int))) ?_ ?_
      ⟨_, qb.trans g3, by simpa using ob.quiet g3, g2, Apt.new g4 ob.lt, by rw [cl31_4]; rfl⟩ (by omega)
    · rintro i h5 fr hi ⟨t, q, o, S2, ap, e⟩ k hk
      have hx : (T.under.map Nd.cells)[i]? = some T.under[i].cells := by rw [List.getElem?_map, List.getElem?_eq_getElem hi]; rfl
      obtain ⟨id, off, i1, H⟩ := S2.ix u47 z49 hx
      have hmem := List.getElem_mem hi
      have hne := flatMap_next Nd.all hi
      have hsp := flatMap_split Nd.all hi
      have ht := tot (T :: (T.under.take (i + 1)).flatMap Nd.all) ⟨(T.under.drop (i + 1)).flatMap Nd.all, by rw [hae, hsp, hne]; simp only [List.append_assoc, List.cons_append]⟩
      rw [hne] at ht
      generalize T.under[i] = x at *
      have hsz := Nd.under_sz hmem
      have hxo := Nd.under_ok hv hmem
      have r3 := ldS H (n := 10) x.cells_len
      have qq := q1.trans q
      obtain ⟨s3, h6, p1, p2, p3, p4⟩ := ih (by omega) (by omega) (hxo.quiet qq) m (by omega)
      simp only [List.length_cons, List.length_append] at ht
      obtain ⟨t2, h7, a1, a2, a3, a4, a5⟩ := own_app (x := s3) (new := (x.all.map Nd.cells).flatten) (n := x.all.length) (o.quiet p3) (Nat.le_trans q.next p3.next) el49 u47 u47 rfl (by rw [p2.alenOf, List.length_map]) (by rw [p2.first]) (nd_flat _) (nd_atoms (h := h) (fun y hy => Nd.all_ok _ (Nat.le_refl x.sz) hxo y hy)) (by rw [nd_flat, nd_flat, List.length_cons]; omega)
      have d : decide ((i : Int) < (T.under.length : Int)) = true := by simp; omega
      have w := wrap_succ i (by omega)
      rw [e]
      unfold C31_4 lp31_4
      simp (implicitDefEqProofs := false) only [core, reduceIte, R31, S31, hl1, i_lss, d, i1, ld49, r3, p1, a1, i_add, w]
      refine hk _ _ ⟨t2, (q.trans p3).beyond a3, ?_, (S2.quiet p3).app ap a5, ap.app (S2.quiet p3) a4 a2.es, by rw [cl31_4]⟩
      rw [hne, ← List.cons_append, List.map_append, List.flatten_append]
      exact a2
    · rintro h5 fr ⟨t, q, o, S2, ap, e⟩ k
      have d : decide ((T.under.length : Int) < (T.under.length : Int)) = false := by simp
      rw [List.take_length, ← hae] at o
      rw [e]
      unfold C31_4 lp31_4
      simp (implicitDefEqProofs := false) only [core, reduceIte, R31, S31, hl1, i_lss, d]
      have o2 : Own h5 t 10 (T.all.map Nd.cells).flatten h.next := by
        rcases o with g | ⟨id, len, c, e1, e2, e3, e4⟩
        · exact .inl g
        · exact .inr ⟨id, len, c, e1, e2, Nat.le_trans q1.next e3, e4⟩
      exact nrm_own3 o2 (q1.trans q) (fun x hx => by obtain ⟨c, _, rfl⟩ := List.mem_map.mp hx; exact c.cells_len) (by omega) (fun a ha => by
        obtain ⟨l, hl, ha⟩ := List.mem_flatten.mp ha
        obtain ⟨c, hc, rfl⟩ := List.mem_map.mp hl
        exact Nd.cells_old (Nd.all_ok _ (Nat.le_refl T.sz) hv c hc) a ha)
theorem deepr43 : ∀ (M : Nat) {h : AH} {T : Nd}, T.sz ≤ M → T.sz ≤ 1048576 → T.ok h → ∀ n, 4 * T.sz + 20 ≤ n → X n (.func 43) [.agg T.cells] h = some (.int .i64 (T.deep : Nat), h) := by
  intro M
  induction M with
  | zero => intro h T hm; have := T.sz_pos; omega
  | succ M ih =>
    intro h T hm hb hv n hn
    obtain ⟨m, rfl⟩ : ∃ m, n = m + 1 := ⟨n - 1, by omega⟩
    have hul := under_len T
    have hdT := Nd.deep_sz _ (Nat.le_refl T.sz)
    have q1 : Quiet h (h.alloc T.cells) := Other.alloc _ _ _
    have HB := Has.new h T.cells
    have bx : boxV (.agg T.cells) h = some (.ptr h.next 0, h.alloc T.cells) := box_agg h _
    rw [ent43]
    unfold cd43
    generalize h.alloc T.cells = h1 at *
    have r1 := ldS HB (n := 10) T.cells_len
    obtain ⟨s2, h2, g1, g2, g3, g4⟩ := below55 hb (hv.quiet q1) m (by omega)
    have hl1 : alen Try.prog 47 s2 = some T.under.length := by rw [g2.alen u47, List.length_map]
    have q02 := q1.trans g3
    simp (implicitDefEqProofs := false) only [core, reduceIte, R43, S43, bx, ld49, r1, g1]
    generalize hr : aloop _ _ _ _ _ = r
    revert r hr
    refine loop_all T.under.length (fun i h' fr => h' = h2 ∧ fr = C43_4 (.int .i64 (mx ((T.under.take i).map Nd.deep) : Nat)) s2 (.int .i64 (i : Int))) ?_ ?_ ⟨rfl, by rw [cl43_4]; rfl⟩ (by omega)
    · rintro i h5 fr hi ⟨rfl, e⟩ k hk
      have hx : (T.under.map Nd.cells)[i]? = some T.under[i].cells := by rw [List.getElem?_map, List.getElem?_eq_getElem hi]; rfl
      obtain ⟨id, off, i1, H⟩ := g2.ix u47 z49 hx
      have hmem := List.getElem_mem hi
      have htk := take_next hi
      generalize T.under[i] = x at *
      have hsz := Nd.under_sz hmem
      have hxo := Nd.under_ok hv hmem
      have r3 := ldS H (n := 10) x.cells_len
      have hcall := ih (by omega) (by omega) (hxo.quiet q02) m (by omega)
      have hmax : (if ((x.deep : Nat) : Int) > ((mx ((T.under.take i).map Nd.deep) : Nat) : Int) then ((x.deep : Nat) : Int) else ((mx ((T.under.take i).map Nd.deep) : Nat) : Int)) = ((mx ((T.under.take (i + 1)).map Nd.deep) : Nat) : Int) := by
        rw [htk, List.map_append, List.map_cons, List.map_nil, mx_snoc]
        split <;> omega
      have d : decide ((i : Int) < (T.under.length : Int)) = true := by simp; omega
      have w := wrap_succ i (by omega)
      rw [e]
      unfold C43_4 lp43_4
      simp (implicitDefEqProofs := false) only [core, reduceIte, R43, S43, hl1, i_lss, d, i1, ld49, r3, hcall, max_int, hmax, i_add, w]
      exact hk _ _ ⟨rfl, by rw [cl43_4]⟩
    · rintro h5 fr ⟨rfl, e⟩ k
      have d : decide ((T.under.length : Int) < (T.under.length : Int)) = false := by simp
      have hde := T.deep_eq
      have w : IntKind.i64.wrap (1 + ((mx (T.under.map Nd.deep) : Nat) : Int)) = ((mx (T.under.map Nd.deep) + 1 : Nat) : Int) := by
        have := wrap_succ (mx (T.under.map Nd.deep)) (by omega)
        rw [Int.add_comm]
        exact this
      rw [e, List.take_length]
      unfold C43_4 lp43_4
      simp (implicitDefEqProofs := false) only [core, reduceIte, R43, S43, hl1, i_lss, d, i_add, w]
      rw [hde]
      exact nrm_flat q02 rfl
end Go.Proofs.Ytgnacecplaemlaa
/-
  All words of a command: the reference's and walk's.
-/
namespace Go.Proofs.Ytgnacecplaemlaa
open AI
set_option linter.unusedSimpArgs false
set_option linter.unusedVariables false
theorem cmds_szs : ∀ (ps : List Pt), ((cmds ps).map fun c => szN c.2).sum ≤ szP ps := by
  intro ps
  induction h : szP ps using Nat.strongRecOn generalizing ps
  rename_i N ih
  cases ps with
  | nil => simp [cmds]
  | cons p l =>
    obtain ⟨k, t, o, sk, kids, sc, cs⟩ := p
    simp only [szP, Pt.sz] at h
    have h1 := ih (szP kids) (by omega) kids rfl
    have h2 := ih (szP l) (by omega) l rfl
    simp only [cmds, List.map_append, List.sum_append]
    have h3 : ((if k = 6 then [(sc, cs)] else []).map fun c => szN c.2).sum ≤ szN cs := by split <;> simp
    omega
theorem sum_sz (l : List Nd) : (l.map Nd.sz).sum = szN l := by
  induction l with
  | nil => simp [szN]
  | cons a l ih => simp only [List.map_cons, List.sum_cons, ih, szN]
theorem Wd.cmds_szs (w : Wd) : (w.cmds.map Nd.sz).sum + 1 ≤ w.sz := by
  obtain ⟨s, ps⟩ := w
  have h1 := Ytgnacecplaemlaa.cmds_szs ps
  have h2 : ((Wd.cmds (.mk s ps)).map Nd.sz).sum = ((Ytgnacecplaemlaa.cmds ps).map fun c => szN c.2).sum := by
    unfold Wd.cmds
    rw [sum_flatMap]
    congr 2
    funext c
    exact sum_sz c.2
  simp only [Wd.sz]
  omega
theorem ws_szs (l : List Wd) : ((l.flatMap Wd.cmds).map Nd.sz).sum + l.length ≤ szW l := by
  induction l with
  | nil => simp [szW]
  | cons w l ih =>
    have := w.cmds_szs
    simp only [List.flatMap_cons, List.map_append, List.sum_append, szW, List.length_cons]
    omega
theorem ms_szs (l : List Am) : ((l.flatMap Am.pats).flatMap Wd.cmds |>.map Nd.sz).sum + (l.flatMap Am.pats).length + ((l.map Am.body).map Nd.sz).sum ≤ szM l := by
  induction l with
  | nil => simp [szM]
  | cons m l ih =>
    obtain ⟨s, pats, body⟩ := m
    have := ws_szs pats
    simp only [List.flatMap_cons, List.flatMap_append, List.map_append, List.sum_append, List.map_cons, List.sum_cons, szM, Am.sz, Am.pats, Am.body, List.length_append]
    omega
theorem Nd.under_szs (n : Nd) : n.own.length + (n.under.map Nd.sz).sum + 1 ≤ n.sz := by
  have e : n.under = n.own.flatMap Wd.cmds ++ n.arms.map Am.body ++ n.kids := rfl
  rw [e, List.map_append, List.map_append, List.sum_append, List.sum_append, sum_sz n.kids]
  cases n with
  | mk k name nt inn so ops sa az sw ws sr rs sm ms sk kids =>
    have h1 := ws_szs az
    have h2 := ws_szs ws
    have h3 := ws_szs (rs.map Rdr.to)
    have h4 := ms_szs ms
    rw [szR_to] at h3
    simp only [Nd.own, Nd.kids, Nd.arms, Nd.sz, List.flatMap_append, List.map_append, List.sum_append, List.length_append] at *
    omega
/-- All words. -/
def Nd.words (n : Nd) : List Wd := n.all.flatMap Nd.own
theorem Nd.words_le : ∀ (M : Nat) {n : Nd}, n.sz ≤ M → n.words.length ≤ n.sz := by
  intro M
  induction M with
  | zero => intro n hm; have := n.sz_pos; omega
  | succ M ih =>
    intro n hm
    unfold Nd.words
    rw [Nd.all_eq, List.flatMap_cons, List.length_append, List.length_flatMap]
    have h1 := n.under_szs
    have h2 : (((n.under.flatMap Nd.all).map fun a => a.own.length)).sum ≤ (n.under.map Nd.sz).sum := by
      have : ∀ (l : List Nd), (∀ x ∈ l, x.sz ≤ M) → ((l.flatMap Nd.all).map fun a => a.own.length).sum ≤ (l.map Nd.sz).sum := fun l => by
        induction l with
        | nil => intro _; simp
        | cons x l ihl =>
          intro hl
          have h3 := ih (n := x) (hl x (by simp))
          have h4 := ihl fun y hy => hl y (by simp [hy])
          unfold Nd.words at h3
          rw [List.length_flatMap] at h3
          simp only [List.flatMap_cons, List.map_append, List.sum_append, List.map_cons, List.sum_cons]
          omega
      exact this _ fun x hx => by have := Nd.under_sz hx; omega
    omega
theorem Nd.words_ok {h : AH} {n : Nd} (hv : n.ok h) : ∀ w ∈ n.words, w.ok h := fun w hw => by
  obtain ⟨x, hx, hw⟩ := List.mem_flatMap.mp hw
  exact okW_mem (Nd.own_ok (Nd.all_ok _ (Nat.le_refl n.sz) hv x hx)) w hw
theorem wordsr34 {h : AH} {T : Nd} (hb : T.sz ≤ 1048576) (hv : T.ok h) (n : Nat) (hn : 4 * T.sz + 24 ≤ n) :
    ∃ s2 h2, X n (.func 34) [.agg T.cells] h = some (s2, h2) ∧ Sl h2 s2 1 (T.words.map Wd.cells) ∧ Quiet h h2 ∧ SlNew s2 h.next := by
  obtain ⟨m, rfl⟩ : ∃ m, n = m + 1 := ⟨n - 1, by omega⟩
  have hall := all_le T
  have hwl := Nd.words_le _ (Nat.le_refl T.sz)
  have hwo := Nd.words_ok hv
  have q1 : Quiet h (h.alloc T.cells) := Other.alloc _ _ _
  have HB := Has.new h T.cells
  have bx : boxV (.agg T.cells) h = some (.ptr h.next 0, h.alloc T.cells) := box_agg h _
  rw [ent34]
  unfold cd34
  generalize h.alloc T.cells = h1 at *
  have r1 := ldS HB (n := 10) T.cells_len
  obtain ⟨s2, h2, g1, g2, g3, g4⟩ := allr31 _ (Nat.le_refl T.sz) hb (hv.quiet q1) m (by omega)
  have hl1 : alen Try.prog 47 s2 = some T.all.length := by rw [g2.alen u47, List.length_map]
  have q02 := q1.trans g3
  simp (implicitDefEqProofs := false) only [core, reduceIte, R34, S34, bx, ld49, r1, g1]
  generalize hr : aloop _ _ _ _ _ = r
  revert r hr
  refine loop_all T.all.length (fun i h' fr => ∃ t, Quiet h2 h' ∧ Own h' t 1 (((T.all.take i).flatMap Nd.own).map Wd.sl) h2.next ∧ fr = C34_4 t s2 (.int .i64 (i : Int))) ?_ ?_ ⟨.nilSl, Other.refl _ _, Own.nil _ _ _, by rw [cl34_4]; rfl⟩ (by omega)
  · rintro i h5 fr hi ⟨t, q, o, e⟩ k hk
    have hx : (T.all.map Nd.cells)[i]? = some T.all[i].cells := by rw [List.getElem?_map, List.getElem?_eq_getElem hi]; rfl
    obtain ⟨id, off, i1, H⟩ := (g2.quiet q).ix u47 z49 hx
    have hmem := List.getElem_mem hi
    have hne := flatMap_next Nd.own hi
    have hsp := flatMap_split Nd.own hi
    have ht : ((T.all.take i).flatMap Nd.own).length + T.all[i].own.length ≤ 1048576 ∧ ∀ w ∈ T.all[i].own, w ∈ T.words := by
      refine ⟨?_, fun w hw => ?_⟩
      · have hl := congrArg List.length hsp
        simp only [List.length_append] at hl
        have hl2 : (T.all.flatMap Nd.own).length ≤ T.sz := hwl
        omega
      · exact List.mem_flatMap.mpr ⟨_, hmem, hw⟩
    generalize T.all[i] = x at *
    have hxs := Nd.under_all_sz _ (Nat.le_refl T.sz) x hmem
    have hxo := Nd.all_ok _ (Nat.le_refl T.sz) hv x hmem
    have r3 := ldS H (n := 10) x.cells_len
    have qq := q02.trans q
    obtain ⟨s3, h6, p1, p2, p3, p4⟩ := words58 (by omega) (hxo.quiet qq) m (by omega)
    obtain ⟨t2, h7, a1, a2, a3, a4, a5⟩ := own_app (x := s3) (new := x.own.map Wd.sl) (n := x.own.length) (o.quiet p3) (Nat.le_trans q.next p3.next) el60 u44 u44 rfl (by rw [p2.alenOf, List.length_map]) (by rw [p2.first, wd_flat']) (by simp) (atoms_map _ _ fun w hw => Wd.sl_atom (hwo w (ht.2 w hw))) (by simp only [List.length_map]; omega)
    have d : decide ((i : Int) < (T.all.length : Int)) = true := by simp; omega
    have w := wrap_succ i (by omega)
    rw [e]
    unfold C34_4 lp34_4
    simp (implicitDefEqProofs := false) only [core, reduceIte, R34, S34, hl1, i_lss, d, i1, ld49, r3, p1, a1, i_add, w]
    exact hk _ _ ⟨t2, (q.trans p3).beyond a3, by rw [hne, List.map_append]; exact a2, by rw [cl34_4]⟩
  · rintro h5 fr ⟨t, q, o, e⟩ k
    have d : decide ((T.all.length : Int) < (T.all.length : Int)) = false := by simp
    rw [List.take_length] at o
    rw [e]
    unfold C34_4 lp34_4
    simp (implicitDefEqProofs := false) only [core, reduceIte, R34, S34, hl1, i_lss, d]
    have o2 : Own h5 t 1 (T.words.map Wd.cells).flatten h.next := by
      rw [wd_flat']
      rcases o with g | ⟨id, len, c, e1, e2, e3, e4⟩
      · exact .inl g
      · exact .inr ⟨id, len, c, e1, e2, Nat.le_trans q02.next e3, e4⟩
    exact nrm_own3 o2 (q02.trans q) (fun x hx => by obtain ⟨c, _, rfl⟩ := List.mem_map.mp hx; exact c.cells_len) (by omega) (fun a ha => by
      rw [wd_flat'] at ha
      obtain ⟨c, hc, rfl⟩ := List.mem_map.mp ha
      exact Wd.sl_old (hwo c hc))
section
variable (id0 p N : Nat) (fr : List AV)
def JW (pre : List Nd) (F : Nat → Prop) (h : AH) : Prop :=
  ∃ tv, Rec h id0 ⟨.ready, 33, fr, #[7], ra33_3, rb33_4⟩ ∧ Out h p tv 1 ((pre.flatMap Nd.own).map Wd.sl) N ∧ ¬ OutF p tv id0 ∧ F = fun j => OutF p tv j ∨ j = id0
theorem inv_JW {hB : AH} (h1 : hB.next ≤ id0) (h2 : hB.next ≤ N) : Inv hB (JW id0 p N fr) where
  lt := fun pre F h j ⟨tv, a, b, c, e⟩ hj => by subst e; exact hj.elim (b.lt j) fun e => e ▸ a.1
  ge := fun pre F h j ⟨tv, a, b, c, e⟩ hj => by subst e; exact hj.elim (fun hj => Nat.le_trans h2 (b.ge j hj)) fun e => e ▸ h1
  keep := fun pre F G h h' ⟨tv, a, b, c, e⟩ o hG => by
    subst e
    exact ⟨tv, a.keep o (hG _ (.inr rfl)), b.keep o (fun j hj => hG j (.inl hj)), c, rfl⟩
end
theorem yield33 {hB : AH} {T : Nd} (hb : T.sz ≤ 1048576) (hv : T.ok hB) {id0 p N : Nat} (hid : hB.next ≤ id0) (v0 v1 v2 v4 v5 v6 v7 v8 v9 v10 v11 v12 : AV) :
    Yields (T.sz + 10) hB (.fn (.yield id0) [] []) T.all (JW id0 p N [v0, v1, v2, .ptr p 0, v4, v5, v6, v7, v8, v9, v10, v11, v12]) (fun _ _ _ => False) := by
  intro pre x post hpre F g hj q n2 hn2
  obtain ⟨k, rfl⟩ : ∃ k, n2 = k + 1 := ⟨n2 - 1, by omega⟩
  obtain ⟨tv, r1, o, hF, rfl⟩ := hj
  have hmem : x ∈ T.all := by rw [hpre]; simp
  have hxok := Nd.all_ok _ (Nat.le_refl T.sz) hv x hmem
  have hxs := Nd.under_all_sz _ (Nat.le_refl T.sz) x hmem
  have hlen : (pre.flatMap Nd.own).length + x.own.length ≤ 1048576 := by
    have h1 := Nd.words_le _ (Nat.le_refl T.sz)
    unfold Nd.words at h1
    rw [hpre, List.flatMap_append, List.flatMap_cons, List.length_append, List.length_append] at h1
    omega
  obtain ⟨g1, f1, f2, f3, f4⟩ := fill g [.int .i64 0, .str [], .bool false, .bool false, .nilSl, .nilSl, .nilSl, .nilSl, .nilSl, .nilSl] x.cells x.cells_len
  have sx := stV_agg (t := 49) (n := 10) (l := x.cells) z49 x.cells_len (Nd.atoms hxok) g.next 0 (g.alloc [.int .i64 0, .str [], .bool false, .bool false, .nilSl, .nilSl, .nilSl, .nilSl, .nilSl, .nilSl])
  rw [f1] at sx
  simp only [Option.map_some] at sx
  have r1' := r1.keep f3 (fun x => x)
  have r1l := r1.1
  have n1 := f3.next
  show ∃ b h' F', X (k + 1) (.yield id0) [.agg x.cells] g = some (.bool b, h') ∧ _
  rw [yield_run r1.2]
  unfold ra33_3
  simp (implicitDefEqProofs := false) only [core, reduceIte, R33, S33, new49, sx]
  rw [mid_ready r1'.2]
  have ob := Other.putOb (h := g1) (id := id0) (some (.loop ⟨.busy, 33, [v0, v1, v2, .ptr p 0, v4, v5, v6, v7, v8, v9, v10, v11, v12], #[7], ra33_3, rb33_4⟩))
  have rb := Rec.put (h := g1) (id := id0) ⟨.busy, 33, [v0, v1, v2, .ptr p 0, v4, v5, v6, v7, v8, v9, v10, v11, v12], #[7], ra33_3, rb33_4⟩ r1'.1
  have ng : (AH.putOb g1 id0 (some (.loop ⟨.busy, 33, [v0, v1, v2, .ptr p 0, v4, v5, v6, v7, v8, v9, v10, v11, v12], #[7], ra33_3, rb33_4⟩))).next = g1.next := rfl
  have q2 : Quiet hB (AH.putOb g1 id0 (some (.loop ⟨.busy, 33, [v0, v1, v2, .ptr p 0, v4, v5, v6, v7, v8, v9, v10, v11, v12], #[7], ra33_3, rb33_4⟩))) := (q.trans f3).plus ob fun j e => .inr (e ▸ hid)
  generalize AH.putOb g1 id0 (some (.loop ⟨.busy, 33, [v0, v1, v2, .ptr p 0, v4, v5, v6, v7, v8, v9, v10, v11, v12], #[7], ra33_3, rb33_4⟩)) = g2 at *
  have O2 : Out g2 p tv 1 ((pre.flatMap Nd.own).map Wd.sl) N := (o.quiet f3).keep ob fun j hj e => hF (e ▸ hj)
  have H2 := (f2.keep ob (F := fun j => j = id0) (by omega)).has
  have r5 := ldS H2 (n := 10) x.cells_len
  have co := O2.cell
  obtain ⟨s3, g3, p1, p2, p3, p4⟩ := own57 (by omega) (hxok.quiet q2) k (by omega)
  have O3 := O2.quiet p3
  have co3 := O3.cell
  have hNg : N ≤ g3.next := by have := O3.le; have := O3.row.1; omega
  have hwo : ∀ w ∈ x.own, w.ok hB := fun w hw => okW_mem (Nd.own_ok hxok) w hw
  obtain ⟨s', g4, g5, a1, a2, a3, a4, a5⟩ := out_app (x := s3) (new := x.own.map Wd.sl) (n := x.own.length) O3 hNg el60 u44 u44 rfl (by rw [p2.alenOf, List.length_map]) (by rw [p2.first, wd_flat']) (by simp) (atoms_map _ _ fun w hw => Wd.sl_atom (hwo w hw)) (by simp only [List.length_map]; omega)
  have st := stV_one (t := 44) (v := s') z44 a3 p 0 g4
  rw [a2] at st
  simp only [Option.map_some] at st
  have os : OS g2 g5 p tv s' := (OS.of_quiet tv p3).trans a5
  have h0 : aops Try.prog (X k) (rg Try.f33 4) [0, 1, 2, 3, 4] [v0, v1, v2, .ptr p 0, .ptr g.next 0, v5, v6, .agg x.cells, v8, v9, v10, v11, v12] g2 = some ([v0, v1, v2, .ptr p 0, .ptr g.next 0, v5, v6, .agg x.cells, tv, .agg x.cells, s3, s', v12], g5) := by
    simp (implicitDefEqProofs := false) only [core, reduceIte, R33, S33, ld44, co, ld49, r5, p1, a1, st]
  have hd := drw33_4 33 (X k) k (some id0) _ _ h0 (fun q hq => by
    simp only [List.mem_cons, List.not_mem_nil, or_false] at hq
    subst hq
    refine pair_mk _ _ _ tv (by rw [rng33_4_0]; rfl) (by rw [rng33_4_2]; simp (implicitDefEqProofs := false) only [core, reduceIte, R33, S33, ld44, co, ld49, r5]; rfl) (by rw [rng33_4_3]; simp (implicitDefEqProofs := false) only [core, reduceIte, R33, S33, ld44, co, ld49, r5, p1]; rfl) ?_ ?_ ?_
    · rw [li33_4_0]; simp (implicitDefEqProofs := false) only [core, reduceIte, ld44, co]
    · rw [li33_4_0]; simp (implicitDefEqProofs := false) only [core, reduceIte, ld44, co]
    · rw [li33_4_0]; simp (implicitDefEqProofs := false) only [core, reduceIte, ld44, co3])
  have ro := rb.keep os.oth hF
  unfold rb33_4
  simp (implicitDefEqProofs := false) only [core, reduceIte, hd]
  rw [end_normal ro.2]
  have hF3 : ¬ OutF p s' id0 := fun hf => (os.fp _ hf).elim hF (by omega)
  refine ⟨true, _, fun j => OutF p s' j ∨ j = id0, rfl, ⟨((f3.any.trans (ob.mono fun j _ e => .inr e)).trans (os.oth.mono fun j _ hj => .inl hj)).trans ((Other.putOb _).mono fun j _ e => .inr e), fun j hj => ?_⟩, ?_⟩
  · rcases hj with hj | hj
    · exact (os.fp j hj).elim (fun h => .inl (.inl h)) fun h => .inr (by omega)
    · exact .inl (.inr hj)
  · rw [if_pos rfl]
    refine ⟨s', Rec.put _ ro.1, ?_, hF3, rfl⟩
    rw [List.flatMap_append, List.flatMap_cons, List.flatMap_nil, List.append_nil, List.map_append]
    exact a4.keep (Other.putOb _) fun j hj e => hF3 (e ▸ hj)
end Go.Proofs.Ytgnacecplaemlaa
/-
  walk.Words.
-/
namespace Go.Proofs.Ytgnacecplaemlaa
open AI
set_option linter.unusedSimpArgs false
set_option linter.unusedVariables false
theorem inv_none {hB : AH} : Inv hB (fun _ _ _ => False) := ⟨fun _ _ _ _ h => h.elim, fun _ _ _ _ h => h.elim, fun _ _ _ _ _ h => h.elim⟩
theorem words33 {h : AH} {T : Nd} (hb : T.sz ≤ 1048576) (hv : T.ok h) (n : Nat) (hn : 17 * T.sz + 40 ≤ n) :
    ∃ s2 h2, X n (.func 33) [.agg T.cells] h = some (s2, h2) ∧ Sl h2 s2 1 (T.words.map Wd.cells) ∧ Quiet h h2 ∧ SlNew s2 h.next := by
  obtain ⟨m, rfl⟩ : ∃ m, n = m + 2 := ⟨n - 2, by omega⟩
  have hwo := Nd.words_ok hv
  have q1 : Quiet h (h.alloc T.cells) := Other.alloc _ _ _
  have H1 := Has.new h T.cells
  have n1 : (h.alloc T.cells).next = h.next + 1 := rfl
  have bx : boxV (.agg T.cells) h = some (.ptr h.next 0, h.alloc T.cells) := box_agg h T.cells
  rw [ent33]
  unfold cd33
  generalize h.alloc T.cells = h1 at *
  have q3 : Quiet h1 (h1.alloc [.nilSl]) := Other.alloc _ _ _
  have R3 := Row.new h1 [.nilSl]
  have n3 : (h1.alloc [.nilSl]).next = h1.next + 1 := rfl
  have bn := new44 h1
  generalize h1.alloc [.nilSl] = h3 at *
  have r1 := ldS (H1.quiet q3) (n := 10) T.cells_len
  have a51 := all51 T h3 m
  have q4 : Quiet h3 (h3.alloc T.cells) := Other.alloc _ _ _
  have H4 := Has.new h3 T.cells
  have n4 : (h3.alloc T.cells).next = h3.next + 1 := rfl
  generalize h3.alloc T.cells = h4 at *
  have q04 : Quiet h h4 := (q1.trans q3).trans q4
  have hrd : rdOK none h4 = true := rfl
  have qn := Other.newOb h4 (.loop ⟨.ready, 33, [.agg T.cells, .ptr h.next 0, .nilSl, .ptr h1.next 0, .tup [], .agg T.cells, .fn (.func 68) [] [.ptr h3.next 0], .tup [], .tup [], .tup [], .tup [], .tup [], .tup []], #[7], ra33_3, rb33_4⟩)
  have rn : Rec (h4.newOb (.loop ⟨.ready, 33, [.agg T.cells, .ptr h.next 0, .nilSl, .ptr h1.next 0, .tup [], .agg T.cells, .fn (.func 68) [] [.ptr h3.next 0], .tup [], .tup [], .tup [], .tup [], .tup [], .tup []], #[7], ra33_3, rb33_4⟩)) h4.next _ := ⟨Nat.lt_succ_self _, by rw [AH.ob?_newOb, if_pos rfl]⟩
  have nn : (h4.newOb (.loop ⟨.ready, 33, [.agg T.cells, .ptr h.next 0, .nilSl, .ptr h1.next 0, .tup [], .agg T.cells, .fn (.func 68) [] [.ptr h3.next 0], .tup [], .tup [], .tup [], .tup [], .tup [], .tup []], #[7], ra33_3, rb33_4⟩)).next = h4.next + 1 := rfl
  have Y := yield33 (id0 := h4.next) (p := h1.next) (N := h.next) hb hv q04.next (.agg T.cells) (.ptr h.next 0) .nilSl (.tup []) (.agg T.cells) (.fn (.func 68) [] [.ptr h3.next 0]) (.tup []) (.tup []) (.tup []) (.tup []) (.tup []) (.tup [])
  have I := inv_JW (hB := h) h4.next h1.next h.next [.agg T.cells, .ptr h.next 0, .nilSl, .ptr h1.next 0, .tup [], .agg T.cells, .fn (.func 68) [] [.ptr h3.next 0], .tup [], .tup [], .tup [], .tup [], .tup [], .tup []] q04.next (Nat.le_refl _)
  obtain ⟨h5, F5, w1, w2, w3⟩ := all68 _ (Nat.le_refl T.sz) hb hv I inv_none (by rfl) Y (F := fun j => OutF h1.next .nilSl j ∨ j = h4.next)
    ⟨.nilSl, rn, ⟨(R3.keep (F := fun _ => False) q4 (fun x => x)).keep (F := fun _ => False) qn (fun x => x), Own.nil _ _ _, by omega, fun _ _ _ _ e => by cases e⟩, fun hf => absurd (outF_nil hf) (by omega), rfl⟩ (q04.trans qn) (b := h3.next) (H4.quiet qn)
    (fun hf => hf.elim (fun hf => absurd (outF_nil hf) (by omega)) (by omega)) (m + 1) (by omega)
  have hF5 : ∀ j, OutF h1.next .nilSl j ∨ j = h4.next → h.next ≤ j := fun j hf => by
    rcases hf with hf | hf
    · have := outF_nil hf; omega
    · omega
  have qf : Quiet h h5 := (q04.trans qn).plus w2.oth fun j hj => .inr (hF5 j hj)
  simp (implicitDefEqProofs := false) only [core, reduceIte, R33, S33, bx, bn, ld49, r1, a51, run_range, hrd, callF_func, hb68]
  generalize hr : rangeEnd _ _ _ = r
  revert r hr
  rcases w3 with ⟨tv, t1, t2, t3, _⟩ | ⟨_, w3⟩
  · refine range_all ⟨_, h5, _, w1, t1.2, .inl ⟨rfl, ?_⟩⟩
    have O6 := t2.keep (Other.putOb (id := h4.next) none) fun j hj e => t3 (e ▸ hj)
    have c5 := O6.cell
    have qg : Quiet h (h5.putOb h4.next none) := qf.plus (Other.putOb none) fun j e => .inr (by omega)
    simp (implicitDefEqProofs := false) only [core, reduceIte, R33, S33, ld44, c5]
    have O7 : Own (h5.putOb h4.next none) tv 1 (T.words.map Wd.cells).flatten h.next := by rw [wd_flat']; exact O6.own
    exact nrm_own3 O7 qg (fun x hx => by obtain ⟨c, _, rfl⟩ := List.mem_map.mp hx; exact c.cells_len) (by omega) (fun a ha => by
      rw [wd_flat'] at ha
      obtain ⟨c, hc, rfl⟩ := List.mem_map.mp ha
      exact Wd.sl_old (hwo c hc))
  · exact w3.elim
end Go.Proofs.Ytgnacecplaemlaa
/-
  The reference's Plain and Calls.
-/
namespace Go.Proofs.Ytgnacecplaemlaa
open AI
set_option linter.unusedSimpArgs false
set_option linter.unusedVariables false
theorem plain59 {h : AH} {s : AV} {ps : List Pt} (S : Sl h s 5 (ps.map Pt.cells)) (n : Nat) : X (n + 1) (.func 59) [.agg [s]] h = some (.tup [.str ((plain ps).getD []), .bool (plain ps).isSome], h) := by
  have q1 : Quiet h (h.alloc [s]) := Other.alloc _ _ _
  have c0 : (h.alloc [s]).cell? h.next 0 = some s := cell_alloc _ _ _
  have bx : boxV (.agg [s]) h = some (.ptr h.next 0, h.alloc [s]) := box_agg h [s]
  have S1 := S.quiet q1
  rw [ent59]
  unfold cd59
  generalize h.alloc [s] = h1 at *
  have hal : alen Try.prog 58 s = some ps.length := by rw [S1.alen u58, List.length_map]
  match ps, hal, S1 with
  | [], hal, _ =>
    have e : ((([] : List Pt).length : Int) != 1) = true := rfl
    simp (implicitDefEqProofs := false) only [core, reduceIte, R59, S59, bx, fa60_0, Nat.zero_add, ld58, c0, hal, i_neq, e]
    exact nrm_tup q1
  | p :: x :: l, hal, _ =>
    have e : (((p :: x :: l).length : Int) != 1) = true := by simp only [List.length_cons, bne_iff_ne, ne_eq]; omega
    have e3 : plain (p :: x :: l) = none := by cases p; rfl
    rw [e3]
    simp (implicitDefEqProofs := false) only [core, reduceIte, R59, S59, bx, fa60_0, Nat.zero_add, ld58, c0, hal, i_neq, e]
    exact nrm_tup q1
  | [.mk k t o sk kids sc cs], hal, S1 =>
    have e : ((([(.mk k t o sk kids sc cs : Pt)] : List Pt).length : Int) != 1) = false := rfl
    obtain ⟨id, off, i1, H⟩ := S1.ix u58 z78 (i := 0) (x := [.int .i64 k, .str t, .str o, sk, sc]) rfl
    have i1 := i1 .i64
    simp only [nat0] at i1
    have c1 : h1.cell? id (off + 0) = some (.int .i64 k) := H.cell (i := 0) rfl
    have c2 : h1.cell? id (off + 1) = some (.str t) := H.cell (i := 1) rfl
    by_cases hk : k = 1
    · subst hk
      have e2 : ((1 : Int) != 1) = false := rfl
      simp (implicitDefEqProofs := false) only [core, reduceIte, R59, S59, bx, fa60_0, Nat.zero_add, ld58, c0, hal, i_neq, e, i1, fa78_0, fa78_1, ld3, ld9, c1, c2, e2]
      exact nrm_tup q1
    · have e2 : (k != 1) = true := by simpa using hk
      have e3 : plain [.mk k t o sk kids sc cs] = none := if_neg hk
      rw [e3]
      simp (implicitDefEqProofs := false) only [core, reduceIte, R59, S59, bx, fa60_0, Nat.zero_add, ld58, c0, hal, i_neq, e, i1, fa78_0, fa78_1, ld3, ld9, c1, c2, e2]
      exact nrm_tup q1
theorem str_flat (l : List (List Nat)) : (l.map fun t => [AV.str t]).flatten = l.map .str := by
  induction l with
  | nil => rfl
  | cons a l ih => simp only [List.map_cons, List.flatten_cons, ih, List.cons_append, List.nil_append]
theorem filterMap_next {α β : Type} {l : List α} (f : α → Option β) {i : Nat} (hi : i < l.length) : (l.take (i + 1)).filterMap f = (l.take i).filterMap f ++ (f l[i]).toList := by
  rw [take_next hi, List.filterMap_append]
  cases h : f l[i] with
  | none => simp [h]
  | some b => simp [h]
theorem callsr36 {h : AH} {T : Nd} (hb : T.sz ≤ 1048576) (hv : T.ok h) (n : Nat) (hn : 4 * T.sz + 24 ≤ n) :
    ∃ s2 h2, X n (.func 36) [.agg T.cells] h = some (s2, h2) ∧ Sl h2 s2 1 ((T.all.filterMap Nd.call).map fun t => [.str t]) ∧ Quiet h h2 ∧ SlNew s2 h.next := by
  obtain ⟨m, rfl⟩ : ∃ m, n = m + 2 := ⟨n - 2, by omega⟩
  have hall := all_le T
  have q1 : Quiet h (h.alloc T.cells) := Other.alloc _ _ _
  have HB := Has.new h T.cells
  have bx : boxV (.agg T.cells) h = some (.ptr h.next 0, h.alloc T.cells) := box_agg h _
  rw [ent36]
  unfold cd36
  generalize h.alloc T.cells = h1 at *
  have r1 := ldS HB (n := 10) T.cells_len
  obtain ⟨s2, h2, g1, g2, g3, g4⟩ := allr31 _ (Nat.le_refl T.sz) hb (hv.quiet q1) (m + 1) (by omega)
  have hl1 : alen Try.prog 47 s2 = some T.all.length := by rw [g2.alen u47, List.length_map]
  have q02 := q1.trans g3
  simp (implicitDefEqProofs := false) only [core, reduceIte, R36, S36, bx, ld49, r1, g1]
  generalize hr : aloop _ _ _ _ _ = r
  revert r hr
  refine loop_all T.all.length (fun i h' fr => ∃ t, Quiet h2 h' ∧ Own h' t 1 (((T.all.take i).filterMap Nd.call).map .str) h2.next ∧ fr = C36_4 t s2 (.int .i64 (i : Int))) ?_ ?_ ⟨.nilSl, Other.refl _ _, Own.nil _ _ _, by rw [cl36_4]; rfl⟩ (by omega)
  · rintro i h5 fr hi ⟨t, q, o, e⟩ k hk
    have hx : (T.all.map Nd.cells)[i]? = some T.all[i].cells := by rw [List.getElem?_map, List.getElem?_eq_getElem hi]; rfl
    obtain ⟨id, off, i1, H⟩ := (g2.quiet q).ix u47 z49 hx
    have hmem := List.getElem_mem hi
    have hne := filterMap_next Nd.call hi
    have hln := List.length_filterMap_le Nd.call (T.all.take i)
    rw [List.length_take] at hln
    generalize T.all[i] = x at *
    have hxo := Nd.all_ok _ (Nat.le_refl T.sz) hv x hmem
    have qq := q02.trans q
    obtain ⟨kd, name, nt, inn, so, ops, sa, az, sw, ws, sr, rs, sm, ms, sk, kids⟩ := x
    simp only [Nd.cells] at H
    have c0 : h5.cell? id (off + 0) = some (.int .i64 kd) := H.cell (i := 0) rfl
    have c6 : h5.cell? id (off + 6) = some sw := H.cell (i := 6) rfl
    simp only [Nd.ok] at hxo
    obtain ⟨_, _, ⟨vw1, vw2⟩, _⟩ := hxo
    have Sw := vw1.quiet qq
    have hal : alen Try.prog 44 sw = some ws.length := by rw [Sw.alen u44, List.length_map]
    have d : decide ((i : Int) < (T.all.length : Int)) = true := by simp; omega
    have w := wrap_succ i (by omega)
    rw [e]
    unfold C36_4 lp36_4
    by_cases hkd : kd = 4
    · subst hkd
      have dd : ((4 : Int) != 4) = false := rfl
      match ws, hal, Sw, vw2, hne with
      | [], hal, _, _, hne =>
        have e : ((([] : List Wd).length : Int) == 0) = true := rfl
        simp (implicitDefEqProofs := false) only [core, reduceIte, R36, S36, hl1, i_lss, d, i1, fa49_0, fa49_6, ld3, ld44, c0, c6, i_neq, dd, hal, i_eql, e, i_add, w]
        refine hk _ _ ⟨t, q, ?_, by rw [cl36_4]⟩
        rw [hne]
        have : Nd.call (.mk 4 name nt inn so ops sa az sw [] sr rs sm ms sk kids) = none := rfl
        rw [this]
        simpa using o
      | .mk s ps :: l, hal, Sw, vw2, hne =>
        have e : (((.mk s ps :: l : List Wd).length : Int) == 0) = false := by simp only [List.length_cons, beq_eq_false_iff_ne, ne_eq]; omega
        obtain ⟨idw, offw, i2, Hw⟩ := Sw.ix u44 z60 (i := 0) (x := [s]) rfl
        have i2 := i2 .i64
        simp only [nat0] at i2
        have rw1 := ldS Hw (n := 1) rfl
        simp only [okW, Wd.ok] at vw2
        have p59 := plain59 (vw2.1.1.quiet qq) m
        have hcall : Nd.call (.mk 4 name nt inn so ops sa az sw (.mk s ps :: l) sr rs sm ms sk kids) = plain ps := rfl
        rw [hcall] at hne
        cases hp : plain ps with
        | none =>
          rw [hp] at p59 hne
          simp only [Option.getD_none, Option.isSome_none] at p59
          simp (implicitDefEqProofs := false) only [core, reduceIte, R36, S36, hl1, i_lss, d, i1, fa49_0, fa49_6, ld3, ld44, c0, c6, i_neq, dd, hal, i_eql, e, i2, ld60, rw1, p59, i_add, w]
          exact hk _ _ ⟨t, q, by rw [hne]; simpa using o, by rw [cl36_4]⟩
        | some tx =>
          rw [hp] at p59 hne
          simp only [Option.getD_some, Option.isSome_some] at p59
          have b1 := bsl40 h5 tx
          obtain ⟨t2, h7, a1, a2, a3, a4, a5⟩ := own_app (x := .sl h5.next 0 1 1 (some 1)) (new := [.str tx]) (n := 1) (o.quiet (Other.alloc _ h5 [.str tx])) (Nat.le_trans q.next (Nat.le_succ _)) el9 u40 u40 rfl rfl ((sl_one (.str tx) (some 1)).first) rfl rfl (by simp only [List.length_map, List.length_cons, List.length_nil]; omega)
          simp (implicitDefEqProofs := false) only [core, reduceIte, R36, S36, hl1, i_lss, d, i1, fa49_0, fa49_6, ld3, ld44, c0, c6, i_neq, dd, hal, i_eql, e, i2, ld60, rw1, p59, b1, a1, i_add, w]
          exact hk _ _ ⟨t2, (q.more [.str tx]).beyond a3, by rw [hne]; simpa using a2, by rw [cl36_4]⟩
    · have dd : (kd != 4) = true := by simpa using hkd
      simp (implicitDefEqProofs := false) only [core, reduceIte, R36, S36, hl1, i_lss, d, i1, fa49_0, fa49_6, ld3, ld44, c0, c6, i_neq, dd, i_add, w]
      refine hk _ _ ⟨t, q, ?_, by rw [cl36_4]⟩
      rw [hne]
      have : Nd.call (.mk kd name nt inn so ops sa az sw ws sr rs sm ms sk kids) = none := if_neg hkd
      rw [this]
      simpa using o
  · rintro h5 fr ⟨t, q, o, e⟩ k
    have d : decide ((T.all.length : Int) < (T.all.length : Int)) = false := by simp
    rw [List.take_length, ← str_flat] at o
    rw [e]
    unfold C36_4 lp36_4
    simp (implicitDefEqProofs := false) only [core, reduceIte, R36, S36, hl1, i_lss, d]
    have o2 : Own h5 t 1 ((T.all.filterMap Nd.call).map fun t => [AV.str t]).flatten h.next := by
      rcases o with g | ⟨id, len, c, e1, e2, e3, e4⟩
      · exact .inl g
      · exact .inr ⟨id, len, c, e1, e2, Nat.le_trans q02.next e3, e4⟩
    exact nrm_own3 o2 (q02.trans q) (fun x hx => by obtain ⟨c, _, rfl⟩ := List.mem_map.mp hx; rfl) (by omega) (fun a ha => by
      rw [str_flat] at ha
      obtain ⟨t, _, rfl⟩ := List.mem_map.mp ha
      rfl)
end Go.Proofs.Ytgnacecplaemlaa
/-
  Here-documents: the reference's and walk's.
-/
namespace Go.Proofs.Ytgnacecplaemlaa
open AI
set_option linter.unusedSimpArgs false
set_option linter.unusedVariables false
def Rdr.doc : Rdr → Option (List Nat)
  | .mk _ op _ _ here => if op = 12 ∨ op = 13 then some here else none
def Nd.rdrs : Nd → List Rdr
  | .mk _ _ _ _ _ _ _ _ _ _ _ rs _ _ _ _ => rs
def Nd.docs (n : Nd) : List (List Nat) := n.rdrs.filterMap Rdr.doc
theorem Nd.docs_len (n : Nd) : n.rdrs.length ≤ n.own.length := by
  cases n
  simp only [Nd.rdrs, Nd.own, List.length_append, List.length_map]
  omega
theorem docs_le (T : Nd) : ∀ (l : List Nd), (l.flatMap Nd.docs).length ≤ (l.flatMap Nd.own).length := fun l => by
  induction l with
  | nil => simp
  | cons x l ih =>
    have h1 := x.docs_len
    have h2 := List.length_filterMap_le Rdr.doc x.rdrs
    simp only [List.flatMap_cons, List.length_append]
    unfold Nd.docs at *
    omega
theorem heresr42 {h : AH} {T : Nd} (hb : T.sz ≤ 1048576) (hv : T.ok h) (n : Nat) (hn : 4 * T.sz + 24 ≤ n) :
    ∃ s2 h2, X n (.func 42) [.agg T.cells] h = some (s2, h2) ∧ Sl h2 s2 1 ((T.all.flatMap Nd.docs).map fun t => [.str t]) ∧ Quiet h h2 ∧ SlNew s2 h.next := by
  obtain ⟨m, rfl⟩ : ∃ m, n = m + 1 := ⟨n - 1, by omega⟩
  have hall := all_le T
  have hwl := Nd.words_le _ (Nat.le_refl T.sz)
  have hdl := docs_le T T.all
  have q1 : Quiet h (h.alloc T.cells) := Other.alloc _ _ _
  have HB := Has.new h T.cells
  have bx : boxV (.agg T.cells) h = some (.ptr h.next 0, h.alloc T.cells) := box_agg h _
  rw [ent42]
  unfold cd42
  generalize h.alloc T.cells = h1 at *
  have r1 := ldS HB (n := 10) T.cells_len
  obtain ⟨s2, h2, g1, g2, g3, g4⟩ := allr31 _ (Nat.le_refl T.sz) hb (hv.quiet q1) m (by omega)
  have hl1 : alen Try.prog 47 s2 = some T.all.length := by rw [g2.alen u47, List.length_map]
  have q02 := q1.trans g3
  have hdl2 : (T.all.flatMap Nd.docs).length ≤ 1048576 := by
    have : T.words.length ≤ T.sz := hwl
    unfold Nd.words at this
    omega
  simp (implicitDefEqProofs := false) only [core, reduceIte, R42, S42, bx, ld49, r1, g1]
  generalize hr : aloop _ _ _ _ _ = r
  revert r hr
  refine loop_all T.all.length (fun i h' fr => ∃ t, Quiet h2 h' ∧ Own h' t 1 (((T.all.take i).flatMap Nd.docs).map .str) h2.next ∧ fr = C42_4 t s2 (.int .i64 (i : Int))) ?_ ?_ ⟨.nilSl, Other.refl _ _, Own.nil _ _ _, by rw [cl42_4]; rfl⟩ (by omega)
  · rintro i h5 fr hi ⟨t, q, o, e⟩ k hk
    have hx : (T.all.map Nd.cells)[i]? = some T.all[i].cells := by rw [List.getElem?_map, List.getElem?_eq_getElem hi]; rfl
    have hmem := List.getElem_mem hi
    have hne := flatMap_next Nd.docs hi
    have hsp := flatMap_split Nd.docs hi
    have ht : ((T.all.take i).flatMap Nd.docs).length + T.all[i].docs.length ≤ 1048576 := by
      have hl := congrArg List.length hsp
      simp only [List.length_append] at hl
      omega
    obtain ⟨id, off, i1, H⟩ := g2.ix u47 z49 hx
    generalize T.all[i] = x at *
    have hxs := Nd.under_all_sz _ (Nat.le_refl T.sz) x hmem
    have hxo := Nd.all_ok _ (Nat.le_refl T.sz) hv x hmem
    have hrs : ∃ sr, x.cells[7]? = some sr ∧ Sl h sr 4 (x.rdrs.map Rdr.cells) ∧ okR h x.rdrs ∧ szR x.rdrs ≤ x.sz := by
      cases x; simp only [Nd.ok] at hxo; exact ⟨_, rfl, hxo.2.2.2.1.1, hxo.2.2.2.1.2, by simp only [Nd.rdrs, Nd.sz]; omega⟩
    obtain ⟨sr, m1, m2, m3, m4⟩ := hrs
    have hml := szR_len x.rdrs
    have hlr : alen Try.prog 45 sr = some x.rdrs.length := by rw [m2.alen u45, List.length_map]
    have d : decide ((i : Int) < (T.all.length : Int)) = true := by simp; omega
    have w := wrap_succ i (by omega)
    have cc : ∀ {h' : AH}, Quiet h2 h' → h'.cell? id (off + 7) = some sr := fun q => (H.quiet q).cell m1
    rw [e]
    unfold C42_4 lp42_4
    simp (implicitDefEqProofs := false) only [core, reduceIte, R42, S42, hl1, i_lss, d]
    generalize hr : aloop _ _ _ _ _ = r
    revert r hr
    refine loop_all x.rdrs.length (fun j h'' fr => ∃ t, Quiet h2 h'' ∧ Own h'' t 1 (((T.all.take i).flatMap Nd.docs ++ (x.rdrs.take j).filterMap Rdr.doc).map .str) h2.next ∧ fr = C42_7 t s2 (.int .i64 (i : Int)) (.int .i64 (j : Int))) ?_ ?_
      ⟨t, q, by simpa using o, by rw [cl42_7]; rfl⟩ (by omega)
    · rintro j h6 fr hj ⟨t, q, o, e⟩ k2 hk2
      have hx2 : (x.rdrs.map Rdr.cells)[j]? = some x.rdrs[j].cells := by rw [List.getElem?_map, List.getElem?_eq_getElem hj]; rfl
      obtain ⟨id2, off2, i2, H2⟩ := m2.ix u45 z73 hx2
      have hmem2 := List.getElem_mem hj
      have hne2 := filterMap_next Rdr.doc hj
      have hln2 : ((x.rdrs.take j).filterMap Rdr.doc).length + 1 ≤ 1048576 + 1 := by
        have h1 := List.length_filterMap_le Rdr.doc (x.rdrs.take j)
        rw [List.length_take] at h1
        omega
      have hln3 : ((x.rdrs.take j).filterMap Rdr.doc).length ≤ x.docs.length := by
        have : x.docs = (x.rdrs.take j).filterMap Rdr.doc ++ (x.rdrs.drop j).filterMap Rdr.doc := by
          unfold Nd.docs
          rw [← List.filterMap_append, List.take_append_drop]
        rw [this, List.length_append]
        omega
      have hok := okR_mem m3 _ hmem2
      generalize x.rdrs[j] = y at *
      have hat := Rdr.atoms hok
      obtain ⟨num, op, s, ps, here⟩ := y
      simp only [Rdr.cells] at H2 hat
      have qq := q02.trans q
      have r3 := ldS (H2.quiet qq) (n := 4) rfl
      obtain ⟨h7, f1, f2, f3, _⟩ := fill h6 [.str [], .int .i64 0, .nilSl, .str []] [.str num, .int .i64 op, s, .str here] rfl
      have st := stV_agg (t := 73) (n := 4) (l := [.str num, .int .i64 op, s, .str here]) z73 rfl hat h6.next 0 (h6.alloc [.str [], .int .i64 0, .nilSl, .str []])
      rw [f1] at st
      simp only [Option.map_some] at st
      have b1 : h7.cell? h6.next 1 = some (.int .i64 op) := by have := f2.cell (i := 1) (v := .int .i64 op) rfl; rwa [Nat.zero_add] at this
      have b3 : h7.cell? h6.next 3 = some (.str here) := by have := f2.cell (i := 3) (v := .str here) rfl; rwa [Nat.zero_add] at this
      have c7 := cc q
      have d2 : decide ((j : Int) < (x.rdrs.length : Int)) = true := by simp; omega
      have w2 := wrap_succ j (by omega)
      rw [e]
      unfold C42_7 lp42_7
      have app : ∃ t2 h9, aappend Try.prog 40 40 t (.sl h7.next 0 1 1 (some 1)) (h7.alloc [.str here]) = some (t2, h9) ∧ Quiet h2 h9 ∧ Own h9 t2 1 (((T.all.take i).flatMap Nd.docs ++ (x.rdrs.take j).filterMap Rdr.doc).map .str ++ [.str here]) h2.next := by
        have o7 := o.quiet f3
        have q7 := q.trans f3
        obtain ⟨t2, h9, a1, a2, a3, a4, a5⟩ := own_app (x := .sl h7.next 0 1 1 (some 1)) (new := [.str here]) (n := 1) (o7.quiet (Other.alloc _ h7 [.str here])) (Nat.le_trans q7.next (Nat.le_succ _)) el9 u40 u40 rfl rfl ((sl_one (.str here) (some 1)).first) rfl rfl (by simp only [List.length_map, List.length_append, List.length_cons, List.length_nil]; omega)
        exact ⟨t2, h9, a1, (q7.more [.str here]).beyond a3, a2⟩
      obtain ⟨t2, h9, a1, a2, a3⟩ := app
      have bl := bsl40 h7 here
      by_cases h12 : op = 12
      · have e1 : (op == 12) = true := by simp [h12]
        simp (implicitDefEqProofs := false) only [core, reduceIte, R42, S42, i1, fa49_7, ld45, c7, hlr, i_lss, d2, i2, ld73, r3, new73, st, fa73_1, fa73_3, Nat.zero_add, ld3, ld9, b1, b3, i_eql, e1, bl, a1, i_add, w2]
        refine hk2 _ _ ⟨t2, a2, ?_, by rw [cl42_7]⟩
        have hd : Rdr.doc (.mk num op s ps here) = some here := if_pos (.inl h12)
        rw [hne2, hd, ← List.append_assoc, List.map_append]
        exact a3
      · have e1 : (op == 12) = false := by simpa using h12
        by_cases h13 : op = 13
        · have e2 : (op == 13) = true := by simp [h13]
          simp (implicitDefEqProofs := false) only [core, reduceIte, R42, S42, i1, fa49_7, ld45, c7, hlr, i_lss, d2, i2, ld73, r3, new73, st, fa73_1, fa73_3, Nat.zero_add, ld3, ld9, b1, b3, i_eql, e1, e2, bl, a1, i_add, w2]
          refine hk2 _ _ ⟨t2, a2, ?_, by rw [cl42_7]⟩
          have hd : Rdr.doc (.mk num op s ps here) = some here := if_pos (.inr h13)
          rw [hne2, hd, ← List.append_assoc, List.map_append]
          exact a3
        · have e2 : (op == 13) = false := by simpa using h13
          simp (implicitDefEqProofs := false) only [core, reduceIte, R42, S42, i1, fa49_7, ld45, c7, hlr, i_lss, d2, i2, ld73, r3, new73, st, fa73_1, fa73_3, Nat.zero_add, ld3, ld9, b1, b3, i_eql, e1, e2, i_add, w2]
          refine hk2 _ _ ⟨t, q.trans f3, ?_, by rw [cl42_7]⟩
          have hd : Rdr.doc (.mk num op s ps here) = none := if_neg (by omega)
          rw [hne2, hd]
          simpa using o.quiet f3
    · rintro h6 fr ⟨t, q, o, e⟩ k2
      have c7 := cc q
      have d2 : decide ((x.rdrs.length : Int) < (x.rdrs.length : Int)) = false := by simp
      rw [List.take_length] at o
      rw [e]
      unfold C42_7 lp42_7
      simp (implicitDefEqProofs := false) only [core, reduceIte, R42, S42, i1, fa49_7, ld45, c7, hlr, i_lss, d2, i_add, w]
      exact hk _ _ ⟨t, q, by rw [hne]; exact o, by rw [cl42_4]⟩
  · rintro h5 fr ⟨t, q, o, e⟩ k
    have d : decide ((T.all.length : Int) < (T.all.length : Int)) = false := by simp
    rw [List.take_length, ← str_flat] at o
    rw [e]
    unfold C42_4 lp42_4
    simp (implicitDefEqProofs := false) only [core, reduceIte, R42, S42, hl1, i_lss, d]
    have o2 : Own h5 t 1 ((T.all.flatMap Nd.docs).map fun t => [AV.str t]).flatten h.next := by
      rcases o with g | ⟨id, len, c, e1, e2, e3, e4⟩
      · exact .inl g
      · exact .inr ⟨id, len, c, e1, e2, Nat.le_trans q02.next e3, e4⟩
    exact nrm_own3 o2 (q02.trans q) (fun x hx => by obtain ⟨c, _, rfl⟩ := List.mem_map.mp hx; rfl) (by omega) (fun a ha => by
      rw [str_flat] at ha
      obtain ⟨t, _, rfl⟩ := List.mem_map.mp ha
      rfl)
end Go.Proofs.Ytgnacecplaemlaa
/-
  walk.Heres.
-/
namespace Go.Proofs.Ytgnacecplaemlaa
open AI
set_option linter.unusedSimpArgs false
set_option linter.unusedVariables false
section
variable (id0 p N : Nat) (fr : List AV)
def JH (pre : List Nd) (F : Nat → Prop) (h : AH) : Prop :=
  ∃ tv, Rec h id0 ⟨.ready, 41, fr, #[9], ra41_3, rb41_4⟩ ∧ Out h p tv 1 ((pre.flatMap Nd.docs).map .str) N ∧ ¬ OutF p tv id0 ∧ F = fun j => OutF p tv j ∨ j = id0
theorem inv_JH {hB : AH} (h1 : hB.next ≤ id0) (h2 : hB.next ≤ N) : Inv hB (JH id0 p N fr) where
  lt := fun pre F h j ⟨tv, a, b, c, e⟩ hj => by subst e; exact hj.elim (b.lt j) fun e => e ▸ a.1
  ge := fun pre F h j ⟨tv, a, b, c, e⟩ hj => by subst e; exact hj.elim (fun hj => Nat.le_trans h2 (b.ge j hj)) fun e => e ▸ h1
  keep := fun pre F G h h' ⟨tv, a, b, c, e⟩ o hG => by
    subst e
    exact ⟨tv, a.keep o (hG _ (.inr rfl)), b.keep o (fun j hj => hG j (.inl hj)), c, rfl⟩
end
theorem yield41 {hB : AH} {T : Nd} (hb : T.sz ≤ 1048576) (hv : T.ok hB) {id0 p N : Nat} (hid : hB.next ≤ id0) (hNB : hB.next ≤ N) (v0 v1 v2 v4 v5 v6 v7 v8 v9 v10 v11 v12 v13 v14 v15 v16 v17 v18 v19 v20 v21 v22 v23 v24 v25 v26 v27 v28 v29 v30 v31 : AV) :
    Yields (T.sz + 10) hB (.fn (.yield id0) [] []) T.all (JH id0 p N [v0, v1, v2, .ptr p 0, v4, v5, v6, v7, v8, v9, v10, v11, v12, v13, v14, v15, v16, v17, v18, v19, v20, v21, v22, v23, v24, v25, v26, v27, v28, v29, v30, v31]) (fun _ _ _ => False) := by
  intro pre x post hpre F g hj q n2 hn2
  obtain ⟨k, rfl⟩ : ∃ k, n2 = k + 1 := ⟨n2 - 1, by omega⟩
  obtain ⟨tv, r1, o, hF, rfl⟩ := hj
  have hmem : x ∈ T.all := by rw [hpre]; simp
  have hxok := Nd.all_ok _ (Nat.le_refl T.sz) hv x hmem
  have hxs := Nd.under_all_sz _ (Nat.le_refl T.sz) x hmem
  have hlen : (pre.flatMap Nd.docs).length + x.docs.length ≤ 1048576 := by
    have h1 : T.words.length ≤ T.sz := Nd.words_le _ (Nat.le_refl T.sz)
    have h2 := docs_le T T.all
    unfold Nd.words at h1
    rw [hpre, List.flatMap_append, List.flatMap_cons, List.length_append, List.length_append] at h2
    rw [hpre] at h1
    omega
  obtain ⟨g1, f1, f2, f3, f4⟩ := fill g [.int .i64 0, .str [], .bool false, .bool false, .nilSl, .nilSl, .nilSl, .nilSl, .nilSl, .nilSl] x.cells x.cells_len
  have sx := stV_agg (t := 49) (n := 10) (l := x.cells) z49 x.cells_len (Nd.atoms hxok) g.next 0 (g.alloc [.int .i64 0, .str [], .bool false, .bool false, .nilSl, .nilSl, .nilSl, .nilSl, .nilSl, .nilSl])
  rw [f1] at sx
  simp only [Option.map_some] at sx
  have r1' := r1.keep f3 (fun x => x)
  have r1l := r1.1
  have n1 := f3.next
  show ∃ b h' F', X (k + 1) (.yield id0) [.agg x.cells] g = some (.bool b, h') ∧ _
  rw [yield_run r1.2]
  unfold ra41_3
  simp (implicitDefEqProofs := false) only [core, reduceIte, R41, S41, new49, sx]
  rw [mid_ready r1'.2]
  have ob := Other.putOb (h := g1) (id := id0) (some (.loop ⟨.busy, 41, [v0, v1, v2, .ptr p 0, v4, v5, v6, v7, v8, v9, v10, v11, v12, v13, v14, v15, v16, v17, v18, v19, v20, v21, v22, v23, v24, v25, v26, v27, v28, v29, v30, v31], #[9], ra41_3, rb41_4⟩))
  have rb := Rec.put (h := g1) (id := id0) ⟨.busy, 41, [v0, v1, v2, .ptr p 0, v4, v5, v6, v7, v8, v9, v10, v11, v12, v13, v14, v15, v16, v17, v18, v19, v20, v21, v22, v23, v24, v25, v26, v27, v28, v29, v30, v31], #[9], ra41_3, rb41_4⟩ r1'.1
  have ng : (AH.putOb g1 id0 (some (.loop ⟨.busy, 41, [v0, v1, v2, .ptr p 0, v4, v5, v6, v7, v8, v9, v10, v11, v12, v13, v14, v15, v16, v17, v18, v19, v20, v21, v22, v23, v24, v25, v26, v27, v28, v29, v30, v31], #[9], ra41_3, rb41_4⟩))).next = g1.next := rfl
  have q2 : Quiet hB (AH.putOb g1 id0 (some (.loop ⟨.busy, 41, [v0, v1, v2, .ptr p 0, v4, v5, v6, v7, v8, v9, v10, v11, v12, v13, v14, v15, v16, v17, v18, v19, v20, v21, v22, v23, v24, v25, v26, v27, v28, v29, v30, v31], #[9], ra41_3, rb41_4⟩))) := (q.trans f3).plus ob fun j e => .inr (e ▸ hid)
  generalize AH.putOb g1 id0 (some (.loop ⟨.busy, 41, [v0, v1, v2, .ptr p 0, v4, v5, v6, v7, v8, v9, v10, v11, v12, v13, v14, v15, v16, v17, v18, v19, v20, v21, v22, v23, v24, v25, v26, v27, v28, v29, v30, v31], #[9], ra41_3, rb41_4⟩)) = g2 at *
  have O2 : Out g2 p tv 1 ((pre.flatMap Nd.docs).map .str) N := (o.quiet f3).keep ob fun j hj e => hF (e ▸ hj)
  have H2 := (f2.keep ob (F := fun j => j = id0) (by omega)).has
  have hrs : ∃ sr, x.cells[7]? = some sr ∧ Sl hB sr 4 (x.rdrs.map Rdr.cells) ∧ okR hB x.rdrs ∧ szR x.rdrs ≤ x.sz := by
    cases x; simp only [Nd.ok] at hxok; exact ⟨_, rfl, hxok.2.2.2.1.1, hxok.2.2.2.1.2, by simp only [Nd.rdrs, Nd.sz]; omega⟩
  obtain ⟨sr, m1, m2, m3, m4⟩ := hrs
  have hml := szR_len x.rdrs
  have hlr : alen Try.prog 45 sr = some x.rdrs.length := by rw [m2.alen u45, List.length_map]
  have c7 : g2.cell? g.next 7 = some sr := by have := H2.cell m1; rwa [Nat.zero_add] at this
  have hge : ∀ j, OutF p tv j → hB.next ≤ j := fun j hj => Nat.le_trans hNB (O2.ge j hj)
  unfold rb41_4
  simp (implicitDefEqProofs := false) only [core, reduceIte, R41, S41, fa49_7, Nat.zero_add, ld45, c7, hlr]
  generalize hr : aloop _ _ _ _ _ = r
  revert r hr
  refine loop_all x.rdrs.length (fun j h'' fr => ∃ t, Out h'' p t 1 ((pre.flatMap Nd.docs ++ (x.rdrs.take j).filterMap Rdr.doc).map .str) N ∧ OS g2 h'' p tv t ∧ fr = C41_5 (.ptr p 0) sr (.int .i64 (x.rdrs.length : Int)) (.int .i64 (j : Int))) ?_ ?_
    ⟨tv, by simpa using O2, OS.refl _ _ _, by rw [cl41_5]; rfl⟩ (by omega)
  · rintro j h6 fr hj ⟨t, o6, os6, e⟩ k2 hk2
    have hx2 : (x.rdrs.map Rdr.cells)[j]? = some x.rdrs[j].cells := by rw [List.getElem?_map, List.getElem?_eq_getElem hj]; rfl
    obtain ⟨id2, off2, i2, H3⟩ := m2.ix u45 z73 hx2
    have hmem2 := List.getElem_mem hj
    have hne2 := filterMap_next Rdr.doc hj
    have hln3 : ((x.rdrs.take j).filterMap Rdr.doc).length ≤ x.docs.length := by
      have : x.docs = (x.rdrs.take j).filterMap Rdr.doc ++ (x.rdrs.drop j).filterMap Rdr.doc := by
        unfold Nd.docs
        rw [← List.filterMap_append, List.take_append_drop]
      rw [this, List.length_append]
      omega
    have hok := okR_mem m3 _ hmem2
    generalize x.rdrs[j] = y at *
    have hat := Rdr.atoms hok
    obtain ⟨num, op, s, ps, here⟩ := y
    simp only [Rdr.cells] at H3 hat
    have qq : Quiet hB h6 := os6.base q2 hge
    have r3 := ldS (H3.quiet qq) (n := 4) rfl
    obtain ⟨h7, f1, f2, f3', _⟩ := fill h6 [.str [], .int .i64 0, .nilSl, .str []] [.str num, .int .i64 op, s, .str here] rfl
    have st := stV_agg (t := 73) (n := 4) (l := [.str num, .int .i64 op, s, .str here]) z73 rfl hat h6.next 0 (h6.alloc [.str [], .int .i64 0, .nilSl, .str []])
    rw [f1] at st
    simp only [Option.map_some] at st
    have b1 : h7.cell? h6.next 1 = some (.int .i64 op) := by have := f2.cell (i := 1) (v := .int .i64 op) rfl; rwa [Nat.zero_add] at this
    have b3 : h7.cell? h6.next 3 = some (.str here) := by have := f2.cell (i := 3) (v := .str here) rfl; rwa [Nat.zero_add] at this
    have o7 := o6.quiet f3'
    have os7 := os6.trans (OS.of_quiet t f3')
    have co := o7.cell
    have d2 : decide ((j : Int) < (x.rdrs.length : Int)) = true := by simp; omega
    have w2 := wrap_succ j (by omega)
    rw [e]
    unfold C41_5 lp41_5
    have hNg : N ≤ (h7.alloc [.str here]).next := by
      have := o7.le
      have := o7.row.1
      have : (h7.alloc [.str here]).next = h7.next + 1 := rfl
      omega
    have q8 : Quiet h7 (h7.alloc [.str here]) := Other.alloc _ _ _
    obtain ⟨s', g4, g5, a1, a2, a3, a4, a5⟩ := out_app (x := .sl h7.next 0 1 1 (some 1)) (new := [.str here]) (n := 1) (o7.quiet q8) hNg el9 u40 u40 rfl rfl ((sl_one (.str here) (some 1)).first) rfl rfl (by simp only [List.length_map, List.length_append, List.length_cons, List.length_nil]; omega)
    have st2 := stV_one (t := 40) (v := s') (by kernel_rfl) a3 p 0 g4
    rw [a2] at st2
    simp only [Option.map_some] at st2
    have os8 := os7.trans ((OS.of_quiet t q8).trans a5)
    have bl := bsl40 h7 here
    have step : Rdr.doc (.mk num op s ps here) = some here → Out g5 p s' 1 ((pre.flatMap Nd.docs ++ (x.rdrs.take (j + 1)).filterMap Rdr.doc).map .str) N := fun hd => by
      rw [hne2, hd, ← List.append_assoc, List.map_append]
      exact a4
    by_cases h12 : op = 12
    · have e1 : (op == 12) = true := by simp [h12]
      simp (implicitDefEqProofs := false) only [core, reduceIte, R41, S41, i_lss, d2, i2, ld73, r3, new73, st, fa73_1, fa73_3, Nat.zero_add, ld3, ld9, ld40, b1, b3, co, i_eql, e1, bl, a1, st2, i_add, w2]
      exact hk2 _ _ ⟨s', step (if_pos (.inl h12)), os8, by rw [cl41_5]⟩
    · have e1 : (op == 12) = false := by simpa using h12
      by_cases h13 : op = 13
      · have e2 : (op == 13) = true := by simp [h13]
        simp (implicitDefEqProofs := false) only [core, reduceIte, R41, S41, i_lss, d2, i2, ld73, r3, new73, st, fa73_1, fa73_3, Nat.zero_add, ld3, ld9, ld40, b1, b3, co, i_eql, e1, e2, bl, a1, st2, i_add, w2]
        exact hk2 _ _ ⟨s', step (if_pos (.inr h13)), os8, by rw [cl41_5]⟩
      · have e2 : (op == 13) = false := by simpa using h13
        simp (implicitDefEqProofs := false) only [core, reduceIte, R41, S41, i_lss, d2, i2, ld73, r3, new73, st, fa73_1, fa73_3, Nat.zero_add, ld3, ld9, b1, b3, i_eql, e1, e2, i_add, w2]
        refine hk2 _ _ ⟨t, ?_, os7, by rw [cl41_5]⟩
        have hd : Rdr.doc (.mk num op s ps here) = none := if_neg (by omega)
        rw [hne2, hd]
        simpa using o7
  · rintro h6 fr ⟨t, o6, os6, e⟩ k2
    have d2 : decide ((x.rdrs.length : Int) < (x.rdrs.length : Int)) = false := by simp
    rw [List.take_length] at o6
    have ro := rb.keep os6.oth hF
    have hF3 : ¬ OutF p t id0 := fun hf => (os6.fp _ hf).elim hF (by omega)
    rw [e]
    unfold C41_5 lp41_5
    simp (implicitDefEqProofs := false) only [core, reduceIte, R41, S41, i_lss, d2]
    rw [end_normal ro.2]
    refine ⟨true, _, fun j => OutF p t j ∨ j = id0, rfl, ⟨((f3.any.trans (ob.mono fun j _ e => .inr e)).trans (os6.oth.mono fun j _ hj => .inl hj)).trans ((Other.putOb _).mono fun j _ e => .inr e), fun j hj => ?_⟩, ?_⟩
    · rcases hj with hj | hj
      · exact (os6.fp j hj).elim (fun h => .inl (.inl h)) fun h => .inr (by omega)
      · exact .inl (.inr hj)
    · rw [if_pos rfl]
      refine ⟨t, Rec.put _ ro.1, ?_, hF3, rfl⟩
      rw [List.flatMap_append, List.flatMap_cons, List.flatMap_nil, List.append_nil]
      exact o6.keep (Other.putOb _) fun j hj e => hF3 (e ▸ hj)
theorem heres41 {h : AH} {T : Nd} (hb : T.sz ≤ 1048576) (hv : T.ok h) (n : Nat) (hn : 17 * T.sz + 40 ≤ n) :
    ∃ s2 h2, X n (.func 41) [.agg T.cells] h = some (s2, h2) ∧ Sl h2 s2 1 ((T.all.flatMap Nd.docs).map fun t => [.str t]) ∧ Quiet h h2 ∧ SlNew s2 h.next := by
  obtain ⟨m, rfl⟩ : ∃ m, n = m + 2 := ⟨n - 2, by omega⟩
  have q1 : Quiet h (h.alloc T.cells) := Other.alloc _ _ _
  have H1 := Has.new h T.cells
  have n1 : (h.alloc T.cells).next = h.next + 1 := rfl
  have bx : boxV (.agg T.cells) h = some (.ptr h.next 0, h.alloc T.cells) := box_agg h T.cells
  rw [ent41]
  unfold cd41
  generalize h.alloc T.cells = h1 at *
  have q3 : Quiet h1 (h1.alloc [.nilSl]) := Other.alloc _ _ _
  have R3 := Row.new h1 [.nilSl]
  have n3 : (h1.alloc [.nilSl]).next = h1.next + 1 := rfl
  have bn := new40 h1
  generalize h1.alloc [.nilSl] = h3 at *
  have r1 := ldS (H1.quiet q3) (n := 10) T.cells_len
  have a51 := all51 T h3 m
  have q4 : Quiet h3 (h3.alloc T.cells) := Other.alloc _ _ _
  have H4 := Has.new h3 T.cells
  have n4 : (h3.alloc T.cells).next = h3.next + 1 := rfl
  generalize h3.alloc T.cells = h4 at *
  have q04 : Quiet h h4 := (q1.trans q3).trans q4
  have hrd : rdOK none h4 = true := rfl
  have qn := Other.newOb h4 (.loop ⟨.ready, 41, [.agg T.cells, .ptr h.next 0, .nilSl, .ptr h1.next 0, .tup [], .tup [], .tup [], .agg T.cells, .fn (.func 68) [] [.ptr h3.next 0], .tup [], .tup [], .tup [], .tup [], .tup [], .tup [], .tup [], .tup [], .tup [], .tup [], .tup [], .tup [], .tup [], .tup [], .tup [], .tup [], .tup [], .tup [], .tup [], .tup [], .tup [], .tup [], .tup []], #[9], ra41_3, rb41_4⟩)
  have rn : Rec (h4.newOb (.loop ⟨.ready, 41, [.agg T.cells, .ptr h.next 0, .nilSl, .ptr h1.next 0, .tup [], .tup [], .tup [], .agg T.cells, .fn (.func 68) [] [.ptr h3.next 0], .tup [], .tup [], .tup [], .tup [], .tup [], .tup [], .tup [], .tup [], .tup [], .tup [], .tup [], .tup [], .tup [], .tup [], .tup [], .tup [], .tup [], .tup [], .tup [], .tup [], .tup [], .tup [], .tup []], #[9], ra41_3, rb41_4⟩)) h4.next _ := ⟨Nat.lt_succ_self _, by rw [AH.ob?_newOb, if_pos rfl]⟩
  have nn : (h4.newOb (.loop ⟨.ready, 41, [.agg T.cells, .ptr h.next 0, .nilSl, .ptr h1.next 0, .tup [], .tup [], .tup [], .agg T.cells, .fn (.func 68) [] [.ptr h3.next 0], .tup [], .tup [], .tup [], .tup [], .tup [], .tup [], .tup [], .tup [], .tup [], .tup [], .tup [], .tup [], .tup [], .tup [], .tup [], .tup [], .tup [], .tup [], .tup [], .tup [], .tup [], .tup [], .tup []], #[9], ra41_3, rb41_4⟩)).next = h4.next + 1 := rfl
  have Y := yield41 (id0 := h4.next) (p := h1.next) (N := h.next) hb hv q04.next (Nat.le_refl _) (.agg T.cells) (.ptr h.next 0) .nilSl (.tup []) (.tup []) (.tup []) (.agg T.cells) (.fn (.func 68) [] [.ptr h3.next 0]) (.tup []) (.tup []) (.tup []) (.tup []) (.tup []) (.tup []) (.tup []) (.tup []) (.tup []) (.tup []) (.tup []) (.tup []) (.tup []) (.tup []) (.tup []) (.tup []) (.tup []) (.tup []) (.tup []) (.tup []) (.tup []) (.tup []) (.tup [])
  have I := inv_JH (hB := h) h4.next h1.next h.next [.agg T.cells, .ptr h.next 0, .nilSl, .ptr h1.next 0, .tup [], .tup [], .tup [], .agg T.cells, .fn (.func 68) [] [.ptr h3.next 0], .tup [], .tup [], .tup [], .tup [], .tup [], .tup [], .tup [], .tup [], .tup [], .tup [], .tup [], .tup [], .tup [], .tup [], .tup [], .tup [], .tup [], .tup [], .tup [], .tup [], .tup [], .tup [], .tup []] q04.next (Nat.le_refl _)
  obtain ⟨h5, F5, w1, w2, w3⟩ := all68 _ (Nat.le_refl T.sz) hb hv I inv_none (by rfl) Y (F := fun j => OutF h1.next .nilSl j ∨ j = h4.next)
    ⟨.nilSl, rn, ⟨(R3.keep (F := fun _ => False) q4 (fun x => x)).keep (F := fun _ => False) qn (fun x => x), Own.nil _ _ _, by omega, fun _ _ _ _ e => by cases e⟩, fun hf => absurd (outF_nil hf) (by omega), rfl⟩ (q04.trans qn) (b := h3.next) (H4.quiet qn)
    (fun hf => hf.elim (fun hf => absurd (outF_nil hf) (by omega)) (by omega)) (m + 1) (by omega)
  have hF5 : ∀ j, OutF h1.next .nilSl j ∨ j = h4.next → h.next ≤ j := fun j hf => by
    rcases hf with hf | hf
    · have := outF_nil hf; omega
    · omega
  have qf : Quiet h h5 := (q04.trans qn).plus w2.oth fun j hj => .inr (hF5 j hj)
  simp (implicitDefEqProofs := false) only [core, reduceIte, R41, S41, bx, bn, ld49, r1, a51, run_range, hrd, callF_func, hb68]
  generalize hr : rangeEnd _ _ _ = r
  revert r hr
  rcases w3 with ⟨tv, t1, t2, t3, _⟩ | ⟨_, w3⟩
  · refine range_all ⟨_, h5, _, w1, t1.2, .inl ⟨rfl, ?_⟩⟩
    have O6 := t2.keep (Other.putOb (id := h4.next) none) fun j hj e => t3 (e ▸ hj)
    have c5 := O6.cell
    have qg : Quiet h (h5.putOb h4.next none) := qf.plus (Other.putOb none) fun j e => .inr (by omega)
    simp (implicitDefEqProofs := false) only [core, reduceIte, R41, S41, ld40, c5]
    have O7 : Own (h5.putOb h4.next none) tv 1 ((T.all.flatMap Nd.docs).map fun t => [AV.str t]).flatten h.next := by rw [str_flat]; exact O6.own
    exact nrm_own3 O7 qg (fun x hx => by obtain ⟨c, _, rfl⟩ := List.mem_map.mp hx; rfl) (by omega) (fun a ha => by
      rw [str_flat] at ha
      obtain ⟨t, _, rfl⟩ := List.mem_map.mp ha
      rfl)
  · exact w3.elim
end Go.Proofs.Ytgnacecplaemlaa
