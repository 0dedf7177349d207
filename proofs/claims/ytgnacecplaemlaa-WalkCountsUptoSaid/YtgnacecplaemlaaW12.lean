/-
  walk.own: a command's own words.
-/
import Derived.Test.YtgnacecplaemlaaW11
namespace Go.Proofs.Ytgnacecplaemlaa
open AI
set_option linter.unusedSimpArgs false
def Rdr.to : Rdr → Wd
  | .mk _ _ s ps _ => .mk s ps
def Am.pats : Am → List Wd
  | .mk _ pats _ => pats
def Am.body : Am → Nd
  | .mk _ _ body => body
/-- A command's own words. -/
def Nd.own : Nd → List Wd
  | .mk _ _ _ _ _ _ _ az _ ws _ rs _ ms _ _ => az ++ ws ++ rs.map Rdr.to ++ ms.flatMap Am.pats
theorem szR_to (rs : List Rdr) : szW (rs.map Rdr.to) = szR rs := by
  induction rs with
  | nil => simp [szW, szR]
  | cons r l ih => cases r; simp only [List.map_cons, szW, szR, Rdr.to, Wd.sz, Rdr.sz, ih]
theorem szW_append (a b : List Wd) : szW (a ++ b) = szW a + szW b := by
  induction a with
  | nil => simp [szW]
  | cons x a ih => simp only [List.cons_append, szW, ih]; omega
theorem szM_pats (ms : List Am) : szW (ms.flatMap Am.pats) ≤ szM ms := by
  induction ms with
  | nil => simp [szW, szM]
  | cons r l ih => cases r; simp only [List.flatMap_cons, szW_append, szM, Am.pats, Am.sz]; omega
theorem Nd.own_sz (T : Nd) : szW T.own + 1 ≤ T.sz := by
  cases T
  simp only [Nd.own, szW_append, szR_to, Nd.sz]
  have := szM_pats ‹List Am›
  omega
theorem okW_append {h : AH} {a b : List Wd} (ha : okW h a) (hb : okW h b) : okW h (a ++ b) := by
  induction a with
  | nil => exact hb
  | cons x a ih => simp only [okW] at ha; simp only [List.cons_append, okW]; exact ⟨ha.1, ih ha.2⟩
theorem okR_to {h : AH} {rs : List Rdr} (hv : okR h rs) : okW h (rs.map Rdr.to) := by
  induction rs with
  | nil => simp only [List.map_nil, okW]
  | cons r l ih => cases r; simp only [okR, Rdr.ok] at hv; simp only [List.map_cons, okW, Rdr.to, Wd.ok]; exact ⟨hv.1, ih hv.2⟩
theorem okM_pats {h : AH} {ms : List Am} (hv : okM h ms) : okW h (ms.flatMap Am.pats) := by
  induction ms with
  | nil => simp only [List.flatMap_nil, okW]
  | cons r l ih => cases r; simp only [okM, Am.ok] at hv; simp only [List.flatMap_cons, Am.pats]; exact okW_append hv.1.2.1 (ih hv.2)
theorem Nd.own_ok {h : AH} {T : Nd} (hv : T.ok h) : okW h T.own := by
  cases T
  simp only [Nd.ok] at hv
  obtain ⟨_, ⟨_, v2⟩, ⟨_, v3⟩, ⟨_, v4⟩, ⟨_, v5⟩, _⟩ := hv
  exact okW_append (okW_append (okW_append v2 v3) (okR_to v4)) (okM_pats v5)
theorem bsl104 {h0 h : AH} {a b : AV} {ea eb : Nat} {La Lb : List (List AV)} (Sa : Sl h0 a ea La) (Sb : Sl h0 b eb Lb) : bslV Try.prog 104 2 [(0, a), (1, b)] h = some (.sl h.next 0 2 1 (some 2), h.alloc [a, b]) := by
  rcases Sa.2 with ⟨rfl, rfl | ⟨id, off, c, rfl, _⟩⟩ | ⟨id, off, c, rfl, _⟩ <;> rcases Sb.2 with ⟨rfl, rfl | ⟨id', off', c', rfl, _⟩⟩ | ⟨id', off', c', rfl, _⟩ <;> kernel_rfl
theorem own57 {h : AH} {T : Nd} (hb : T.sz ≤ 1048576) (hv : T.ok h) (n : Nat) (hn : T.sz + 8 ≤ n) :
    ∃ s2 h2, X n (.func 57) [.agg T.cells] h = some (s2, h2) ∧ Sl h2 s2 1 (T.own.map Wd.cells) ∧ Quiet h h2 ∧ SlNew s2 h.next := by
  obtain ⟨m, rfl⟩ : ∃ m, n = m + 1 := ⟨n - 1, by omega⟩
  have howns := T.own_sz
  have hownl := szW_len T.own
  have hownk := Nd.own_ok hv
  obtain ⟨kd, name, nt, inn, so, ops, sa, az, sw, ws, sr, rs, sm, ms, sk, kids⟩ := T
  simp only [Nd.sz] at hb hn howns
  simp only [Nd.ok] at hv
  obtain ⟨vo, ⟨va1, va2⟩, ⟨vw1, vw2⟩, ⟨vr1, vr2⟩, ⟨vm1, vm2⟩, vk1, vk2⟩ := hv
  have q1 : Quiet h (h.alloc (Nd.cells (.mk kd name nt inn so ops sa az sw ws sr rs sm ms sk kids))) := Other.alloc _ _ _
  have HB := Has.new h (Nd.cells (.mk kd name nt inn so ops sa az sw ws sr rs sm ms sk kids))
  generalize hh1 : h.alloc (Nd.cells (.mk kd name nt inn so ops sa az sw ws sr rs sm ms sk kids)) = h1 at *
  have cell : ∀ {h' : AH}, Quiet h1 h' → ∀ i v, (Nd.cells (.mk kd name nt inn so ops sa az sw ws sr rs sm ms sk kids))[i]? = some v → h'.cell? h.next i = some v := fun q i v hi => by
    have := (HB.quiet q).cell hi
    rwa [Nat.zero_add] at this
  have c5 := cell (Other.refl _ _) 5 sa rfl
  have c6 := cell (Other.refl _ _) 6 sw rfl
  have b1 := bsl104 (h := h1) va1 vw1
  have q2 : Quiet h1 (h1.alloc [sa, sw]) := Other.alloc _ _ _
  have Sc : Sl (h1.alloc [sa, sw]) (.sl h1.next 0 2 1 (some 2)) 1 ([(sa, az), (sw, ws)].map fun c => [c.1]) := Sl.of_has (L := [[sa], [sw]]) (by simp) (Has.new h1 [sa, sw])
  have ec : catW [(sa, az), (sw, ws)] = az ++ ws := by simp [catW]
  have la := szW_len az
  have lw := szW_len ws
  have lr2 := szR_len rs
  have lm2 := szM_len ms
  obtain ⟨t0, h2, g1, _, g3, g4⟩ := concat74 (hB := h) (L := [(sa, az), (sw, ws)]) (q1.trans q2) Sc (fun c hc => by
    simp only [List.mem_cons, List.not_mem_nil, or_false] at hc
    rcases hc with rfl | rfl
    · exact ⟨va1, va2⟩
    · exact ⟨vw1, vw2⟩) (by rw [ec]; simp; omega) (by simp) m (by simp; omega)
  rw [ec, wd_flat'] at g4
  have q3 : Quiet h1 h2 := q2.trans g3
  have c7 := cell q3 7 sr rfl
  have hlr : alen Try.prog 45 sr = some rs.length := by rw [vr1.alen u45, List.length_map]
  have hlm : alen Try.prog 46 sm = some ms.length := by rw [vm1.alen u46, List.length_map]
  rw [ent57]
  unfold cd57
  simp (implicitDefEqProofs := false) only [run_seq, run_cond, opsS_cons, opsS_nil, sameH_f, sameH_t, run_block, run_loop, run_exit, run_ret, run_skip, ops_cons, ops_nil, ev_tmp, pureS_some, heapS_some, heapN_some, gdS_tt, gdS_ff, gdS_tf, gdS_ft, gdS_undef, List.getD_cons_succ, List.getD_cons_zero, List.set_cons_succ, List.set_cons_zero, Option.bind_some, regR_some, seqR_normal, seqR_ret, seqR_exit, fin0_ret, fin0_normal, fin1_ret, fin1_normal, finN_ret, finN_normal, List.map_cons, List.map_nil, lenV_some, pickV_t, pickV_f, callV_func, callV_yield, extV_tup, condR_true, condR_false, blockR_normal, blockR_ret, blockR_exit, if_true, List.nil_append, List.append_nil, List.cons_append, List.getElem?_cons_zero, List.getElem?_cons_succ, loopR_normal, loopR_exit, loopR_ret, Option.map_some, ite_true, reduceIte, reg57_0, st57_0_0, st57_0_1, reg57_1, st57_1_0, st57_1_1, st57_1_2, st57_1_3, st57_1_4, st57_1_5, st57_1_6, reg57_2, st57_2_0, st57_2_1, st57_2_2, st57_2_3, reg57_3, st57_3_0, reg57_4, st57_4_0, st57_4_1, st57_4_2, st57_4_3, reg57_5, st57_5_0, st57_5_1, st57_5_2, st57_5_3, st57_5_4, st57_5_5, reg57_6, st57_6_0, st57_6_1, reg57_7, st57_7_0, st57_7_1, st57_7_2, st57_7_3, reg57_8, st57_8_0, reg57_9, st57_9_0, st57_9_1, st57_9_2, st57_9_3, reg57_10, st57_10_0, st57_10_1, st57_10_2, st57_10_3, st57_10_4, reg57_11, st57_11_0, st57_11_1, reg57_12, st57_12_0, st57_12_1, box_agg, hh1, fa49_0, fa49_1, fa49_2, fa49_3, fa49_4, fa49_5, fa49_6, fa49_7, fa49_8, fa49_9, fa60_0, fa73_0, fa73_1, fa73_2, fa73_3, fa76_0, fa76_1, fa78_0, fa78_1, fa78_2, fa78_3, fa78_4, Nat.zero_add, ld44, c5, c6, b1, g1, ld45, c7, hlr]
  generalize hr : aloop _ _ _ _ _ = r
  revert r hr
  have ga : Own h2 t0 1 ((az ++ ws).map Wd.sl) h1.next := by
    rcases g4 with g | ⟨id, len, c, e1, e2, e3, e4⟩
    · exact .inl g
    · exact .inr ⟨id, len, c, e1, e2, Nat.le_trans q2.next e3, e4⟩
  have tot : ∀ (a : List Wd), (∃ b, (Nd.mk kd name nt inn so ops sa az sw ws sr rs sm ms sk kids).own = a ++ b) → a.length ≤ 1048576 ∧ okW h a := fun a ⟨b, e⟩ => by
    rw [e] at hownl hownk howns
    rw [List.length_append] at hownl
    refine ⟨by omega, ?_⟩
    have : ∀ (a b : List Wd), okW h (a ++ b) → okW h a := fun a b => by
      induction a with
      | nil => intro _; simp only [okW]
      | cons x a ih => intro hv; simp only [List.cons_append, okW] at *; exact ⟨hv.1, ih hv.2⟩
    exact this a b hownk
  refine loop_all rs.length (fun i h' fr => ∃ t, Quiet h1 h' ∧ Own h' t 1 ((az ++ ws ++ (rs.take i).map Rdr.to).map Wd.sl) h1.next ∧ fr = C57_3 (.ptr h.next 0) t sr (.int .i64 (rs.length : Int)) (.int .i64 (i : Int))) ?_ ?_ ⟨t0, q3, by simpa using ga, by rw [cl57_3]; rfl⟩ (by omega)
  · rintro i h' fr hi ⟨t, q, o, e⟩ k hk
    have hm : rs[i]? = some rs[i] := List.getElem?_eq_getElem hi
    have htk := take_next hi
    have hmem : rs[i] ∈ rs := List.getElem_mem hi
    have hx : (rs.map Rdr.cells)[i]? = some rs[i].cells := by rw [List.getElem?_map, hm]; rfl
    obtain ⟨id, off, i1, H⟩ := vr1.ix u45 z73 hx
    have hok := okR_mem vr2 _ hmem
    have hat := Rdr.atoms hok
    have hto : (az ++ ws ++ (rs.take (i + 1)).map Rdr.to).map Wd.sl = (az ++ ws ++ (rs.take i).map Rdr.to).map Wd.sl ++ [rs[i].to.sl] := by rw [htk]; simp only [List.map_append, List.map_cons, List.map_nil, List.append_assoc]
    have htl := (tot (az ++ ws ++ (rs.take (i + 1)).map Rdr.to) ⟨(rs.drop (i + 1)).map Rdr.to ++ ms.flatMap Am.pats, by
      have : rs.map Rdr.to = (rs.take (i + 1)).map Rdr.to ++ (rs.drop (i + 1)).map Rdr.to := by rw [← List.map_append, List.take_append_drop]
      simp only [Nd.own, this, List.append_assoc]⟩).1
    have hlen : ((az ++ ws ++ (rs.take i).map Rdr.to).map Wd.sl).length + 1 ≤ 1048576 := by
      have hl := congrArg List.length hto
      simp only [List.length_append, List.length_map, List.length_cons, List.length_nil] at hl htl ⊢
      omega
    generalize rs[i] = x at *
    obtain ⟨num, op, s, ps, here⟩ := x
    simp only [Rdr.ok] at hok
    simp only [Rdr.cells] at H hat
    have qq := q1.trans q
    have r1 := ldS (H.quiet qq) (n := 4) rfl
    obtain ⟨h3, f1, f2, f3, _⟩ := fill h' [.str [], .int .i64 0, .nilSl, .str []] [.str num, .int .i64 op, s, .str here] rfl
    have st := stV_agg (t := 73) (n := 4) (l := [.str num, .int .i64 op, s, .str here]) z73 rfl hat h'.next 0 (h'.alloc [.str [], .int .i64 0, .nilSl, .str []])
    rw [f1] at st
    simp only [Option.map_some] at st
    have r2 : (h3.cells? h'.next 1 2).map AV.agg = some (.agg [s]) := by
      have := ldS (Has.part (a := [.str num, .int .i64 op]) (p := [s]) (c := [.str here]) f2.has) (n := 1) rfl
      rwa [Nat.zero_add] at this
    have b2 := bsl60 h3 s
    obtain ⟨s4, h4, p1, p2, p3, _⟩ := own_app (x := .sl h3.next 0 1 1 (some 1)) (new := [s]) (n := 1) ((o.quiet f3).quiet (Other.alloc _ h3 [s])) (Nat.le_trans q.next (Nat.le_trans f3.next (Nat.le_succ _))) el60 u44 u44 rfl rfl ((sl_one s (some 1)).first) rfl (by simp only [atoms, hok.1.atom, Bool.and_self]) (by simp only [List.length_singleton]; omega)
    have d : decide ((i : Int) < (rs.length : Int)) = true := by simp; omega
    have w := wrap_succ i (by omega)
    rw [e]
    unfold C57_3 lp57_3
    simp (implicitDefEqProofs := false) only [run_seq, run_cond, opsS_cons, opsS_nil, sameH_f, sameH_t, run_block, run_loop, run_exit, run_ret, run_skip, ops_cons, ops_nil, ev_tmp, pureS_some, heapS_some, heapN_some, gdS_tt, gdS_ff, gdS_tf, gdS_ft, gdS_undef, List.getD_cons_succ, List.getD_cons_zero, List.set_cons_succ, List.set_cons_zero, Option.bind_some, regR_some, seqR_normal, seqR_ret, seqR_exit, fin0_ret, fin0_normal, fin1_ret, fin1_normal, finN_ret, finN_normal, List.map_cons, List.map_nil, lenV_some, pickV_t, pickV_f, callV_func, callV_yield, extV_tup, condR_true, condR_false, blockR_normal, blockR_ret, blockR_exit, if_true, List.nil_append, List.append_nil, List.cons_append, List.getElem?_cons_zero, List.getElem?_cons_succ, loopR_normal, loopR_exit, loopR_ret, Option.map_some, ite_true, reduceIte, reg57_0, st57_0_0, st57_0_1, reg57_1, st57_1_0, st57_1_1, st57_1_2, st57_1_3, st57_1_4, st57_1_5, st57_1_6, reg57_2, st57_2_0, st57_2_1, st57_2_2, st57_2_3, reg57_3, st57_3_0, reg57_4, st57_4_0, st57_4_1, st57_4_2, st57_4_3, reg57_5, st57_5_0, st57_5_1, st57_5_2, st57_5_3, st57_5_4, st57_5_5, reg57_6, st57_6_0, st57_6_1, reg57_7, st57_7_0, st57_7_1, st57_7_2, st57_7_3, reg57_8, st57_8_0, reg57_9, st57_9_0, st57_9_1, st57_9_2, st57_9_3, reg57_10, st57_10_0, st57_10_1, st57_10_2, st57_10_3, st57_10_4, reg57_11, st57_11_0, st57_11_1, reg57_12, st57_12_0, st57_12_1, i_lss, d, i1, ld73, r1, new73, st, fa49_0, fa49_1, fa49_2, fa49_3, fa49_4, fa49_5, fa49_6, fa49_7, fa49_8, fa49_9, fa60_0, fa73_0, fa73_1, fa73_2, fa73_3, fa76_0, fa76_1, fa78_0, fa78_1, fa78_2, fa78_3, fa78_4, Nat.zero_add, ld60, r2, b2, p1, i_add, w]
    exact hk _ _ ⟨s4, ((q.trans f3).more [s]).beyond p3, by rw [hto]; exact p2, by rw [cl57_3]⟩
  · rintro h' fr ⟨t, q, o, e⟩ k
    have c8 := cell q 8 sm rfl
    have d : decide ((rs.length : Int) < (rs.length : Int)) = false := by simp
    rw [e]
    unfold C57_3 lp57_3
    simp (implicitDefEqProofs := false) only [run_seq, run_cond, opsS_cons, opsS_nil, sameH_f, sameH_t, run_block, run_loop, run_exit, run_ret, run_skip, ops_cons, ops_nil, ev_tmp, pureS_some, heapS_some, heapN_some, gdS_tt, gdS_ff, gdS_tf, gdS_ft, gdS_undef, List.getD_cons_succ, List.getD_cons_zero, List.set_cons_succ, List.set_cons_zero, Option.bind_some, regR_some, seqR_normal, seqR_ret, seqR_exit, fin0_ret, fin0_normal, fin1_ret, fin1_normal, finN_ret, finN_normal, List.map_cons, List.map_nil, lenV_some, pickV_t, pickV_f, callV_func, callV_yield, extV_tup, condR_true, condR_false, blockR_normal, blockR_ret, blockR_exit, if_true, List.nil_append, List.append_nil, List.cons_append, List.getElem?_cons_zero, List.getElem?_cons_succ, loopR_normal, loopR_exit, loopR_ret, Option.map_some, ite_true, reduceIte, reg57_0, st57_0_0, st57_0_1, reg57_1, st57_1_0, st57_1_1, st57_1_2, st57_1_3, st57_1_4, st57_1_5, st57_1_6, reg57_2, st57_2_0, st57_2_1, st57_2_2, st57_2_3, reg57_3, st57_3_0, reg57_4, st57_4_0, st57_4_1, st57_4_2, st57_4_3, reg57_5, st57_5_0, st57_5_1, st57_5_2, st57_5_3, st57_5_4, st57_5_5, reg57_6, st57_6_0, st57_6_1, reg57_7, st57_7_0, st57_7_1, st57_7_2, st57_7_3, reg57_8, st57_8_0, reg57_9, st57_9_0, st57_9_1, st57_9_2, st57_9_3, reg57_10, st57_10_0, st57_10_1, st57_10_2, st57_10_3, st57_10_4, reg57_11, st57_11_0, st57_11_1, reg57_12, st57_12_0, st57_12_1, i_lss, d, fa49_0, fa49_1, fa49_2, fa49_3, fa49_4, fa49_5, fa49_6, fa49_7, fa49_8, fa49_9, fa60_0, fa73_0, fa73_1, fa73_2, fa73_3, fa76_0, fa76_1, fa78_0, fa78_1, fa78_2, fa78_3, fa78_4, Nat.zero_add, ld46, c8, hlm]
    generalize hr : aloop _ _ _ _ _ = r
    revert r hr
    rw [List.take_length] at o
    refine loop_all ms.length (fun i h'' fr => ∃ t, Quiet h1 h'' ∧ Own h'' t 1 ((az ++ ws ++ rs.map Rdr.to ++ (ms.take i).flatMap Am.pats).map Wd.sl) h1.next ∧ fr = C57_8 t sm (.int .i64 (ms.length : Int)) (.int .i64 (i : Int))) ?_ ?_ ⟨t, q, by simpa using o, by rw [cl57_8]; rfl⟩ (by omega)
    · rintro i h'' fr hi ⟨t, q, o, e⟩ k2 hk2
      have hm : ms[i]? = some ms[i] := List.getElem?_eq_getElem hi
      have htk := take_next hi
      have hmem : ms[i] ∈ ms := List.getElem_mem hi
      have hx : (ms.map Am.cells)[i]? = some ms[i].cells := by rw [List.getElem?_map, hm]; rfl
      obtain ⟨id, off, i1, H⟩ := vm1.ix u46 z76 hx
      have hok := okM_mem vm2 _ hmem
      have hat := Am.atoms hok
      have hcl := ms[i].cells_len
      have hto : (az ++ ws ++ rs.map Rdr.to ++ (ms.take (i + 1)).flatMap Am.pats).map Wd.sl = (az ++ ws ++ rs.map Rdr.to ++ (ms.take i).flatMap Am.pats).map Wd.sl ++ ms[i].pats.map Wd.sl := by
        rw [htk]; simp only [List.map_append, List.flatMap_append, List.flatMap_cons, List.flatMap_nil, List.append_nil, List.append_assoc]
      have htl := (tot (az ++ ws ++ rs.map Rdr.to ++ (ms.take (i + 1)).flatMap Am.pats) ⟨(ms.drop (i + 1)).flatMap Am.pats, by
        have : ms.flatMap Am.pats = (ms.take (i + 1)).flatMap Am.pats ++ (ms.drop (i + 1)).flatMap Am.pats := by rw [← List.flatMap_append, List.take_append_drop]
        simp only [Nd.own, this, List.append_assoc]⟩).1
      have hlen : ((az ++ ws ++ rs.map Rdr.to ++ (ms.take i).flatMap Am.pats).map Wd.sl).length + (ms[i].pats.map Wd.sl).length ≤ 1048576 := by
        have hl := congrArg List.length hto
        simp only [List.length_append, List.length_map] at hl htl ⊢
        omega
      generalize ms[i] = x at *
      obtain ⟨s, pats, body⟩ := x
      simp only [Am.ok] at hok
      simp only [Am.pats] at hto hlen
      have qq := q1.trans q
      have r1 := ldS (H.quiet qq) (n := 11) hcl
      obtain ⟨h3, f1, f2, f3, _⟩ := fill h'' [.nilSl, .int .i64 0, .str [], .bool false, .bool false, .nilSl, .nilSl, .nilSl, .nilSl, .nilSl, .nilSl] (Am.cells (.mk s pats body)) hcl
      have st := stV_agg (t := 76) (n := 11) (l := Am.cells (.mk s pats body)) z76 hcl hat h''.next 0 (h''.alloc [.nilSl, .int .i64 0, .str [], .bool false, .bool false, .nilSl, .nilSl, .nilSl, .nilSl, .nilSl, .nilSl])
      rw [f1] at st
      simp only [Option.map_some] at st
      have r2 : h3.cell? h''.next 0 = some s := by have := f2.cell (i := 0) (v := s) rfl; rwa [Nat.zero_add] at this
      have hS := (hok.1.quiet qq).quiet f3
      have hpo : ∀ w ∈ pats, w.ok h := fun w hw => okW_mem hok.2.1 w hw
      obtain ⟨s4, h4, p1, p2, p3, _⟩ := own_app (x := s) (new := pats.map Wd.sl) (n := pats.length) (o.quiet f3) (Nat.le_trans q.next f3.next) el60 u44 u44 rfl (by rw [hS.alenOf, List.length_map]) (by rw [hS.first, wd_flat']) (by simp) (atoms_map _ _ fun w hww => Wd.sl_atom (hpo w hww)) (by omega)
      have d : decide ((i : Int) < (ms.length : Int)) = true := by simp; omega
      have w := wrap_succ i (by omega)
      rw [e]
      unfold C57_8 lp57_8
      simp (implicitDefEqProofs := false) only [run_seq, run_cond, opsS_cons, opsS_nil, sameH_f, sameH_t, run_block, run_loop, run_exit, run_ret, run_skip, ops_cons, ops_nil, ev_tmp, pureS_some, heapS_some, heapN_some, gdS_tt, gdS_ff, gdS_tf, gdS_ft, gdS_undef, List.getD_cons_succ, List.getD_cons_zero, List.set_cons_succ, List.set_cons_zero, Option.bind_some, regR_some, seqR_normal, seqR_ret, seqR_exit, fin0_ret, fin0_normal, fin1_ret, fin1_normal, finN_ret, finN_normal, List.map_cons, List.map_nil, lenV_some, pickV_t, pickV_f, callV_func, callV_yield, extV_tup, condR_true, condR_false, blockR_normal, blockR_ret, blockR_exit, if_true, List.nil_append, List.append_nil, List.cons_append, List.getElem?_cons_zero, List.getElem?_cons_succ, loopR_normal, loopR_exit, loopR_ret, Option.map_some, ite_true, reduceIte, reg57_0, st57_0_0, st57_0_1, reg57_1, st57_1_0, st57_1_1, st57_1_2, st57_1_3, st57_1_4, st57_1_5, st57_1_6, reg57_2, st57_2_0, st57_2_1, st57_2_2, st57_2_3, reg57_3, st57_3_0, reg57_4, st57_4_0, st57_4_1, st57_4_2, st57_4_3, reg57_5, st57_5_0, st57_5_1, st57_5_2, st57_5_3, st57_5_4, st57_5_5, reg57_6, st57_6_0, st57_6_1, reg57_7, st57_7_0, st57_7_1, st57_7_2, st57_7_3, reg57_8, st57_8_0, reg57_9, st57_9_0, st57_9_1, st57_9_2, st57_9_3, reg57_10, st57_10_0, st57_10_1, st57_10_2, st57_10_3, st57_10_4, reg57_11, st57_11_0, st57_11_1, reg57_12, st57_12_0, st57_12_1, i_lss, d, i1, ld76, r1, new76, st, fa49_0, fa49_1, fa49_2, fa49_3, fa49_4, fa49_5, fa49_6, fa49_7, fa49_8, fa49_9, fa60_0, fa73_0, fa73_1, fa73_2, fa73_3, fa76_0, fa76_1, fa78_0, fa78_1, fa78_2, fa78_3, fa78_4, Nat.zero_add, ld44, r2, p1, i_add, w]
      exact hk2 _ _ ⟨s4, (q.trans f3).beyond p3, by rw [hto]; exact p2, by rw [cl57_8]⟩
    · rintro h'' fr ⟨t, q, o, e⟩ k2
      have d : decide ((ms.length : Int) < (ms.length : Int)) = false := by simp
      rw [e]
      unfold C57_8 lp57_8
      simp (implicitDefEqProofs := false) only [run_seq, run_cond, opsS_cons, opsS_nil, sameH_f, sameH_t, run_block, run_loop, run_exit, run_ret, run_skip, ops_cons, ops_nil, ev_tmp, pureS_some, heapS_some, heapN_some, gdS_tt, gdS_ff, gdS_tf, gdS_ft, gdS_undef, List.getD_cons_succ, List.getD_cons_zero, List.set_cons_succ, List.set_cons_zero, Option.bind_some, regR_some, seqR_normal, seqR_ret, seqR_exit, fin0_ret, fin0_normal, fin1_ret, fin1_normal, finN_ret, finN_normal, List.map_cons, List.map_nil, lenV_some, pickV_t, pickV_f, callV_func, callV_yield, extV_tup, condR_true, condR_false, blockR_normal, blockR_ret, blockR_exit, if_true, List.nil_append, List.append_nil, List.cons_append, List.getElem?_cons_zero, List.getElem?_cons_succ, loopR_normal, loopR_exit, loopR_ret, Option.map_some, ite_true, reduceIte, reg57_0, st57_0_0, st57_0_1, reg57_1, st57_1_0, st57_1_1, st57_1_2, st57_1_3, st57_1_4, st57_1_5, st57_1_6, reg57_2, st57_2_0, st57_2_1, st57_2_2, st57_2_3, reg57_3, st57_3_0, reg57_4, st57_4_0, st57_4_1, st57_4_2, st57_4_3, reg57_5, st57_5_0, st57_5_1, st57_5_2, st57_5_3, st57_5_4, st57_5_5, reg57_6, st57_6_0, st57_6_1, reg57_7, st57_7_0, st57_7_1, st57_7_2, st57_7_3, reg57_8, st57_8_0, reg57_9, st57_9_0, st57_9_1, st57_9_2, st57_9_3, reg57_10, st57_10_0, st57_10_1, st57_10_2, st57_10_3, st57_10_4, reg57_11, st57_11_0, st57_11_1, reg57_12, st57_12_0, st57_12_1, i_lss, d]
      rw [List.take_length, ← wd_flat'] at o
      have o2 : Own h'' t 1 ((Nd.mk kd name nt inn so ops sa az sw ws sr rs sm ms sk kids).own.map Wd.cells).flatten h.next := by
        rcases o with g | ⟨id, len, c, e1, e2, e3, e4⟩
        · exact .inl g
        · exact .inr ⟨id, len, c, e1, e2, Nat.le_trans q1.next e3, e4⟩
      exact nrm_own3 o2 (q1.trans q) (fun x hx => by obtain ⟨c, _, rfl⟩ := List.mem_map.mp hx; exact c.cells_len) (by omega) (fun a ha => by
        rw [wd_flat'] at ha
        obtain ⟨c, hc, rfl⟩ := List.mem_map.mp ha
        exact Wd.sl_old (okW_mem hownk c hc))
end Go.Proofs.Ytgnacecplaemlaa
