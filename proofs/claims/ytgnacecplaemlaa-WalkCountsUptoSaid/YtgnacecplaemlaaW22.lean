/-
  What comes in: commands, and all that is in them.
-/
import Derived.Test.YtgnacecplaemlaaW21
namespace Go.Proofs.Ytgnacecplaemlaa
open AI
set_option linter.unusedVariables false
theorem cells49 : Try.prog.cellsOf 49 = 10 := by kernel_rfl
theorem cells78 : Try.prog.cellsOf 78 = 5 := by kernel_rfl
theorem cells60 : Try.prog.cellsOf 60 = 1 := by kernel_rfl
theorem cells73 : Try.prog.cellsOf 73 = 4 := by kernel_rfl
theorem cells76 : Try.prog.cellsOf 76 = 11 := by kernel_rfl
theorem cells3 : Try.prog.cellsOf 3 = 1 := by kernel_rfl
theorem cells4 : Try.prog.cellsOf 4 = 1 := by kernel_rfl
theorem cells9 : Try.prog.cellsOf 9 = 1 := by kernel_rfl
theorem cells43 : Try.prog.cellsOf 43 = 1 := by kernel_rfl
theorem cells44 : Try.prog.cellsOf 44 = 1 := by kernel_rfl
theorem cells45 : Try.prog.cellsOf 45 = 1 := by kernel_rfl
theorem cells46 : Try.prog.cellsOf 46 = 1 := by kernel_rfl
theorem cells47 : Try.prog.cellsOf 47 = 1 := by kernel_rfl
theorem cells58 : Try.prog.cellsOf 58 = 1 := by kernel_rfl
theorem okP_of {h : AH} : ∀ {l : List Pt}, (∀ p ∈ l, p.ok h) → okP h l
  | [], _ => by simp only [okP]
  | p :: l, hl => by simp only [okP]; exact ⟨hl p (by simp), okP_of fun q hq => hl q (by simp [hq])⟩
theorem okW_of {h : AH} : ∀ {l : List Wd}, (∀ p ∈ l, p.ok h) → okW h l
  | [], _ => by simp only [okW]
  | p :: l, hl => by simp only [okW]; exact ⟨hl p (by simp), okW_of fun q hq => hl q (by simp [hq])⟩
theorem okR_of {h : AH} : ∀ {l : List Rdr}, (∀ p ∈ l, p.ok h) → okR h l
  | [], _ => by simp only [okR]
  | p :: l, hl => by simp only [okR]; exact ⟨hl p (by simp), okR_of fun q hq => hl q (by simp [hq])⟩
theorem okM_of {h : AH} : ∀ {l : List Am}, (∀ p ∈ l, p.ok h) → okM h l
  | [], _ => by simp only [okM]
  | p :: l, hl => by simp only [okM]; exact ⟨hl p (by simp), okM_of fun q hq => hl q (by simp [hq])⟩
theorem okN_of {h : AH} : ∀ {l : List Nd}, (∀ p ∈ l, p.ok h) → okN h l
  | [], _ => by simp only [okN]
  | p :: l, hl => by simp only [okN]; exact ⟨hl p (by simp), okN_of fun q hq => hl q (by simp [hq])⟩
theorem szP_sum (l : List Pt) : szP l = (l.map Pt.sz).sum := by
  induction l with
  | nil => simp [szP]
  | cons p l ih => simp only [szP, List.map_cons, List.sum_cons, ih]
theorem szW_sum (l : List Wd) : szW l = (l.map Wd.sz).sum := by
  induction l with
  | nil => simp [szW]
  | cons p l ih => simp only [szW, List.map_cons, List.sum_cons, ih]
theorem szR_sum (l : List Rdr) : szR l = (l.map Rdr.sz).sum := by
  induction l with
  | nil => simp [szR]
  | cons p l ih => simp only [szR, List.map_cons, List.sum_cons, ih]
theorem szM_sum (l : List Am) : szM l = (l.map Am.sz).sum := by
  induction l with
  | nil => simp [szM]
  | cons p l ih => simp only [szM, List.map_cons, List.sum_cons, ih]
theorem szN_sum (l : List Nd) : szN l = (l.map Nd.sz).sum := by
  induction l with
  | nil => simp [szN]
  | cons p l ih => simp only [szN, List.map_cons, List.sum_cons, ih]
section
variable {H : Type} {enc : TypeId × Value → H} {W : World}
/-- Readers of all that a command is made of, up to a bulk. -/
structure Rds (enc : TypeId × Value → H) (W : World) (M : Nat) : Prop where
  pt : Rd enc W 78 Pt.cells (fun h x => x.ok h) Pt.sz M
  wd : Rd enc W 60 Wd.cells (fun h x => x.ok h) Wd.sz M
  rdr : Rd enc W 73 Rdr.cells (fun h x => x.ok h) Rdr.sz M
  am : Rd enc W 76 Am.cells (fun h x => x.ok h) Am.sz M
  nd : Rd enc W 49 Nd.cells (fun h x => x.ok h) Nd.sz M
def Tr (enc : TypeId × Value → H) (W : World) (n : Nat) (t : TypeId) (cs : List Value) (y : DataW H × List MemPlace) : Prop := DataW.trod enc Try.prog W 0 (fun _ => true) true n t cs = some y
theorem fld {n : Nat} {t : TypeId} {k : Nat} {l c : List Value} {y : DataW H × List MemPlace} (hc : Try.prog.cellsOf t = k) (h : Tr enc W n t (l.take (Try.prog.cellsOf t)) y) (e : l.take k = c) : DataW.trod enc Try.prog W 0 (fun _ => true) true n t c = some y := by
  rw [hc, e] at h
  exact h
theorem rd_int (M : Nat) : Rd enc W 3 (fun k : Int => [.int .i64 k]) (fun _ _ => True) (fun _ => 1) M := by
  intro n cs x f h hx hM hr
  obtain ⟨k, rfl, rfl, _⟩ := DataW.trod_int Try.underlying3 hx
  exact ⟨k, f, h, hr, Ext.refl _, Other.refl _ _, .cons _ _ _ _ (.int _ _) .nil, trivial, by simp [Rows.uptoBulk]⟩
set_option maxRecDepth 100000 in
theorem rd_pt {M : Nat} (R : Rds enc W M) : Rd enc W 78 Pt.cells (fun h x => x.ok h) Pt.sz (M + 1) := by
  intro n cs x f h hx hM hr
  obtain ⟨xs, n', _, rfl, hl, hlen, hf⟩ := DataW.trod_struct Try.underlying78 hx
  rw [cells78] at hl
  match cs, hl, xs, hlen, hf, hM with
  | [c0, c1, c2, c3, c4], _, [y0, y1, y2, y3, y4], _, hf, hM =>
    have t0 := fld (enc := enc) (W := W) (n := n') (y := y0) (c := [c0]) cells3 (hf 0 _ rfl) rfl
    have t1 := fld (enc := enc) (W := W) (n := n') (y := y1) (c := [c1]) cells9 (hf 1 _ rfl) rfl
    have t2 := fld (enc := enc) (W := W) (n := n') (y := y2) (c := [c2]) cells9 (hf 2 _ rfl) rfl
    have t3 := fld (enc := enc) (W := W) (n := n') (y := y3) (c := [c3]) cells58 (hf 3 _ rfl) rfl
    have t4 := fld (enc := enc) (W := W) (n := n') (y := y4) (c := [c4]) cells47 (hf 4 _ rfl) rfl
    simp only [List.map_cons, List.map_nil, Rows.uptoBulk, Rows.uptoBulkAll] at hM ⊢
    obtain ⟨k, e0, rfl, _⟩ := DataW.trod_int Try.underlying3 t0
    obtain ⟨s1, e1, rfl, _⟩ := DataW.trod_string Try.underlying9 t1
    obtain ⟨s2, e2, rfl, _⟩ := DataW.trod_string Try.underlying9 t2
    simp only [List.cons.injEq, and_true] at e0 e1 e2
    subst e0 e1 e2
    obtain ⟨a3, L3, f3, h3, p1, p2, p3, ⟨v3, e3, p4⟩, p5, p6, p7⟩ := read_sl u58 cells78 (by omega) Pt.cells_len (fun _ _ _ q o => o.quiet q) R.pt t3 (by omega) hr
    obtain ⟨a4, L4, f4, h4, q1, q2, q3, ⟨v4, e4, q4⟩, q5, q6, q7⟩ := read_sl u47 cells49 (by omega) Nd.cells_len (fun _ _ _ q o => o.quiet q) R.nd t4 (by omega) p1
    simp only [List.cons.injEq, and_true] at e3 e4
    subst e3 e4
    refine ⟨.mk k (nats s1) (nats s2) a3 L3 a4 L4, f4, h4, q1, p2.trans q2, p3.trans q3, ?_, ?_, ?_⟩
    · exact .cons _ _ _ _ (.int _ _) (.cons _ _ _ _ (.str _ _ rfl) (.cons _ _ _ _ (.str _ _ rfl) (.cons _ _ _ _ (p4.mono q2) (.cons _ _ _ _ q4 .nil))))
    · simp only [Pt.ok]
      exact ⟨p5.quiet q3, okP_of fun p hp => (p6 p hp).quiet q3, q5, okN_of q6⟩
    · simp only [Pt.sz, szP_sum, szN_sum]
      omega
set_option maxRecDepth 100000 in
theorem rd_wd {M : Nat} (R : Rds enc W M) : Rd enc W 60 Wd.cells (fun h x => x.ok h) Wd.sz (M + 1) := by
  intro n cs x f h hx hM hr
  obtain ⟨xs, n', _, rfl, hl, hlen, hf⟩ := DataW.trod_struct Try.underlying60 hx
  rw [cells60] at hl
  match cs, hl, xs, hlen, hf, hM with
  | [c0], _, [y0], _, hf, hM =>
    have t0 := fld (enc := enc) (W := W) (n := n') (y := y0) (c := [c0]) cells58 (hf 0 _ rfl) rfl
    simp only [List.map_cons, List.map_nil, Rows.uptoBulk, Rows.uptoBulkAll] at hM ⊢
    obtain ⟨a3, L3, f3, h3, p1, p2, p3, ⟨v3, e3, p4⟩, p5, p6, p7⟩ := read_sl u58 cells78 (by omega) Pt.cells_len (fun _ _ _ q o => o.quiet q) R.pt t0 (by omega) hr
    simp only [List.cons.injEq, and_true] at e3
    subst e3
    refine ⟨.mk a3 L3, f3, h3, p1, p2, p3, .cons _ _ _ _ p4 .nil, ?_, ?_⟩
    · simp only [Wd.ok]
      exact ⟨p5, okP_of p6⟩
    · simp only [Wd.sz, szP_sum]
      omega
set_option maxRecDepth 100000 in
theorem rd_rdr {M : Nat} (R : Rds enc W M) : Rd enc W 73 Rdr.cells (fun h x => x.ok h) Rdr.sz (M + 1) := by
  intro n cs x f h hx hM hr
  obtain ⟨xs, n', _, rfl, hl, hlen, hf⟩ := DataW.trod_struct Try.underlying73 hx
  rw [cells73] at hl
  match cs, hl, xs, hlen, hf, hM with
  | [c0, c1, c2, c3], _, [y0, y1, y2, y3], _, hf, hM =>
    have t0 := fld (enc := enc) (W := W) (n := n') (y := y0) (c := [c0]) cells9 (hf 0 _ rfl) rfl
    have t1 := fld (enc := enc) (W := W) (n := n') (y := y1) (c := [c1]) cells3 (hf 1 _ rfl) rfl
    have t2 := fld (enc := enc) (W := W) (n := n') (y := y2) (c := [c2]) cells60 (hf 2 _ rfl) rfl
    have t3 := fld (enc := enc) (W := W) (n := n') (y := y3) (c := [c3]) cells9 (hf 3 _ rfl) rfl
    simp only [List.map_cons, List.map_nil, Rows.uptoBulk, Rows.uptoBulkAll] at hM ⊢
    obtain ⟨s0, e0, rfl, _⟩ := DataW.trod_string Try.underlying9 t0
    obtain ⟨k, e1, rfl, _⟩ := DataW.trod_int Try.underlying3 t1
    obtain ⟨s3, e3, rfl, _⟩ := DataW.trod_string Try.underlying9 t3
    simp only [List.cons.injEq, and_true] at e0 e1 e3
    subst e0 e1 e3
    obtain ⟨⟨s, ps⟩, f3, h3, p1, p2, p3, p4, p5, p6⟩ := R.wd n' _ y2 f h t2 (by omega) hr
    simp only [Wd.cells] at p4
    cases p4 with
    | cons _ _ _ _ p4 _ =>
    simp only [Wd.ok] at p5
    simp only [Wd.sz] at p6
    refine ⟨.mk (nats s0) k s ps (nats s3), f3, h3, p1, p2, p3, .cons _ _ _ _ (.str _ _ rfl) (.cons _ _ _ _ (.int _ _) (.cons _ _ _ _ p4 (.cons _ _ _ _ (.str _ _ rfl) .nil))), ?_, ?_⟩
    · simp only [Rdr.ok]
      exact p5
    · simp only [Rdr.sz]
      omega
set_option maxRecDepth 100000 in
theorem rd_am {M : Nat} (R : Rds enc W M) : Rd enc W 76 Am.cells (fun h x => x.ok h) Am.sz (M + 1) := by
  intro n cs x f h hx hM hr
  obtain ⟨xs, n', _, rfl, hl, hlen, hf⟩ := DataW.trod_struct Try.underlying76 hx
  rw [cells76] at hl
  match cs, hl, xs, hlen, hf, hM with
  | c0 :: r, hl, [y0, y1], _, hf, hM =>
    have hr10 : r.length = 10 := by simpa using hl
    have t0 := fld (enc := enc) (W := W) (n := n') (y := y0) (c := [c0]) cells44 (hf 0 _ rfl) rfl
    have t1 := fld (enc := enc) (W := W) (n := n') (y := y1) (c := r) cells49 (hf 1 _ rfl) (show List.take 10 r = r from List.take_of_length_le (by omega))
    simp only [List.map_cons, List.map_nil, Rows.uptoBulk, Rows.uptoBulkAll] at hM ⊢
    obtain ⟨a3, L3, f3, h3, p1, p2, p3, ⟨v3, e3, p4⟩, p5, p6, p7⟩ := read_sl u44 cells60 (by omega) Wd.cells_len (fun _ _ _ q o => o.quiet q) R.wd t0 (by omega) hr
    simp only [List.cons.injEq, and_true] at e3
    subst e3
    obtain ⟨T, f4, h4, q1, q2, q3, q4, q5, q6⟩ := R.nd n' _ y1 f3 h3 t1 (by omega) p1
    refine ⟨.mk a3 L3 T, f4, h4, q1, p2.trans q2, p3.trans q3, .cons _ _ _ _ (p4.mono q2) q4, ?_, ?_⟩
    · simp only [Am.ok]
      exact ⟨p5.quiet q3, okW_of fun p hp => (p6 p hp).quiet q3, q5⟩
    · simp only [Am.sz, szW_sum]
      omega
set_option maxRecDepth 100000 in
theorem rd_nd {M : Nat} (R : Rds enc W M) : Rd enc W 49 Nd.cells (fun h x => x.ok h) Nd.sz (M + 1) := by
  intro n cs x f h hx hM hr
  obtain ⟨xs, n', _, rfl, hl, hlen, hf⟩ := DataW.trod_struct Try.underlying49 hx
  rw [cells49] at hl
  match cs, hl, xs, hlen, hf, hM with
  | [c0, c1, c2, c3, c4, c5, c6, c7, c8, c9], _, [y0, y1, y2, y3, y4, y5, y6, y7, y8, y9], _, hf, hM =>
    have t0 := fld (enc := enc) (W := W) (n := n') (y := y0) (c := [c0]) cells3 (hf 0 _ rfl) rfl
    have t1 := fld (enc := enc) (W := W) (n := n') (y := y1) (c := [c1]) cells9 (hf 1 _ rfl) rfl
    have t2 := fld (enc := enc) (W := W) (n := n') (y := y2) (c := [c2]) cells4 (hf 2 _ rfl) rfl
    have t3 := fld (enc := enc) (W := W) (n := n') (y := y3) (c := [c3]) cells4 (hf 3 _ rfl) rfl
    have t4 := fld (enc := enc) (W := W) (n := n') (y := y4) (c := [c4]) cells43 (hf 4 _ rfl) rfl
    have t5 := fld (enc := enc) (W := W) (n := n') (y := y5) (c := [c5]) cells44 (hf 5 _ rfl) rfl
    have t6 := fld (enc := enc) (W := W) (n := n') (y := y6) (c := [c6]) cells44 (hf 6 _ rfl) rfl
    have t7 := fld (enc := enc) (W := W) (n := n') (y := y7) (c := [c7]) cells45 (hf 7 _ rfl) rfl
    have t8 := fld (enc := enc) (W := W) (n := n') (y := y8) (c := [c8]) cells46 (hf 8 _ rfl) rfl
    have t9 := fld (enc := enc) (W := W) (n := n') (y := y9) (c := [c9]) cells47 (hf 9 _ rfl) rfl
    simp only [List.map_cons, List.map_nil, Rows.uptoBulk, Rows.uptoBulkAll] at hM ⊢
    obtain ⟨k, e0, rfl, _⟩ := DataW.trod_int Try.underlying3 t0
    obtain ⟨s1, e1, rfl, _⟩ := DataW.trod_string Try.underlying9 t1
    obtain ⟨b2, e2, rfl⟩ := DataW.trod_bool Try.underlying4 t2
    obtain ⟨b3, e3, rfl⟩ := DataW.trod_bool Try.underlying4 t3
    simp only [List.cons.injEq, and_true] at e0 e1 e2 e3
    subst e0 e1 e2 e3
    obtain ⟨a4, L4, f4, h4, i1, i2, i3, ⟨v4, e4, i4⟩, i5, i6, i7⟩ := read_sl (M := M) u43 cells3 (by omega) (fun _ => rfl) (fun _ _ _ _ _ => trivial) (rd_int M) t4 (by omega) hr
    obtain ⟨a5, L5, f5, h5, j1, j2, j3, ⟨v5, e5, j4⟩, j5, j6, j7⟩ := read_sl u44 cells60 (by omega) Wd.cells_len (fun _ _ _ q o => o.quiet q) R.wd t5 (by omega) i1
    obtain ⟨a6, L6, f6, h6, k1, k2, k3, ⟨v6, e6, k4⟩, k5, k6, k7⟩ := read_sl u44 cells60 (by omega) Wd.cells_len (fun _ _ _ q o => o.quiet q) R.wd t6 (by omega) j1
    obtain ⟨a7, L7, f7, h7, l1, l2, l3, ⟨v7, e7, l4⟩, l5, l6, l7⟩ := read_sl u45 cells73 (by omega) Rdr.cells_len (fun _ _ _ q o => o.quiet q) R.rdr t7 (by omega) k1
    obtain ⟨a8, L8, f8, h8, m1, m2, m3, ⟨v8, e8, m4⟩, m5, m6, m7⟩ := read_sl u46 cells76 (by omega) Am.cells_len (fun _ _ _ q o => o.quiet q) R.am t8 (by omega) l1
    obtain ⟨a9, L9, f9, h9, n1, n2, n3, ⟨v9, e9, n4⟩, n5, n6, n7⟩ := read_sl u47 cells49 (by omega) Nd.cells_len (fun _ _ _ q o => o.quiet q) R.nd t9 (by omega) m1
    simp only [List.cons.injEq, and_true] at e4 e5 e6 e7 e8 e9
    subst e4 e5 e6 e7 e8 e9
    have x8 := n2
    have x7 := m2.trans x8
    have x6 := l2.trans x7
    have x5 := k2.trans x6
    have x4 := j2.trans x5
    have w8 := n3
    have w7 := m3.trans w8
    have w6 := l3.trans w7
    have w5 := k3.trans w6
    have w4 := j3.trans w5
    refine ⟨.mk k (nats s1) b2 b3 a4 L4 a5 L5 a6 L6 a7 L7 a8 L8 a9 L9, f9, h9, n1, i2.trans x4, i3.trans w4, ?_, ?_, ?_⟩
    · exact .cons _ _ _ _ (.int _ _) (.cons _ _ _ _ (.str _ _ rfl) (.cons _ _ _ _ (.bool _) (.cons _ _ _ _ (.bool _) (.cons _ _ _ _ (i4.mono x4) (.cons _ _ _ _ (j4.mono x5) (.cons _ _ _ _ (k4.mono x6) (.cons _ _ _ _ (l4.mono x7) (.cons _ _ _ _ (m4.mono x8) (.cons _ _ _ _ n4 .nil)))))))))
    · simp only [Nd.ok]
      exact ⟨i5.quiet w4, ⟨j5.quiet w5, okW_of fun p hp => (j6 p hp).quiet w5⟩, ⟨k5.quiet w6, okW_of fun p hp => (k6 p hp).quiet w6⟩, ⟨l5.quiet w7, okR_of fun p hp => (l6 p hp).quiet w7⟩, ⟨m5.quiet w8, okM_of fun p hp => (m6 p hp).quiet w8⟩, n5, okN_of n6⟩
    · have hops : (L4.map fun _ => 1).sum = L4.length := by
        clear i5 i6 i7
        induction L4 with
        | nil => rfl
        | cons a l ih => simp only [List.map_cons, List.sum_cons, ih, List.length_cons]; omega
      simp only [Nd.sz, szW_sum, szR_sum, szM_sum, szN_sum]
      omega
theorem bulk_pos (d : DataW H) : 1 ≤ Rows.uptoBulk d := by
  cases d with
  | lit l => cases l <;> simp [Rows.uptoBulk]
  | _ => simp [Rows.uptoBulk]
theorem rds : ∀ M, Rds enc W M
  | 0 => by
    have z : ∀ {α : Type} {e : TypeId} {cells : α → List AV} {ok : AH → α → Prop} {size : α → Nat}, Rd enc W e cells ok size 0 := fun n cs x f h _ hM => absurd (bulk_pos x.1) (by omega)
    exact ⟨z, z, z, z, z⟩
  | M + 1 => ⟨rd_pt (rds M), rd_wd (rds M), rd_rdr (rds M), rd_am (rds M), rd_nd (rds M)⟩
end
end Go.Proofs.Ytgnacecplaemlaa
