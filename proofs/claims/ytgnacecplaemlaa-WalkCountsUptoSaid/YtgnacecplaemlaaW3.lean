/-
  Facts of this program's types; the spec of what is counted.
-/
import Derived.Test.YtgnacecplaemlaaW2
namespace Go.Proofs.Ytgnacecplaemlaa
open AI
theorem u58 : Try.prog.underlying 58 = some (.slice 78) := by kernel_rfl
theorem u47 : Try.prog.underlying 47 = some (.slice 49) := by kernel_rfl
theorem u44 : Try.prog.underlying 44 = some (.slice 60) := by kernel_rfl
theorem u45 : Try.prog.underlying 45 = some (.slice 73) := by kernel_rfl
theorem u46 : Try.prog.underlying 46 = some (.slice 76) := by kernel_rfl
theorem u89 : Try.prog.underlying 89 = some (.slice 47) := by kernel_rfl
theorem u104 : Try.prog.underlying 104 = some (.slice 44) := by kernel_rfl
theorem u43 : Try.prog.underlying 43 = some (.slice 3) := by kernel_rfl
theorem u40 : Try.prog.underlying 40 = some (.slice 9) := by kernel_rfl
theorem z78 : asize Try.prog 78 = some 5 := by kernel_rfl
theorem z49 : asize Try.prog 49 = some 10 := by kernel_rfl
theorem z60 : asize Try.prog 60 = some 1 := by kernel_rfl
theorem z73 : asize Try.prog 73 = some 4 := by kernel_rfl
theorem z76 : asize Try.prog 76 = some 11 := by kernel_rfl
theorem z47 : asize Try.prog 47 = some 1 := by kernel_rfl
theorem z44 : asize Try.prog 44 = some 1 := by kernel_rfl
theorem z3 : asize Try.prog 3 = some 1 := by kernel_rfl
theorem z9 : asize Try.prog 9 = some 1 := by kernel_rfl
theorem el49 : Elem 49 10 176 := Elem.of (by kernel_rfl) (by decide) (by decide)
theorem el60 : Elem 60 1 24 := Elem.of (by kernel_rfl) (by decide) (by decide)
theorem el47 : Elem 47 1 24 := Elem.of (by kernel_rfl) (by decide) (by decide)
theorem el9 : Elem 9 1 16 := Elem.of (by kernel_rfl) (by decide) (by decide)
section
variable (id off len n : Nat) (c : Option Nat) (h : AH) (xo yo : Operand) (a b : Int) (s t : List Nat) (x y : Bool)
theorem fa49_0 : afieldAt Try.prog 49 (.ptr id off) 0 = some (.ptr id (off + 0)) := by kernel_rfl
theorem fa49_1 : afieldAt Try.prog 49 (.ptr id off) 1 = some (.ptr id (off + 1)) := by kernel_rfl
theorem fa49_2 : afieldAt Try.prog 49 (.ptr id off) 2 = some (.ptr id (off + 2)) := by kernel_rfl
theorem fa49_3 : afieldAt Try.prog 49 (.ptr id off) 3 = some (.ptr id (off + 3)) := by kernel_rfl
theorem fa49_4 : afieldAt Try.prog 49 (.ptr id off) 4 = some (.ptr id (off + 4)) := by kernel_rfl
theorem fa49_5 : afieldAt Try.prog 49 (.ptr id off) 5 = some (.ptr id (off + 5)) := by kernel_rfl
theorem fa49_6 : afieldAt Try.prog 49 (.ptr id off) 6 = some (.ptr id (off + 6)) := by kernel_rfl
theorem fa49_7 : afieldAt Try.prog 49 (.ptr id off) 7 = some (.ptr id (off + 7)) := by kernel_rfl
theorem fa49_8 : afieldAt Try.prog 49 (.ptr id off) 8 = some (.ptr id (off + 8)) := by kernel_rfl
theorem fa49_9 : afieldAt Try.prog 49 (.ptr id off) 9 = some (.ptr id (off + 9)) := by kernel_rfl
theorem fa60_0 : afieldAt Try.prog 60 (.ptr id off) 0 = some (.ptr id (off + 0)) := by kernel_rfl
theorem fa73_0 : afieldAt Try.prog 73 (.ptr id off) 0 = some (.ptr id (off + 0)) := by kernel_rfl
theorem fa73_1 : afieldAt Try.prog 73 (.ptr id off) 1 = some (.ptr id (off + 1)) := by kernel_rfl
theorem fa73_2 : afieldAt Try.prog 73 (.ptr id off) 2 = some (.ptr id (off + 2)) := by kernel_rfl
theorem fa73_3 : afieldAt Try.prog 73 (.ptr id off) 3 = some (.ptr id (off + 3)) := by kernel_rfl
theorem fa76_0 : afieldAt Try.prog 76 (.ptr id off) 0 = some (.ptr id (off + 0)) := by kernel_rfl
theorem fa76_1 : afieldAt Try.prog 76 (.ptr id off) 1 = some (.ptr id (off + 1)) := by kernel_rfl
theorem fa78_0 : afieldAt Try.prog 78 (.ptr id off) 0 = some (.ptr id (off + 0)) := by kernel_rfl
theorem fa78_1 : afieldAt Try.prog 78 (.ptr id off) 1 = some (.ptr id (off + 1)) := by kernel_rfl
theorem fa78_2 : afieldAt Try.prog 78 (.ptr id off) 2 = some (.ptr id (off + 2)) := by kernel_rfl
theorem fa78_3 : afieldAt Try.prog 78 (.ptr id off) 3 = some (.ptr id (off + 3)) := by kernel_rfl
theorem fa78_4 : afieldAt Try.prog 78 (.ptr id off) 4 = some (.ptr id (off + 4)) := by kernel_rfl
theorem ld3 : ldV Try.prog 3 (.ptr id off) h = h.cell? id off := by kernel_rfl
theorem ld4 : ldV Try.prog 4 (.ptr id off) h = h.cell? id off := by kernel_rfl
theorem ld9 : ldV Try.prog 9 (.ptr id off) h = h.cell? id off := by kernel_rfl
theorem ld40 : ldV Try.prog 40 (.ptr id off) h = h.cell? id off := by kernel_rfl
theorem ld43 : ldV Try.prog 43 (.ptr id off) h = h.cell? id off := by kernel_rfl
theorem ld44 : ldV Try.prog 44 (.ptr id off) h = h.cell? id off := by kernel_rfl
theorem ld45 : ldV Try.prog 45 (.ptr id off) h = h.cell? id off := by kernel_rfl
theorem ld46 : ldV Try.prog 46 (.ptr id off) h = h.cell? id off := by kernel_rfl
theorem ld47 : ldV Try.prog 47 (.ptr id off) h = h.cell? id off := by kernel_rfl
theorem ld53 : ldV Try.prog 53 (.ptr id off) h = h.cell? id off := by kernel_rfl
theorem ld58 : ldV Try.prog 58 (.ptr id off) h = h.cell? id off := by kernel_rfl
theorem ld89 : ldV Try.prog 89 (.ptr id off) h = h.cell? id off := by kernel_rfl
theorem ld49 : ldV Try.prog 49 (.ptr id off) h = (h.cells? id 10 off).map .agg := by kernel_rfl
theorem ld60 : ldV Try.prog 60 (.ptr id off) h = (h.cells? id 1 off).map .agg := by kernel_rfl
theorem ld73 : ldV Try.prog 73 (.ptr id off) h = (h.cells? id 4 off).map .agg := by kernel_rfl
theorem ld76 : ldV Try.prog 76 (.ptr id off) h = (h.cells? id 11 off).map .agg := by kernel_rfl
theorem ld78 : ldV Try.prog 78 (.ptr id off) h = (h.cells? id 5 off).map .agg := by kernel_rfl
theorem nilck : anilCheck (.ptr id off) = some (.ptr id off) := by kernel_rfl
theorem len9 : alen Try.prog 9 (.str s) = some s.length := by kernel_rfl
theorem i_gtr : abin Try.prog .gtr 3 xo yo (.int .i64 a) (.int .i64 b) = some (.bool (decide (a > b))) := rfl
theorem i_geq : abin Try.prog .geq 3 xo yo (.int .i64 a) (.int .i64 b) = some (.bool (decide (a ≥ b))) := rfl
theorem i_leq : abin Try.prog .leq 3 xo yo (.int .i64 a) (.int .i64 b) = some (.bool (decide (a ≤ b))) := rfl
theorem i_lss : abin Try.prog .lss 3 xo yo (.int .i64 a) (.int .i64 b) = some (.bool (decide (a < b))) := rfl
theorem i_add : abin Try.prog .add 3 xo yo (.int .i64 a) (.int .i64 b) = some (.int .i64 (IntKind.i64.wrap (a + b))) := rfl
theorem i_sub : abin Try.prog .sub 3 xo yo (.int .i64 a) (.int .i64 b) = some (.int .i64 (IntKind.i64.wrap (a - b))) := rfl
theorem i_quo10 : abin Try.prog .quo 3 xo yo (.int .i64 a) (.int .i64 10) = some (.int .i64 (IntKind.i64.wrap (a.tdiv 10))) := rfl
theorem i_eql : abin Try.prog .eql 3 xo yo (.int .i64 a) (.int .i64 b) = some (.bool (a == b)) := rfl
theorem i_neq : abin Try.prog .neq 3 xo yo (.int .i64 a) (.int .i64 b) = some (.bool (a != b)) := rfl
theorem not_b : aun .not (.bool x) = some (.bool (!x)) := rfl
theorem box_agg (l : List AV) : boxV (.agg l) h = some (.ptr h.next 0, h.alloc l) := rfl
theorem box_int (k : IntKind) : boxV (.int k a) h = some (.ptr h.next 0, h.alloc [.int k a]) := rfl
theorem max_int (k : IntKind) : maxV [.int k a, .int k b] = some (.int k (if b > a then b else a)) := by
  show some (AV.int k (if decide (b > a) = true then b else a)) = _
  simp only [decide_eq_true_eq]
theorem wrap_nat (hn : n < 4611686018427387904) : IntKind.i64.wrap (n : Int) = n := by
  unfold IntKind.wrap
  simp [IntKind.signed, IntKind.bits]
  omega
theorem wrap_add (m : Nat) (hn : n + m < 4611686018427387904) : IntKind.i64.wrap ((n : Int) + (m : Int)) = ((n + m : Nat) : Int) := by
  rw [show ((n : Int) + (m : Int)) = ((n + m : Nat) : Int) by omega]; exact wrap_nat _ hn
theorem wrap_succ (hn : n + 1 < 4611686018427387904) : IntKind.i64.wrap ((n : Int) + 1) = ((n + 1 : Nat) : Int) := wrap_add n 1 hn
theorem nat0 : ((0 : Nat) : Int) = 0 := rfl
end
/-- A struct, read whole. -/
theorem ldS {h : AH} {id off n : Nat} {l : List AV} (H : Has h id off l) (hl : l.length = n) : (h.cells? id n off).map AV.agg = some (.agg l) := by
  rw [← hl, H.cells]; rfl
/-- A slice of one element that was just made. -/
theorem bsl60 (h : AH) (s : AV) : bslV Try.prog 44 1 [(0, .agg [s])] h = some (.sl h.next 0 1 1 (some 1), h.alloc [s]) := by
  have : bslV Try.prog 44 1 [(0, .agg [s])] h = some (.sl h.next 0 1 1 (some 1), h.alloc [s]) := by kernel_rfl
  exact this
theorem bsl47 (h : AH) (s : AV) (hs : s.atom = true) : bslV Try.prog 89 1 [(0, s)] h = some (.sl h.next 0 1 1 (some 1), h.alloc [s]) := by
  cases s <;> first | (simp [AV.atom] at hs; done) | kernel_rfl
theorem sl_one {h : AH} (s : AV) (c : Option Nat) : Sl (h.alloc [s]) (.sl h.next 0 1 1 c) 1 [[s]] :=
  Sl.of_has (L := [[s]]) (by simp) (Has.new h [s])

/-! ### What commands hold, counted -/
/-- The commands in parts, in order: each with the slice that holds it. -/
def cmds : List Pt → List (AV × List Nd)
  | [] => []
  | .mk k _ _ _ kids sc cs :: l => (if k = 6 then [(sc, cs)] else []) ++ cmds kids ++ cmds l
mutual
def Nd.cnt : Nd → Nat
  | .mk _ _ _ _ _ _ _ az _ ws _ rs _ ms _ kids => 1 + cntN kids + cntW az + cntW ws + cntR rs + cntM ms
def cntP : List Pt → Nat
  | [] => 0
  | .mk k _ _ _ kids _ cs :: l => (if k = 6 then cntN cs else 0) + cntP kids + cntP l
def cntN : List Nd → Nat
  | [] => 0
  | n :: l => n.cnt + cntN l
def cntW : List Wd → Nat
  | [] => 0
  | .mk _ ps :: l => cntP ps + cntW l
def cntR : List Rdr → Nat
  | [] => 0
  | .mk _ _ _ ps _ :: l => cntP ps + cntR l
def cntM : List Am → Nat
  | [] => 0
  | .mk _ pats body :: l => cntW pats + body.cnt + cntM l
end
theorem cmds_ok {h : AH} : ∀ {ps : List Pt}, okP h ps → ∀ c ∈ cmds ps, Sl h c.1 10 (c.2.map Nd.cells) ∧ okN h c.2 ∧ szN c.2 + 1 ≤ szP ps
  | [], _, c, hc => by simp [cmds] at hc
  | .mk k t o sk kids sc cs :: l, hv, c, hc => by
    simp only [okP, Pt.ok] at hv
    obtain ⟨⟨v1, v2, v3, v4⟩, v5⟩ := hv
    simp only [cmds, List.mem_append] at hc
    simp only [szP, Pt.sz]
    rcases hc with (hc | hc) | hc
    · split at hc
      · simp only [List.mem_singleton] at hc; subst hc; exact ⟨v3, v4, by dsimp only; omega⟩
      · simp at hc
    · obtain ⟨q1, q2, q3⟩ := cmds_ok v2 c hc; exact ⟨q1, q2, by omega⟩
    · obtain ⟨q1, q2, q3⟩ := cmds_ok v5 c hc; exact ⟨q1, q2, by omega⟩
theorem cmds_len : ∀ (ps : List Pt), (cmds ps).length ≤ szP ps
  | [] => by simp [cmds]
  | .mk k t o sk kids sc cs :: l => by
    have := cmds_len kids
    have := cmds_len l
    simp only [cmds, List.length_append, szP, Pt.sz]
    split <;> simp <;> omega
theorem cnt_cmds : ∀ (ps : List Pt), ((cmds ps).map fun c => cntN c.2).sum = cntP ps
  | [] => by simp [cmds, cntP]
  | .mk k t o sk kids sc cs :: l => by
    simp only [cmds, cntP, List.map_append, List.sum_append, cnt_cmds kids, cnt_cmds l]
    split <;> simp
mutual
theorem Nd.cnt_le : ∀ (n : Nd), n.cnt ≤ n.sz
  | .mk _ _ _ _ _ ops _ az _ ws _ rs _ ms _ kids => by
    simp only [Nd.cnt, Nd.sz]
    have := cntN_le kids; have := cntW_le az; have := cntW_le ws; have := cntR_le rs; have := cntM_le ms
    omega
theorem cntP_le : ∀ (l : List Pt), cntP l ≤ szP l
  | [] => Nat.le_refl _
  | .mk k _ _ _ kids _ cs :: l => by
    simp only [cntP, szP, Pt.sz]
    have := cntN_le cs; have := cntP_le kids; have := cntP_le l
    split <;> omega
theorem cntN_le : ∀ (l : List Nd), cntN l ≤ szN l
  | [] => Nat.le_refl _
  | n :: l => by simp only [cntN, szN]; have := n.cnt_le; have := cntN_le l; omega
theorem cntW_le : ∀ (l : List Wd), cntW l ≤ szW l
  | [] => Nat.le_refl _
  | .mk _ ps :: l => by simp only [cntW, szW, Wd.sz]; have := cntP_le ps; have := cntW_le l; omega
theorem cntR_le : ∀ (l : List Rdr), cntR l ≤ szR l
  | [] => Nat.le_refl _
  | .mk _ _ _ ps _ :: l => by simp only [cntR, szR, Rdr.sz]; have := cntP_le ps; have := cntR_le l; omega
theorem cntM_le : ∀ (l : List Am), cntM l ≤ szM l
  | [] => Nat.le_refl _
  | .mk _ pats body :: l => by simp only [cntM, szM, Am.sz]; have := cntW_le pats; have := body.cnt_le; have := cntM_le l; omega
end
end Go.Proofs.Ytgnacecplaemlaa
