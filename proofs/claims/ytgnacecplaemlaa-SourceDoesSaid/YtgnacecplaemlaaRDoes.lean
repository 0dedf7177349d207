/-
  SourceDoes of chapter 37 returns true for every slice of calls; nothing is assumed beyond what the statement itself says.
-/
import Derived.Test.YtgnacecplaemlaaRows
import Derived.WalkKit
import Derived.ProofKit
import Derived.OpenShut
import Derived.ShutString
import Derived.ChangeOld
import Derived.Below
import Derived.Deep.Slices
import Derived.Deep.Strs
import Derived.Test.YtgnacecplaemlaaT11
namespace Go.Proofs.Ytgnacecplaemlaa.sourceDoes
open Go.ChangeShapes Go.WideShapes Go.ChangeAt Go.RowKit
open Go.ChangeMaps (open_string shut_string)
set_option linter.unusedVariables false      -- a walk need not use every 'w<i>' (that an integer argument fits its kind)

theorem own : ownKnob Try.prog.godebug = none := by kernel_rfl
theorem laidOut : laidOutB Try.prog = true := by kernel_rfl
theorem cells37 : Try.prog.cellsOf 37 = 3 := by kernel_rfl
theorem cells3 : Try.prog.cellsOf 3 = 1 := by kernel_rfl
theorem cells9 : Try.prog.cellsOf 9 = 1 := by kernel_rfl

/-- The three cells of one call. -/
structure Op3 where
  k : Int
  name : ByteArray
  value : ByteArray
instance : Inhabited Op3 := ⟨⟨0, ByteArray.empty, ByteArray.empty⟩⟩
def Op3.op (o : Op3) : OpI := ⟨o.k, AI.nats o.name, AI.nats o.value⟩
theorem cell_plain {W : World} {a : Addr} {v : Value} (h : W.cell? a = some v) : a.spot = none ∧ ∃ c e fz, W.heap[a.block]? = some (.cells c e fz) ∧ c[a.off]? = some v := by
  unfold World.cell? at h
  split at h
  · rename_i c e fz hb
    split at h
    · simp at h
    · rename_i hs
      exact ⟨by simpa using hs, c, e, fz, hb, h⟩
  · simp at h

/-! ### The walk: the interpreter's run, told of the model -/
set_option maxRecDepth 100000 in
theorem walk {H : Type} {enc : TypeId × Value → H} {W : World} {base : Nat} {v : Value} {d : DataW H} {p : List MemPlace} (hv : Value.okWide Try.prog W .any base 31 v) (h0 : DataW.Trod enc Try.prog W 0 (fun _ => true) true 31 v d p) :
    Calls Try.prog 4 #[v] W fun e w' => e = .returned (.bool true) ∧ Below W.heap.size W w' := by
  obtain ⟨a, len, cap, rfl⟩ := okWide_slice Try.underlying31 hv
  obtain ⟨fuel, h0⟩ := h0
  rcases Go.Deep.open_slice Try.underlying31 h0 with ⟨hcs, _⟩ | ⟨x, l, cp, m, n, D, Pl, hcs, _, hl, _, hm, _, hx⟩
  · simp [Value.cells] at hcs
    obtain ⟨rfl, rfl, rfl⟩ := hcs
    exact calls_does (AI.HR.empty W) .nilSl (.inl len31n)
  · simp [Value.cells] at hcs
    obtain ⟨rfl, rfl, rfl⟩ := hcs
    have hspot : x.spot = none := by
      simp only [Value.okWide, Try.underlying31, Cell.okWide, Cell.ok] at hv
      exact hv.2.2.2.1
    obtain ⟨b, o, spot⟩ := x
    simp only at hspot
    subst hspot
    simp only [if_true] at hm
    rw [hm, cells37] at hx
    obtain ⟨Q, hQ⟩ := Go.Deep.choose_lt (α := Op3) (p := fun i q => W.cell? ⟨b, o + i * 3, none⟩ = some (.int .i64 q.k) ∧ W.cell? ⟨b, o + i * 3 + 1, none⟩ = some (.string q.name) ∧ W.cell? ⟨b, o + i * 3 + 2, none⟩ = some (.string q.value)) (fun i hi => by
      obtain ⟨cs', h1, h2⟩ := hx i hi
      obtain ⟨_, hlen, hcell⟩ := World.cells?_some h1
      obtain ⟨y0, y1, y2, n', _, _, t0, t1, t2⟩ := Go.Deep.trod_struct3 Try.underlying37 h2
      match cs', hlen with
      | [u0, u1, u2], _ =>
        simp only [cells3, cells9, List.drop_zero, List.drop_succ_cons, List.take_succ_cons, List.take_zero] at t0 t1 t2
        obtain ⟨k, e0, _⟩ := DataW.trod_int Try.underlying3 t0
        obtain ⟨s1, e1, _⟩ := DataW.trod_string Try.underlying9 t1
        obtain ⟨s2, e2, _⟩ := DataW.trod_string Try.underlying9 t2
        simp only [List.cons.injEq, and_true] at e0 e1 e2
        subst e0 e1 e2
        have c0 := hcell 0 (by omega)
        have c1 := hcell 1 (by omega)
        have c2 := hcell 2 (by omega)
        rw [add_plain, add_plain] at c0 c1 c2
        simp only [Nat.add_zero, List.getElem?_cons_zero, List.getElem?_cons_succ] at c0 c1 c2
        exact ⟨⟨k, s1, s2⟩, c0, c1, c2⟩)
    by_cases hz : len = 0
    · subst hz
      have H : AI.HR W.heap.size (fun j => if j = 0 then some ⟨b, o, 0, cap * 3⟩ else none) { m := .nil, next := 1 } W :=
        ⟨fun id b hb => by simp [AI.AH.blk?, AI.Tr.get_nil] at hb, fun id id' b b' r r' _ hb => by simp [AI.AH.blk?, AI.Tr.get_nil] at hb, fun id _ => by simp [AI.AH.blk?, AI.Tr.get_nil], fun id hid => by
          have : 1 ≤ id := hid
          rw [if_neg (by omega)], Nat.le_refl _⟩
      exact calls_does H (.sl 0 0 0 3 none ⟨b, o, 0, cap * 3⟩ o cap rfl (Nat.le_refl _) (Nat.zero_le _) (.inr ⟨rfl, by simp⟩) (by simp)) (.inl (len31 ..))
    · have ops : ∃ ops : List OpI, ops.length = len ∧ ∀ i, i < len → ops[i]? = some (Q i).op := ⟨(List.range len).map fun i => (Q i).op, by simp, fun i hi => by simp [hi]⟩
      obtain ⟨ops, hol, hoi⟩ := ops
      subst hol
      obtain ⟨_, c, e, fz, hb, hc0⟩ := cell_plain (hQ 0 (by omega)).1
      have inb : ∀ j u, W.cell? ⟨b, j, none⟩ = some u → c[j]? = some u := fun j u hj => by
        obtain ⟨_, c', e', fz', hb', h'⟩ := cell_plain hj
        rw [hb] at hb'
        injection hb' with hb'
        injection hb' with q1
        subst q1
        exact h'
      have hsz : o + cap * 3 ≤ c.size := by
        have := inb _ _ (hQ (cap - 1) (by omega)).2.2
        have := (Array.getElem?_eq_some_iff.mp this).1
        omega
      obtain ⟨f, g0, H, hf, hh⟩ := HR.one (l := oflat ops) hb hsz (by rw [oflat_length]; omega) (fun f t v ht => by
        have hlt : t < ops.length * 3 := by have := (List.getElem?_eq_some_iff.mp ht).1; rwa [oflat_length] at this
        have hi : t / 3 < ops.length := by omega
        have hq := hQ (t / 3) (by omega)
        have ho := hoi (t / 3) hi
        have hr : t % 3 = 0 ∨ t % 3 = 1 ∨ t % 3 = 2 := by omega
        rcases hr with hr | hr | hr
        · have := oflat_get ho (c := 0) (v := .int .i64 (Q (t / 3)).k) rfl
          rw [show t / 3 * 3 + 0 = t by omega, ht] at this
          injection this with this
          subst this
          exact ⟨_, inb _ _ (by have := hq.1; rwa [show o + t / 3 * 3 = o + t by omega] at this), .int _ _⟩
        · have := oflat_get ho (c := 1) (v := .str (AI.nats (Q (t / 3)).name)) rfl
          rw [show t / 3 * 3 + 1 = t by omega, ht] at this
          injection this with this
          subst this
          exact ⟨_, inb _ _ (by have := hq.2.1; rwa [show o + t / 3 * 3 + 1 = o + t by omega] at this), .str _ _ rfl⟩
        · have := oflat_get ho (c := 2) (v := .str (AI.nats (Q (t / 3)).value)) rfl
          rw [show t / 3 * 3 + 2 = t by omega, ht] at this
          injection this with this
          subst this
          exact ⟨_, inb _ _ (by have := hq.2.2; rwa [show o + t / 3 * 3 + 2 = o + t by omega] at this), .str _ _ rfl⟩)
      exact calls_does H (.sl 0 0 ops.length 3 none ⟨b, o, 0, cap * 3⟩ o cap hf (Nat.le_refl _) hl (.inr ⟨rfl, by simp⟩) (by simp)) (.inr ⟨0, none, ops, rfl, hh⟩)

/-! ### THE ROW's STEP -/
set_option maxRecDepth 100000 in
theorem lifted (os : Os) (started : os.Started) (H : Type) (enc : TypeId × Value → H) :
    ReturnsInHanded {} Try.checked os 4 .any (Rows.sourceDoesSpec.pre6 enc Try.prog Try.f4 Rows.sourceDoesRow.domain false) (Rows.sourceDoesSpec.post enc Try.prog Try.f4 false true false false) := by
  refine returnsInHanded_of_change (C := Try.checked) own started (by kernel_rfl) Try.func4
    (ChangeSpec.witness6 (enc := enc) (C := Try.checked) false ⟨#[], #[.slice none 0 0], []⟩ 8 (by kernel_rfl) (by kernel_rfl) (by kernel_rfl) (by kernel_rfl)) ?_
  intro W base args ds gs before hval0 hW hcnd _
  have hval : ∀ (j : Nat) t v, Try.f4.params[j]? = some t → args[j]? = some v → Value.okWide Try.prog W .any base t v := hval0
  have hW' := hW
  obtain ⟨p, q, hA0, hV, rfl, hfz, hnd⟩ := hW
  have hA : DataW.TrodAll enc Try.prog W 0 (fun _ => true) true Try.f4.params.toList args.toList ds p := hA0
  rw [Try.params4] at hA hval
  obtain ⟨v0, vs0, d0, ds0, p0, q0, hargs, rfl, rfl, h0, r0⟩ := trodAll_cons hA
  obtain ⟨rfl, rfl, rfl⟩ := trodAll_nil r0
  obtain rfl : args = #[v0] := by cases args; simp_all
  obtain ⟨rfl, rfl⟩ := trodVars_none hV
  have k0 := h0
  have lt0 : ∀ x ∈ p0, x.block < W.heap.size := by obtain ⟨m, hm⟩ := k0; exact DataW.trod_lt m _ _ _ hm
  have w0 := hval 0 31 v0 rfl rfl
  clear hA0 hval0
  refine (walk w0 h0).mono fun e W' ⟨he, bel⟩ => ?_
  subst he
  exact ⟨_, rfl, _, _, _, [], _, [], hW', trodAll_mk1 (shut_bool Try.underlying4 _), (trodAll_cons_mk (Below.trod laidOut (by kernel_rfl) (of_decide_eq_true (by kernel_rfl)) k0 bel lt0) trodAll_mk0), rfl, bel.frame _, fun h => by cases h⟩

theorem over : Rows.sourceDoesRow.holds Try.pinned (OpenSpec.ofChange Rows.sourceDoesSpec) :=
  OpenClaim.holds_of_wide 4 Try.f4 rfl rfl rfl rfl rfl rfl rfl ⟨rfl, rfl, rfl, rfl, rfl⟩ rfl rfl rfl rfl rfl (by kernel_rfl) Try.func4 (by kernel_rfl)
    (of_decide_eq_true (by kernel_rfl)) (by unfold Func.isWrapper; first | (rw [if_pos (by decide +kernel)]; kernel_rfl) | (rw [if_neg (by decide +kernel)]; exact ⟨rfl, rfl⟩))
    (fun os started H enc _ => lifted os started H enc)

/-- ████ THE STATEMENT ████ -/
theorem proved : Rows.SourceDoesSaid :=
  over
#print axioms proved
end Go.Proofs.Ytgnacecplaemlaa.sourceDoes
