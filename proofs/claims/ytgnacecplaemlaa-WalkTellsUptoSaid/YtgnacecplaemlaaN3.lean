/-
  Part 3 of 9 of the proof of WalkTells: what follows.
-/
import Derived.RangeFuncNested
import Derived.Test.YtgnacecplaemlaaN2
/-
  An abstract interpreter for the model's code, part 17: code, functions, calls: a run of the interpreter that ends is a call of the model that returns.
-/
namespace Go.Proofs.Ytgnacecplaemlaa.AI
open Go.RowKit

/-! ### Code -/
inductive AEx where
  | normal
  | exit (id : Nat)
  | ret
def AEx.conv : AEx → Exit
  | .normal => .normal
  | .exit id => .exit id
  | .ret => .ret

/-- Which slots are still wanted at the head of a loop, by the number of the first region in it. -/
abbrev Hint := Nat → Option (List Nat)
def firstRegion : Code → Option Nat
  | .region id _ _ => some id
  | .seq a b => match firstRegion a with | some i => some i | none => firstRegion b
  | .cond _ a b => match firstRegion a with | some i => some i | none => firstRegion b
  | .block _ c | .loop c | .scope c => firstRegion c
  | _ => none
def akeep (keep : List Nat) : Nat → List AV → List AV
  | _, [] => []
  | i, v :: l => (if keep.contains i then v else .top) :: akeep keep (i + 1) l
def aclear (K : Hint) (c : Code) (fr : List AV) : List AV :=
  match firstRegion c with
  | none => fr
  | some id => match K id with
    | none => fr
    | some keep => akeep keep 0 fr

abbrev ARes := Option (AEx × List AV × AH)
def aloop (body : List AV → AH → ARes) (cl : List AV → List AV) : Nat → List AV → AH → ARes
  | 0, _, _ => none
  | n + 1, fr, h =>
    match body (cl fr) h with
    | some (.normal, fr', h') => aloop body cl n fr' h'
    | r => r
/-- A function of the program with a body: a call enters it. -/
def hasBody (P : Program) (g : FuncId) : Bool :=
  match P.funcs[g]? with
  | some fn => fn.body.isSome && !(fn.name == "runtime.NumGoroutine")
  | none => false
/-- In a round its loop is known. -/
noncomputable def rdOK (rd : Option Nat) (h : AH) : Bool :=
  match rd with
  | none => true
  | some id => match h.ob? id with
    | some (.loop _) => true
    | _ => false
/-- The one call of a loop over a function. -/
def callF (P : Program) (call : ACall) (f : AV) (args : List AV) (h : AH) : Option (AV × AH) :=
  match f with
  | .fn (.func g) first captured => if hasBody P g then call (.func g) (first ++ args ++ captured) h else none
  | _ => none
/-- Behind that call: the pending jump. -/
noncomputable def rangeEnd (id : Nat) (fr : List AV) (x : Option (AV × AH)) : ARes :=
  match x with
  | some (_, h2) =>
    match h2.ob? id with
    | some (.loop L) =>
      match L.st with
      | .ready => some (.normal, fr, h2.putOb id none)
      | .ret => some (.ret, fr, h2.putOb id none)
      | .exit k => some (.exit k, fr, h2.putOb id none)
      | .busy => none
    | _ => none
  | none => none
noncomputable def arun (P : Program) (K : Hint) (fid : FuncId) (call : ACall) (lf : Nat) (rd : Option Nat) : Code → List AV → AH → ARes
  | .skip => fun fr h => some (.normal, fr, h)
  | .label _ => fun fr h => some (.normal, fr, h)
  | .region id ops draw => fun fr h =>
    match draw with
    | false => match aops P call ops (List.range ops.size) fr h with
      | some (fr', h') => some (.normal, fr', h')
      | none => none
    | true => match sdraw P (K (1000000 + id)) call ops fr h with
      | some (fr', h') => some (.normal, fr', h')
      | none => none
  | .seq x y => fun fr h =>
    match arun P K fid call lf rd x fr h with
    | some (.normal, fr', h') => arun P K fid call lf rd y fr' h'
    | r => r
  | .cond c x y => fun fr h =>
    match aev fr c with
    | .bool true => arun P K fid call lf rd x fr h
    | .bool false => arun P K fid call lf rd y fr h
    | _ => none
  | .block id c => fun fr h =>
    match arun P K fid call lf rd c fr h with
    | some (.exit id', fr', h') => if id' = id then some (.normal, fr', h') else some (.exit id', fr', h')
    | r => r
  | .loop c => fun fr h => aloop (arun P K fid call lf rd c) (aclear K c) lf fr h
  | .exit id => fun fr h => some (.exit id, fr, h)
  | .ret => fun fr h => some (.ret, fr, h)
  | .rangeFunc g ps asg body => fun fr h =>
    match rdOK rd h with
    | true => rangeEnd h.next fr (callF P call (aev fr g) [.fn (.yield h.next) [] []] (h.newOb (.loop ⟨.ready, fid, fr, ps, asg, body⟩)))
    | false => none
  | _ => fun _ _ => none

/-! ### Functions -/
noncomputable def aresult (P : Program) (fr : List AV) (h : AH) : ResultVar → Option AV
  | .tmp t => some (fr.getD t .top)
  | .cell a t =>
    match fr.getD a .top, aisAgg P t, asize P t with
    | .ptr id off, some true, some n => (h.cells? id n off).map .agg
    | .ptr id off, some false, _ => h.cell? id off
    | _, _, _ => none
noncomputable def aresultL (P : Program) (fr : List AV) (h : AH) : List ResultVar → Option (List AV)
  | [] => some []
  | r :: l =>
    match aresult P fr h r, aresultL P fr h l with
    | some v, some vs => some (v :: vs)
    | _, _ => none
def aone : List AV → AV
  | [v] => v
  | l => .tup l
noncomputable def afn (P : Program) (K : FuncId → Hint) (call : ACall) (lf : Nat) (g : FuncId) (args : List AV) (h : AH) : Option (AV × AH) :=
  match P.funcs[g]? with
  | some fn =>
    match fn.body with
    | some c =>
      if fn.name == "runtime.NumGoroutine" then none else
      match arun P (K g) g call lf none c (args ++ List.replicate (fn.ntmps - args.length) (.tup [])) h with
      | some (.normal, fr, h') => (aresultL P fr h' fn.results.toList).map fun l => (aone l, h')
      | some (.ret, fr, h') => (aresultL P fr h' fn.results.toList).map fun l => (aone l, h')
      | _ => none
    | none => none
  | none => none
/-! ### Rounds -/
def setParams (fr : List AV) (ps : List Tmp) (args : List AV) : List AV := (ps.zip args).foldl (fun fr p => fr.set p.1 p.2) fr
/-- A round's end. -/
noncomputable def roundEnd (id : Nat) (x : ARes) : Option (AV × AH) :=
  match x with
  | some (ex, _, h2) =>
    match h2.ob? id with
    | some (.loop L) =>
      match ex with
      | .normal => some (.bool true, h2.putOb id (some (.loop { L with st := .ready })))
      | .ret => some (.bool false, h2.putOb id (some (.loop { L with st := .ret })))
      | .exit k => some (.bool false, h2.putOb id (some (.loop { L with st := .exit k })))
    | _ => none
  | none => none
/-- Behind the assignment: the round begins. -/
noncomputable def roundMid (id : Nat) (body : List AV → AH → ARes) (x : ARes) : ARes :=
  match x with
  | some (.normal, fr1, h1) =>
    match h1.ob? id with
    | some (.loop L) =>
      match L.st with
      | .ready => body fr1 (h1.putOb id (some (.loop { L with st := .busy })))
      | _ => none
    | _ => none
  | _ => none
noncomputable def ayield (P : Program) (K : FuncId → Hint) (call : ACall) (lf : Nat) (id : Nat) (args : List AV) (h : AH) : Option (AV × AH) :=
  match h.ob? id with
  | some (.loop L) =>
    if args.length = L.ps.size then
      roundEnd id (roundMid id (arun P (K L.fn) L.fn call lf (some id) L.body) (arun P (K L.fn) L.fn call lf (some id) L.asg (setParams L.fr L.ps.toList args) h))
    else none
  | _ => none
/-- The interpreter, where some calls are answered by a table. -/
noncomputable def bexec (P : Program) (K : FuncId → Hint) (ov : FuncId → List AV → AH → Option (AV × AH)) : Nat → ACall
  | 0 => fun _ _ _ => none
  | n + 1 => fun t args h =>
    match t with
    | .func g =>
      match ov g args h with
      | some r => some r
      | none => afn P K (bexec P K ov n) n g args h
    | .yield id => ayield P K (bexec P K ov n) n id args h
    | _ => none

/-! ### It tells the truth -/
section
variable {P : Program} {K : Hint} {call : ACall} {B D : Nat} {ro : Option Nat} {n : Nat}

theorem sameLoad_eq {a b : Option AV} (h : sameLoad a b = true) : a = b := by
  unfold sameLoad at h
  split at h
  · rw [AV.beq_sound h]
  · simp at h

theorem adraw_sound (hm : P.follows .mixedOrders = true) (hc : CallOK P call) {ops : Array Oper} {id : Nat} {f : Inj} {fr : List AV} {h : AH} {a : Act} {w : World} (S : SR B D f fr h a w)
    {fr' : List AV} {h' : AH} (h0 : adraw P call ops fr h = some (fr', h')) {Q : Exit → Act → World → Prop} (hQ : ∀ f' a' w', Ext f f' → SR B D f' fr' h' a' w' → Kept B w w' → Q .normal a' w') :
    (Code.region id ops true).wpIn (FW ro) n P Q a w := by
  -- the walk, with its checks
  have main : ∀ log, alog P call ops (List.range ops.size) fr h = some log → (List.range ops.size).all (loadOK P (befs ops.toList []) ops log) = true → log[ops.size]? = some (fr', h') →
      tableOK (befs ops.toList []) ops = true → slotsOK (befs ops.toList []) ops = true → Region.noSelect ops = true →
      (∀ (st : Nat → List AV × AH) (val : Nat → AV), Walk P call ops st val → (∀ k, k ≤ ops.size → log[k]? = some (st k)) →
        (∀ i j o, ops[i]? = some o → cls P o = .load → awanted ops (st i).1 o = some true → j < ops.size → heapOp P ops j = true → bef (befs ops.toList []) j i = false → bef (befs ops.toList []) i j = false →
          aload P (aev (st i).1) o (st j).2 = aload P (aev (st i).1) o (st i).2 ∧ aload P (aev (st i).1) o (st (j + 1)).2 = aload P (aev (st i).1) o (st i).2) → ∃ G, DrawG P ops (befs ops.toList []) st val G) →
      (Code.region id ops true).wpIn (FW ro) n P Q a w := by
    intro log hlog hload hlast ht hs hsel hG
    obtain ⟨st, val, W, hst, hk⟩ := walk_of_log hlog
    have hend : st ops.size = (fr', h') := by
      have := hk ops.size (Nat.le_refl _)
      rw [hlast] at this
      injection this with this
      exact this.symm
    obtain ⟨G, DG⟩ := hG st val W hk (fun i j o ho hcl hw hj hhj hb1 hb2 => by
      have hi : i < ops.size := (Array.getElem?_eq_some_iff.1 ho).1
      have h1 := all_range hload hi
      simp only [loadOK, ho, hk i (by omega), hcl, if_true, hw] at h1
      have h2 := all_range h1 hj
      simp only [hhj, Bool.not_true, hb1, hb2, Bool.false_or, hk j (by omega), hk (j + 1) (by omega), Bool.and_eq_true] at h2
      exact ⟨sameLoad_eq h2.1, sameLoad_eq h2.2⟩)
    refine wpIn_region_any hm ?_
    refine draw_gen hc W ht hs hsel DG (B := B) (D := D) ops.size (f := f) (INV.first ⟨_, DG.start f, ?_⟩ ?_ ?_ (fun t b hb => ?_)) (fun f' a' w' e1 s1 b1 => ?_)
    · rw [hst]; exact S.hr.of_heap rfl
    · rw [hst]; exact S.fr.size
    · exact S.dm.kept ((Kept.refl B w).drew)
    · rw [hst] at hb; exact S.fr.get t b hb
    · rw [hend] at s1
      exact hQ f' a' w' e1 s1 (Kept.trans ((Kept.refl B w).drew) b1)
  unfold adraw at h0
  split at h0
  · rename_i hok
    split at h0
    · simp at h0
    · rename_i log hlog
      split at h0
      · rename_i hload
        have hok' := hok
        simp only [drawOK, Bool.and_eq_true] at hok'
        exact main log hlog hload h0 hok'.1.1.1 hok'.1.1.2 hok'.2 fun st val W hk hl => ⟨_, chain_draw hc W hok'.1.1.1 hok'.1.2 hl⟩
      · simp at h0
  · split at h0
    · rename_i hok
      split at h0
      · simp at h0
      · rename_i log hlog
        split at h0
        · rename_i hall
          simp only [Bool.and_eq_true] at hall
          have hok' := hok
          simp only [floatOK, Bool.and_eq_true] at hok'
          have hsl := Nat.blt_eq.mp hok'.1.1.2
          refine main log hlog hall.1.1 h0 hok'.1.1.1.1.1.1.1 hok'.1.1.1.1.1.1.2 hok'.1.1.1.1.1.2 fun st val W hk hl => float_draw hc W hok (fun i hi hb hs => ?_) ?_ hl
          · have h1 := all_range hall.1.2 (show i < ops.size by omega)
            obtain ⟨x, hx⟩ := Option.isSome_iff_exists.mp hs
            unfold apartOK at h1
            rw [if_pos (by rw [hb, Bool.not_false, Bool.and_true]; exact Nat.blt_eq.mpr hi), hx, hk i (by omega), hk _ (by omega)] at h1
            simp only at h1
            split at h1
            · rename_i a b ha hb'
              exact ⟨a, b, ha, hb', fun e => by subst e; simp at h1⟩
            · simp at h1
          · have h1 := hall.2
            unfold sidOK at h1
            rw [hk _ (by omega)] at h1
            exact Option.isSome_iff_exists.mp h1
        · simp at h0
    · split at h0
      · rename_i hok
        split at h0
        · simp at h0
        · rename_i log hlog
          split at h0
          · rename_i hload
            have hok' := hok
            simp only [gapOK, Bool.and_eq_true] at hok'
            exact main log hlog hload h0 hok'.1.1.1.1.1.1.1 hok'.1.1.1.1.1.1.2 hok'.1.1.1.1.1.2 fun st val W hk hl => gap_draw hc W hok hl
          · simp at h0
      · simp at h0

theorem FR.keep {f : Inj} {tmps : Array Value} {fr : List AV} (h : FR f tmps fr) (keep : List Nat) : FR f tmps (akeep keep 0 fr) := by
  have hl : ∀ (l : List AV) (i : Nat), (akeep keep i l).length = l.length := by
    intro l
    induction l with
    | nil => intro i; rfl
    | cons v l ih => intro i; simp [akeep, ih]
  have hg : ∀ (l : List AV) (i t : Nat) (a : AV), (akeep keep i l)[t]? = some a → a = .top ∨ l[t]? = some a := by
    intro l
    induction l with
    | nil => intro i t a h; simp [akeep] at h
    | cons v l ih =>
      intro i t a h
      cases t with
      | zero =>
        simp only [akeep, List.getElem?_cons_zero, Option.some.injEq] at h
        split at h
        · right; simp [h]
        · left; exact h.symm
      | succ t =>
        simp only [akeep, List.getElem?_cons_succ] at h
        simpa using ih (i + 1) t a h
  refine ⟨by rw [hl]; exact h.size, fun t a ha => ?_⟩
  rcases hg fr 0 t a ha with rfl | h1
  · have : t < tmps.size := by
      rw [h.size, ← hl fr 0]
      exact (List.getElem?_eq_some_iff.mp ha).1
    exact ⟨tmps[t], by simp [this], .top _⟩
  · exact h.get t a h1
theorem SR.clear {f : Inj} {fr : List AV} {h : AH} {a : Act} {w : World} (S : SR B D f fr h a w) (K : Hint) (c : Code) : SR B D f (aclear K c fr) h a w := by
  unfold aclear
  split
  · exact S
  · split
    · exact S
    · exact ⟨S.fr.keep _, S.hr, S.dm⟩

/-- What is asked behind a run. -/
def After (B D : Nat) (f : Inj) (w : World) (r : AEx × List AV × AH) (Q : Exit → Act → World → Prop) : Prop :=
  ∀ f' a' w', Ext f f' → SR B D f' r.2.1 r.2.2 a' w' → Kept B w w' → Q r.1.conv a' w'
/-- Whose round it is. -/
def RD (f : Inj) (rd ro : Option Nat) : Prop :=
  match rd, ro with
  | none, none => True
  | some id, some l => ∃ r, f id = some r ∧ r.blk = l
  | _, _ => False
theorem RD.mono {f f' : Inj} {rd : Option Nat} (h : RD f rd ro) (e : Ext f f') : RD f' rd ro := by
  unfold RD at *
  split
  · trivial
  · obtain ⟨r, h1, h2⟩ := h; exact ⟨r, e _ _ h1, h2⟩
  · split at h <;> first | exact h | (rename_i hx; exact (hx _ _ rfl rfl).elim) | simp_all
theorem hasBody_enter {g : FuncId} (h : hasBody P g = true) (vs : Array Value) (w : World) : (callFunc g vs).run P w = .ok (.enter g vs) w := by
  unfold hasBody at h
  split at h
  · rename_i fn hfn
    simp only [Bool.and_eq_true, Bool.not_eq_true'] at h
    have hname : ¬ fn.name = "runtime.NumGoroutine" := by simpa using h.2
    obtain ⟨c, hb⟩ := Option.isSome_iff_exists.mp h.1
    simp [callFunc, hfn, hname, hb]
  · simp at h
theorem FnRuns.enters {g : FuncId} {vs : Array Value} {w : World} {Φ : Value → World → Prop} (h : FnRuns P g vs w Φ) (hb : hasBody P g = true) : Calls P g vs w (fun e w' => ∃ v, e = .returned v ∧ Φ v w') := by
  rcases h with ⟨v, w', h1, _⟩ | ⟨_, h2⟩
  · rw [hasBody_enter hb] at h1; injection h1 with h1; cases h1
  · exact h2

/-- The loop's statement, once its record lies in the heap. -/
theorem range_sound (hc : CallOK P call) {fid : FuncId} {f f1 : Inj} {fr : List AV} {h : AH} {a : Act} {w w1 : World} {l : Nat} {mark : List Deferred} {g : Operand} {ps : Array Tmp} {asg body : Code} {fn : FuncId}
    (S : SR B D f fr h a w) (he1 : Ext f f1) (H1 : HR B f1 (h.newOb (.loop ⟨.ready, fid, fr, ps, asg, body⟩)) w1) (hk1 : Kept B w w1) (hl : f1 h.next = some ⟨l, 0, 0, 0⟩)
    (hmark : ∀ w', Kept B w1 w' → Marks D (mark ++ a.defers) w') (henter : (Instr.enterLoop fn a.tmps ps asg body ro).run P w = .ok (l, mark) w1)
    {r : AEx × List AV × AH} (h0 : rangeEnd h.next fr (callF P call (aev fr g) [.fn (.yield h.next) [] []] (h.newOb (.loop ⟨.ready, fid, fr, ps, asg, body⟩))) = some r) {Q : Exit → Act → World → Prop} (hQ : After B D f w r Q) :
    ∃ (l : Nat) (mark : List Deferred) (w₁ : World) (d : Deferred) (w₁' : World) (k : FuncId) (args : Array Value) (w₂ : World),
      (Instr.enterLoop fn a.tmps ps asg body (FW ro).round).run P w = .ok (l, mark) w₁ ∧
      (resolve a.eval (rangeCall g l) 0).run P w₁ = .ok d w₁' ∧
      (∀ f', Target.leads P w₁' d.target d.args = some f' → (FW ro).fn f') ∧
      (invoke d.target d.args).run P w₁' = .ok (.enter k args) w₂ ∧
      ((FW ro).depth.isSome = true → 1 ≤ n) ∧
      CallsIn (FW ro) (n - 1) P k args w₂ (rangePost (FW ro) n P l Q { a with defers := mark ++ a.defers }) := by
  unfold rangeEnd at h0
  split at h0
  · rename_i v2 h2 hcall
    unfold callF at hcall
    split at hcall
    · rename_i k first captured hg
      split at hcall
      · rename_i hb
        have hv := S.fr.ev g
        rw [hg] at hv
        obtain ⟨c1, c2, e, q1, q2⟩ := hv.fn_inv
        have hy : VR f1 (.func (.yield l) #[] #[]) (.fn (.yield h.next) [] []) := VR.yld h.next ⟨l, 0, 0, 0⟩ hl
        have hall : VRs f1 (c1 ++ #[Value.func (.yield l) #[] #[]] ++ c2).toList (first ++ [.fn (.yield h.next) [] []] ++ captured) := by
          simp only [Array.toList_append]
          exact ((q1.mono he1).append (.cons _ _ _ _ hy .nil)).append (q2.mono he1)
        have hrun := (hc.fn _ _ _ _ _ hcall B f1 w1 _ H1 hall).enters hb
        refine ⟨l, mark, w1, { target := .fn (.func k) c2, args := c1 ++ #[Value.func (.yield l) #[] #[]] }, w1, k, c1 ++ #[Value.func (.yield l) #[] #[]] ++ c2, w1, henter, ?_, fun _ _ => trivial, ?_, fun h => by simp at h, ?_⟩
        · have hx : (#[Operand.const (.func (.yield l) #[] #[])] : Array Operand).map a.eval = #[Value.func (.yield l) #[] #[]] := by simp [Act.eval]
          unfold resolve
          simp only [hx, e]
          rfl
        · simp only [invoke]
          exact hasBody_enter hb _ _
        · have h3 : CallsIn (FW none) (n - 1) P k (c1 ++ #[Value.func (.yield l) #[] #[]] ++ c2) w1 (fun e w' => ∃ v, e = .returned v ∧ HPost B f1 w1 h2 v2 v w') := callsIn_wide.2 hrun
          have h4 : CallsIn (FW ro) (n - 1) P k (c1 ++ #[Value.func (.yield l) #[] #[]] ++ c2) w1 (fun e w' => ∃ v, e = .returned v ∧ HPost B f1 w1 h2 v2 v w') := h3
          refine h4.mono ?_
          rintro e3 w3 ⟨v, rfl, f', g1, g2, g3, _⟩
          split at h0
          · rename_i L hob
            obtain ⟨rg, x, r1, r2, r3, R, rfl, r4, r5, r6, r7, r8, r9⟩ := g2.objs.obj _ _ hob
            have e4 := g1 _ _ hl
            rw [r1] at e4
            injection e4 with e4
            subst e4
            have hst : L.st ≠ .busy := by intro hx; rw [hx] at h0; simp at h0
            have hnb : R.state ≠ .busy := by
              rw [r4]
              cases hx : L.st <;> simp [LSt.state] <;> exact hst hx
            obtain ⟨g5, g6⟩ := g2.setOb (o := none) (x := .loop { R with state := .exhausted }) hob r1 r3 rfl (fun _ h => by cases h)
            have fin : ∀ ex : AEx, r = (ex, fr, h2.putOb h.next none) → Q ex.conv { a with defers := mark ++ a.defers } (w3.putObj l (.loop { R with state := .exhausted })) := fun ex hr => by
              subst hr
              exact hQ f' _ _ (he1.trans g1) ⟨(S.fr.mono (he1.trans g1)), g5, hmark _ (g3.trans g6)⟩ ((hk1.trans g3).trans g6)
            obtain ⟨jump, hj⟩ : ∃ jump, jump = R.pending := ⟨_, rfl⟩
            refine ⟨jump, _, by rw [hj]; exact run_endLoop r3 hnb, ?_⟩
            rw [r5] at hj
            cases hx : L.st with
            | ready => rw [hx] at h0 hj; subst hj; simp only [Option.some.injEq] at h0; exact fin .normal h0.symm
            | busy => exact absurd hx hst
            | ret => rw [hx] at h0 hj; subst hj; simp only [Option.some.injEq] at h0; exact wpIn_ret (fin .ret h0.symm)
            | exit id => rw [hx] at h0 hj; subst hj; simp only [Option.some.injEq] at h0; exact wpIn_exit (fin (.exit id) h0.symm)
          · simp at h0
      · simp at hcall
    · simp at hcall
  · simp at h0

theorem arun_sound (hm : P.follows .mixedOrders = true) (hc : CallOK P call) {lf : Nat} {fid : FuncId} {rd : Option Nat} : ∀ (c : Code) {f : Inj} {fr : List AV} {h : AH} {a : Act} {w : World}, SR B D f fr h a w → RD f rd ro →
    ∀ {r : AEx × List AV × AH}, arun P K fid call lf rd c fr h = some r → ∀ {Q : Exit → Act → World → Prop}, After B D f w r Q → c.wpIn (FW ro) n P Q a w := by
  intro c
  induction c with
  | skip =>
    intro f fr h a w S hrd r h0 Q hQ
    simp only [arun, Option.some.injEq] at h0
    subst h0
    exact wpIn_skip (hQ f a w (Ext.refl f) S (Kept.refl B w))
  | label l =>
    intro f fr h a w S hrd r h0 Q hQ
    simp only [arun, Option.some.injEq] at h0
    subst h0
    exact wpIn_label (hQ f a w (Ext.refl f) S (Kept.refl B w))
  | exit id =>
    intro f fr h a w S hrd r h0 Q hQ
    simp only [arun, Option.some.injEq] at h0
    subst h0
    exact wpIn_exit (hQ f a w (Ext.refl f) S (Kept.refl B w))
  | ret =>
    intro f fr h a w S hrd r h0 Q hQ
    simp only [arun, Option.some.injEq] at h0
    subst h0
    exact wpIn_ret (hQ f a w (Ext.refl f) S (Kept.refl B w))
  | region id ops draw =>
    intro f fr h a w S hrd r h0 Q hQ
    cases draw with
    | false =>
      simp only [arun] at h0
      split at h0
      · rename_i fr' h' hs
        injection h0 with h0
        subst h0
        exact wpIn_region (aops_sound hc _ S hs fun f' a' w' e s b => hQ f' a' w' e s b)
      · simp at h0
    | true =>
      simp only [arun] at h0
      split at h0
      · rename_i fr' h' hs
        injection h0 with h0
        subst h0
        exact adraw_sound hm hc S (sdraw_some hs) fun f' a' w' e s b => hQ f' a' w' e s b
      · simp at h0
  | seq x y ihx ihy =>
    intro f fr h a w S hrd r h0 Q hQ
    simp only [arun] at h0
    refine wpIn_seq ?_
    split at h0
    · rename_i fr' h' hs
      refine ihx S hrd hs fun f' a' w' e s b => ?_
      exact ihy s (hrd.mono e) h0 fun f2 a2 w2 e2 s2 b2 => hQ f2 a2 w2 (e.trans e2) s2 (b.trans b2)
    · rename_i hn
      refine ihx S hrd h0 fun f' a' w' e s b => ?_
      have := hQ f' a' w' e s b
      obtain ⟨ex, fr', h'⟩ := r
      cases ex with
      | normal => exact absurd h0 (hn _ _)
      | exit id => exact this
      | ret => exact this
  | cond c x y ihx ihy =>
    intro f fr h a w S hrd r h0 Q hQ
    simp only [arun] at h0
    have hev := S.fr.ev c
    split at h0
    · rename_i hb
      rw [hb] at hev
      exact wpIn_cond_true hev.bool_inv (ihx S hrd h0 hQ)
    · rename_i hb
      rw [hb] at hev
      exact wpIn_cond_false hev.bool_inv (ihy S hrd h0 hQ)
    · simp at h0
  | block id c ih =>
    intro f fr h a w S hrd r h0 Q hQ
    simp only [arun] at h0
    refine wpIn_block ?_
    split at h0
    · rename_i id' fr' h' hs
      refine ih S hrd hs fun f' a' w' e s b => ?_
      simp only [AEx.conv, Exit.inBlock]
      split at h0
      · rename_i hid
        injection h0 with h0
        subst h0
        rw [if_pos hid]
        exact hQ f' a' w' e s b
      · rename_i hid
        injection h0 with h0
        subst h0
        rw [if_neg hid]
        exact hQ f' a' w' e s b
    · rename_i hn
      refine ih S hrd h0 fun f' a' w' e s b => ?_
      have := hQ f' a' w' e s b
      obtain ⟨ex, fr', h'⟩ := r
      cases ex with
      | normal => exact this
      | exit id => exact absurd h0 (hn _ _ _)
      | ret => exact this
  | loop c ih =>
    intro f fr h a w S hrd r h0 Q hQ
    simp only [arun] at h0
    have key : ∀ (m : Nat) {f : Inj} {fr : List AV} {h : AH} {a : Act} {w : World}, SR B D f fr h a w → RD f rd ro → ∀ {r : AEx × List AV × AH}, aloop (arun P K fid call lf rd c) (aclear K c) m fr h = some r →
        After B D f w r Q → Code.roundsIn (FW ro) n P c Q m a w := by
      intro m
      induction m with
      | zero => intro f fr h a w S hrd r h0; simp [aloop] at h0
      | succ m ihn =>
        intro f fr h a w S hrd r h0 hQ
        rw [roundsIn_succ]
        simp only [aloop] at h0
        split at h0
        · rename_i fr' h' hs
          refine ih (S.clear K c) hrd hs fun f' a' w' e s b => ?_
          exact ihn s (hrd.mono e) h0 fun f2 a2 w2 e2 s2 b2 => hQ f2 a2 w2 (e.trans e2) s2 (b.trans b2)
        · rename_i hn
          refine ih (S.clear K c) hrd h0 fun f' a' w' e s b => ?_
          have := hQ f' a' w' e s b
          obtain ⟨ex, fr', h'⟩ := r
          cases ex with
          | normal => exact absurd h0 (hn _ _)
          | exit id => exact this
          | ret => exact this
    exact wpIn_loop_rounds lf (key lf S hrd h0 hQ)
  | rangeFunc g ps asg body _ _ =>
    intro f fr h a w S hrd r h0 Q hQ
    simp only [arun] at h0
    split at h0
    · rename_i hrok
      refine wpIn_rangeFunc fun fn _ => ?_
      cases rd with
      | none =>
        cases ro with
        | some l => exact hrd.elim
        | none =>
          obtain ⟨q1, q2⟩ := S.hr.allocOther (.deferred (some []))
          obtain ⟨g1, g2, g3⟩ := q1.newOb (o := .loop ⟨.ready, fid, fr, ps, asg, body⟩)
            (x := .loop { state := .ready, pending := none, fn, tmps := a.tmps, params := ps, assign := asg, body, defers := w.heap.size }) ⟨_, rfl, rfl, rfl, S.fr, rfl, rfl, rfl⟩
          rw [World.size_alloc] at g1 g2
          refine range_sound hc S g2 g1 (q2.trans g3) (l := w.heap.size + 1) (upd_same _ _ _) (fun w' hk => ?_) (run_enterLoop_outer fn a.tmps ps asg body) h0 hQ
          refine Marks.cons S.dm (Nat.le_refl _) (Nat.le_trans (by simp; omega) hk.bel.size) (hk.dfr _ _ (g3.dfr _ _ (World.alloc_heap_new w _))) (fun j x hj => hk.dfr _ _ (g3.dfr _ _ (q2.dfr _ _ hj)))
      | some id =>
        cases ro with
        | none => exact hrd.elim
        | some l0 =>
          obtain ⟨rg, hf, rfl⟩ := hrd
          unfold rdOK at hrok
          simp only at hrok
          split at hrok
          · rename_i L0 hob
            obtain ⟨rg', x, p1, _, p3, R, rfl, _⟩ := S.hr.objs.obj _ _ hob
            rw [hf] at p1
            injection p1 with p1
            subst p1
            obtain ⟨g1, g2, g3⟩ := S.hr.newOb (o := .loop ⟨.ready, fid, fr, ps, asg, body⟩)
              (x := .loop { state := .ready, pending := none, fn, tmps := a.tmps, params := ps, assign := asg, body, defers := R.defers }) ⟨_, rfl, rfl, rfl, S.fr, rfl, rfl, rfl⟩
            exact range_sound hc S g2 g1 g3 (mark := []) (upd_same _ _ _) (fun w' hk => (S.dm.kept g3).kept hk) (run_enterLoop_inner p3 fn a.tmps ps asg body) h0 hQ
          · simp at hrok
    · simp at h0
  | _ => intro f fr h a w S hrd r h0; simp [arun] at h0

def rvSem (tmps : Array Value) : ResultVar → Sem Value
  | .tmp t => pure (tmps.getD t undef)
  | .cell x t => do loadVar t (← asAddr (tmps.getD x undef))
theorem results_eq (fn : Func) (tmps : Array Value) : results fn tmps = (do let vs ← fn.results.mapM (rvSem tmps); pure (if h : vs.size = 1 then vs[0] else .tuple vs)) := by
  unfold results
  have : (fun r : ResultVar => (match r with | .tmp t => pure (tmps.getD t undef) | .cell a t => do loadVar t (← asAddr (tmps.getD a undef)) : Sem Value)) = rvSem tmps := by
    funext r; cases r <;> rfl
  exact congrArg (fun g => (do let vs ← fn.results.mapM g; pure (if h : vs.size = 1 then vs[0] else .tuple vs) : Sem Value)) this
theorem aresult_sound {f : Inj} {fr : List AV} {h : AH} {a : Act} {w : World} (S : SR B D f fr h a w) {r : ResultVar} {v : AV} (h0 : aresult P fr h r = some v) :
    ∃ u, VR f u v ∧ (rvSem a.tmps r).run P w = .ok u w := by
  cases r with
  | tmp t =>
    simp only [aresult, Option.some.injEq] at h0
    subst h0
    exact ⟨_, S.fr.ev (.tmp t), rfl⟩
  | cell x t =>
    simp only [aresult] at h0
    have hp : VR f (a.tmps.getD x undef) (fr.getD x .top) := S.fr.ev (.tmp x)
    split at h0
    · rename_i id off n hx ht hn
      rw [hx] at hp
      obtain ⟨r, hf, hlo, hv⟩ := hp.ptr_inv
      cases hc : h.cells? id n off with
      | none => simp [hc] at h0
      | some l =>
        simp [hc] at h0
        subst h0
        obtain ⟨vs, hl, hvs, hcell⟩ := S.hr.cells hc hf hlo
        have := run_loadCells_list (P := P) w _ vs hcell
        rw [hl] at this
        exact ⟨.agg vs.toArray, .agg _ _ (by simpa using hvs), by simp only [rvSem, hv, asAddr, Sem.run_bind, Sem.run_pure, Result.andThen_ok, loadVar, run_isAgg ht, if_true, run_sizeOf hn, this]⟩
    · rename_i id off _ hx ht
      rw [hx] at hp
      obtain ⟨r, hf, hlo, hv⟩ := hp.ptr_inv
      obtain ⟨v', h1, h2⟩ := S.hr.cell h0 hf
      exact ⟨v', h2, by simp [rvSem, hv, asAddr, loadVar, run_isAgg ht, h1]⟩
    · simp at h0
theorem aresultL_sound {f : Inj} {fr : List AV} {h : AH} {a : Act} {w : World} (S : SR B D f fr h a w) : ∀ (l : List ResultVar) {vs : List AV}, aresultL P fr h l = some vs →
    ∃ us : List Value, VRs f us vs ∧ (l.mapM (rvSem a.tmps)).run P w = .ok us w
  | [], vs, h0 => by simp only [aresultL, Option.some.injEq] at h0; subst h0; exact ⟨[], .nil, by simp⟩
  | r :: l, vs, h0 => by
    simp only [aresultL] at h0
    split at h0
    · rename_i v vs' h1 h2
      injection h0 with h0
      subst h0
      obtain ⟨u, q1, q2⟩ := aresult_sound S h1
      obtain ⟨us, q3, q4⟩ := aresultL_sound S l h2
      exact ⟨u :: us, .cons _ _ _ _ q1 q3, by rw [List.mapM_cons, Sem.run_bind, q2, Result.andThen_ok, Sem.run_bind, q4]; rfl⟩
    · simp at h0
theorem results_sound {f : Inj} {fr : List AV} {h : AH} {a : Act} {w : World} (S : SR B D f fr h a w) {fn : Func} {vs : List AV} (h0 : aresultL P fr h fn.results.toList = some vs) :
    ∃ u, VR f u (aone vs) ∧ (results fn a.tmps).run P w = .ok u w := by
  obtain ⟨us, h1, h2⟩ := aresultL_sound S _ h0
  have hr : (results fn a.tmps).run P w = .ok (if h : us.toArray.size = 1 then us.toArray[0] else .tuple us.toArray) w := by
    rw [results_eq]
    cases hfr : fn.results with
    | mk rl =>
      rw [hfr] at h2
      rw [Sem.run_bind, List.mapM_toArray, Sem.run_map, h2]
      rfl
  refine ⟨_, ?_, hr⟩
  cases h1 with
  | nil => exact .tup _ _ (by exact .nil)
  | cons v b us' vs' h3 h4 =>
    cases h4 with
    | nil => simpa [aone] using h3
    | cons v2 b2 us2 vs2 h5 h6 => exact .tup _ _ (.cons _ _ _ _ h3 (.cons _ _ _ _ h5 h6))

/-- The marks are come to: every block for deferred calls is shut. -/
theorem leaves_marks {F : Fence} {fn : Func} {tmps : Array Value} {R : Ending → World → Prop} {f : Inj} {h : AH} {w0 : World} (hDB : B ≤ w0.heap.size) : ∀ (bs : List Nat) (w : World), bs.Nodup → (∀ r ∈ bs, w0.heap.size ≤ r ∧ w.heap[r]? = some (.deferred (some []))) → HR B f h w → Kept B w0 w →
    (∀ w', HR B f h w' → Kept B w0 w' → LeavesInM F n P fn tmps R [] .returning w') → LeavesInM F n P fn tmps R (bs.map (fun r => { target := .collected r, args := #[] })) .returning w
  | [], w, _, _, H, hk, hfin => hfin w H hk
  | r :: bs, w, hn, hrow, H, hk, hfin => by
    have h1 := hrow r (by simp)
    have hB : B ≤ r := Nat.le_trans hDB h1.1
    obtain ⟨g1, g2⟩ := H.shut h1.2 hB none
    have hn' := List.nodup_cons.mp hn
    refine ⟨by simp, .inl ⟨r, _, rfl, run_takeDeferred h1.2, ?_⟩⟩
    refine leaves_marks hDB bs _ hn'.2 (fun k hkm => ⟨(hrow k (by simp [hkm])).1, ?_⟩) g1 ⟨hk.bel.trans g2, fun k ds hds => ?_⟩ hfin
    · rw [World.putObj_heap_other (by rintro rfl; exact hn'.1 hkm)]
      exact (hrow k (by simp [hkm])).2
    · have hlt : k < w0.heap.size := (Array.getElem?_eq_some_iff.1 hds).1
      rw [World.putObj_heap_other (by omega)]
      exact hk.dfr k ds hds

theorem afn_runs (hm : P.follows .mixedOrders = true) (K : FuncId → Hint) (hc : CallOK P call) {lf : Nat} {g : FuncId} {args : List AV} {h : AH} {r : AV} {h' : AH} (h0 : afn P K call lf g args h = some (r, h'))
    {f : Inj} {w : World} {vs : Array Value} (H : HR B f h w) (hv : VRs f vs.toList args) : FnRuns P g vs w (HPost B f w h' r) := by
  simp only [afn] at h0
  split at h0
  · rename_i fn hfn
    split at h0
    · rename_i c hb
      split at h0
      · simp at h0
      · rename_i hname
        refine .inr ⟨?_, ?_⟩
        · have hname' : ¬ fn.name = "runtime.NumGoroutine" := by simpa using hname
          simp [callFunc, hfn, hname', hb]
        · have hsz : vs.size = args.length := by have := hv.length; simpa using this
          have S0 : SR B w.heap.size f (args ++ List.replicate (fn.ntmps - args.length) (.tup [])) h { tmps := vs ++ Array.replicate (fn.ntmps - vs.size) undef, defers := [] } w := by
            have hall : VRs f (vs ++ Array.replicate (fn.ntmps - vs.size) undef).toList (args ++ List.replicate (fn.ntmps - args.length) (.tup [])) := by
              rw [Array.toList_append, Array.toList_replicate, hsz]
              refine hv.append (VRs.of_get (by simp) fun i v b h1 h2 => ?_)
              have e1 := List.eq_of_mem_replicate (List.mem_of_getElem? h1)
              have e2 := List.eq_of_mem_replicate (List.mem_of_getElem? h2)
              subst e1 e2
              exact .tup _ _ (by exact .nil)
            refine ⟨⟨by have := hall.length; simpa using this, fun t b hb => ?_⟩, H, Marks.nil (Nat.le_refl _)⟩
            obtain ⟨v, h1, h2⟩ := hall.get t b hb
            exact ⟨v, by rw [← Array.getElem?_toList]; exact h1, h2⟩
          have fin : ∀ (ex : AEx) (fr' : List AV) (hh : AH), (ex = .normal ∨ ex = .ret) → arun P (K g) g call lf none c (args ++ List.replicate (fn.ntmps - args.length) (.tup [])) h = some (ex, fr', hh) →
              (aresultL P fr' hh fn.results.toList).map (fun l => (aone l, hh)) = some (r, h') →
              CallsIn (FW none) 0 P g vs w (fun e w' => ∃ v, e = .returned v ∧ HPost B f w h' r v w') := by
            intro ex fr' hh hex hrun hres
            cases hl : aresultL P fr' hh fn.results.toList with
            | none => simp [hl] at hres
            | some l =>
              simp [hl] at hres
              obtain ⟨rfl, rfl⟩ := hres
              refine callsIn_of_wp_marks hfn hb trivial (arun_sound hm hc c S0 (rd := none) (ro := none) trivial hrun fun f' a' w' e s b => ?_)
              have key : LeavesInM (FW none) 0 P fn a'.tmps (fun e w' => ∃ v, e = .returned v ∧ HPost B f w hh (aone l) v w') a'.defers .returning w' := by
                obtain ⟨hD, bs, d1, d2, d3⟩ := s.dm
                rw [d1]
                refine leaves_marks H.le bs w' d2 d3 s.hr b fun w2 H2 k2 => ?_
                have s2 : SR B w.heap.size f' fr' hh { tmps := a'.tmps, defers := [] } w2 := ⟨s.fr, H2, Marks.nil k2.bel.size⟩
                obtain ⟨u, q1, q2⟩ := results_sound s2 hl
                exact ⟨u, q2, u, rfl, f', e, H2, k2, q1⟩
              rcases hex with rfl | rfl
              · exact key
              · exact key
          refine (callsIn_wide (n := 0)).1 ?_
          split at h0
          · rename_i fr' hh hrun
            exact fin .normal fr' hh (.inl rfl) hrun h0
          · rename_i fr' hh hrun
            exact fin .ret fr' hh (.inr rfl) hrun h0
          · simp at h0
    · simp at h0
  · simp at h0

theorem FR.set {f : Inj} {tmps : Array Value} {fr : List AV} (h : FR f tmps fr) (d : Tmp) {v : Value} {b : AV} (hv : VR f v b) : FR f (tmps.setIfInBounds d v) (fr.set d b) :=
  FR.put (a := { tmps := tmps, defers := [] }) h (some d) hv
theorem FR.setParams {f : Inj} : ∀ (ps : List Tmp) {vs : List Value} {args : List AV} {tmps : Array Value} {fr : List AV}, FR f tmps fr → VRs f vs args →
    FR f ((ps.zip vs).foldl (fun tmps p => tmps.setIfInBounds p.1 p.2) tmps) (AI.setParams fr ps args)
  | [], _, _, _, _, h, _ => by simpa [AI.setParams] using h
  | _ :: _, _, _, _, _, h, .nil => by simpa [AI.setParams] using h
  | p :: ps, _, _, _, _, h, .cons v b vs as hv hs => FR.setParams ps (h.set p hv) hs

theorem ayield_runs (hm : P.follows .mixedOrders = true) (K : FuncId → Hint) (hc : CallOK P call) {lf id : Nat} {args : List AV} {h : AH} {x : AV} {h' : AH} (h0 : ayield P K call lf id args h = some (x, h'))
    {f : Inj} {w : World} {vs : Array Value} {r : Reg} (H : HR B f h w) (hv : VRs f vs.toList args) (hf : f id = some r) : YRuns P r.blk vs w (HPost B f w h' x) := by
  unfold ayield at h0
  split at h0
  · rename_i L hob
    split at h0
    · rename_i hlen
      obtain ⟨rg, y, p1, p2, p3, R, rfl, p4, p5, p6, p7, p8, p9⟩ := H.objs.obj _ _ hob
      rw [hf] at p1
      injection p1 with p1
      subst p1
      have hsz : vs.size = R.params.size := by have := hv.length; rw [p7, ← hlen]; simpa using this
      refine ⟨_, _, _, _, run_yield p3 hsz, fun n => roundIn_of_wpIn trivial ?_⟩
      have hfr : FR f ((R.params.zip vs).foldl (fun tmps (t, a) => tmps.setIfInBounds t a) R.tmps) (setParams L.fr L.ps.toList args) := by
        have e : (R.params.zip vs).foldl (fun tmps (t, a) => tmps.setIfInBounds t a) R.tmps = (R.params.toList.zip vs.toList).foldl (fun tmps p => tmps.setIfInBounds p.1 p.2) R.tmps := by
          rw [← Array.foldl_toList, Array.toList_zip]
        rw [e, p7]
        exact FR.setParams _ p6 hv
      have S0 : SR B w.heap.size f (setParams L.fr L.ps.toList args) h { tmps := (R.params.zip vs).foldl (fun tmps (t, a) => tmps.setIfInBounds t a) R.tmps, defers := [] } w := ⟨hfr, H, Marks.nil (Nat.le_refl _)⟩
      unfold roundEnd at h0
      split at h0
      · rename_i ex fr2 h2 hmid
        unfold roundMid at hmid
        split at hmid
        · rename_i fr1 h1 hasg
          split at hmid
          · rename_i L1 hob1
            split at hmid
            · rename_i hst1
              show R.assign.wpIn (FW (some r.blk)) n P _ _ w
              rw [p8, p9]
              refine arun_sound hm hc L.asg S0 (rd := some id) (ro := some r.blk) ⟨r, hf, rfl⟩ hasg fun f1 a1 w1 e1 s1 b1 => ?_
              obtain ⟨rg1, y1, c1, c2, c3, R1, rfl, c4, c5, c6, c7, c8, c9⟩ := s1.hr.objs.obj _ _ hob1
              have hf1 := e1 _ _ hf
              rw [c1] at hf1
              injection hf1 with hf1
              subst hf1
              obtain ⟨g1, g2⟩ := s1.hr.setOb (o := some (.loop { L1 with st := .busy })) (x := .loop { R1 with state := .busy }) hob1 c1 c3 rfl
                (fun o' h => by injection h with h; subst h; exact ⟨_, rfl, rfl, by show R1.pending = _; rw [c5, hst1]; rfl, c6, c7, c8, c9⟩)
              refine ⟨_, run_beginRound c3 (by rw [c4, hst1]; rfl), ?_⟩
              show L.body.wpIn (FW (some rg1.blk)) n P _ a1 _
              refine arun_sound hm hc L.body (D := w.heap.size) ⟨s1.fr, g1, s1.dm.kept g2⟩ (rd := some id) (ro := some rg1.blk) ⟨rg1, c1, rfl⟩ hmid fun f2 a2 w2 e2 s2 b2 => ?_
              split at h0
              · rename_i L2 hob2
                obtain ⟨rg2, y2, d1, d2, d3, R2, rfl, d4, d5, d6, d7, d8, d9⟩ := s2.hr.objs.obj _ _ hob2
                have hf2 := e2 _ _ c1
                rw [d1] at hf2
                injection hf2 with hf2
                subst hf2
                have kk : Kept B w w2 := (b1.trans g2).trans b2
                cases ex with
                | normal =>
                  simp only [Option.some.injEq, Prod.mk.injEq] at h0
                  obtain ⟨rfl, rfl⟩ := h0
                  obtain ⟨k1, k2⟩ := s2.hr.setOb (o := some (.loop { L2 with st := .ready })) (x := .loop { R2 with state := if (none : Option Code).isNone then .ready else .done, pending := none }) hob2 d1 d3 rfl
                    (fun o' h => by injection h with h; subst h; exact ⟨_, rfl, rfl, rfl, d6, d7, d8, d9⟩)
                  exact ⟨_, _, run_endRound none d3, _, rfl, f2, e1.trans e2, k1, kk.trans k2, .bool true⟩
                | ret =>
                  simp only [Option.some.injEq, Prod.mk.injEq] at h0
                  obtain ⟨rfl, rfl⟩ := h0
                  obtain ⟨k1, k2⟩ := s2.hr.setOb (o := some (.loop { L2 with st := .ret })) (x := .loop { R2 with state := if (some Code.ret).isNone then .ready else .done, pending := some .ret }) hob2 d1 d3 rfl
                    (fun o' h => by injection h with h; subst h; exact ⟨_, rfl, rfl, rfl, d6, d7, d8, d9⟩)
                  exact ⟨_, _, run_endRound (some .ret) d3, _, rfl, f2, e1.trans e2, k1, kk.trans k2, .bool false⟩
                | exit k =>
                  simp only [Option.some.injEq, Prod.mk.injEq] at h0
                  obtain ⟨rfl, rfl⟩ := h0
                  obtain ⟨k1, k2⟩ := s2.hr.setOb (o := some (.loop { L2 with st := .exit k })) (x := .loop { R2 with state := if (some (Code.exit k)).isNone then .ready else .done, pending := some (.exit k) }) hob2 d1 d3 rfl
                    (fun o' h => by injection h with h; subst h; exact ⟨_, rfl, rfl, rfl, d6, d7, d8, d9⟩)
                  exact ⟨_, _, run_endRound (some (.exit k)) d3, _, rfl, f2, e1.trans e2, k1, kk.trans k2, .bool false⟩
              · simp at h0
            · simp at hmid
          · simp at hmid
        · simp at hmid
      · simp at h0
    · simp at h0
  · simp at h0

theorem bexec_ok (hm : P.follows .mixedOrders = true) (K : FuncId → Hint) {ov : FuncId → List AV → AH → Option (AV × AH)}
    (ho : ∀ g args h a h', ov g args h = some (a, h') → ∀ B f w (vs : Array Value), HR B f h w → VRs f vs.toList args → FnRuns P g vs w (HPost B f w h' a)) : ∀ n, CallOK P (bexec P K ov n)
  | 0 => ⟨fun g args h a h' h0 => by simp [bexec] at h0, fun id args h a h' h0 => by simp [bexec] at h0⟩
  | n + 1 => by
    have ih := bexec_ok hm K ho n
    refine ⟨fun g args h a h' h0 B f w vs H hv => ?_, fun id args h a h' h0 B f w vs r H hv hf => ?_⟩
    · simp only [bexec] at h0
      split at h0
      · rename_i x hx
        injection h0 with h0
        subst h0
        exact ho g args h _ h' hx B f w vs H hv
      · exact afn_runs hm K ih h0 H hv
    · simp only [bexec] at h0
      exact ayield_runs hm K ih h0 H hv hf

/-- The empty heap. -/
def AH.empty : AH := { m := .nil, ob := .nil, next := 0 }
theorem HR.empty (w : World) : HR w.heap.size (fun _ => none) AH.empty w :=
  ⟨fun id b hb => by simp [AH.blk?, AH.empty, Tr.get_nil] at hb, fun id id' b b' r r' _ hb => by simp [AH.blk?, AH.empty, Tr.get_nil] at hb, fun id _ => by simp [AH.blk?, AH.empty, Tr.get_nil], fun _ _ => rfl, Nat.le_refl _,
    ⟨fun id o ho => by simp [AH.ob?, AH.empty, Tr.get_nil] at ho, fun id id' o o' r r' _ ho => by simp [AH.ob?, AH.empty, Tr.get_nil] at ho, fun id _ => by simp [AH.ob?, AH.empty, Tr.get_nil]⟩⟩
/-- What lies below a run's blocks stands. -/
theorem HR.below {B : Nat} {f : Inj} {h : AH} {w w' : World} (H : HR B f h w) (b : Below w.heap.size w w') : HR B f h w' :=
  ⟨fun id x hb => by
    obtain ⟨r, c, e, fz, h1, h2, h3⟩ := H.blk id x hb
    refine ⟨r, c, e, fz, h1, ?_, h3⟩
    rw [b.block _ (Array.getElem?_eq_some_iff.mp h2).1]
    exact h2, H.apart, H.fresh, H.ffresh, Nat.le_trans H.le b.size, H.objs.keep (Ext.refl f) (fun _ => rfl) (Nat.le_refl _) (fun k x _ hx _ => by rw [b.block _ (Array.getElem?_eq_some_iff.mp hx).1]; exact hx)⟩
/-- Functions without arguments that were run over the empty heap: each answers the same wherever it is called. -/
def closedOv (t : List (FuncId × AV)) : FuncId → List AV → AH → Option (AV × AH) := fun g args h =>
  match args with
  | [] => match t.find? (fun p => Nat.beq p.1 g) with | some p => some (p.2, h) | none => none
  | _ => none
theorem closed_ok (t : List (FuncId × AV)) (ht : ∀ p ∈ t, (∃ call : ACall, CallOK P call ∧ ∃ h', call (.func p.1) [] AH.empty = some (p.2, h')) ∧ ((∃ b, p.2 = .bool b))) :
    ∀ g args h a h', closedOv t g args h = some (a, h') → ∀ B f w (vs : Array Value), HR B f h w → VRs f vs.toList args → FnRuns P g vs w (HPost B f w h' a) := by
  intro g args h a h' h0 B f w vs H hv
  unfold closedOv at h0
  split at h0
  · split at h0
    · rename_i p hp
      injection h0 with h0
      injection h0 with h1 h2
      subst h1 h2
      have hg : p.1 = g := by have := List.find?_some hp; exact Nat.eq_of_beq_eq_true this
      obtain ⟨⟨call, hc, hh, hr⟩, bb, hbb⟩ := ht p (List.mem_of_find?_eq_some hp)
      rw [hg] at hr
      have hv0 : vs.toList = [] := List.eq_nil_of_length_eq_zero (by simpa using hv.length)
      have hr0 : VRs (fun _ => none) vs.toList [] := by rw [hv0]; exact .nil
      have post : ∀ v w', HPost w.heap.size (fun _ => none) w hh p.2 v w' → HPost B f w h p.2 v w' := by
        rintro v w' ⟨f', _, _, hb', hvr⟩
        rw [hbb] at hvr ⊢
        exact ⟨f, fun _ _ h => h, H.below hb'.bel, hb'.mono H.le, by rw [hvr.bool_inv]; exact .bool _⟩
      rcases hc.fn g [] AH.empty _ hh hr w.heap.size _ w vs (HR.empty w) hr0 with ⟨v, w', q1, q2⟩ | ⟨q1, q2⟩
      · exact .inl ⟨v, w', q1, post _ _ q2⟩
      · exact .inr ⟨q1, q2.mono fun e w' ⟨v, he, hp'⟩ => ⟨v, he, post _ _ hp'⟩⟩
    · simp at h0
  · simp at h0
end
end Go.Proofs.Ytgnacecplaemlaa.AI
/-
  The interpreter, where what a call leaves behind is brought to a short form: a call that turned nothing old leaves the heap as it was, or with the one block that it hands back.
-/
namespace Go.Proofs.Ytgnacecplaemlaa.AI
open Go.RowKit

/-- At most the blocks and objects of F have changed; there may be new ones. -/
structure Other (F : Nat → Prop) (h h' : AH) : Prop where
  next : h.next ≤ h'.next
  blk : ∀ j, j < h.next → ¬ F j → h'.blk? j = h.blk? j
  ob : ∀ j, j < h.next → ¬ F j → h'.ob? j = h.ob? j
/-- Nothing old has changed. -/
abbrev Quiet (h h' : AH) : Prop := Other (fun _ => False) h h'
theorem Other.refl (F : Nat → Prop) (h : AH) : Other F h h := ⟨Nat.le_refl _, fun _ _ _ => rfl, fun _ _ _ => rfl⟩
theorem Other.trans {F : Nat → Prop} {a b c : AH} (x : Other F a b) (y : Other F b c) : Other F a c :=
  ⟨Nat.le_trans x.next y.next, fun j hj hf => (y.blk j (Nat.lt_of_lt_of_le hj x.next) hf).trans (x.blk j hj hf), fun j hj hf => (y.ob j (Nat.lt_of_lt_of_le hj x.next) hf).trans (x.ob j hj hf)⟩
theorem Other.mono {F G : Nat → Prop} {a b : AH} (x : Other F a b) (hFG : ∀ j, j < a.next → F j → G j) : Other G a b :=
  ⟨x.next, fun j hj hg => x.blk j hj fun hf => hg (hFG j hj hf), fun j hj hg => x.ob j hj fun hf => hg (hFG j hj hf)⟩
theorem Other.any {F : Nat → Prop} {a b : AH} (x : Quiet a b) : Other F a b := x.mono fun _ _ h => h.elim
/-- A second step that turns what the first has made, and F. -/
theorem Other.plus {F G : Nat → Prop} {a b c : AH} (x : Other F a b) (y : Other G b c) (hG : ∀ j, G j → F j ∨ a.next ≤ j) : Other F a c :=
  ⟨Nat.le_trans x.next y.next, fun j hj hf => (y.blk j (Nat.lt_of_lt_of_le hj x.next) (fun h => (hG j h).elim hf (by omega))).trans (x.blk j hj hf),
    fun j hj hf => (y.ob j (Nat.lt_of_lt_of_le hj x.next) (fun h => (hG j h).elim hf (by omega))).trans (x.ob j hj hf)⟩
theorem Other.alloc (F : Nat → Prop) (h : AH) (l : List AV) : Other F h (h.alloc l) :=
  ⟨Nat.le_succ _, fun j hj _ => by rw [AH.blk?_alloc, if_neg (by omega)], fun _ _ _ => rfl⟩

/-! ### Values that speak of no block -/
def flat0 : AV → Bool
  | .bool _ | .int .. | .str _ | .nilp | .nilSl | .nilMap | .nilFn | .nilIface | .top => true
  | _ => false
def forget0 (a : AV) : AV := if flat0 a then a else .top
/-- A value of a cell that speaks of blocks below m alone. -/
def oldAV (m : Nat) : AV → Bool
  | .ptr id _ => Nat.blt id m
  | .sl id _ _ _ _ => Nat.blt id m
  | a => flat0 a
theorem VR.flat0 {f g : Inj} {v : Value} {a : AV} (h : VR f v a) (ha : flat0 a = true) : VR g v a := by
  cases h <;> first | (simp [AI.flat0] at ha; done) | (constructor; done) | (constructor; assumption)
theorem VR.forget0 {f g : Inj} {v : Value} {a : AV} (h : VR f v a) : VR g v (forget0 a) := by
  unfold AI.forget0
  split
  · rename_i ha; exact h.flat0 ha
  · exact .top _
theorem VRs.forget0 {f g : Inj} : ∀ {vs : List Value} {l : List AV}, VRs f vs l → VRs g vs (l.map AI.forget0)
  | _, _, .nil => .nil
  | _, _, .cons _ _ _ _ h hs => .cons _ _ _ _ h.forget0 (VRs.forget0 hs)
theorem VR.old {f g : Inj} {m : Nat} {v : Value} {a : AV} (h : VR f v a) (ha : oldAV m a = true) (hfg : ∀ id, id < m → g id = f id) : VR g v a := by
  cases h with
  | ptr id off r h hlo => exact .ptr id off r (by rw [hfg id (Nat.blt_eq.mp ha)]; exact h) hlo
  | sl id off len es c r O cap h hlo hlen hO hc sp hsp => exact .sl id off len es c r O cap (by rw [hfg id (Nat.blt_eq.mp ha)]; exact h) hlo hlen hO hc sp hsp
  | _ => first | (simp [oldAV, AI.flat0] at ha; done) | (constructor; done) | (constructor; assumption)
mutual
/-- What stood for a value ahead of the call stands for one behind it, in few words. -/
theorem VR.restrict {f f' g : Inj} (hg : ∀ id r, f id = some r → g id = f' id) {v0 v : Value} {a : AV} (h0 : VR f v0 a) (h : VR f' v a) : VR g v a := by
  cases h with
  | top => exact .top _
  | bool => exact .bool _
  | int => exact .int _ _
  | str s l h => exact .str s l h
  | nilp => exact .nilp
  | ptr id off r h hlo => cases h0 with | ptr _ _ r0 h1 _ => exact .ptr id off r (by rw [hg _ _ h1]; exact h) hlo
  | nilSl => exact .nilSl
  | sl id off len es c r O cap h hlo hlen hO hc sp hsp => cases h0 with | sl _ _ _ _ _ r0 _ _ h1 => exact .sl id off len es c r O cap (by rw [hg _ _ h1]; exact h) hlo hlen hO hc sp hsp
  | nilMap => exact .nilMap
  | fn k first captured l1 l2 h1 h2 => cases h0 with | fn _ _ _ _ _ q1 q2 => exact .fn k _ _ _ _ (VRs.restrict hg q1 h1) (VRs.restrict hg q2 h2)
  | yld id r h => cases h0 with | yld _ r0 h1 => exact .yld id r (by rw [hg _ _ h1]; exact h)
  | nilFn => exact .nilFn
  | iface t v a h => cases h0 with | iface _ _ _ q => exact .iface t _ _ (VR.restrict hg q h)
  | nilIface => exact .nilIface
  | agg cs l h => cases h0 with | agg _ _ q => exact .agg cs _ (VRs.restrict hg q h)
  | tup cs l h => cases h0 with | tup _ _ q => exact .tup cs _ (VRs.restrict hg q h)
theorem VRs.restrict {f f' g : Inj} (hg : ∀ id r, f id = some r → g id = f' id) {vs0 vs : List Value} {as : List AV} (h0 : VRs f vs0 as) (h : VRs f' vs as) : VRs g vs as := by
  cases h with
  | nil => exact .nil
  | cons v a vs as h hs => cases h0 with | cons _ _ _ _ q qs => exact .cons _ _ _ _ (VR.restrict hg q h) (VRs.restrict hg qs hs)
end

/-! ### The short form -/
/-- f', as far as it speaks of blocks below m. -/
def cutInj (f' : Inj) (m : Nat) : Inj := fun j => if j < m then f' j else none
section
variable {B : Nat} {f f' : Inj} {h h' : AH} {w w' : World}
theorem HR.lt (H : HR B f h w) {id : Nat} {r : Reg} (hf : f id = some r) : id < h.next := by
  rcases Nat.lt_or_ge id h.next with q | q
  · exact q
  · rw [H.ffresh id q] at hf; simp at hf
theorem HR.cutExt (H : HR B f h w) (e : Ext f f') : Ext f (cutInj f' h.next) := fun id r hr => by
  unfold cutInj
  rw [if_pos (H.lt hr)]
  exact e id r hr
theorem HR.cutEq (H : HR B f h w) : ∀ id r, f id = some r → cutInj f' h.next id = f' id := fun id r hr => by
  unfold cutInj
  rw [if_pos (H.lt hr)]
theorem HR.cut (H : HR B f h w) (H' : HR B f' h' w') (q : Quiet h h') : HR B (cutInj f' h.next) h w' := by
  have hlt : ∀ id b, h.blk? id = some b → id < h.next := fun id b hb => by
    rcases Nat.lt_or_ge id h.next with c | c
    · exact c
    · rw [H.fresh id c] at hb; simp at hb
  have hlo : ∀ id o, h.ob? id = some o → id < h.next := fun id o ho => by
    rcases Nat.lt_or_ge id h.next with c | c
    · exact c
    · rw [H.objs.ofresh id c] at ho; simp at ho
  have hc : ∀ id, id < h.next → cutInj f' h.next id = f' id := fun id hid => by unfold cutInj; rw [if_pos hid]
  refine ⟨fun id b hb => ?_, fun id id' b b' r r' hne hb hb' hro hro' hr hr' => ?_, H.fresh, fun id hid => by unfold cutInj; rw [if_neg (by omega)], H'.le, ⟨fun id o ho => ?_, fun id id' o o' r r' hne ho ho' hr hr' => ?_, H.objs.ofresh⟩⟩
  · have hid := hlt id b hb
    obtain ⟨r, c, e, fz, h1, h2, h3, h4, h5, h6, h7, h8⟩ := H'.blk id b (by rw [q.blk id hid (fun x => x)]; exact hb)
    obtain ⟨_, _, _, _, _, _, _, _, _, _, _, g8⟩ := H.blk id b hb
    refine ⟨r, c, e, fz, by rw [hc id hid]; exact h1, h2, h3, h4, h5, h6, h7, fun o a ha => ?_⟩
    obtain ⟨v, k1, k2⟩ := h8 o a ha
    obtain ⟨v0, _, k4⟩ := g8 o a ha
    exact ⟨v, k1, VR.restrict H.cutEq k4 k2⟩
  · rw [hc id (hlt id b hb)] at hr
    rw [hc id' (hlt id' b' hb')] at hr'
    exact H'.apart id id' b b' r r' hne (by rw [q.blk id (hlt id b hb) (fun x => x)]; exact hb) (by rw [q.blk id' (hlt id' b' hb') (fun x => x)]; exact hb') hro hro' hr hr'
  · have hid := hlo id o ho
    obtain ⟨r, x, h1, h2, h3, h4⟩ := H'.objs.obj id o (by rw [q.ob id hid (fun x => x)]; exact ho)
    obtain ⟨_, x0, _, _, _, g4⟩ := H.objs.obj id o ho
    refine ⟨r, x, by rw [hc id hid]; exact h1, h2, h3, ?_⟩
    cases o with
    | loop L =>
      obtain ⟨R, e1, e2, e3, e4, e5⟩ := h4
      obtain ⟨R0, _, _, _, e6, _⟩ := g4
      refine ⟨R, e1, e2, e3, ⟨e4.size, fun t a ha => ?_⟩, e5⟩
      obtain ⟨v, k1, k2⟩ := e4.get t a ha
      obtain ⟨v0, _, k4⟩ := e6.get t a ha
      exact ⟨v, k1, VR.restrict H.cutEq k4 k2⟩
    | iter s pos => exact h4
  · rw [hc id (hlo id o ho)] at hr
    rw [hc id' (hlo id' o' ho')] at hr'
    exact H'.objs.oapart id id' o o' r r' hne (by rw [q.ob id (hlo id o ho) (fun x => x)]; exact ho) (by rw [q.ob id' (hlo id' o' ho') (fun x => x)]; exact ho') hr hr'

/-- A part of a block that no abstract block stands for. -/
theorem HR.addBlk (H : HR B f h w) {r : Reg} {c : Array Value} {e : TypeId} {l : List AV} (hB : B ≤ r.blk) (hc : w.heap[r.blk]? = some (.cells c e (0, 0))) (hin : r.base + r.ext ≤ c.size) (hlo : r.lo = 0) (hl : l.length ≤ r.ext)
    (hap : ∀ id b r', h.blk? id = some b → b.ro = false → f id = some r' → r'.blk ≠ r.blk ∨ r'.base + r'.ext ≤ r.base ∨ r.base + r.ext ≤ r'.base)
    (hv : ∀ i a, l[i]? = some a → ∃ v, c[r.base + i]? = some v ∧ VR f v a) : HR B (upd f h.next r) (h.alloc l) w := by
  have hx : Ext f (upd f h.next r) := Ext.upd (H.ffresh _ (Nat.le_refl _)) _
  have hne : ∀ id b, h.blk? id = some b → id ≠ h.next := fun id b hb e => by rw [e, H.fresh _ (Nat.le_refl _)] at hb; simp at hb
  refine ⟨fun id b hb => ?_, fun id id' b b' r1 r2 hne' hb hb' hro hro' hr1 hr2 => ?_, fun id hid => ?_, fun id hid => ?_, H.le, H.objs.keep hx (fun _ => rfl) (Nat.le_succ _) (fun _ _ _ h _ => h)⟩
  · rw [AH.blk?_alloc] at hb
    split at hb
    · rename_i hid
      injection hb with hb
      subst hid hb
      refine ⟨r, c, e, (0, 0), upd_same _ _ _, hc, hin, hlo, by simpa using hl, fun _ => ⟨hB, rfl⟩, fun h => by simp at h, fun o a ha => ?_⟩
      obtain ⟨h1, h2⟩ := Blk.get_lo ha
      rw [Blk.get_eq, if_pos ⟨h1, h2⟩] at ha
      simp only [get_putCells, Tr.get_nil] at ha
      simp only at h1 h2
      rw [if_pos ⟨h1, by omega⟩] at ha
      obtain ⟨v, k1, k2⟩ := hv o a (by simpa using ha)
      exact ⟨v, by simpa using k1, k2.mono hx⟩
    · obtain ⟨r1, c1, e1, fz, q1, q2, q3, q4, q5, q6, q7, q8⟩ := H.blk id b hb
      exact ⟨r1, c1, e1, fz, hx _ _ q1, q2, q3, q4, q5, q6, q7, fun o a ha => let ⟨v, k1, k2⟩ := q8 o a ha; ⟨v, k1, k2.mono hx⟩⟩
  · rw [AH.blk?_alloc] at hb hb'
    unfold upd at hr1 hr2
    split at hb
    · rename_i hid
      subst hid
      rw [if_neg (Ne.symm hne')] at hb' hr2
      rw [if_pos rfl] at hr1
      injection hr1 with hr1
      subst hr1
      rcases hap id' b' r2 hb' hro' hr2 with q | q | q
      · exact .inl (Ne.symm q)
      · exact .inr (.inr q)
      · exact .inr (.inl q)
    · rename_i hid
      rw [if_neg hid] at hr1
      split at hb'
      · rename_i hid'
        subst hid'
        rw [if_pos rfl] at hr2
        injection hr2 with hr2
        subst hr2
        exact hap id b r1 hb hro hr1
      · rename_i hid'
        rw [if_neg hid'] at hr2
        exact H.apart id id' b b' r1 r2 hne' hb hb' hro hro' hr1 hr2
  · have hid : h.next + 1 ≤ id := hid
    rw [AH.blk?_alloc, if_neg (by omega)]
    exact H.fresh id (by omega)
  · have hid : h.next + 1 ≤ id := hid
    unfold upd
    rw [if_neg (by omega)]
    exact H.ffresh id (by omega)
end

def shortV : AV → AV
  | .tup l => .tup (l.map forget0)
  | a => a
def isTup : AV → Bool
  | .tup _ => true
  | _ => false
/-- The short form of what a call over h has left. -/
def Nrm (h : AH) (v : AV) (h' : AH) (v2 : AV) (h2 : AH) : Prop :=
  Quiet h h' ∧ (((flat0 v = true ∨ isTup v = true) ∧ v2 = shortV v ∧ h2 = h) ∨
    ∃ id off len es c b l, v = .sl id off len es c ∧ h.next ≤ id ∧ h'.blk? id = some b ∧ b.ro = false ∧ b.lo ≤ off ∧ off + len * es ≤ b.hi ∧ h'.cells? id (len * es) off = some l ∧ (∀ a ∈ l, oldAV h.next a = true) ∧
      v2 = .sl h.next 0 len es none ∧ h2 = h.alloc l)
theorem Nrm.unique {h : AH} {v : AV} {h' : AH} {a b : AV} {x y : AH} (p : Nrm h v h' a x) (q : Nrm h v h' b y) : a = b ∧ x = y := by
  rcases p with ⟨_, ⟨p1, rfl, rfl⟩ | ⟨id, off, len, es, c, b1, l, rfl, _, _, _, _, _, p2, _, rfl, rfl⟩⟩
  · rcases q with ⟨_, ⟨_, rfl, rfl⟩ | ⟨id, off, len, es, c, b1, l, rfl, _⟩⟩
    · exact ⟨rfl, rfl⟩
    · simp [flat0, isTup] at p1
  · rcases q with ⟨_, ⟨q1, _⟩ | ⟨id', off', len', es', c', b2, l', e, _, _, _, _, _, q2, _, rfl, rfl⟩⟩
    · simp [flat0, isTup] at q1
    · injection e with e1 e2 e3 e4 e5
      subst e1 e2 e3 e4
      rw [p2] at q2
      injection q2 with q2
      subst q2
      exact ⟨rfl, rfl⟩
open Classical in
noncomputable def nrm (h : AH) (r : Option (AV × AH)) : Option (AV × AH) :=
  match r with
  | none => none
  | some (v, h') => if hx : ∃ p : AV × AH, Nrm h v h' p.1 p.2 then some (Classical.choose hx) else some (v, h')
open Classical in
theorem nrm_of {h : AH} {v : AV} {h' : AH} {v2 : AV} {h2 : AH} (p : Nrm h v h' v2 h2) : nrm h (some (v, h')) = some (v2, h2) := by
  have hx : ∃ p : AV × AH, Nrm h v h' p.1 p.2 := ⟨(v2, h2), p⟩
  show (if hx : ∃ p : AV × AH, Nrm h v h' p.1 p.2 then some (Classical.choose hx) else some (v, h')) = _
  rw [dif_pos hx]
  have := Nrm.unique (Classical.choose_spec hx) p
  congr 1
  exact Prod.ext this.1 this.2
theorem nrm_flat {h h' : AH} {v : AV} (q : Quiet h h') (hv : flat0 v = true) : nrm h (some (v, h')) = some (v, h) :=
  nrm_of ⟨q, .inl ⟨.inl hv, by cases v <;> first | rfl | simp [flat0] at hv, rfl⟩⟩
theorem nrm_tup {h h' : AH} {l : List AV} (q : Quiet h h') : nrm h (some (.tup l, h')) = some (.tup (l.map forget0), h) :=
  nrm_of ⟨q, .inl ⟨.inr rfl, rfl, rfl⟩⟩
theorem Nrm.sound {B : Nat} {f : Inj} {h h' h2 : AH} {w w' : World} {v v2 : AV} {u : Value} (H : HR B f h w) (p : Nrm h v h' v2 h2) (q : HPost B f w h' v u w') : HPost B f w h2 v2 u w' := by
  obtain ⟨f', e1, H', k, hv⟩ := q
  obtain ⟨qt, ⟨p1, rfl, rfl⟩ | ⟨id, off, len, es, c, b, l, rfl, p1, p2, p3, p4, p5, p6, p7, rfl, rfl⟩⟩ := p
  · refine ⟨cutInj f' h2.next, H.cutExt e1, H.cut H' qt, k, ?_⟩
    rcases p1 with p1 | p1
    · have : shortV v = v := by cases v <;> first | rfl | simp [flat0] at p1
      rw [this]
      exact hv.flat0 p1
    · cases v <;> simp [isTup] at p1
      obtain ⟨cs, rfl, hcs⟩ := hv.tup_inv
      exact .tup cs _ hcs.forget0
  · obtain ⟨r, O, cap, sp, hf, hlo, hlen, hO, _, hsp, rfl⟩ := hv.sl_inv
    obtain ⟨r', cc, e, fz, g1, g2, g3, g4, g5, g6, _, g8⟩ := H'.blk id b p2
    rw [hf] at g1
    injection g1 with g1
    subst g1
    obtain ⟨hB, rfl⟩ := g6 p3
    obtain ⟨hl, hg⟩ := AH.cells?_spec h' id (len * es) off l p6
    have Hc := H.cut H' qt
    have hne : ∀ j, j < h.next → j ≠ id := fun j hj e => by omega
    have hcut : ∀ j, j < h.next → cutInj f' h.next j = f' j := fun j hj => by unfold cutInj; rw [if_pos hj]
    have Ha := Hc.addBlk (r := ⟨r.blk, r.base + (off - r.lo), 0, r.ext - (off - r.lo)⟩) (c := cc) (e := e) (l := l) hB g2 (by dsimp only; omega) rfl (by dsimp only; omega)
      (fun j bj rj hj hro hrj => by
        have hjn : j < h.next := by
          rcases Nat.lt_or_ge j h.next with q | q
          · exact q
          · rw [H.fresh j q] at hj; simp at hj
        rw [hcut j hjn] at hrj
        dsimp only
        rcases H'.apart j id bj b rj r (hne j hjn) (by rw [qt.blk j hjn (fun x => x)]; exact hj) p2 hro p3 hrj hf with q | q | q
        · exact .inl q
        · exact .inr (.inl (by omega))
        · exact .inr (.inr (by omega)))
      (fun i a ha => by
        have hi := hg i a ha
        rw [AH.cell?_eq, p2] at hi
        simp only [Option.bind_some] at hi
        obtain ⟨x, k1, k2⟩ := g8 _ a hi
        have hle : i < l.length := (List.getElem?_eq_some_iff.mp ha).1
        refine ⟨x, ?_, k2.old (p7 a (List.mem_of_getElem? ha)) hcut⟩
        rw [← k1]
        dsimp only
        congr 1; omega)
    refine ⟨_, (H.cutExt e1).trans (Ext.upd (Hc.ffresh _ (Nat.le_refl _)) _), Ha, k, ?_⟩
    exact .sl h.next 0 len es none ⟨r.blk, r.base + (off - r.lo), 0, r.ext - (off - r.lo)⟩ O cap (upd_same _ _ _) (Nat.le_refl _) hlen
      (by rcases hO with q | ⟨q1, q2⟩
          · exact .inl q
          · exact .inr ⟨by simp [q1], by dsimp only; omega⟩) (by simp) sp hsp
theorem nrm_sound {B : Nat} {f : Inj} {h h2 : AH} {w : World} {r : Option (AV × AH)} {v2 : AV} (H : HR B f h w) (h0 : nrm h r = some (v2, h2)) :
    ∃ v h', r = some (v, h') ∧ ∀ u w', HPost B f w h' v u w' → HPost B f w h2 v2 u w' := by
  unfold nrm at h0
  split at h0
  · simp at h0
  · rename_i v h'
    split at h0
    · rename_i hx
      injection h0 with h0
      have hs := Classical.choose_spec hx
      rw [h0] at hs
      exact ⟨v, h', rfl, fun u w' q => Nrm.sound H hs q⟩
    · injection h0 with h0
      injection h0 with e1 e2
      subst e1 e2
      exact ⟨_, _, rfl, fun u w' q => q⟩

/-- The interpreter: some calls are answered by a table; what those of pu leave is brought to the short form. -/
noncomputable def cexec (P : Program) (K : FuncId → Hint) (ov : FuncId → List AV → AH → Option (AV × AH)) (pu : FuncId → Bool) : Nat → ACall
  | 0 => fun _ _ _ => none
  | n + 1 => fun t args h =>
    match t with
    | .func g =>
      match ov g args h with
      | some r => some r
      | none =>
        match pu g with
        | true => nrm h (afn P K (cexec P K ov pu n) n g args h)
        | false => afn P K (cexec P K ov pu n) n g args h
    | .yield id => ayield P K (cexec P K ov pu n) n id args h
    | _ => none
theorem FnRuns.mono {P : Program} {g : FuncId} {vs : Array Value} {w : World} {Φ Ψ : Value → World → Prop} (h : FnRuns P g vs w Φ) (hm : ∀ v w', Φ v w' → Ψ v w') : FnRuns P g vs w Ψ := by
  rcases h with ⟨v, w', h1, h2⟩ | ⟨h1, h2⟩
  · exact .inl ⟨v, w', h1, hm _ _ h2⟩
  · exact .inr ⟨h1, h2.mono fun e w' ⟨v, he, hp⟩ => ⟨v, he, hm _ _ hp⟩⟩
theorem cexec_ok {P : Program} (hm : P.follows .mixedOrders = true) (K : FuncId → Hint) (pu : FuncId → Bool) {ov : FuncId → List AV → AH → Option (AV × AH)}
    (ho : ∀ g args h a h', ov g args h = some (a, h') → ∀ B f w (vs : Array Value), HR B f h w → VRs f vs.toList args → FnRuns P g vs w (HPost B f w h' a)) : ∀ n, CallOK P (cexec P K ov pu n)
  | 0 => ⟨fun g args h a h' h0 => by simp [cexec] at h0, fun id args h a h' h0 => by simp [cexec] at h0⟩
  | n + 1 => by
    have ih := cexec_ok hm K pu ho n
    refine ⟨fun g args h a h' h0 B f w vs H hv => ?_, fun id args h a h' h0 B f w vs r H hv hf => ?_⟩
    · simp only [cexec] at h0
      split at h0
      · rename_i x hx
        injection h0 with h0
        subst h0
        exact ho g args h _ h' hx B f w vs H hv
      · split at h0
        · obtain ⟨v, h1, e, hp⟩ := nrm_sound H h0
          exact (afn_runs hm K ih e H hv).mono hp
        · exact afn_runs hm K ih h0 H hv
    · simp only [cexec] at h0
      exact ayield_runs hm K ih h0 H hv hf
end Go.Proofs.Ytgnacecplaemlaa.AI
