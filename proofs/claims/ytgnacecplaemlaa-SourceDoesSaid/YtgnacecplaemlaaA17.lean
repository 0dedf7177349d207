/-
  An abstract interpreter for the model's code, part 17: code, functions, calls: a run of the interpreter that ends is a call of the model that returns.
-/
import Derived.Test.YtgnacecplaemlaaA16
import Derived.LoopN
namespace Go.Proofs.Ytgnacecplaemlaa.AI
open Go.RowKit

/-! ### Code -/
inductive AEx where
  | normal
  | exit (id : Nat)
  | ret
def AEx.conv : AEx → Exit
  | .normal => .normal
  | .exit id => .exit id
  | .ret => .ret

/-- Which slots are still wanted at the head of a loop, by the number of the first region in it. -/
abbrev Hint := Nat → Option (List Nat)
def firstRegion : Code → Option Nat
  | .region id _ _ => some id
  | .seq a b => match firstRegion a with | some i => some i | none => firstRegion b
  | .cond _ a b => match firstRegion a with | some i => some i | none => firstRegion b
  | .block _ c | .loop c | .scope c => firstRegion c
  | _ => none
def akeep (keep : List Nat) : Nat → List AV → List AV
  | _, [] => []
  | i, v :: l => (if keep.contains i then v else .top) :: akeep keep (i + 1) l
def aclear (K : Hint) (c : Code) (fr : List AV) : List AV :=
  match firstRegion c with
  | none => fr
  | some id => match K id with
    | none => fr
    | some keep => akeep keep 0 fr

abbrev ARes := Option (AEx × List AV × AH)
def aloop (body : List AV → AH → ARes) (cl : List AV → List AV) : Nat → List AV → AH → ARes
  | 0, _, _ => none
  | n + 1, fr, h =>
    match body (cl fr) h with
    | some (.normal, fr', h') => aloop body cl n fr' h'
    | r => r
noncomputable def arun (P : Program) (K : Hint) (call : FuncId → List AV → AH → Option (AV × AH)) (lf : Nat) : Code → List AV → AH → ARes
  | .skip => fun fr h => some (.normal, fr, h)
  | .label _ => fun fr h => some (.normal, fr, h)
  | .region _ ops draw => fun fr h =>
    match draw with
    | false => match aops P call ops (List.range ops.size) fr h with
      | some (fr', h') => some (.normal, fr', h')
      | none => none
    | true => match adraw P call ops fr h with
      | some (fr', h') => some (.normal, fr', h')
      | none => none
  | .seq x y => fun fr h =>
    match arun P K call lf x fr h with
    | some (.normal, fr', h') => arun P K call lf y fr' h'
    | r => r
  | .cond c x y => fun fr h =>
    match aev fr c with
    | .bool true => arun P K call lf x fr h
    | .bool false => arun P K call lf y fr h
    | _ => none
  | .block id c => fun fr h =>
    match arun P K call lf c fr h with
    | some (.exit id', fr', h') => if id' = id then some (.normal, fr', h') else some (.exit id', fr', h')
    | r => r
  | .loop c => fun fr h => aloop (arun P K call lf c) (aclear K c) lf fr h
  | .exit id => fun fr h => some (.exit id, fr, h)
  | .ret => fun fr h => some (.ret, fr, h)
  | _ => fun _ _ => none

/-! ### Functions -/
noncomputable def aresult (P : Program) (fr : List AV) (h : AH) : ResultVar → Option AV
  | .tmp t => some (fr.getD t .top)
  | .cell a t =>
    match fr.getD a .top, aisAgg P t, asize P t with
    | .ptr id off, some true, some n => (h.cells? id n off).map .agg
    | .ptr id off, some false, _ => h.cell? id off
    | _, _, _ => none
noncomputable def aresultL (P : Program) (fr : List AV) (h : AH) : List ResultVar → Option (List AV)
  | [] => some []
  | r :: l =>
    match aresult P fr h r, aresultL P fr h l with
    | some v, some vs => some (v :: vs)
    | _, _ => none
def aone : List AV → AV
  | [v] => v
  | l => .tup l
noncomputable def afn (P : Program) (K : FuncId → Hint) (call : FuncId → List AV → AH → Option (AV × AH)) (lf : Nat) (g : FuncId) (args : List AV) (h : AH) : Option (AV × AH) :=
  match P.funcs[g]? with
  | some fn =>
    match fn.body with
    | some c =>
      if fn.name == "runtime.NumGoroutine" then none else
      match arun P (K g) call lf c (args ++ List.replicate (fn.ntmps - args.length) (.tup [])) h with
      | some (.normal, fr, h') => (aresultL P fr h' fn.results.toList).map fun l => (aone l, h')
      | some (.ret, fr, h') => (aresultL P fr h' fn.results.toList).map fun l => (aone l, h')
      | _ => none
    | none => none
  | none => none
/-- The interpreter: a function, its arguments, a heap: the result, and the heap behind it. -/
noncomputable def aexec (P : Program) (K : FuncId → Hint) : Nat → FuncId → List AV → AH → Option (AV × AH)
  | 0 => fun _ _ _ => none
  | n + 1 => afn P K (aexec P K n) n

/-! ### It tells the truth -/
section
variable {P : Program} {K : Hint} {call : FuncId → List AV → AH → Option (AV × AH)} {B : Nat}

theorem sameLoad_eq {a b : Option AV} (h : sameLoad a b = true) : a = b := by
  unfold sameLoad at h
  split at h
  · rw [AV.beq_sound h]
  · simp at h

theorem adraw_sound (hm : P.follows .mixedOrders = true) (hc : CallOK P call) {ops : Array Oper} {id : Nat} {f : Inj} {fr : List AV} {h : AH} {a : Act} {w : World} (S : SR B f fr h a w)
    {fr' : List AV} {h' : AH} (h0 : adraw P call ops fr h = some (fr', h')) {Q : Exit → Act → World → Prop} (hQ : ∀ f' a' w', Ext f f' → SR B f' fr' h' a' w' → Below B w w' → Q .normal a' w') :
    (Code.region id ops true).wp P Q a w := by
  unfold adraw at h0
  split at h0
  · rename_i hok
    split at h0
    · simp at h0
    · rename_i log hlog
      split at h0
      · rename_i hload
        obtain ⟨st, val, W, hst, hk⟩ := walk_of_log hlog
        have hend : st ops.size = (fr', h') := by
          have := hk ops.size (Nat.le_refl _)
          rw [h0] at this
          injection this with this
          exact this.symm
        refine wp_region_any hm ?_
        refine draw_any (T := befs ops.toList []) (st := st) (val := val) (p := 0) (f := f) (B := B) hc W hok (fun i j o ho hcl hw hj hhj hb1 hb2 => ?_) ops.size ⟨by simp, fun x y hx => ?_, ?_, Nat.zero_le _, fun j hj _ => ?_, ?_, ?_, S.nd, fun t _ b hb => ?_, fun t j hj _ hl => ?_⟩ (fun f' a' w' e1 s1 b1 => ?_)
        · have hi : i < ops.size := (Array.getElem?_eq_some_iff.1 ho).1
          have h1 := all_range hload hi
          simp only [loadOK, ho, hk i (by omega), hcl, if_true, hw] at h1
          have h2 := all_range h1 hj
          simp only [hhj, Bool.not_true, hb1, hb2, Bool.false_or, hk j (by omega), hk (j + 1) (by omega), Bool.and_eq_true] at h2
          exact ⟨sameLoad_eq h2.1, sameLoad_eq h2.2⟩
        · exfalso
          by_cases hlt : x < ops.size
          · simp [hlt] at hx
          · simp [hlt] at hx
        · exact Nat.le_trans List.countP_le_length (by simp)
        · constructor
          · intro hl; simp [hj] at hl
          · intro hl; omega
        · rw [hst]; exact S.hr.of_heap rfl
        · rw [hst]; exact S.fr.size
        · rw [hst] at hb; exact S.fr.get t b hb
        · simp [hj] at hl
        · rw [hend] at s1
          exact hQ f' a' w' e1 s1 (Below.trans ((Below.refl B w).drew) b1)
      · simp at h0
  · simp at h0

theorem FR.keep {f : Inj} {tmps : Array Value} {fr : List AV} (h : FR f tmps fr) (keep : List Nat) : FR f tmps (akeep keep 0 fr) := by
  have hl : ∀ (l : List AV) (i : Nat), (akeep keep i l).length = l.length := by
    intro l
    induction l with
    | nil => intro i; rfl
    | cons v l ih => intro i; simp [akeep, ih]
  have hg : ∀ (l : List AV) (i t : Nat) (a : AV), (akeep keep i l)[t]? = some a → a = .top ∨ l[t]? = some a := by
    intro l
    induction l with
    | nil => intro i t a h; simp [akeep] at h
    | cons v l ih =>
      intro i t a h
      cases t with
      | zero =>
        simp only [akeep, List.getElem?_cons_zero, Option.some.injEq] at h
        split at h
        · right; simp [h]
        · left; exact h.symm
      | succ t =>
        simp only [akeep, List.getElem?_cons_succ] at h
        simpa using ih (i + 1) t a h
  refine ⟨by rw [hl]; exact h.size, fun t a ha => ?_⟩
  rcases hg fr 0 t a ha with rfl | h1
  · have : t < tmps.size := by
      rw [h.size, ← hl fr 0]
      exact (List.getElem?_eq_some_iff.mp ha).1
    exact ⟨tmps[t], by simp [this], .top _⟩
  · exact h.get t a h1
theorem SR.clear {f : Inj} {fr : List AV} {h : AH} {a : Act} {w : World} (S : SR B f fr h a w) (K : Hint) (c : Code) : SR B f (aclear K c fr) h a w := by
  unfold aclear
  split
  · exact S
  · split
    · exact S
    · exact ⟨S.fr.keep _, S.hr, S.nd⟩

/-- What is asked behind a run. -/
def After (B : Nat) (f : Inj) (w : World) (r : AEx × List AV × AH) (Q : Exit → Act → World → Prop) : Prop :=
  ∀ f' a' w', Ext f f' → SR B f' r.2.1 r.2.2 a' w' → Below B w w' → Q r.1.conv a' w'

theorem arun_sound (hm : P.follows .mixedOrders = true) (hc : CallOK P call) {lf : Nat} : ∀ (c : Code) {f : Inj} {fr : List AV} {h : AH} {a : Act} {w : World}, SR B f fr h a w →
    ∀ {r : AEx × List AV × AH}, arun P K call lf c fr h = some r → ∀ {Q : Exit → Act → World → Prop}, After B f w r Q → c.wp P Q a w := by
  intro c
  induction c with
  | skip =>
    intro f fr h a w S r h0 Q hQ
    simp only [arun, Option.some.injEq] at h0
    subst h0
    exact wp_skip (hQ f a w (Ext.refl f) S (Below.refl B w))
  | label l =>
    intro f fr h a w S r h0 Q hQ
    simp only [arun, Option.some.injEq] at h0
    subst h0
    exact wp_label (hQ f a w (Ext.refl f) S (Below.refl B w))
  | exit id =>
    intro f fr h a w S r h0 Q hQ
    simp only [arun, Option.some.injEq] at h0
    subst h0
    exact wp_exit (hQ f a w (Ext.refl f) S (Below.refl B w))
  | ret =>
    intro f fr h a w S r h0 Q hQ
    simp only [arun, Option.some.injEq] at h0
    subst h0
    exact wp_ret (hQ f a w (Ext.refl f) S (Below.refl B w))
  | region id ops draw =>
    intro f fr h a w S r h0 Q hQ
    cases draw with
    | false =>
      simp only [arun] at h0
      split at h0
      · rename_i fr' h' hs
        injection h0 with h0
        subst h0
        exact wp_region (aops_sound hc _ S hs fun f' a' w' e s b => hQ f' a' w' e s b)
      · simp at h0
    | true =>
      simp only [arun] at h0
      split at h0
      · rename_i fr' h' hs
        injection h0 with h0
        subst h0
        exact adraw_sound hm hc S hs fun f' a' w' e s b => hQ f' a' w' e s b
      · simp at h0
  | seq x y ihx ihy =>
    intro f fr h a w S r h0 Q hQ
    simp only [arun] at h0
    refine wp_seq ?_
    split at h0
    · rename_i fr' h' hs
      refine ihx S hs fun f' a' w' e s b => ?_
      exact ihy s h0 fun f2 a2 w2 e2 s2 b2 => hQ f2 a2 w2 (e.trans e2) s2 (b.trans b2)
    · rename_i hn
      refine ihx S h0 fun f' a' w' e s b => ?_
      have := hQ f' a' w' e s b
      obtain ⟨ex, fr', h'⟩ := r
      cases ex with
      | normal => exact absurd h0 (hn _ _)
      | exit id => exact this
      | ret => exact this
  | cond c x y ihx ihy =>
    intro f fr h a w S r h0 Q hQ
    simp only [arun] at h0
    have hev := S.fr.ev c
    split at h0
    · rename_i hb
      rw [hb] at hev
      exact wp_cond_true hev.bool_inv (ihx S h0 hQ)
    · rename_i hb
      rw [hb] at hev
      exact wp_cond_false hev.bool_inv (ihy S h0 hQ)
    · simp at h0
  | block id c ih =>
    intro f fr h a w S r h0 Q hQ
    simp only [arun] at h0
    refine wp_block ?_
    split at h0
    · rename_i id' fr' h' hs
      refine ih S hs fun f' a' w' e s b => ?_
      simp only [AEx.conv, Exit.inBlock]
      split at h0
      · rename_i hid
        injection h0 with h0
        subst h0
        rw [if_pos hid]
        exact hQ f' a' w' e s b
      · rename_i hid
        injection h0 with h0
        subst h0
        rw [if_neg hid]
        exact hQ f' a' w' e s b
    · rename_i hn
      refine ih S h0 fun f' a' w' e s b => ?_
      have := hQ f' a' w' e s b
      obtain ⟨ex, fr', h'⟩ := r
      cases ex with
      | normal => exact this
      | exit id => exact absurd h0 (hn _ _ _)
      | ret => exact this
  | loop c ih =>
    intro f fr h a w S r h0 Q hQ
    simp only [arun] at h0
    have key : ∀ (n : Nat) {f : Inj} {fr : List AV} {h : AH} {a : Act} {w : World}, SR B f fr h a w → ∀ {r : AEx × List AV × AH}, aloop (arun P K call lf c) (aclear K c) n fr h = some r →
        After B f w r Q → Code.rounds P c Q n a w := by
      intro n
      induction n with
      | zero => intro f fr h a w S r h0; simp [aloop] at h0
      | succ n ihn =>
        intro f fr h a w S r h0 hQ
        rw [rounds_succ]
        simp only [aloop] at h0
        split at h0
        · rename_i fr' h' hs
          refine ih (S.clear K c) hs fun f' a' w' e s b => ?_
          exact ihn s h0 fun f2 a2 w2 e2 s2 b2 => hQ f2 a2 w2 (e.trans e2) s2 (b.trans b2)
        · rename_i hn
          refine ih (S.clear K c) h0 fun f' a' w' e s b => ?_
          have := hQ f' a' w' e s b
          obtain ⟨ex, fr', h'⟩ := r
          cases ex with
          | normal => exact absurd h0 (hn _ _)
          | exit id => exact this
          | ret => exact this
    exact wp_loop_rounds lf (key lf S h0 hQ)
  | _ => intro f fr h a w S r h0; simp [arun] at h0

def rvSem (tmps : Array Value) : ResultVar → Sem Value
  | .tmp t => pure (tmps.getD t undef)
  | .cell x t => do loadVar t (← asAddr (tmps.getD x undef))
theorem results_eq (fn : Func) (tmps : Array Value) : results fn tmps = (do let vs ← fn.results.mapM (rvSem tmps); pure (if h : vs.size = 1 then vs[0] else .tuple vs)) := by
  unfold results
  have : (fun r : ResultVar => (match r with | .tmp t => pure (tmps.getD t undef) | .cell a t => do loadVar t (← asAddr (tmps.getD a undef)) : Sem Value)) = rvSem tmps := by
    funext r; cases r <;> rfl
  exact congrArg (fun g => (do let vs ← fn.results.mapM g; pure (if h : vs.size = 1 then vs[0] else .tuple vs) : Sem Value)) this
theorem aresult_sound {f : Inj} {fr : List AV} {h : AH} {a : Act} {w : World} (S : SR B f fr h a w) {r : ResultVar} {v : AV} (h0 : aresult P fr h r = some v) :
    ∃ u, VR f u v ∧ (rvSem a.tmps r).run P w = .ok u w := by
  cases r with
  | tmp t =>
    simp only [aresult, Option.some.injEq] at h0
    subst h0
    exact ⟨_, S.fr.ev (.tmp t), rfl⟩
  | cell x t =>
    simp only [aresult] at h0
    have hp : VR f (a.tmps.getD x undef) (fr.getD x .top) := S.fr.ev (.tmp x)
    split at h0
    · rename_i id off n hx ht hn
      rw [hx] at hp
      obtain ⟨r, hf, hlo, hv⟩ := hp.ptr_inv
      cases hc : h.cells? id n off with
      | none => simp [hc] at h0
      | some l =>
        simp [hc] at h0
        subst h0
        obtain ⟨vs, hl, hvs, hcell⟩ := S.hr.cells hc hf hlo
        have := run_loadCells_list (P := P) w _ vs hcell
        rw [hl] at this
        exact ⟨.agg vs.toArray, .agg _ _ (by simpa using hvs), by simp only [rvSem, hv, asAddr, Sem.run_bind, Sem.run_pure, Result.andThen_ok, loadVar, run_isAgg ht, if_true, run_sizeOf hn, this]⟩
    · rename_i id off _ hx ht
      rw [hx] at hp
      obtain ⟨r, hf, hlo, hv⟩ := hp.ptr_inv
      obtain ⟨v', h1, h2⟩ := S.hr.cell h0 hf
      exact ⟨v', h2, by simp [rvSem, hv, asAddr, loadVar, run_isAgg ht, h1]⟩
    · simp at h0
theorem aresultL_sound {f : Inj} {fr : List AV} {h : AH} {a : Act} {w : World} (S : SR B f fr h a w) : ∀ (l : List ResultVar) {vs : List AV}, aresultL P fr h l = some vs →
    ∃ us : List Value, VRs f us vs ∧ (l.mapM (rvSem a.tmps)).run P w = .ok us w
  | [], vs, h0 => by simp only [aresultL, Option.some.injEq] at h0; subst h0; exact ⟨[], .nil, by simp⟩
  | r :: l, vs, h0 => by
    simp only [aresultL] at h0
    split at h0
    · rename_i v vs' h1 h2
      injection h0 with h0
      subst h0
      obtain ⟨u, q1, q2⟩ := aresult_sound S h1
      obtain ⟨us, q3, q4⟩ := aresultL_sound S l h2
      exact ⟨u :: us, .cons _ _ _ _ q1 q3, by rw [List.mapM_cons, Sem.run_bind, q2, Result.andThen_ok, Sem.run_bind, q4]; rfl⟩
    · simp at h0
theorem results_sound {f : Inj} {fr : List AV} {h : AH} {a : Act} {w : World} (S : SR B f fr h a w) {fn : Func} {vs : List AV} (h0 : aresultL P fr h fn.results.toList = some vs) :
    ∃ u, VR f u (aone vs) ∧ (results fn a.tmps).run P w = .ok u w := by
  obtain ⟨us, h1, h2⟩ := aresultL_sound S _ h0
  have hr : (results fn a.tmps).run P w = .ok (if h : us.toArray.size = 1 then us.toArray[0] else .tuple us.toArray) w := by
    rw [results_eq]
    cases hfr : fn.results with
    | mk rl =>
      rw [hfr] at h2
      rw [Sem.run_bind, List.mapM_toArray, Sem.run_map, h2]
      rfl
  refine ⟨_, ?_, hr⟩
  cases h1 with
  | nil => exact .tup _ _ (by exact .nil)
  | cons v b us' vs' h3 h4 =>
    cases h4 with
    | nil => simpa [aone] using h3
    | cons v2 b2 us2 vs2 h5 h6 => exact .tup _ _ (.cons _ _ _ _ h3 (.cons _ _ _ _ h5 h6))

theorem aexec_ok (hm : P.follows .mixedOrders = true) (K : FuncId → Hint) : ∀ n, CallOK P (aexec P K n)
  | 0 => fun g args h a h' h0 => by simp [aexec] at h0
  | n + 1 => fun g args h r h' h0 => by
    simp only [aexec, afn] at h0
    split at h0
    · rename_i fn hfn
      split at h0
      · rename_i c hb
        split at h0
        · simp at h0
        · rename_i hname
          refine ⟨fun vs w => ?_, fun B f w vs H hv => ?_⟩
          · have hname' : ¬ fn.name = "runtime.NumGoroutine" := by simpa using hname
            simp [callFunc, hfn, hname', hb]
          · refine calls_of_wp hfn hb ?_
            have hsz : vs.size = args.length := by have := hv.length; simpa using this
            have S0 : SR B f (args ++ List.replicate (fn.ntmps - args.length) (.tup [])) h { tmps := vs ++ Array.replicate (fn.ntmps - vs.size) undef, defers := [] } w := by
              have hall : VRs f (vs ++ Array.replicate (fn.ntmps - vs.size) undef).toList (args ++ List.replicate (fn.ntmps - args.length) (.tup [])) := by
                rw [Array.toList_append, Array.toList_replicate, hsz]
                refine hv.append (VRs.of_get (by simp) fun i v b h1 h2 => ?_)
                have e1 := List.eq_of_mem_replicate (List.mem_of_getElem? h1)
                have e2 := List.eq_of_mem_replicate (List.mem_of_getElem? h2)
                subst e1 e2
                exact .tup _ _ (by exact .nil)
              refine ⟨⟨by have := hall.length; simpa using this, fun t b hb => ?_⟩, H, rfl⟩
              obtain ⟨v, h1, h2⟩ := hall.get t b hb
              exact ⟨v, by rw [← Array.getElem?_toList]; exact h1, h2⟩
            have fin : ∀ (ex : AEx) (fr' : List AV) (hh : AH), (ex = .normal ∨ ex = .ret) → arun P (K g) (aexec P K n) n c (args ++ List.replicate (fn.ntmps - args.length) (.tup [])) h = some (ex, fr', hh) →
                (aresultL P fr' hh fn.results.toList).map (fun l => (aone l, hh)) = some (r, h') →
                c.wp P (bodyPost P fn (fun e w' => ∃ v, e = .returned v ∧ HPost B f w h' r v w')) { tmps := vs ++ Array.replicate (fn.ntmps - vs.size) undef, defers := [] } w := by
              intro ex fr' hh hex hrun hres
              cases hl : aresultL P fr' hh fn.results.toList with
              | none => simp [hl] at hres
              | some l =>
                simp [hl] at hres
                obtain ⟨rfl, rfl⟩ := hres
                refine arun_sound hm (aexec_ok hm K n) c S0 hrun fun f' a' w' e s b => ?_
                obtain ⟨u, q1, q2⟩ := results_sound s hl
                rcases hex with rfl | rfl
                · exact ⟨s.nd, u, q2, u, rfl, f', e, s.hr, b, q1⟩
                · exact ⟨s.nd, u, q2, u, rfl, f', e, s.hr, b, q1⟩
            split at h0
            · rename_i fr' hh hrun
              exact fin .normal fr' hh (.inl rfl) hrun h0
            · rename_i fr' hh hrun
              exact fin .ret fr' hh (.inr rfl) hrun h0
            · simp at h0
      · simp at h0
    · simp at h0

/-- The empty heap. -/
def AH.empty : AH := { m := .nil, next := 0 }
theorem HR.empty (w : World) : HR w.heap.size (fun _ => none) AH.empty w :=
  ⟨fun id b hb => by simp [AH.blk?, AH.empty, Tr.get_nil] at hb, fun id id' b b' r r' _ hb => by simp [AH.blk?, AH.empty, Tr.get_nil] at hb, fun id _ => by simp [AH.blk?, AH.empty, Tr.get_nil], fun _ _ => rfl, Nat.le_refl _⟩

/-- What a run of the interpreter over the empty heap says of the model. -/
theorem calls_of_exec (hm : P.follows .mixedOrders = true) (K : FuncId → Hint) {n : Nat} {g : FuncId} {args : List AV} {vs : Array Value} (hv : VRs (fun _ => none) vs.toList args) {h' : AH}
    (h0 : aexec P K n g args AH.empty = some (.bool true, h')) (w : World) : Calls P g vs w (fun e w' => e = .returned (.bool true) ∧ Below w.heap.size w w') :=
  ((aexec_ok hm K n g args AH.empty _ h' h0).2 w.heap.size _ w vs (HR.empty w) hv).mono fun e w' ⟨v, he, f', _, _, hb, hvr⟩ => ⟨by rw [he, hvr.bool_inv], hb⟩
end
end Go.Proofs.Ytgnacecplaemlaa.AI
