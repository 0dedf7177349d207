/-
  Iterators: what a function that hands on one command after the other may count on; rounds.
-/
import Derived.Test.YtgnacecplaemlaaW12
import Derived.Test.YtgnacecplaemlaaH4
namespace Go.Proofs.Ytgnacecplaemlaa
open AI
set_option linter.unusedSimpArgs false

/-! ### What stands below a command, in order -/
def Wd.ps : Wd → List Pt
  | .mk _ ps => ps
def Wd.cmds (w : Wd) : List Nd := (Ytgnacecplaemlaa.cmds w.ps).flatMap (·.2)
def Nd.arms : Nd → List Am
  | .mk _ _ _ _ _ _ _ _ _ _ _ _ _ ms _ _ => ms
def Nd.kids : Nd → List Nd
  | .mk _ _ _ _ _ _ _ _ _ _ _ _ _ _ _ kids => kids
def Nd.under (n : Nd) : List Nd := n.own.flatMap Wd.cmds ++ n.arms.map Am.body ++ n.kids
theorem cmds_sz {ps : List Pt} : ∀ c ∈ cmds ps, szN c.2 + 1 ≤ szP ps := by
  intro c hc
  have : ∀ {ps : List Pt}, ∀ c ∈ cmds ps, szN c.2 + 1 ≤ szP ps := by
    intro ps
    induction h : szP ps using Nat.strongRecOn generalizing ps
    rename_i N ih
    intro c hc
    cases ps with
    | nil => simp [cmds] at hc
    | cons p l =>
      obtain ⟨k, t, o, sk, kids, sc, cs⟩ := p
      simp only [szP, Pt.sz] at h
      simp only [cmds, List.mem_append] at hc
      rcases hc with (hc | hc) | hc
      · split at hc
        · simp only [List.mem_singleton] at hc; subst hc; dsimp only; omega
        · simp at hc
      · have := ih (szP kids) (by omega) rfl c hc; omega
      · have := ih (szP l) (by omega) rfl c hc; omega
  exact this c hc
theorem Nd.under_sz {n x : Nd} (hx : x ∈ n.under) : x.sz < n.sz := by
  have ho := n.own_sz
  have hk : szN n.kids + szM n.arms + 1 ≤ n.sz := by cases n; simp only [Nd.kids, Nd.arms, Nd.sz]; omega
  unfold Nd.under at hx
  simp only [List.mem_append] at hx
  rcases hx with (hx | hx) | hx
  · obtain ⟨w, hw, hx⟩ := List.mem_flatMap.mp hx
    have h1 := szW_mem hw
    obtain ⟨s, ps⟩ := w
    unfold Wd.cmds at hx
    obtain ⟨c, hc, hx⟩ := List.mem_flatMap.mp hx
    have h2 := cmds_sz c hc
    have h3 := szN_mem hx
    simp only [Wd.ps] at h2
    simp only [Wd.sz] at h1
    omega
  · obtain ⟨m, hm, rfl⟩ := List.mem_map.mp hx
    have h1 := szM_mem hm
    obtain ⟨s, pats, body⟩ := m
    simp only [Am.sz] at h1
    simp only [Am.body]
    omega
  · have := szN_mem hx; omega
/-- A command, and all that stand below it. -/
def Nd.all (n : Nd) : List Nd := n :: n.under.attach.flatMap (fun x => x.1.all)
 termination_by n.sz
 decreasing_by exact Nd.under_sz x.2
theorem Nd.all_eq (n : Nd) : n.all = n :: n.under.flatMap Nd.all := by
  rw [Nd.all]
  congr 1
  rw [List.flatMap_def, List.flatMap_def]
  congr 1
  exact (List.map_attach_eq_pmap ..).trans (List.pmap_eq_map ..)
theorem Nd.under_ok {h : AH} {n x : Nd} (hv : n.ok h) (hx : x ∈ n.under) : x.ok h := by
  have ho := Nd.own_ok hv
  unfold Nd.under at hx
  simp only [List.mem_append] at hx
  rcases hx with (hx | hx) | hx
  · obtain ⟨w, hw, hx⟩ := List.mem_flatMap.mp hx
    have h1 := okW_mem ho w hw
    obtain ⟨s, ps⟩ := w
    simp only [Wd.ok] at h1
    unfold Wd.cmds at hx
    obtain ⟨c, hc, hx⟩ := List.mem_flatMap.mp hx
    exact okN_mem (cmds_ok h1.2 c hc).2.1 x hx
  · obtain ⟨m, hm, rfl⟩ := List.mem_map.mp hx
    have hm2 : okM h n.arms := by cases n; simp only [Nd.ok] at hv; exact hv.2.2.2.2.1.2
    have h1 := okM_mem hm2 m hm
    cases m
    simp only [Am.ok] at h1
    exact h1.2.2
  · have hk : okN h n.kids := by cases n; simp only [Nd.ok] at hv; exact hv.2.2.2.2.2.2
    exact okN_mem hk x hx

/-! ### What turns between, and who stands on what -/
structure St (F F' : Nat → Prop) (h h' : AH) : Prop where
  oth : Other F h h'
  fp : ∀ j, F' j → F j ∨ h.next ≤ j
theorem St.refl (F : Nat → Prop) (h : AH) : St F F h h := ⟨Other.refl _ _, fun _ hj => .inl hj⟩
theorem St.trans {F F' F'' : Nat → Prop} {a b c : AH} (x : St F F' a b) (y : St F' F'' b c) : St F F'' a c :=
  ⟨x.oth.plus y.oth x.fp, fun j hj => (y.fp j hj).elim (x.fp j) fun h => .inr (Nat.le_trans x.oth.next h)⟩
theorem St.quiet {h h' : AH} (F : Nat → Prop) (q : Quiet h h') : St F F h h' := ⟨q.any, fun _ hj => .inl hj⟩
theorem St.base {hB h h' : AH} {F F' : Nat → Prop} (x : St F F' h h') (q : Quiet hB h) (hF : ∀ j, F j → hB.next ≤ j) : Quiet hB h' := q.plus x.oth fun j hj => .inr (hF j hj)
/-- A state of what the rounds build: what it stands on. -/
structure Inv (hB : AH) (J : List Nd → (Nat → Prop) → AH → Prop) : Prop where
  lt : ∀ pre F h j, J pre F h → F j → j < h.next
  ge : ∀ pre F h j, J pre F h → F j → hB.next ≤ j
  keep : ∀ pre F G h h', J pre F h → Other G h h' → (∀ j, F j → ¬ G j) → J pre F h'
theorem Inv.quiet {hB : AH} {J : List Nd → (Nat → Prop) → AH → Prop} (I : Inv hB J) {pre : List Nd} {F : Nat → Prop} {h h' : AH} (hj : J pre F h) (q : Quiet h h') : J pre F h' := I.keep pre F _ h h' hj q fun _ _ x => x
/-- What a round does with the next command. -/
def Yields (m0 : Nat) (hB : AH) (yv : AV) (L : List Nd) (J Jx : List Nd → (Nat → Prop) → AH → Prop) : Prop :=
  ∀ pre x post, L = pre ++ x :: post → ∀ F h, J pre F h → Quiet hB h → ∀ m, m0 ≤ m → ∃ b h' F', callV (X m) yv [.agg x.cells] h = some (.bool b, h') ∧ St F F' h h' ∧ (if b then J (pre ++ [x]) F' h' else Jx (pre ++ [x]) F' h')

/-! ### Rounds, run -/
theorem run_range {P : Program} {K : Hint} {fid : FuncId} {call : ACall} {lf : Nat} {rd : Option Nat} (g : Operand) (ps : Array Tmp) (asg body : Code) (fr : List AV) (h : AH) (hrd : rdOK rd h = true) :
    arun P K fid call lf rd (.rangeFunc g ps asg body) fr h = rangeEnd h.next fr (callF P call (aev fr g) [.fn (.yield h.next) [] []] (h.newOb (.loop ⟨.ready, fid, fr, ps, asg, body⟩))) := by
  show (match rdOK rd h with | true => rangeEnd h.next fr (callF P call (aev fr g) [.fn (.yield h.next) [] []] (h.newOb (.loop ⟨.ready, fid, fr, ps, asg, body⟩))) | false => none) = _
  rw [hrd]
theorem rd_none (h : AH) : rdOK none h = true := rfl
theorem rd_some {h : AH} {id : Nat} {L : ALoop} (hob : h.ob? id = some (.loop L)) : rdOK (some id) h = true := by unfold rdOK; simp only [hob]
theorem callF_func (call : ACall) (g : FuncId) (a c l : List AV) (h : AH) (hb : hasBody Try.prog g = true) : callF Try.prog call (.fn (.func g) a c) l h = call (.func g) (a ++ l ++ c) h := by
  show (if hasBody Try.prog g then call (.func g) (a ++ l ++ c) h else none) = _
  rw [if_pos hb]
theorem hb68 : hasBody Try.prog 68 = true := by kernel_rfl
theorem hb69 : hasBody Try.prog 69 = true := by kernel_rfl
theorem range_all {Post : ARes → Prop} {id : Nat} {fr : List AV} {x : Option (AV × AH)}
    (hc : ∃ v h2 L, x = some (v, h2) ∧ h2.ob? id = some (.loop L) ∧ ((L.st = .ready ∧ Post (some (.normal, fr, h2.putOb id none))) ∨ (L.st = .ret ∧ Post (some (.ret, fr, h2.putOb id none))))) : ∀ r, rangeEnd id fr x = r → Post r := by
  rintro r rfl
  obtain ⟨v, h2, L, rfl, hob, hp⟩ := hc
  unfold rangeEnd
  simp only [hob]
  rcases hp with ⟨e, hp⟩ | ⟨e, hp⟩
  · rw [e]; exact hp
  · rw [e]; exact hp
theorem yield_run {id k : Nat} {fr : List AV} {t : Tmp} {asg body : Code} {h : AH} (hob : h.ob? id = some (.loop ⟨.ready, k, fr, #[t], asg, body⟩)) (m : Nat) (a : AV) :
    X (m + 1) (.yield id) [a] h = roundEnd id (roundMid id (arun Try.prog (HK k) k (X m) m (some id) body) (arun Try.prog (HK k) k (X m) m (some id) asg (fr.set t a) h)) := by
  rw [X_yield]
  unfold ayield
  simp only [hob]
  rfl
theorem mid_ready {id k : Nat} {fr fr1 : List AV} {ps : Array Tmp} {asg body : Code} {h : AH} (hob : h.ob? id = some (.loop ⟨.ready, k, fr, ps, asg, body⟩)) (b : List AV → AH → ARes) :
    roundMid id b (some (.normal, fr1, h)) = b fr1 (h.putOb id (some (.loop ⟨.busy, k, fr, ps, asg, body⟩))) := by
  show (match h.ob? id with | some (.loop L) => (match L.st with | .ready => b fr1 (h.putOb id (some (.loop { L with st := .busy }))) | _ => none) | _ => none) = _
  rw [hob]
theorem end_normal {id k : Nat} {st : LSt} {fr fr1 : List AV} {ps : Array Tmp} {asg body : Code} {h : AH} (hob : h.ob? id = some (.loop ⟨st, k, fr, ps, asg, body⟩)) :
    roundEnd id (some (.normal, fr1, h)) = some (.bool true, h.putOb id (some (.loop ⟨.ready, k, fr, ps, asg, body⟩))) := by
  show (match h.ob? id with | some (.loop L) => some (AV.bool true, h.putOb id (some (.loop { L with st := .ready }))) | _ => none) = _
  rw [hob]
theorem end_ret {id k : Nat} {st : LSt} {fr fr1 : List AV} {ps : Array Tmp} {asg body : Code} {h : AH} (hob : h.ob? id = some (.loop ⟨st, k, fr, ps, asg, body⟩)) :
    roundEnd id (some (.ret, fr1, h)) = some (.bool false, h.putOb id (some (.loop ⟨.ret, k, fr, ps, asg, body⟩))) := by
  show (match h.ob? id with | some (.loop L) => some (AV.bool false, h.putOb id (some (.loop { L with st := .ret }))) | _ => none) = _
  rw [hob]
theorem Other.putOb {h : AH} {id : Nat} (o : Option AObj) : Other (fun j => j = id) h (h.putOb id o) :=
  ⟨Nat.le_refl _, fun _ _ _ => rfl, fun j _ hj => by rw [AH.ob?_putOb, if_neg hj]⟩
theorem Other.newOb (h : AH) (o : AObj) : Quiet h (h.newOb o) := ⟨Nat.le_succ _, fun _ _ _ => rfl, fun j hj _ => by rw [AH.ob?_newOb, if_neg (by omega)]⟩
theorem box_at {v : AV} (h : AH) (hv : v.atom = true) : boxV v h = some (.ptr h.next 0, h.alloc [v]) := by
  have h1 : v.isTop = false := by cases v <;> first | rfl | simp [AV.atom] at hv
  have h2 : v.cells = [v] := by cases v <;> first | rfl | simp [AV.atom] at hv
  unfold boxV
  rw [h1, h2]; rfl
theorem below53 (T : Nd) (h : AH) (n : Nat) : X (n + 1) (.func 53) [.agg T.cells] h = some (.fn (.func 69) [] [.ptr h.next 0], h.alloc T.cells) := by
  rw [ent53]
  unfold cd53
  simp (implicitDefEqProofs := false) only [run_seq, run_cond, opsS_cons, opsS_nil, sameH_f, sameH_t, run_block, run_loop, run_exit, run_ret, run_skip, ops_cons, ops_nil, ev_tmp, pureS_some, heapS_some, heapN_some, gdS_tt, gdS_ff, gdS_tf, gdS_ft, gdS_undef, List.getD_cons_succ, List.getD_cons_zero, List.set_cons_succ, List.set_cons_zero, Option.bind_some, regR_some, seqR_normal, seqR_ret, seqR_exit, fin0_ret, fin0_normal, fin1_ret, fin1_normal, finN_ret, finN_normal, List.map_cons, List.map_nil, lenV_some, pickV_t, pickV_f, callV_func, callV_yield, extV_tup, condR_true, condR_false, blockR_normal, blockR_ret, blockR_exit, if_true, List.nil_append, List.append_nil, List.cons_append, List.getElem?_cons_zero, List.getElem?_cons_succ, loopR_normal, loopR_exit, loopR_ret, Option.map_some, ite_true, reduceIte, reg53_0, st53_0_0, st53_0_1, reg53_1, st53_1_0, st53_1_1, box_agg]
theorem all51 (T : Nd) (h : AH) (n : Nat) : X (n + 1) (.func 51) [.agg T.cells] h = some (.fn (.func 68) [] [.ptr h.next 0], h.alloc T.cells) := by
  rw [ent51]
  unfold cd51
  simp (implicitDefEqProofs := false) only [run_seq, run_cond, opsS_cons, opsS_nil, sameH_f, sameH_t, run_block, run_loop, run_exit, run_ret, run_skip, ops_cons, ops_nil, ev_tmp, pureS_some, heapS_some, heapN_some, gdS_tt, gdS_ff, gdS_tf, gdS_ft, gdS_undef, List.getD_cons_succ, List.getD_cons_zero, List.set_cons_succ, List.set_cons_zero, Option.bind_some, regR_some, seqR_normal, seqR_ret, seqR_exit, fin0_ret, fin0_normal, fin1_ret, fin1_normal, finN_ret, finN_normal, List.map_cons, List.map_nil, lenV_some, pickV_t, pickV_f, callV_func, callV_yield, extV_tup, condR_true, condR_false, blockR_normal, blockR_ret, blockR_exit, if_true, List.nil_append, List.append_nil, List.cons_append, List.getElem?_cons_zero, List.getElem?_cons_succ, loopR_normal, loopR_exit, loopR_ret, Option.map_some, ite_true, reduceIte, reg51_0, st51_0_0, st51_0_1, reg51_1, st51_1_0, st51_1_1, box_agg]
end Go.Proofs.Ytgnacecplaemlaa
