/-
  SourceDoes of chapter 37: what one call does to both sources.
-/
import Derived.Test.YtgnacecplaemlaaT8
namespace Go.Proofs.Ytgnacecplaemlaa
open AI
set_option linter.unusedSimpArgs false
structure OpI where
  k : Int
  name : List Nat
  value : List Nat
def OpI.cells (o : OpI) : List AV := [.int .i64 o.k, .str o.name, .str o.value]
def oflat (l : List OpI) : List AV := l.flatMap OpI.cells
theorem oflat_length (L : List OpI) : (oflat L).length = L.length * 3 := by
  induction L with
  | nil => rfl
  | cons v L ih => simp only [oflat, List.flatMap_cons, List.length_append, List.length_cons] at ih ⊢; rw [ih]; simp [OpI.cells]; omega
theorem oflat_get {L : List OpI} {i : Nat} {o : OpI} (hi : L[i]? = some o) {c : Nat} {v : AV} (hc : o.cells[c]? = some v) : (oflat L)[i * 3 + c]? = some v := by
  obtain ⟨h1, h2⟩ := List.getElem?_eq_some_iff.mp hi
  have e : L = L.take i ++ [o] ++ L.drop (i + 1) := by
    rw [← h2, List.append_assoc, List.singleton_append, List.getElem_cons_drop, List.take_append_drop]
  have e2 : oflat L = oflat (L.take i) ++ o.cells ++ oflat (L.drop (i + 1)) := by
    conv => lhs; rw [e]
    simp [oflat]
  have el : (oflat (L.take i)).length = i * 3 := by rw [oflat_length, List.length_take, Nat.min_eq_left (by omega)]
  rw [e2, List.append_assoc, List.getElem?_append_right (by omega), el, show i * 3 + c - i * 3 = c by omega, List.getElem?_append_left (List.getElem?_eq_some_iff.mp hc).1, hc]
/-- The cells that came in. -/
def Has (h : AH) (id : Nat) (l : List AV) : Prop := id < h.next ∧ ∃ b, h.blk? id = some b ∧ ∀ i v, l[i]? = some v → b.get i = some v
theorem Has.keep {h h' : AH} {id : Nat} {l : List AV} {F : Nat → Prop} (H : Has h id l) (o : Other F h h') (hf : ¬ F id) : Has h' id l := by
  obtain ⟨hlt, b, hb, r⟩ := H
  exact ⟨Nat.lt_of_lt_of_le hlt o.1, b, (o.2 id hlt hf).trans hb, r⟩
theorem Has.cell {h : AH} {id : Nat} {l : List AV} (H : Has h id l) {i : Nat} {v : AV} (hi : l[i]? = some v) : h.cell? id i = some v := by
  obtain ⟨hlt, b, hb, r⟩ := H
  rw [AH.cell?_eq, hb]
  exact r i v hi
/-- Both sources hold the same. -/
structure Inv (h : AH) (id : Nat) (l : List AV) (s x : Nat) (L : List Val) (cnt : Nat) (F G : Nat → Prop) : Prop where
  inp : Has h id l
  src : Src h s L cnt F
  ref : Ref h x L cnt G
  dis : ∀ j, F j → ¬ G j
  fi : ¬ F id
  gi : ¬ G id
  wf : ∀ v ∈ L, v.at_ < v.text.length ∧ v.text.length ≤ 201
  len : L.length ≤ 40
section
variable {h : AH} {id s x cnt : Nat} {l : List AV} {L : List Val} {F G : Nat → Prop}
theorem left_le : ∀ (L : List Val), (∀ v ∈ L, v.at_ < v.text.length ∧ v.text.length ≤ 201) → left L ≤ L.length * 201
  | [], _ => by simp [left]
  | v :: L, h => by
    rw [left_cons]
    have := left_le L (fun w hw => h w (List.mem_cons_of_mem _ hw))
    have := (h v (List.mem_cons_self ..)).2
    simp only [List.length_cons]
    omega
theorem Inv.left (I : Inv h id l s x L cnt F G) : left L < 4611686018427387904 := by
  have := left_le L I.wf
  have := I.len
  omega
theorem Inv.peek (I : Inv h id l s x L cnt F G) : ∃ c ok, X 999 11 [.ptr s 0] h = some (.tup [.int .u8 c, .bool ok], h) ∧ X 999 17 [.ptr x 0] h = some (.tup [.int .u8 c, .bool ok], h) := by
  obtain ⟨_, S, R, _, _, _, wf, len⟩ := I
  rcases List.eq_nil_or_concat L with rfl | ⟨L', v, rfl⟩
  · exact ⟨0, false, peek_none S 996, rpeek_none R 998⟩
  · rw [List.concat_eq_append] at S R wf len
    have hv := wf v (by simp)
    have hb : v.text[v.at_]? = some v.text[v.at_] := by simp [hv.1]
    have hl : L'.length < 4611686018427387904 := by simp at len; omega
    exact ⟨_, true, peek_some S hl hb 996, rpeek_some R hl hb 998⟩
/-- Both enter. -/
theorem Inv.enter (I : Inv h id l s x L cnt F G) (nm value : List Nat) : ∃ r h1 h2 L' F' G', X 999 10 [.ptr s 0, .str nm, .str value] h = some (.bool r, h1) ∧ X 999 15 [.ptr x 0, .str nm, .str value] h1 = some (.bool r, h2) ∧
    Has h1 id l ∧ Inv h2 id l s x L' cnt F' G' := by
  obtain ⟨H, S, R, dis, fi, gi, wf, len⟩ := I
  have hidlt := H.1
  cases hm : mayEnter L nm value
  · obtain ⟨h1, e1, O1⟩ := enter_no S nm value hm (by omega) 998 (by omega)
    have R1 := R.keep O1 (fun _ _ x => x)
    exact ⟨false, h1, h1, L, F, G, e1, renter_no R1 nm value hm (by omega) 998 (by omega), H.keep O1 (fun x => x), ⟨H.keep O1 (fun x => x), S.keep O1 (fun _ _ x => x), R1, dis, fi, gi, wf, len⟩⟩
  · obtain ⟨h1, e1, S1, O1⟩ := enter_yes S nm value hm 998 (by omega)
    have R1 := R.keep O1 (fun j hj hf => dis j hf hj)
    obtain ⟨h2, e2, R2, O2⟩ := renter_yes R1 nm value hm 998 (by omega)
    have hle := O1.1
    have hFG : ∀ j, Plus F h h1 j → ¬ G j := fun j hj hg => by
      rcases hj with hj | hj
      · exact dis j hj hg
      · have := R.lt j hg; omega
    refine ⟨true, h1, h2, _, _, _, e1, e2, H.keep O1 fi, ⟨(H.keep O1 fi).keep O2 gi, S1.keep O2 hFG, R2, fun j hj hg => ?_, ?_, ?_, ?_, ?_⟩⟩
    · rcases hg with hg | hg
      · exact hFG j hj hg
      · have := S1.lt j hj; omega
    · rintro (q | q)
      · exact fi q
      · omega
    · rintro (q | q)
      · exact gi q
      · omega
    · simp only [mayEnter, Bool.and_eq_true, Bool.not_eq_true', decide_eq_true_eq] at hm
      intro v hv
      rcases List.mem_append.mp hv with hv | hv
      · exact wf v hv
      · obtain rfl := List.mem_singleton.mp hv
        have := hm.2
        exact ⟨by simp, by simp; omega⟩
    · simp only [mayEnter, Bool.and_eq_true, Bool.not_eq_true', decide_eq_true_eq] at hm
      have := hm.1.2
      simp; omega
/-- Both step. -/
theorem Inv.step (I : Inv h id l s x L cnt F G) (hc : cnt < 1000) : ∃ r h1 h2 L' cnt' F' G', cnt' ≤ cnt + 1 ∧ X 999 12 [.ptr s 0] h = some (.bool r, h1) ∧ X 999 16 [.ptr x 0] h1 = some (.bool r, h2) ∧
    Inv h2 id l s x L' cnt' F' G' := by
  obtain ⟨H, S, R, dis, fi, gi, wf, len⟩ := I
  have hidlt := H.1
  rcases List.eq_nil_or_concat L with rfl | ⟨L0, v, rfl⟩
  · exact ⟨false, h, h, [], cnt, F, G, by omega, step_none S 996, rstep_none R 998, ⟨H, S, R, dis, fi, gi, wf, len⟩⟩
  · rw [List.concat_eq_append] at S R wf len
    have hv := wf v (by simp)
    have hl : L0.length ≤ 39 := by simp at len; omega
    obtain ⟨h1, e1, S1, n1, O1⟩ := step_some S (by omega) (by omega) (by omega) 996
    have R1 := R.keep O1 (fun j hj hf => dis j hf hj)
    obtain ⟨h2, e2, R2, O2⟩ := rstep_some R1 (by omega) (by omega) hv.1 998
    refine ⟨_, h1, h2, _, cnt + 1, _, _, Nat.le_refl _, e1, e2, ⟨(H.keep O1 fi).keep O2 gi, S1.keep O2 dis, R2, fun j hj hg => ?_, fi, ?_, ?_, ?_⟩⟩
    · rcases hg with hg | hg
      · exact dis j hj hg
      · have := S1.lt j hj; omega
    · rintro (q | q)
      · exact gi q
      · omega
    · intro w hw
      split at hw
      · rename_i hlt
        rcases List.mem_append.mp hw with hw | hw
        · exact wf w (by simp [hw])
        · obtain rfl := List.mem_singleton.mp hw
          exact ⟨hlt, hv.2⟩
      · exact wf w (by simp [hw])
    · split
      · simp; omega
      · omega
end
end Go.Proofs.Ytgnacecplaemlaa
