/-
  Trees of commands: what they are, how the abstract heap holds them.
-/
import Derived.Test.YtgnacecplaemlaaE23
namespace Go.Proofs.Ytgnacecplaemlaa
open AI

mutual
/-- A part: its kind, its text, its operator; its kids and its commands, each with the slice that holds them. -/
inductive Pt where
  | mk (k : Int) (t o : List Nat) (sk : AV) (kids : List Pt) (sc : AV) (cmds : List Nd)
inductive Wd where
  | mk (s : AV) (ps : List Pt)
inductive Rdr where
  | mk (num : List Nat) (op : Int) (s : AV) (ps : List Pt) (here : List Nat)
inductive Am where
  | mk (s : AV) (pats : List Wd) (body : Nd)
inductive Nd where
  | mk (k : Int) (name : List Nat) (nt inn : Bool) (so : AV) (ops : List Int) (sa : AV) (az : List Wd) (sw : AV) (ws : List Wd) (sr : AV) (rs : List Rdr) (sm : AV) (ms : List Am) (sk : AV) (kids : List Nd)
end
def Pt.cells : Pt → List AV
  | .mk k t o sk _ sc _ => [.int .i64 k, .str t, .str o, sk, sc]
def Wd.cells : Wd → List AV
  | .mk s _ => [s]
def Rdr.cells : Rdr → List AV
  | .mk num op s _ here => [.str num, .int .i64 op, s, .str here]
def Nd.cells : Nd → List AV
  | .mk k name nt inn so _ sa _ sw _ sr _ sm _ sk _ => [.int .i64 k, .str name, .bool nt, .bool inn, so, sa, sw, sr, sm, sk]
def Am.cells : Am → List AV
  | .mk s _ body => s :: body.cells

/-- The slice s holds these elements, of es cells each. -/
def Sl (h : AH) (s : AV) (es : Nat) (L : List (List AV)) : Prop :=
  (∀ x ∈ L, x.length = es) ∧ ((L = [] ∧ (s = .nilSl ∨ ∃ id off c, s = .sl id off 0 es c ∧ id < h.next)) ∨ ∃ id off c, s = .sl id off L.length es c ∧ Has h id off L.flatten)

/-! ### How much there is -/
mutual
def Pt.sz : Pt → Nat
  | .mk _ _ _ _ kids _ cmds => 1 + szP kids + szN cmds
def Wd.sz : Wd → Nat
  | .mk _ ps => 1 + szP ps
def Rdr.sz : Rdr → Nat
  | .mk _ _ _ ps _ => 1 + szP ps
def Am.sz : Am → Nat
  | .mk _ pats body => 1 + szW pats + body.sz
def Nd.sz : Nd → Nat
  | .mk _ _ _ _ _ ops _ az _ ws _ rs _ ms _ kids => 1 + ops.length + szW az + szW ws + szR rs + szM ms + szN kids
def szP : List Pt → Nat
  | [] => 0
  | p :: l => p.sz + szP l
def szW : List Wd → Nat
  | [] => 0
  | p :: l => p.sz + szW l
def szR : List Rdr → Nat
  | [] => 0
  | p :: l => p.sz + szR l
def szM : List Am → Nat
  | [] => 0
  | p :: l => p.sz + szM l
def szN : List Nd → Nat
  | [] => 0
  | p :: l => p.sz + szN l
end

/-! ### How it lies in the heap -/
mutual
def Pt.ok (h : AH) : Pt → Prop
  | .mk _ _ _ sk kids sc cmds => Sl h sk 5 (kids.map Pt.cells) ∧ okP h kids ∧ Sl h sc 10 (cmds.map Nd.cells) ∧ okN h cmds
def Wd.ok (h : AH) : Wd → Prop
  | .mk s ps => Sl h s 5 (ps.map Pt.cells) ∧ okP h ps
def Rdr.ok (h : AH) : Rdr → Prop
  | .mk _ _ s ps _ => Sl h s 5 (ps.map Pt.cells) ∧ okP h ps
def Am.ok (h : AH) : Am → Prop
  | .mk s pats body => Sl h s 1 (pats.map Wd.cells) ∧ okW h pats ∧ body.ok h
def Nd.ok (h : AH) : Nd → Prop
  | .mk _ _ _ _ so ops sa az sw ws sr rs sm ms sk kids =>
    Sl h so 1 (ops.map fun x => [.int .i64 x]) ∧ (Sl h sa 1 (az.map Wd.cells) ∧ okW h az) ∧ (Sl h sw 1 (ws.map Wd.cells) ∧ okW h ws) ∧ (Sl h sr 4 (rs.map Rdr.cells) ∧ okR h rs) ∧
      (Sl h sm 11 (ms.map Am.cells) ∧ okM h ms) ∧ Sl h sk 10 (kids.map Nd.cells) ∧ okN h kids
def okP (h : AH) : List Pt → Prop
  | [] => True
  | p :: l => p.ok h ∧ okP h l
def okW (h : AH) : List Wd → Prop
  | [] => True
  | p :: l => p.ok h ∧ okW h l
def okR (h : AH) : List Rdr → Prop
  | [] => True
  | p :: l => p.ok h ∧ okR h l
def okM (h : AH) : List Am → Prop
  | [] => True
  | p :: l => p.ok h ∧ okM h l
def okN (h : AH) : List Nd → Prop
  | [] => True
  | p :: l => p.ok h ∧ okN h l
end
theorem Pt.sz_pos (p : Pt) : 1 ≤ p.sz := by cases p; simp only [Pt.sz]; omega
theorem Wd.sz_pos (p : Wd) : 1 ≤ p.sz := by cases p; simp only [Wd.sz]; omega
theorem Rdr.sz_pos (p : Rdr) : 1 ≤ p.sz := by cases p; simp only [Rdr.sz]; omega
theorem Am.sz_pos (p : Am) : 1 ≤ p.sz := by cases p; simp only [Am.sz]; omega
theorem Nd.sz_pos (p : Nd) : 1 ≤ p.sz := by cases p; simp only [Nd.sz]; omega
section
variable {h : AH}
theorem szP_mem : ∀ {l : List Pt} {p : Pt}, p ∈ l → p.sz ≤ szP l
  | q :: l, p, hm => by
    rcases List.mem_cons.mp hm with rfl | hm
    · simp only [szP]; omega
    · have := szP_mem hm; simp only [szP]; omega
theorem szW_mem : ∀ {l : List Wd} {p : Wd}, p ∈ l → p.sz ≤ szW l
  | q :: l, p, hm => by
    rcases List.mem_cons.mp hm with rfl | hm
    · simp only [szW]; omega
    · have := szW_mem hm; simp only [szW]; omega
theorem szR_mem : ∀ {l : List Rdr} {p : Rdr}, p ∈ l → p.sz ≤ szR l
  | q :: l, p, hm => by
    rcases List.mem_cons.mp hm with rfl | hm
    · simp only [szR]; omega
    · have := szR_mem hm; simp only [szR]; omega
theorem szM_mem : ∀ {l : List Am} {p : Am}, p ∈ l → p.sz ≤ szM l
  | q :: l, p, hm => by
    rcases List.mem_cons.mp hm with rfl | hm
    · simp only [szM]; omega
    · have := szM_mem hm; simp only [szM]; omega
theorem szN_mem : ∀ {l : List Nd} {p : Nd}, p ∈ l → p.sz ≤ szN l
  | q :: l, p, hm => by
    rcases List.mem_cons.mp hm with rfl | hm
    · simp only [szN]; omega
    · have := szN_mem hm; simp only [szN]; omega
theorem szP_len : ∀ (l : List Pt), l.length ≤ szP l
  | [] => Nat.le_refl _
  | p :: l => by have := szP_len l; have := p.sz_pos; simp only [szP, List.length_cons]; omega
theorem szW_len : ∀ (l : List Wd), l.length ≤ szW l
  | [] => Nat.le_refl _
  | p :: l => by have := szW_len l; have := p.sz_pos; simp only [szW, List.length_cons]; omega
theorem szR_len : ∀ (l : List Rdr), l.length ≤ szR l
  | [] => Nat.le_refl _
  | p :: l => by have := szR_len l; have := p.sz_pos; simp only [szR, List.length_cons]; omega
theorem szM_len : ∀ (l : List Am), l.length ≤ szM l
  | [] => Nat.le_refl _
  | p :: l => by have := szM_len l; have := p.sz_pos; simp only [szM, List.length_cons]; omega
theorem szN_len : ∀ (l : List Nd), l.length ≤ szN l
  | [] => Nat.le_refl _
  | p :: l => by have := szN_len l; have := p.sz_pos; simp only [szN, List.length_cons]; omega
theorem okP_mem : ∀ {l : List Pt}, okP h l → ∀ p ∈ l, p.ok h
  | q :: l, hv, p, hm => by
    simp only [okP] at hv
    rcases List.mem_cons.mp hm with rfl | hm
    · exact hv.1
    · exact okP_mem hv.2 p hm
theorem okW_mem : ∀ {l : List Wd}, okW h l → ∀ p ∈ l, p.ok h
  | q :: l, hv, p, hm => by
    simp only [okW] at hv
    rcases List.mem_cons.mp hm with rfl | hm
    · exact hv.1
    · exact okW_mem hv.2 p hm
theorem okR_mem : ∀ {l : List Rdr}, okR h l → ∀ p ∈ l, p.ok h
  | q :: l, hv, p, hm => by
    simp only [okR] at hv
    rcases List.mem_cons.mp hm with rfl | hm
    · exact hv.1
    · exact okR_mem hv.2 p hm
theorem okM_mem : ∀ {l : List Am}, okM h l → ∀ p ∈ l, p.ok h
  | q :: l, hv, p, hm => by
    simp only [okM] at hv
    rcases List.mem_cons.mp hm with rfl | hm
    · exact hv.1
    · exact okM_mem hv.2 p hm
theorem okN_mem : ∀ {l : List Nd}, okN h l → ∀ p ∈ l, p.ok h
  | q :: l, hv, p, hm => by
    simp only [okN] at hv
    rcases List.mem_cons.mp hm with rfl | hm
    · exact hv.1
    · exact okN_mem hv.2 p hm
end
theorem Pt.cells_len (p : Pt) : p.cells.length = 5 := by cases p; rfl
theorem Wd.cells_len (p : Wd) : p.cells.length = 1 := by cases p; rfl
theorem Rdr.cells_len (p : Rdr) : p.cells.length = 4 := by cases p; rfl
theorem Nd.cells_len (p : Nd) : p.cells.length = 10 := by cases p; rfl
theorem Am.cells_len (p : Am) : p.cells.length = 11 := by cases p; simp [Am.cells, Nd.cells_len]

/-! ### They stand while nothing old turns -/
theorem Sl.quiet {h h' : AH} {s : AV} {es : Nat} {L : List (List AV)} (S : Sl h s es L) (q : Quiet h h') : Sl h' s es L :=
  ⟨S.1, S.2.imp (fun ⟨e, d⟩ => ⟨e, d.imp_right fun ⟨id, off, c, e, hlt⟩ => ⟨id, off, c, e, Nat.lt_of_lt_of_le hlt q.next⟩⟩) fun ⟨id, off, c, e, H⟩ => ⟨id, off, c, e, H.quiet q⟩⟩
mutual
theorem Pt.ok.quiet {h h' : AH} (q : Quiet h h') : ∀ {p : Pt}, p.ok h → p.ok h'
  | .mk _ _ _ _ _ _ _, hv => by simp only [Pt.ok] at *; exact ⟨hv.1.quiet q, okP.quiet q hv.2.1, hv.2.2.1.quiet q, okN.quiet q hv.2.2.2⟩
theorem Wd.ok.quiet {h h' : AH} (q : Quiet h h') : ∀ {p : Wd}, p.ok h → p.ok h'
  | .mk _ _, hv => by simp only [Wd.ok] at *; exact ⟨hv.1.quiet q, okP.quiet q hv.2⟩
theorem Rdr.ok.quiet {h h' : AH} (q : Quiet h h') : ∀ {p : Rdr}, p.ok h → p.ok h'
  | .mk _ _ _ _ _, hv => by simp only [Rdr.ok] at *; exact ⟨hv.1.quiet q, okP.quiet q hv.2⟩
theorem Am.ok.quiet {h h' : AH} (q : Quiet h h') : ∀ {p : Am}, p.ok h → p.ok h'
  | .mk _ _ _, hv => by simp only [Am.ok] at *; exact ⟨hv.1.quiet q, okW.quiet q hv.2.1, Nd.ok.quiet q hv.2.2⟩
theorem Nd.ok.quiet {h h' : AH} (q : Quiet h h') : ∀ {p : Nd}, p.ok h → p.ok h'
  | .mk _ _ _ _ _ _ _ _ _ _ _ _ _ _ _ _, hv => by
    simp only [Nd.ok] at *
    exact ⟨hv.1.quiet q, ⟨hv.2.1.1.quiet q, okW.quiet q hv.2.1.2⟩, ⟨hv.2.2.1.1.quiet q, okW.quiet q hv.2.2.1.2⟩, ⟨hv.2.2.2.1.1.quiet q, okR.quiet q hv.2.2.2.1.2⟩, ⟨hv.2.2.2.2.1.1.quiet q, okM.quiet q hv.2.2.2.2.1.2⟩, hv.2.2.2.2.2.1.quiet q, okN.quiet q hv.2.2.2.2.2.2⟩
theorem okP.quiet {h h' : AH} (q : Quiet h h') : ∀ {l : List Pt}, okP h l → okP h' l
  | [], _ => by simp only [okP]
  | _ :: _, hv => by simp only [okP] at *; exact ⟨Pt.ok.quiet q hv.1, okP.quiet q hv.2⟩
theorem okW.quiet {h h' : AH} (q : Quiet h h') : ∀ {l : List Wd}, okW h l → okW h' l
  | [], _ => by simp only [okW]
  | _ :: _, hv => by simp only [okW] at *; exact ⟨Wd.ok.quiet q hv.1, okW.quiet q hv.2⟩
theorem okR.quiet {h h' : AH} (q : Quiet h h') : ∀ {l : List Rdr}, okR h l → okR h' l
  | [], _ => by simp only [okR]
  | _ :: _, hv => by simp only [okR] at *; exact ⟨Rdr.ok.quiet q hv.1, okR.quiet q hv.2⟩
theorem okM.quiet {h h' : AH} (q : Quiet h h') : ∀ {l : List Am}, okM h l → okM h' l
  | [], _ => by simp only [okM]
  | _ :: _, hv => by simp only [okM] at *; exact ⟨Am.ok.quiet q hv.1, okM.quiet q hv.2⟩
theorem okN.quiet {h h' : AH} (q : Quiet h h') : ∀ {l : List Nd}, okN h l → okN h' l
  | [], _ => by simp only [okN]
  | _ :: _, hv => by simp only [okN] at *; exact ⟨Nd.ok.quiet q hv.1, okN.quiet q hv.2⟩
end
end Go.Proofs.Ytgnacecplaemlaa
