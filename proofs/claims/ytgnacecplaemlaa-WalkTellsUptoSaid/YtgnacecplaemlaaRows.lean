/-
  NARROWER THAN 'FOR EVERY INPUT', by the rows' own cells (each row's printed sentence says how): WalkCounts: loops · WalkTells: loops.
  DERIVED. THE GIVEN ROWS OF THIS SEAT. 5 by the template 'for every input the law returns true; each argument reads behind the call as it read before'; 0 by the template 'total and deterministic' (their statements: YtgnacecplaemlaaTotals.lean).
  GIVEN WITH THE SEED: the statements are not yours to turn. If you find one false, say at which input.
  Laid BY PROGRAM, IN A SANDBOX (cutbox-rows.mjs): the forced cells as the released guide's own fill.sh prints them over the translation ffda6c7a98cca0d3… (all of the seat's roots in one cut). By AI agents, Wed Nov 11 2026. No macro, syntax, notation, axiom, sorry.
-/
import Derived.Test.YtgnacecplaemlaaChecked
import GoSem.Claim
import GoSem.ClaimJoined
import GoSem.ClaimMapViews
import Derived.JoinedTies
import Derived.KernelRfl
namespace Go.Proofs.Ytgnacecplaemlaa
/- THE CELL 'sum', in the pinned program and in every row, IS THE sha256 OF THE DUMP (.gsa) THAT YtgnacecplaemlaaProg.lean LOADS. Nothing in Lean hashes anything: it is a label: what it is worth is what the hold of that sum in a sandbox is worth. -/
noncomputable def Try.pinned : Pinned := { name := "ytgnacecplaemlaa", sum := "ffda6c7a98cca0d39b496d2fb56b062f56b6a1ca2d1981a110354974b306be0f", checked := Try.checked }
namespace Rows
def none {H : Type} : Left H := { results := [], args := [] }

/-- 'conchlaw37.SourceReads': WHATEVER THE INPUT: true; the input reads as it did. -/
def sourceReadsSpec : ChangeSpec := { name := "sourceReads", fn := fun _ => fun
  | [d1, d2, d3] => { results := [.lit (.bool true)], args := [d1, d2, d3] }
  | _ => none }
def sourceReadsRow : OpenClaim := { program := "ytgnacecplaemlaa", sum := "ffda6c7a98cca0d39b496d2fb56b062f56b6a1ca2d1981a110354974b306be0f", func := "conch/conchlaw37.SourceReads", spec := "sourceReads", apart := false }
def SourceReadsSaid : Prop := sourceReadsRow.holds Try.pinned (OpenSpec.ofChange sourceReadsSpec)

/-- ITS FALSE NEIGHBOUR: 'it returns false'. Refute it at one input. -/
def sourceReadsWrong : ChangeSpec := { name := "sourceReads", fn := fun _ => fun
  | [d1, d2, d3] => { results := [.lit (.bool false)], args := [d1, d2, d3] }
  | _ => none }
def SourceReadsWrongFalsely : Prop := sourceReadsRow.holds Try.pinned (OpenSpec.ofChange sourceReadsWrong)

/-- 'conchlaw37.SourceDoes': WHATEVER THE INPUT: true; the input reads as it did. -/
def sourceDoesSpec : ChangeSpec := { name := "sourceDoes", fn := fun _ => fun
  | [d] => { results := [.lit (.bool true)], args := [d] }
  | _ => none }
def sourceDoesRow : OpenClaim := { program := "ytgnacecplaemlaa", sum := "ffda6c7a98cca0d39b496d2fb56b062f56b6a1ca2d1981a110354974b306be0f", func := "conch/conchlaw37.SourceDoes", spec := "sourceDoes", apart := false }
def SourceDoesSaid : Prop := sourceDoesRow.holds Try.pinned (OpenSpec.ofChange sourceDoesSpec)

/-- ITS FALSE NEIGHBOUR: 'it returns false'. Refute it at one input. -/
def sourceDoesWrong : ChangeSpec := { name := "sourceDoes", fn := fun _ => fun
  | [d] => { results := [.lit (.bool false)], args := [d] }
  | _ => none }
def SourceDoesWrongFalsely : Prop := sourceDoesRow.holds Try.pinned (OpenSpec.ofChange sourceDoesWrong)

/-- 'conchlaw37.SourceNone': WHATEVER THE INPUT: true; the input reads as it did. -/
def sourceNoneSpec : ChangeSpec := { name := "sourceNone", fn := fun _ => fun
  | [d1, d2] => { results := [.lit (.bool true)], args := [d1, d2] }
  | _ => none }
def sourceNoneRow : OpenClaim := { program := "ytgnacecplaemlaa", sum := "ffda6c7a98cca0d39b496d2fb56b062f56b6a1ca2d1981a110354974b306be0f", func := "conch/conchlaw37.SourceNone", spec := "sourceNone", apart := false }
def SourceNoneSaid : Prop := sourceNoneRow.holds Try.pinned (OpenSpec.ofChange sourceNoneSpec)

/-- ITS FALSE NEIGHBOUR: 'it returns false'. Refute it at one input. -/
def sourceNoneWrong : ChangeSpec := { name := "sourceNone", fn := fun _ => fun
  | [d1, d2] => { results := [.lit (.bool false)], args := [d1, d2] }
  | _ => none }
def SourceNoneWrongFalsely : Prop := sourceNoneRow.holds Try.pinned (OpenSpec.ofChange sourceNoneWrong)

/-- 'conchlaw42.WalkCounts': WHATEVER THE INPUT: true; the input reads as it did. -/
def walkCountsSpec : ChangeSpec := { name := "walkCounts", fn := fun _ => fun
  | [d] => { results := [.lit (.bool true)], args := [d] }
  | _ => none }
def walkCountsRow : OpenClaim := { program := "ytgnacecplaemlaa", sum := "ffda6c7a98cca0d39b496d2fb56b062f56b6a1ca2d1981a110354974b306be0f", func := "conch/conchlaw42.WalkCounts", spec := "walkCounts", inPlace := ["internal/bytealg.IndexByteString", "slices.overlaps[conch/api.Part]"], unfollowed := true, recurses := true, loops := true, apart := false }
def WalkCountsSaid : Prop := walkCountsRow.holds Try.pinned (OpenSpec.ofChange walkCountsSpec)

/-- ITS FALSE NEIGHBOUR: 'it returns false'. Refute it at one input. -/
def walkCountsWrong : ChangeSpec := { name := "walkCounts", fn := fun _ => fun
  | [d] => { results := [.lit (.bool false)], args := [d] }
  | _ => none }
def WalkCountsWrongFalsely : Prop := walkCountsRow.holds Try.pinned (OpenSpec.ofChange walkCountsWrong)

/-- 'conchlaw42.WalkTells': WHATEVER THE INPUT: true; the input reads as it did. -/
def walkTellsSpec : ChangeSpec := { name := "walkTells", fn := fun _ => fun
  | [d1, d2] => { results := [.lit (.bool true)], args := [d1, d2] }
  | _ => none }
def walkTellsRow : OpenClaim := { program := "ytgnacecplaemlaa", sum := "ffda6c7a98cca0d39b496d2fb56b062f56b6a1ca2d1981a110354974b306be0f", func := "conch/conchlaw42.WalkTells", spec := "walkTells", inPlace := ["internal/bytealg.IndexByteString", "slices.overlaps[conch/api.Part]"], unfollowed := true, recurses := true, loops := true, apart := false }
def WalkTellsSaid : Prop := walkTellsRow.holds Try.pinned (OpenSpec.ofChange walkTellsSpec)

/-- ITS FALSE NEIGHBOUR: 'it returns false'. Refute it at one input. -/
def walkTellsWrong : ChangeSpec := { name := "walkTells", fn := fun _ => fun
  | [d1, d2] => { results := [.lit (.bool false)], args := [d1, d2] }
  | _ => none }
def WalkTellsWrongFalsely : Prop := walkTellsRow.holds Try.pinned (OpenSpec.ofChange walkTellsWrong)

/- THE SECOND FORM. 'bulk': how many values and letters a reading holds, each counted each time it is reached (what is shared counts as often as it is met; a slice's spare places count too). A statement '..UptoSaid' is the law's where the arguments, and the package variables that the reading takes, are together of bulk at most 1048576: NARROWER than '..Said'. Prove '..Said' where nothing that the law and all that it calls make is longer than what came in: it says more and counts as full. Else prove '..UptoSaid'. A law counts once. -/
mutual
def uptoBulk {H : Type} : DataW H → Nat
  | .lit (.string bytes) => bytes.length + 1
  | .lit _ => 1
  | .nil => 1
  | .ptr d => uptoBulk d + 1
  | .slice elems spare => uptoBulkAll elems + uptoBulkAll spare + 1
  | .agg parts => uptoBulkAll parts + 1
  | .iface _ d => uptoBulk d + 1
  | .map entries => uptoBulkEntries entries + 1
  | .held _ => 1
def uptoBulkAll {H : Type} : List (DataW H) → Nat
  | [] => 0
  | d :: r => uptoBulk d + uptoBulkAll r
def uptoBulkEntries {H : Type} : List (Lit × DataW H) → Nat
  | [] => 0
  | x :: r => uptoBulkEntry x + uptoBulkEntries r
def uptoBulkEntry {H : Type} : Lit × DataW H → Nat
  | (.string bytes, d) => bytes.length + uptoBulk d + 1
  | (_, d) => uptoBulk d + 1
 end
def uptoSmall : (H : Type) → List (DataW H) → Bool := fun _ ds => decide (uptoBulkAll ds ≤ 1048576)
def OpenSpec.upto (s : _root_.Go.ChangeSpec) : _root_.Go.OpenSpec := { _root_.Go.OpenSpec.ofChange s with cond := some uptoSmall }

/-- 'conchlaw37.SourceReads', WHERE WHAT IT READS IS OF BULK AT MOST 1048576: true; the input reads as it did. -/
def sourceReadsUptoRow : OpenClaim := { program := "ytgnacecplaemlaa", sum := "ffda6c7a98cca0d39b496d2fb56b062f56b6a1ca2d1981a110354974b306be0f", func := "conch/conchlaw37.SourceReads", spec := "sourceReads", apart := false, narrowed := true }
def SourceReadsUptoSaid : Prop := sourceReadsUptoRow.holds Try.pinned (OpenSpec.upto sourceReadsSpec)

/-- 'conchlaw37.SourceDoes', WHERE WHAT IT READS IS OF BULK AT MOST 1048576: true; the input reads as it did. -/
def sourceDoesUptoRow : OpenClaim := { program := "ytgnacecplaemlaa", sum := "ffda6c7a98cca0d39b496d2fb56b062f56b6a1ca2d1981a110354974b306be0f", func := "conch/conchlaw37.SourceDoes", spec := "sourceDoes", apart := false, narrowed := true }
def SourceDoesUptoSaid : Prop := sourceDoesUptoRow.holds Try.pinned (OpenSpec.upto sourceDoesSpec)

/-- 'conchlaw37.SourceNone', WHERE WHAT IT READS IS OF BULK AT MOST 1048576: true; the input reads as it did. -/
def sourceNoneUptoRow : OpenClaim := { program := "ytgnacecplaemlaa", sum := "ffda6c7a98cca0d39b496d2fb56b062f56b6a1ca2d1981a110354974b306be0f", func := "conch/conchlaw37.SourceNone", spec := "sourceNone", apart := false, narrowed := true }
def SourceNoneUptoSaid : Prop := sourceNoneUptoRow.holds Try.pinned (OpenSpec.upto sourceNoneSpec)

/-- 'conchlaw42.WalkCounts', WHERE WHAT IT READS IS OF BULK AT MOST 1048576: true; the input reads as it did. -/
def walkCountsUptoRow : OpenClaim := { program := "ytgnacecplaemlaa", sum := "ffda6c7a98cca0d39b496d2fb56b062f56b6a1ca2d1981a110354974b306be0f", func := "conch/conchlaw42.WalkCounts", spec := "walkCounts", inPlace := ["internal/bytealg.IndexByteString", "slices.overlaps[conch/api.Part]"], unfollowed := true, recurses := true, loops := true, apart := false, narrowed := true }
def WalkCountsUptoSaid : Prop := walkCountsUptoRow.holds Try.pinned (OpenSpec.upto walkCountsSpec)

/-- 'conchlaw42.WalkTells', WHERE WHAT IT READS IS OF BULK AT MOST 1048576: true; the input reads as it did. -/
def walkTellsUptoRow : OpenClaim := { program := "ytgnacecplaemlaa", sum := "ffda6c7a98cca0d39b496d2fb56b062f56b6a1ca2d1981a110354974b306be0f", func := "conch/conchlaw42.WalkTells", spec := "walkTells", inPlace := ["internal/bytealg.IndexByteString", "slices.overlaps[conch/api.Part]"], unfollowed := true, recurses := true, loops := true, apart := false, narrowed := true }
def WalkTellsUptoSaid : Prop := walkTellsUptoRow.holds Try.pinned (OpenSpec.upto walkTellsSpec)

end Rows
end Go.Proofs.Ytgnacecplaemlaa
