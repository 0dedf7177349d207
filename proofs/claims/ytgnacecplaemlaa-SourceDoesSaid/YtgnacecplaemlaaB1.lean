import Derived.Test.YtgnacecplaemlaaA17
import Derived.Test.YtgnacecplaemlaaProg
import Derived.KernelRfl
namespace Go.Proofs.Ytgnacecplaemlaa
open AI
def okTrue : Option (AV × AH) → Bool
  | some (.bool true, _) => true
  | _ => false
theorem awake37 : okTrue (aexec Try.prog (fun _ _ => none) 30 8 [] AH.empty) = true := by kernel_rfl
end Go.Proofs.Ytgnacecplaemlaa
