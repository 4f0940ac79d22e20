/-
  The row of a law fits the program: closed facts.
-/
import Derived.Test.YtdljkokeieeafaaGreatDoorRows
import Derived.ProofKit
import Derived.Stop.Joined
set_option linter.unusedSimpArgs false
set_option linter.unusedVariables false
namespace Go.Proofs.YtdljkokeieeafaaGreatDoor
theorem n9 : ((Rows.rallyNilRow.inPlace == Tryz.prog.inPlace 4)) = true := by kernel_rfl
end Go.Proofs.YtdljkokeieeafaaGreatDoor
