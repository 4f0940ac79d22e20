/-
  The row of a law fits the program: closed facts.
-/
import Derived.Test.YtcofohnmkmknbaaGreatDoorRows
import Derived.ProofKit
import Derived.Stop.Joined
set_option linter.unusedSimpArgs false
set_option linter.unusedVariables false
namespace Go.Proofs.YtcofohnmkmknbaaGreatDoor
theorem n9 : ((Rows.rallyChecksRow.inPlace == Tryz.prog.inPlace 3)) = true := by kernel_rfl
end Go.Proofs.YtcofohnmkmknbaaGreatDoor
