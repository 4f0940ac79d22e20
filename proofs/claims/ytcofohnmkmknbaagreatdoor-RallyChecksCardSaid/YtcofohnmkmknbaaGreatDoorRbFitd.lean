/-
  The row of a law fits the program: closed facts.
-/
import Derived.Test.YtcofohnmkmknbaaGreatDoorRows
import Derived.ProofKit
import Derived.Stop.Joined
set_option linter.unusedSimpArgs false
set_option linter.unusedVariables false
namespace Go.Proofs.YtcofohnmkmknbaaGreatDoor
theorem n12 : ((Rows.rallyChecksRow.named == Tryz.prog.varsNamed 3)) = true := by kernel_rfl
theorem n22 : ((Rows.rallyChecksRow.plainKeys == Tryz.prog.plainKeys)) = true := by kernel_rfl
end Go.Proofs.YtcofohnmkmknbaaGreatDoor
