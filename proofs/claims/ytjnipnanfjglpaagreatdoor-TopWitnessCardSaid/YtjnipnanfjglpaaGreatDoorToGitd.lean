/- Texts. -/
import Derived.Test.YtjnipnanfjglpaaGreatDoorRows
import Derived.ProofKit
import Derived.Stop.Joined
set_option linter.unusedSimpArgs false
set_option linter.unusedVariables false
namespace Go.Proofs.YtjnipnanfjglpaaGreatDoor
theorem n12 : ((Rows.topWitnessRow.named == Tryz.prog.varsNamed 3)) = true := by kernel_rfl
theorem n22 : ((Rows.topWitnessRow.plainKeys == Tryz.prog.plainKeys)) = true := by kernel_rfl
end Go.Proofs.YtjnipnanfjglpaaGreatDoor
