/- Texts. -/
import Derived.Test.YtjnipnanfjglpaaGreatDoorRows
import Derived.ProofKit
import Derived.Stop.Joined
set_option linter.unusedSimpArgs false
set_option linter.unusedVariables false
namespace Go.Proofs.YtjnipnanfjglpaaGreatDoor
theorem n10 : ((Rows.topWitnessRow.unfollowed == Tryz.prog.unfollowed 3)) = true := by kernel_rfl
theorem n11 : ((Rows.topWitnessRow.recurses == Tryz.prog.recurses 3)) = true := by kernel_rfl
end Go.Proofs.YtjnipnanfjglpaaGreatDoor
