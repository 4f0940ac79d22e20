/-
 The row of a law fits the program: closed facts.
-/
import Derived.Test.YtjnipnanfjglpaaGreatDoorRows
import Derived.ProofKit
import Derived.Stop.Joined
set_option linter.unusedSimpArgs false
set_option linter.unusedVariables false
namespace Go.Proofs.YtjnipnanfjglpaaGreatDoor
theorem n12:((Rows.topWatchedRow.named==Tryz.prog.varsNamed 4))=true:=by kernel_rfl
theorem n22:((Rows.topWatchedRow.plainKeys==Tryz.prog.plainKeys))=true:=by kernel_rfl
end Go.Proofs.YtjnipnanfjglpaaGreatDoor
