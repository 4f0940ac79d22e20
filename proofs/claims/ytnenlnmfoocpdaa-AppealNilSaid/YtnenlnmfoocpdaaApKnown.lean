/-
  The statements' examples answer as they say.
-/
import Derived.Test.YtnenlnmfoocpdaaApTab
set_option linter.unusedSimpArgs false
set_option linter.unusedVariables false
namespace Go.Am.Ap
open Go.Proofs

/-- **The examples hold, at every store.** -/
theorem known_spec (bs : List D) : FSpecO Try.prog 16 (.st bs) [] (.ret (.v (.bool true))) :=
  (runOrc_ok (n := 200) tabKnown_ok 14).R 16 (.st bs) [] _ (by kernel_rfl)

end Go.Am.Ap
