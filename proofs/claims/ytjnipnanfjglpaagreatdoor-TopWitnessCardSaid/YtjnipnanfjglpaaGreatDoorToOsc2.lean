/- Texts. -/
import Derived.Test.YtjnipnanfjglpaaGreatDoorToRptoToOs
set_option linter.unusedSimpArgs false
set_option linter.unusedVariables false
namespace Go.Am.To
open Go.Proofs
set_option maxRecDepth 100000
theorem apU : lG Tryz.prog (fun tt => [2, 3, 4].all (ckO tt 2)) Kh [] = true := by kernel_rfl
theorem apO : lG Tryz.prog (fun tt => [2, 3, 4].all fun p => (List.range (p + 2)).all (ckS tt 2 p)) Ki [] = true := by kernel_rfl
end Go.Am.To
