/- Texts. -/
import Derived.Test.YtjnipnanfjglpaaGreatDoorRows
import Derived.Test.YtjnipnanfjglpaaGreatDoorToGita
import Derived.Test.YtjnipnanfjglpaaGreatDoorToGitb
import Derived.Test.YtjnipnanfjglpaaGreatDoorToGitc
import Derived.Test.YtjnipnanfjglpaaGreatDoorToGitd
import Derived.ProofKit
import Derived.Stop.Joined
set_option linter.unusedSimpArgs false
set_option linter.unusedVariables false
namespace Go.Proofs.YtjnipnanfjglpaaGreatDoor
theorem kG {a b : Bool} (h : a = true) (k : b = true) : (a && b) = true := by rw [h, k]; rfl
set_option maxRecDepth 100000 in
theorem fits : joinedFacts Tryz.pinned.checked.prog 3 Tryz.f3 Rows.topWitnessSpec Rows.topWitnessRow = true := by show joinedFacts Tryz.prog 3 Tryz.f3 Rows.topWitnessSpec Rows.topWitnessRow = true;unfold joinedFacts;exact (kG (kG (kG (kG (kG (kG (kG (kG (kG (kG (kG (kG (kG (kG (kG (kG (kG (kG (kG (kG (kG (kG (kG (kG (kG (kG (kG (kG (kG (kG (kG n0 n1) n2) n3) n4) n5) n6) n7) n8) n9) n10) n11) n12) n13) n14) n15) n16) n17) n18) n19) n20) n21) n22) n23) n24) n25) n26) n27) n28) n29) n30) n31)
end Go.Proofs.YtjnipnanfjglpaaGreatDoor
