/-
  The row of a law fits the program: closed facts.
-/
import Derived.Test.YtcofohnmkmknbaaGreatDoorRows
import Derived.Test.YtcofohnmkmknbaaGreatDoorRbFita
import Derived.Test.YtcofohnmkmknbaaGreatDoorRbFitb
import Derived.Test.YtcofohnmkmknbaaGreatDoorRbFitc
import Derived.Test.YtcofohnmkmknbaaGreatDoorRbFitd
import Derived.ProofKit
import Derived.Stop.Joined
set_option linter.unusedSimpArgs false
set_option linter.unusedVariables false
namespace Go.Proofs.YtcofohnmkmknbaaGreatDoor
theorem cJ {a b : Bool} (h : a = true) (k : b = true) : (a && b) = true := by rw [h, k]; rfl
set_option maxRecDepth 100000 in
theorem fits : joinedFacts Tryz.pinned.checked.prog 3 Tryz.f3 Rows.rallyChecksSpec Rows.rallyChecksRow = true := by
  show joinedFacts Tryz.prog 3 Tryz.f3 Rows.rallyChecksSpec Rows.rallyChecksRow = true
  unfold joinedFacts
  exact (cJ (cJ (cJ (cJ (cJ (cJ (cJ (cJ (cJ (cJ (cJ (cJ (cJ (cJ (cJ (cJ (cJ (cJ (cJ (cJ (cJ (cJ (cJ (cJ (cJ (cJ (cJ (cJ (cJ (cJ (cJ n0 n1) n2) n3) n4) n5) n6) n7) n8) n9) n10) n11) n12) n13) n14) n15) n16) n17) n18) n19) n20) n21) n22) n23) n24) n25) n26) n27) n28) n29) n30) n31)
end Go.Proofs.YtcofohnmkmknbaaGreatDoor
