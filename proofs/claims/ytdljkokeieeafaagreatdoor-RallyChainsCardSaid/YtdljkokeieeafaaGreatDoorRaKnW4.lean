/-
  The chapter's examples, part by part.
-/
import Derived.Test.YtdljkokeieeafaaGreatDoorAmTabW
import Derived.Test.YtdljkokeieeafaaGreatDoorRaBasetoRaC6
import Derived.Test.YtdljkokeieeafaaGreatDoorRaTab3toRaTab4
import Derived.Test.YtdljkokeieeafaaGreatDoorRaKnS
import Derived.Test.YtdljkokeieeafaaGreatDoorRaCA
import Derived.Test.YtdljkokeieeafaaGreatDoorRaCB
import Derived.Test.YtdljkokeieeafaaGreatDoorRaCktoRaD
set_option linter.unusedSimpArgs false
set_option linter.unusedVariables false
namespace Go.Am.Ra
open Go.Proofs
set_option maxRecDepth 100000
noncomputable def fKnW4_t : Tab := [e25, e51, e67, e21, e24, e34, e82, e110, e111, e113, e117, e119, e122, e135, e137, e147, e187, e190, e191, e193, e207, e210, e211, e212, e214, e230, e232, e247, e248, e267, e268, e282, e295, e301, e307, e15, e52, e83, e112, e146, e157, e186, e188, e189, e217, e220, e221, e222, e246, e277, e278, e287, e85w, e86w, e36, e33, e81]
theorem fKnW4_o : ∀ e, e ∈ fKnW4_t → EntOk Tryz.prog e := by
  intro e he
  simp only [fKnW4_t, List.mem_cons, List.not_mem_nil, or_false] at he
  rcases he with rfl | rfl | rfl | rfl | rfl | rfl | rfl | rfl | rfl | rfl | rfl | rfl | rfl | rfl | rfl | rfl | rfl | rfl | rfl | rfl | rfl | rfl | rfl | rfl | rfl | rfl | rfl | rfl | rfl | rfl | rfl | rfl | rfl | rfl | rfl | rfl | rfl | rfl | rfl | rfl | rfl | rfl | rfl | rfl | rfl | rfl | rfl | rfl | rfl | rfl | rfl | rfl | rfl | rfl | rfl | rfl | rfl
  · exact ok25
  · exact ok51
  · exact ok67
  · exact ok21
  · exact ok24
  · exact ok34
  · exact ok82
  · exact ok110
  · exact ok111
  · exact ok113
  · exact ok117
  · exact ok119
  · exact ok122
  · exact ok135
  · exact ok137
  · exact ok147
  · exact ok187
  · exact ok190
  · exact ok191
  · exact ok193
  · exact ok207
  · exact ok210
  · exact ok211
  · exact ok212
  · exact ok214
  · exact ok230
  · exact ok232
  · exact ok247
  · exact ok248
  · exact ok267
  · exact ok268
  · exact ok282
  · exact ok295
  · exact ok301
  · exact ok307
  · exact ok15
  · exact ok52
  · exact ok83
  · exact ok112
  · exact ok146
  · exact ok157
  · exact ok186
  · exact ok188
  · exact ok189
  · exact ok217
  · exact ok220
  · exact ok221
  · exact ok222
  · exact ok246
  · exact ok277
  · exact ok278
  · exact ok287
  · exact ok85w
  · exact ok86w
  · exact ok36
  · exact ok33
  · exact ok81
def fKnW4 : WFact := ⟨15, sKn4, [.loc 1 0, .v (.string ⟨#[116, 97, 107, 101, 32, 49, 32, 49, 32, 54, 51, 51, 32, 52, 48, 48, 48, 48, 48]⟩)], i 0, sKn5⟩
theorem fKnW4_k : (fKnW4 : WFact).ok Tryz.prog := wfact_of (b0 := b0) (factOrc_ok (b0 := b0) (l := [fCk, fCA, fCB, fD9, fD10, fD11, fD12, fD13, fD14, fD15, fD16, fD17]) ⟨fCk_k, fCA_k, fCB_k, fD9_k, fD10_k, fD11_k, fD12_k, fD13_k, fD14_k, fD15_k, fD16_k, fD17_k, trivial⟩) fKnW4 200 40 fKnW4_o (by kernel_rfl)

end Go.Am.Ra
