/-
  Several texts, one behind the other.
-/
import Derived.Test.YtdljkokeieeafaaGreatDoorAmTabW
import Derived.Test.YtdljkokeieeafaaGreatDoorRaBasetoRaC6
import Derived.Test.YtdljkokeieeafaaGreatDoorRaTab3toRaTab4
import Derived.Test.YtdljkokeieeafaaGreatDoorRaKnS
import Derived.Test.YtdljkokeieeafaaGreatDoorRaCA
import Derived.Test.YtdljkokeieeafaaGreatDoorRaCB
import Derived.Test.YtdljkokeieeafaaGreatDoorRaCktoRaD
set_option linter.unusedSimpArgs false
set_option linter.unusedVariables false
/-
  The chapter's examples, part by part.
-/
namespace Go.Am.Ra
open Go.Proofs
set_option maxRecDepth 100000
noncomputable def fKnW0_t : Tab := [e25, e41, e42, e21, e24, e34, e82, e110, e111, e147, e210, e211, e212, e214, e267, e268, e269, e272, e273, e274, e276, e301, e305, e15, e83, e146, e151, e213, e216, e270, e271, e275, e33, e81]
theorem fKnW0_o : ∀ e, e ∈ fKnW0_t → EntOk Tryz.prog e := by
  intro e he
  simp only [fKnW0_t, List.mem_cons, List.not_mem_nil, or_false] at he
  rcases he with rfl | rfl | rfl | rfl | rfl | rfl | rfl | rfl | rfl | rfl | rfl | rfl | rfl | rfl | rfl | rfl | rfl | rfl | rfl | rfl | rfl | rfl | rfl | rfl | rfl | rfl | rfl | rfl | rfl | rfl | rfl | rfl | rfl | rfl
  · exact ok25
  · exact ok41
  · exact ok42
  · exact ok21
  · exact ok24
  · exact ok34
  · exact ok82
  · exact ok110
  · exact ok111
  · exact ok147
  · exact ok210
  · exact ok211
  · exact ok212
  · exact ok214
  · exact ok267
  · exact ok268
  · exact ok269
  · exact ok272
  · exact ok273
  · exact ok274
  · exact ok276
  · exact ok301
  · exact ok305
  · exact ok15
  · exact ok83
  · exact ok146
  · exact ok151
  · exact ok213
  · exact ok216
  · exact ok270
  · exact ok271
  · exact ok275
  · exact ok33
  · exact ok81
def fKnW0 : WFact := ⟨15, sKn0, [.loc 1 0, .v (.string ⟨#[112, 97, 115, 115, 32, 48, 32, 48, 32, 49, 32, 48, 32, 49, 48, 48, 48, 32, 50, 48, 48, 48]⟩)], i 0, sKn1⟩
theorem fKnW0_k : (fKnW0 : WFact).ok Tryz.prog := wfact_of (b0 := b0) (factOrc_ok (b0 := b0) (l := [fCk, fCA, fCB, fD9, fD10, fD11, fD12, fD13, fD14, fD15, fD16, fD17]) ⟨fCk_k, fCA_k, fCB_k, fD9_k, fD10_k, fD11_k, fD12_k, fD13_k, fD14_k, fD15_k, fD16_k, fD17_k, trivial⟩) fKnW0 200 40 fKnW0_o (by kernel_rfl)

end Go.Am.Ra

/-
  The chapter's examples, part by part.
-/
namespace Go.Am.Ra
open Go.Proofs
set_option maxRecDepth 100000
noncomputable def fKnW1_t : Tab := [e25, e41, e42, e21, e24, e34, e82, e110, e111, e147, e210, e211, e212, e214, e267, e268, e269, e272, e273, e274, e276, e301, e305, e15, e83, e146, e151, e213, e216, e270, e271, e275, e33, e81]
theorem fKnW1_o : ∀ e, e ∈ fKnW1_t → EntOk Tryz.prog e := by
  intro e he
  simp only [fKnW1_t, List.mem_cons, List.not_mem_nil, or_false] at he
  rcases he with rfl | rfl | rfl | rfl | rfl | rfl | rfl | rfl | rfl | rfl | rfl | rfl | rfl | rfl | rfl | rfl | rfl | rfl | rfl | rfl | rfl | rfl | rfl | rfl | rfl | rfl | rfl | rfl | rfl | rfl | rfl | rfl | rfl | rfl
  · exact ok25
  · exact ok41
  · exact ok42
  · exact ok21
  · exact ok24
  · exact ok34
  · exact ok82
  · exact ok110
  · exact ok111
  · exact ok147
  · exact ok210
  · exact ok211
  · exact ok212
  · exact ok214
  · exact ok267
  · exact ok268
  · exact ok269
  · exact ok272
  · exact ok273
  · exact ok274
  · exact ok276
  · exact ok301
  · exact ok305
  · exact ok15
  · exact ok83
  · exact ok146
  · exact ok151
  · exact ok213
  · exact ok216
  · exact ok270
  · exact ok271
  · exact ok275
  · exact ok33
  · exact ok81
def fKnW1 : WFact := ⟨15, sKn1, [.loc 1 0, .v (.string ⟨#[112, 97, 115, 115, 32, 48, 32, 49, 32, 49, 32, 49, 32, 51, 48, 49, 48, 48, 48, 32, 51, 48, 50, 48, 48, 48]⟩)], i 0, sKn2⟩
theorem fKnW1_k : (fKnW1 : WFact).ok Tryz.prog := wfact_of (b0 := b0) (factOrc_ok (b0 := b0) (l := [fCk, fCA, fCB, fD9, fD10, fD11, fD12, fD13, fD14, fD15, fD16, fD17]) ⟨fCk_k, fCA_k, fCB_k, fD9_k, fD10_k, fD11_k, fD12_k, fD13_k, fD14_k, fD15_k, fD16_k, fD17_k, trivial⟩) fKnW1 200 40 fKnW1_o (by kernel_rfl)

end Go.Am.Ra

/-
  The chapter's examples, part by part.
-/
namespace Go.Am.Ra
open Go.Proofs
set_option maxRecDepth 100000
noncomputable def fKnW2_t : Tab := [e25, e21, e24, e34, e82, e119, e122, e147, e190, e191, e193, e210, e211, e212, e214, e232, e248, e267, e268, e282, e301, e15, e83, e146, e155, e217, e219, e85w, e86w, e36, e33, e81]
theorem fKnW2_o : ∀ e, e ∈ fKnW2_t → EntOk Tryz.prog e := by
  intro e he
  simp only [fKnW2_t, List.mem_cons, List.not_mem_nil, or_false] at he
  rcases he with rfl | rfl | rfl | rfl | rfl | rfl | rfl | rfl | rfl | rfl | rfl | rfl | rfl | rfl | rfl | rfl | rfl | rfl | rfl | rfl | rfl | rfl | rfl | rfl | rfl | rfl | rfl | rfl | rfl | rfl | rfl | rfl
  · exact ok25
  · exact ok21
  · exact ok24
  · exact ok34
  · exact ok82
  · exact ok119
  · exact ok122
  · exact ok147
  · exact ok190
  · exact ok191
  · exact ok193
  · exact ok210
  · exact ok211
  · exact ok212
  · exact ok214
  · exact ok232
  · exact ok248
  · exact ok267
  · exact ok268
  · exact ok282
  · exact ok301
  · exact ok15
  · exact ok83
  · exact ok146
  · exact ok155
  · exact ok217
  · exact ok219
  · exact ok85w
  · exact ok86w
  · exact ok36
  · exact ok33
  · exact ok81
def fKnW2 : WFact := ⟨15, sKn2, [.loc 1 0, .v (.string ⟨#[108, 101, 103, 32, 49, 32, 48, 32, 54, 48, 48]⟩)], i 0, sKn3⟩
theorem fKnW2_k : (fKnW2 : WFact).ok Tryz.prog := wfact_of (b0 := b0) (factOrc_ok (b0 := b0) (l := [fCk, fCA, fCB, fD9, fD10, fD11, fD12, fD13, fD14, fD15, fD16, fD17]) ⟨fCk_k, fCA_k, fCB_k, fD9_k, fD10_k, fD11_k, fD12_k, fD13_k, fD14_k, fD15_k, fD16_k, fD17_k, trivial⟩) fKnW2 200 40 fKnW2_o (by kernel_rfl)

end Go.Am.Ra

/-
  The chapter's examples, part by part.
-/
namespace Go.Am.Ra
open Go.Proofs
set_option maxRecDepth 100000
noncomputable def fKnW3_t : Tab := [e25, e21, e24, e34, e82, e119, e122, e147, e190, e191, e193, e210, e211, e212, e214, e232, e248, e267, e268, e282, e301, e15, e83, e146, e156, e217, e220, e277, e85w, e86w, e36, e33, e81]
theorem fKnW3_o : ∀ e, e ∈ fKnW3_t → EntOk Tryz.prog e := by
  intro e he
  simp only [fKnW3_t, List.mem_cons, List.not_mem_nil, or_false] at he
  rcases he with rfl | rfl | rfl | rfl | rfl | rfl | rfl | rfl | rfl | rfl | rfl | rfl | rfl | rfl | rfl | rfl | rfl | rfl | rfl | rfl | rfl | rfl | rfl | rfl | rfl | rfl | rfl | rfl | rfl | rfl | rfl | rfl | rfl
  · exact ok25
  · exact ok21
  · exact ok24
  · exact ok34
  · exact ok82
  · exact ok119
  · exact ok122
  · exact ok147
  · exact ok190
  · exact ok191
  · exact ok193
  · exact ok210
  · exact ok211
  · exact ok212
  · exact ok214
  · exact ok232
  · exact ok248
  · exact ok267
  · exact ok268
  · exact ok282
  · exact ok301
  · exact ok15
  · exact ok83
  · exact ok146
  · exact ok156
  · exact ok217
  · exact ok220
  · exact ok277
  · exact ok85w
  · exact ok86w
  · exact ok36
  · exact ok33
  · exact ok81
def fKnW3 : WFact := ⟨15, sKn3, [.loc 1 0, .v (.string ⟨#[108, 105, 110, 101, 32, 49, 32, 48, 32, 54, 51, 48, 32, 48]⟩)], i 0, sKn4⟩
theorem fKnW3_k : (fKnW3 : WFact).ok Tryz.prog := wfact_of (b0 := b0) (factOrc_ok (b0 := b0) (l := [fCk, fCA, fCB, fD9, fD10, fD11, fD12, fD13, fD14, fD15, fD16, fD17]) ⟨fCk_k, fCA_k, fCB_k, fD9_k, fD10_k, fD11_k, fD12_k, fD13_k, fD14_k, fD15_k, fD16_k, fD17_k, trivial⟩) fKnW3 200 40 fKnW3_o (by kernel_rfl)

end Go.Am.Ra
