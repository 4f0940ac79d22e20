/-
  The chapter's examples, part by part.
-/
import Derived.Test.YtdljkokeieeafaaGreatDoorAmFntoAmTabK
import Derived.Test.YtdljkokeieeafaaGreatDoorRaCktoRaD
import Derived.Test.YtdljkokeieeafaaGreatDoorRaBasetoRaC6
import Derived.Test.YtdljkokeieeafaaGreatDoorRaTab3toRaTab4
set_option linter.unusedSimpArgs false
set_option linter.unusedVariables false
namespace Go.Am.Ra
open Go.Proofs
set_option maxRecDepth 100000
def fCB : Fact := ⟨18, [.agg [i 2, i 60, i 1, i 0, i 600, i 1, i 1, i 2, .lst [i 1000], .lst [.agg [i 1, i 0]], .lst [.agg [i 1, i 0, i 30, b false], .agg [i 2, i 0, i 0, b false], .agg [i 1, i 0, i 60, b false]], i 1, i 10000, i 60000, i 15, i 30, .lst [i 10000, i 60000], b false, i 0, i 1, i 100, i 1, .lst [i 10, i 6], .lst [i 3], i 1, .lst [.agg [i 1, i 0, i 0, i 1000]], i 30, i 60, i 0, i 0], .v (.string ⟨#[108, 105, 110, 101, 32, 49, 32, 49, 32, 54, 51, 51, 32, 51, 48, 48, 48, 48, 48, 10, 111, 112, 101, 110, 32, 48, 48, 10, 106, 117, 109, 112, 32, 49, 10, 112, 111, 115, 116, 32, 57, 32, 49]⟩)], .tup [.v (.string ⟨#[101, 114, 114, 111, 114, 32, 50, 10, 101, 114, 114, 111, 114, 32, 51, 10, 101, 114, 114, 111, 114, 32, 51, 10, 101, 114, 114, 111, 114, 32, 50, 10]⟩), i 0]⟩
noncomputable def fCB_t : Tab := [e25, e41, e42, e24, e82, e88, e92, e94, e95, e111, e119, e122, e140, e147, e165, e168, e169, e170, e171, e172, e173, e174, e175, e190, e191, e193, e210, e211, e212, e214, e232, e233, e234, e235, e238, e240, e248, e267, e268, e269, e282, e283, e301, e15, e38, e83, e90, e91, e93, e146, e148, e156, e213, e217, e220, e236, e277, e85w, e86w, e36, e85, e89, e37, e18, e33, e81]
theorem fCB_o : ∀ e, e ∈ fCB_t → EntOk Tryz.prog e := by
  intro e he
  simp only [fCB_t, List.mem_cons, List.not_mem_nil, or_false] at he
  rcases he with rfl | rfl | rfl | rfl | rfl | rfl | rfl | rfl | rfl | rfl | rfl | rfl | rfl | rfl | rfl | rfl | rfl | rfl | rfl | rfl | rfl | rfl | rfl | rfl | rfl | rfl | rfl | rfl | rfl | rfl | rfl | rfl | rfl | rfl | rfl | rfl | rfl | rfl | rfl | rfl | rfl | rfl | rfl | rfl | rfl | rfl | rfl | rfl | rfl | rfl | rfl | rfl | rfl | rfl | rfl | rfl | rfl | rfl | rfl | rfl | rfl | rfl | rfl | rfl | rfl | rfl
  · exact ok25
  · exact ok41
  · exact ok42
  · exact ok24
  · exact ok82
  · exact ok88
  · exact ok92
  · exact ok94
  · exact ok95
  · exact ok111
  · exact ok119
  · exact ok122
  · exact ok140
  · exact ok147
  · exact ok165
  · exact ok168
  · exact ok169
  · exact ok170
  · exact ok171
  · exact ok172
  · exact ok173
  · exact ok174
  · exact ok175
  · exact ok190
  · exact ok191
  · exact ok193
  · exact ok210
  · exact ok211
  · exact ok212
  · exact ok214
  · exact ok232
  · exact ok233
  · exact ok234
  · exact ok235
  · exact ok238
  · exact ok240
  · exact ok248
  · exact ok267
  · exact ok268
  · exact ok269
  · exact ok282
  · exact ok283
  · exact ok301
  · exact ok15
  · exact ok38
  · exact ok83
  · exact ok90
  · exact ok91
  · exact ok93
  · exact ok146
  · exact ok148
  · exact ok156
  · exact ok213
  · exact ok217
  · exact ok220
  · exact ok236
  · exact ok277
  · exact ok85w
  · exact ok86w
  · exact ok36
  · exact ok85
  · exact ok89
  · exact ok37
  · exact ok18
  · exact ok33
  · exact ok81
theorem fCB_k : (fCB : Fact).ok Tryz.prog b0 := fact_of (l := []) trivial (factOrc_ok (b0 := b0) (l := [fCk]) ⟨fCk_k, trivial⟩) fCB 200 40 (by kernel_rfl) b0_ok (by kernel_rfl) fCB_o (by kernel_rfl)

end Go.Am.Ra
