/-
  Several texts, one behind the other.
-/
import Derived.Test.YtdljkokeieeafaaGreatDoorAmFntoAmTabK
import Derived.Test.YtdljkokeieeafaaGreatDoorRaBasetoRaC6
import Derived.Test.YtdljkokeieeafaaGreatDoorRaTab3toRaTab4
set_option linter.unusedSimpArgs false
set_option linter.unusedVariables false
/-
  The chapter's examples, part by part.
-/
namespace Go.Am.Ra
open Go.Proofs
set_option maxRecDepth 100000
def fCk : Fact := ⟨87, [.agg [i 2, i 60, i 1, i 0, i 600, i 1, i 1, i 2, .lst [i 1000], .lst [.agg [i 1, i 0]], .lst [.agg [i 1, i 0, i 30, b false], .agg [i 2, i 0, i 0, b false], .agg [i 1, i 0, i 60, b false]], i 1, i 10000, i 60000, i 15, i 30, .lst [i 10000, i 60000], b false, i 0, i 1, i 100, i 1, .lst [i 10, i 6], .lst [i 3], i 1, .lst [.agg [i 1, i 0, i 0, i 1000]], i 30, i 60, i 0, i 0]], i 0⟩
noncomputable def fCk_t : Tab := [e42, e87, e111, e119, e140, e165, e166, e167, e168, e171, e190, e191, e231, e232, e233, e234, e235, e248, e282, e283, e90, e85, e89]
theorem fCk_o : ∀ e, e ∈ fCk_t → EntOk Tryz.prog e := by
  intro e he
  simp only [fCk_t, List.mem_cons, List.not_mem_nil, or_false] at he
  rcases he with rfl | rfl | rfl | rfl | rfl | rfl | rfl | rfl | rfl | rfl | rfl | rfl | rfl | rfl | rfl | rfl | rfl | rfl | rfl | rfl | rfl | rfl | rfl
  · exact ok42
  · exact ok87
  · exact ok111
  · exact ok119
  · exact ok140
  · exact ok165
  · exact ok166
  · exact ok167
  · exact ok168
  · exact ok171
  · exact ok190
  · exact ok191
  · exact ok231
  · exact ok232
  · exact ok233
  · exact ok234
  · exact ok235
  · exact ok248
  · exact ok282
  · exact ok283
  · exact ok90
  · exact ok85
  · exact ok89
theorem fCk_k : (fCk : Fact).ok Tryz.prog b0 := fact_of (l := []) trivial (factOrc_ok (b0 := b0) (l := []) trivial) fCk 200 40 (by kernel_rfl) b0_ok (by kernel_rfl) fCk_o (by kernel_rfl)

end Go.Am.Ra

/-
  Chains and their digits.
-/
namespace Go.Am.Ra
open Go.Proofs
set_option maxRecDepth 100000
def fD0 : Fact := ⟨22, [.v (.int .u64 8108276829773519859)], .v (.string ⟨#[55, 48, 56, 54, 54, 50, 100, 49, 51, 51, 50, 101, 53, 98, 102, 51]⟩)⟩
noncomputable def fD0_t : Tab := [e22, e39, e40, e96, e178, e243, e244, e286]
theorem fD0_o : ∀ e, e ∈ fD0_t → EntOk Tryz.prog e := by
  intro e he
  simp only [fD0_t, List.mem_cons, List.not_mem_nil, or_false] at he
  rcases he with rfl | rfl | rfl | rfl | rfl | rfl | rfl | rfl
  · exact ok22
  · exact ok39
  · exact ok40
  · exact ok96
  · exact ok178
  · exact ok243
  · exact ok244
  · exact ok286
theorem fD0_k : (fD0 : Fact).ok Tryz.prog b0 := fact_of (l := []) trivial (factOrc_ok (b0 := b0) (l := []) trivial) fD0 200 40 (by kernel_rfl) b0_ok (by kernel_rfl) fD0_o (by kernel_rfl)

def fD1 : Fact := ⟨84, [.v (.string ⟨#[55, 48, 56, 54, 54, 50, 100, 49, 51, 51, 50, 101, 53, 98, 102, 51]⟩), i 16, i 64], .tup [.v (.int .u64 8108276829773519859), .v .nilIface]⟩
noncomputable def fD1_t : Tab := [e84, e163, e224]
theorem fD1_o : ∀ e, e ∈ fD1_t → EntOk Tryz.prog e := by
  intro e he
  simp only [fD1_t, List.mem_cons, List.not_mem_nil, or_false] at he
  rcases he with rfl | rfl | rfl
  · exact ok84
  · exact ok163
  · exact ok224
theorem fD1_k : (fD1 : Fact).ok Tryz.prog b0 := fact_of (l := []) trivial (factOrc_ok (b0 := b0) (l := []) trivial) fD1 200 40 (by kernel_rfl) b0_ok (by kernel_rfl) fD1_o (by kernel_rfl)

def fD2 : Fact := ⟨22, [.v (.int .u64 7781724543687022825)], .v (.string ⟨#[54, 98, 102, 101, 51, 100, 51, 101, 51, 101, 54, 55, 53, 56, 101, 57]⟩)⟩
noncomputable def fD2_t : Tab := [e22, e39, e40, e96, e178, e243, e244, e286]
theorem fD2_o : ∀ e, e ∈ fD2_t → EntOk Tryz.prog e := by
  intro e he
  simp only [fD2_t, List.mem_cons, List.not_mem_nil, or_false] at he
  rcases he with rfl | rfl | rfl | rfl | rfl | rfl | rfl | rfl
  · exact ok22
  · exact ok39
  · exact ok40
  · exact ok96
  · exact ok178
  · exact ok243
  · exact ok244
  · exact ok286
theorem fD2_k : (fD2 : Fact).ok Tryz.prog b0 := fact_of (l := []) trivial (factOrc_ok (b0 := b0) (l := []) trivial) fD2 200 40 (by kernel_rfl) b0_ok (by kernel_rfl) fD2_o (by kernel_rfl)

def fD3 : Fact := ⟨84, [.v (.string ⟨#[54, 98, 102, 101, 51, 100, 51, 101, 51, 101, 54, 55, 53, 56, 101, 57]⟩), i 16, i 64], .tup [.v (.int .u64 7781724543687022825), .v .nilIface]⟩
noncomputable def fD3_t : Tab := [e84, e163, e224]
theorem fD3_o : ∀ e, e ∈ fD3_t → EntOk Tryz.prog e := by
  intro e he
  simp only [fD3_t, List.mem_cons, List.not_mem_nil, or_false] at he
  rcases he with rfl | rfl | rfl
  · exact ok84
  · exact ok163
  · exact ok224
theorem fD3_k : (fD3 : Fact).ok Tryz.prog b0 := fact_of (l := []) trivial (factOrc_ok (b0 := b0) (l := []) trivial) fD3 200 40 (by kernel_rfl) b0_ok (by kernel_rfl) fD3_o (by kernel_rfl)

def fD4 : Fact := ⟨22, [.v (.int .u64 16712264241649192636)], .v (.string ⟨#[101, 55, 101, 100, 101, 51, 99, 56, 52, 98, 102, 54, 56, 101, 98, 99]⟩)⟩
noncomputable def fD4_t : Tab := [e22, e39, e40, e96, e178, e243, e244, e286]
theorem fD4_o : ∀ e, e ∈ fD4_t → EntOk Tryz.prog e := by
  intro e he
  simp only [fD4_t, List.mem_cons, List.not_mem_nil, or_false] at he
  rcases he with rfl | rfl | rfl | rfl | rfl | rfl | rfl | rfl
  · exact ok22
  · exact ok39
  · exact ok40
  · exact ok96
  · exact ok178
  · exact ok243
  · exact ok244
  · exact ok286
theorem fD4_k : (fD4 : Fact).ok Tryz.prog b0 := fact_of (l := []) trivial (factOrc_ok (b0 := b0) (l := []) trivial) fD4 200 40 (by kernel_rfl) b0_ok (by kernel_rfl) fD4_o (by kernel_rfl)

def fD5 : Fact := ⟨84, [.v (.string ⟨#[101, 55, 101, 100, 101, 51, 99, 56, 52, 98, 102, 54, 56, 101, 98, 99]⟩), i 16, i 64], .tup [.v (.int .u64 16712264241649192636), .v .nilIface]⟩
noncomputable def fD5_t : Tab := [e84, e163, e224]
theorem fD5_o : ∀ e, e ∈ fD5_t → EntOk Tryz.prog e := by
  intro e he
  simp only [fD5_t, List.mem_cons, List.not_mem_nil, or_false] at he
  rcases he with rfl | rfl | rfl
  · exact ok84
  · exact ok163
  · exact ok224
theorem fD5_k : (fD5 : Fact).ok Tryz.prog b0 := fact_of (l := []) trivial (factOrc_ok (b0 := b0) (l := []) trivial) fD5 200 40 (by kernel_rfl) b0_ok (by kernel_rfl) fD5_o (by kernel_rfl)

def fD6 : Fact := ⟨22, [.v (.int .u64 4959412553891267694)], .v (.string ⟨#[52, 52, 100, 51, 53, 102, 55, 49, 49, 49, 52, 100, 52, 52, 54, 101]⟩)⟩
noncomputable def fD6_t : Tab := [e22, e39, e40, e96, e178, e243, e244, e286]
theorem fD6_o : ∀ e, e ∈ fD6_t → EntOk Tryz.prog e := by
  intro e he
  simp only [fD6_t, List.mem_cons, List.not_mem_nil, or_false] at he
  rcases he with rfl | rfl | rfl | rfl | rfl | rfl | rfl | rfl
  · exact ok22
  · exact ok39
  · exact ok40
  · exact ok96
  · exact ok178
  · exact ok243
  · exact ok244
  · exact ok286
theorem fD6_k : (fD6 : Fact).ok Tryz.prog b0 := fact_of (l := []) trivial (factOrc_ok (b0 := b0) (l := []) trivial) fD6 200 40 (by kernel_rfl) b0_ok (by kernel_rfl) fD6_o (by kernel_rfl)

def fD7 : Fact := ⟨84, [.v (.string ⟨#[52, 52, 100, 51, 53, 102, 55, 49, 49, 49, 52, 100, 52, 52, 54, 101]⟩), i 16, i 64], .tup [.v (.int .u64 4959412553891267694), .v .nilIface]⟩
noncomputable def fD7_t : Tab := [e84, e163, e224]
theorem fD7_o : ∀ e, e ∈ fD7_t → EntOk Tryz.prog e := by
  intro e he
  simp only [fD7_t, List.mem_cons, List.not_mem_nil, or_false] at he
  rcases he with rfl | rfl | rfl
  · exact ok84
  · exact ok163
  · exact ok224
theorem fD7_k : (fD7 : Fact).ok Tryz.prog b0 := fact_of (l := []) trivial (factOrc_ok (b0 := b0) (l := []) trivial) fD7 200 40 (by kernel_rfl) b0_ok (by kernel_rfl) fD7_o (by kernel_rfl)

def fD8 : Fact := ⟨22, [.v (.int .u64 12211649411119444726)], .v (.string ⟨#[97, 57, 55, 56, 55, 101, 55, 48, 55, 55, 54, 49, 102, 50, 102, 54]⟩)⟩
noncomputable def fD8_t : Tab := [e22, e39, e40, e96, e178, e243, e244, e286]
theorem fD8_o : ∀ e, e ∈ fD8_t → EntOk Tryz.prog e := by
  intro e he
  simp only [fD8_t, List.mem_cons, List.not_mem_nil, or_false] at he
  rcases he with rfl | rfl | rfl | rfl | rfl | rfl | rfl | rfl
  · exact ok22
  · exact ok39
  · exact ok40
  · exact ok96
  · exact ok178
  · exact ok243
  · exact ok244
  · exact ok286
theorem fD8_k : (fD8 : Fact).ok Tryz.prog b0 := fact_of (l := []) trivial (factOrc_ok (b0 := b0) (l := []) trivial) fD8 200 40 (by kernel_rfl) b0_ok (by kernel_rfl) fD8_o (by kernel_rfl)

def fD9 : Fact := ⟨22, [.v (.int .u64 6940297852680411550)], .v (.string ⟨#[54, 48, 53, 48, 101, 52, 50, 48, 51, 48, 54, 99, 49, 57, 57, 101]⟩)⟩
noncomputable def fD9_t : Tab := [e22, e39, e40, e96, e178, e243, e244, e286]
theorem fD9_o : ∀ e, e ∈ fD9_t → EntOk Tryz.prog e := by
  intro e he
  simp only [fD9_t, List.mem_cons, List.not_mem_nil, or_false] at he
  rcases he with rfl | rfl | rfl | rfl | rfl | rfl | rfl | rfl
  · exact ok22
  · exact ok39
  · exact ok40
  · exact ok96
  · exact ok178
  · exact ok243
  · exact ok244
  · exact ok286
theorem fD9_k : (fD9 : Fact).ok Tryz.prog b0 := fact_of (l := []) trivial (factOrc_ok (b0 := b0) (l := []) trivial) fD9 200 40 (by kernel_rfl) b0_ok (by kernel_rfl) fD9_o (by kernel_rfl)

def fD10 : Fact := ⟨84, [.v (.string ⟨#[54, 48, 53, 48, 101, 52, 50, 48, 51, 48, 54, 99, 49, 57, 57, 101]⟩), i 16, i 64], .tup [.v (.int .u64 6940297852680411550), .v .nilIface]⟩
noncomputable def fD10_t : Tab := [e84, e163, e224]
theorem fD10_o : ∀ e, e ∈ fD10_t → EntOk Tryz.prog e := by
  intro e he
  simp only [fD10_t, List.mem_cons, List.not_mem_nil, or_false] at he
  rcases he with rfl | rfl | rfl
  · exact ok84
  · exact ok163
  · exact ok224
theorem fD10_k : (fD10 : Fact).ok Tryz.prog b0 := fact_of (l := []) trivial (factOrc_ok (b0 := b0) (l := []) trivial) fD10 200 40 (by kernel_rfl) b0_ok (by kernel_rfl) fD10_o (by kernel_rfl)

def fD11 : Fact := ⟨22, [.v (.int .u64 4538693560232973553)], .v (.string ⟨#[51, 101, 102, 99, 97, 100, 98, 101, 102, 97, 48, 97, 49, 52, 102, 49]⟩)⟩
noncomputable def fD11_t : Tab := [e22, e39, e40, e96, e178, e243, e244, e286]
theorem fD11_o : ∀ e, e ∈ fD11_t → EntOk Tryz.prog e := by
  intro e he
  simp only [fD11_t, List.mem_cons, List.not_mem_nil, or_false] at he
  rcases he with rfl | rfl | rfl | rfl | rfl | rfl | rfl | rfl
  · exact ok22
  · exact ok39
  · exact ok40
  · exact ok96
  · exact ok178
  · exact ok243
  · exact ok244
  · exact ok286
theorem fD11_k : (fD11 : Fact).ok Tryz.prog b0 := fact_of (l := []) trivial (factOrc_ok (b0 := b0) (l := []) trivial) fD11 200 40 (by kernel_rfl) b0_ok (by kernel_rfl) fD11_o (by kernel_rfl)

def fD12 : Fact := ⟨84, [.v (.string ⟨#[51, 101, 102, 99, 97, 100, 98, 101, 102, 97, 48, 97, 49, 52, 102, 49]⟩), i 16, i 64], .tup [.v (.int .u64 4538693560232973553), .v .nilIface]⟩
noncomputable def fD12_t : Tab := [e84, e163, e224]
theorem fD12_o : ∀ e, e ∈ fD12_t → EntOk Tryz.prog e := by
  intro e he
  simp only [fD12_t, List.mem_cons, List.not_mem_nil, or_false] at he
  rcases he with rfl | rfl | rfl
  · exact ok84
  · exact ok163
  · exact ok224
theorem fD12_k : (fD12 : Fact).ok Tryz.prog b0 := fact_of (l := []) trivial (factOrc_ok (b0 := b0) (l := []) trivial) fD12 200 40 (by kernel_rfl) b0_ok (by kernel_rfl) fD12_o (by kernel_rfl)

def fD13 : Fact := ⟨22, [.v (.int .u64 11743569974391322174)], .v (.string ⟨#[97, 50, 102, 57, 56, 97, 97, 98, 101, 101, 56, 57, 98, 54, 51, 101]⟩)⟩
noncomputable def fD13_t : Tab := [e22, e39, e40, e96, e178, e243, e244, e286]
theorem fD13_o : ∀ e, e ∈ fD13_t → EntOk Tryz.prog e := by
  intro e he
  simp only [fD13_t, List.mem_cons, List.not_mem_nil, or_false] at he
  rcases he with rfl | rfl | rfl | rfl | rfl | rfl | rfl | rfl
  · exact ok22
  · exact ok39
  · exact ok40
  · exact ok96
  · exact ok178
  · exact ok243
  · exact ok244
  · exact ok286
theorem fD13_k : (fD13 : Fact).ok Tryz.prog b0 := fact_of (l := []) trivial (factOrc_ok (b0 := b0) (l := []) trivial) fD13 200 40 (by kernel_rfl) b0_ok (by kernel_rfl) fD13_o (by kernel_rfl)

def fD14 : Fact := ⟨84, [.v (.string ⟨#[97, 50, 102, 57, 56, 97, 97, 98, 101, 101, 56, 57, 98, 54, 51, 101]⟩), i 16, i 64], .tup [.v (.int .u64 11743569974391322174), .v .nilIface]⟩
noncomputable def fD14_t : Tab := [e84, e163, e224]
theorem fD14_o : ∀ e, e ∈ fD14_t → EntOk Tryz.prog e := by
  intro e he
  simp only [fD14_t, List.mem_cons, List.not_mem_nil, or_false] at he
  rcases he with rfl | rfl | rfl
  · exact ok84
  · exact ok163
  · exact ok224
theorem fD14_k : (fD14 : Fact).ok Tryz.prog b0 := fact_of (l := []) trivial (factOrc_ok (b0 := b0) (l := []) trivial) fD14 200 40 (by kernel_rfl) b0_ok (by kernel_rfl) fD14_o (by kernel_rfl)

def fD15 : Fact := ⟨22, [.v (.int .u64 435281720423157270)], .v (.string ⟨#[48, 54, 48, 97, 54, 101, 54, 98, 50, 51, 48, 98, 48, 101, 49, 54]⟩)⟩
noncomputable def fD15_t : Tab := [e22, e39, e40, e96, e178, e243, e244, e286]
theorem fD15_o : ∀ e, e ∈ fD15_t → EntOk Tryz.prog e := by
  intro e he
  simp only [fD15_t, List.mem_cons, List.not_mem_nil, or_false] at he
  rcases he with rfl | rfl | rfl | rfl | rfl | rfl | rfl | rfl
  · exact ok22
  · exact ok39
  · exact ok40
  · exact ok96
  · exact ok178
  · exact ok243
  · exact ok244
  · exact ok286
theorem fD15_k : (fD15 : Fact).ok Tryz.prog b0 := fact_of (l := []) trivial (factOrc_ok (b0 := b0) (l := []) trivial) fD15 200 40 (by kernel_rfl) b0_ok (by kernel_rfl) fD15_o (by kernel_rfl)

def fD16 : Fact := ⟨84, [.v (.string ⟨#[48, 54, 48, 97, 54, 101, 54, 98, 50, 51, 48, 98, 48, 101, 49, 54]⟩), i 16, i 64], .tup [.v (.int .u64 435281720423157270), .v .nilIface]⟩
noncomputable def fD16_t : Tab := [e84, e163, e224]
theorem fD16_o : ∀ e, e ∈ fD16_t → EntOk Tryz.prog e := by
  intro e he
  simp only [fD16_t, List.mem_cons, List.not_mem_nil, or_false] at he
  rcases he with rfl | rfl | rfl
  · exact ok84
  · exact ok163
  · exact ok224
theorem fD16_k : (fD16 : Fact).ok Tryz.prog b0 := fact_of (l := []) trivial (factOrc_ok (b0 := b0) (l := []) trivial) fD16 200 40 (by kernel_rfl) b0_ok (by kernel_rfl) fD16_o (by kernel_rfl)

def fD17 : Fact := ⟨22, [.v (.int .u64 8242974928023518781)], .v (.string ⟨#[55, 50, 54, 52, 101, 101, 48, 54, 49, 100, 52, 97, 102, 101, 51, 100]⟩)⟩
noncomputable def fD17_t : Tab := [e22, e39, e40, e96, e178, e243, e244, e286]
theorem fD17_o : ∀ e, e ∈ fD17_t → EntOk Tryz.prog e := by
  intro e he
  simp only [fD17_t, List.mem_cons, List.not_mem_nil, or_false] at he
  rcases he with rfl | rfl | rfl | rfl | rfl | rfl | rfl | rfl
  · exact ok22
  · exact ok39
  · exact ok40
  · exact ok96
  · exact ok178
  · exact ok243
  · exact ok244
  · exact ok286
theorem fD17_k : (fD17 : Fact).ok Tryz.prog b0 := fact_of (l := []) trivial (factOrc_ok (b0 := b0) (l := []) trivial) fD17 200 40 (by kernel_rfl) b0_ok (by kernel_rfl) fD17_o (by kernel_rfl)

end Go.Am.Ra
