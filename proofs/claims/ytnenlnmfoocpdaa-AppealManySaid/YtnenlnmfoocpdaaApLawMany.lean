/-
  AppealMany holds.
-/
import Derived.Test.YtnenlnmfoocpdaaRows
import Derived.Test.YtnenlnmfoocpdaaApKilltoApLawM
set_option linter.unusedSimpArgs false
set_option linter.unusedVariables false
namespace Go.Proofs.Ytnenlnmfoocpdaa
open Go.Am Go.Am.Ap

theorem argsOf {dd : List D} (h : ArgsSh [.int .i64] dd) : ∃ (y0 : Int), dd = [I y0] ∧ Ap.i64 y0 := by
  obtain ⟨x0, _, rfl, h0, rfl⟩ := h
  obtain ⟨y0, rfl, k0⟩ := Ct.argInt h0
  exact ⟨y0, rfl, k0⟩

theorem own : ownKnob Try.prog.godebug = none := by kernel_rfl

set_option maxRecDepth 100000 in
theorem proved : Rows.AppealManySaid :=
  OpenClaim.holds_of_wide 9 Try.f9 rfl rfl rfl rfl rfl rfl rfl ⟨rfl, rfl, rfl, rfl, rfl⟩ rfl rfl rfl rfl rfl (by kernel_rfl) Try.func9 (by kernel_rfl) (of_decide_eq_true (by kernel_rfl)) (by unfold Func.isWrapper; first | (rw [if_pos (by decide +kernel)]; kernel_rfl) | (rw [if_neg (by decide +kernel)]; exact ⟨rfl, rfl⟩))
    (fun _ started _ _ _ => returnsInHanded_of_change (C := Try.checked) own started (by kernel_rfl) Try.func9
      (ChangeSpec.witness6 false ⟨#[], #[.int .i64 0], []⟩ 8 (by kernel_rfl) (by kernel_rfl) (by kernel_rfl) (by kernel_rfl))
      (fun _ base args ds gs before hval hW _ _ => law_contract (fn := Try.f9) (s := Rows.appealManySpec) (n := 8) (shs := [.int .i64]) (by kernel_rfl) (by kernel_rfl) rfl rfl (by kernel_rfl) (by kernel_rfl)
        (fun ds h => by
          match ds, h with
          | [_], _ => rfl)
        (fun dd h => by
          obtain ⟨y0, rfl, k0⟩ := argsOf h
          exact Ct.c9 y0) base args ds gs before hval hW))

end Go.Proofs.Ytnenlnmfoocpdaa
