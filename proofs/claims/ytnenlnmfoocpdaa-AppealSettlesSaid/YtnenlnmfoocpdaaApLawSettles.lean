/-
  AppealSettles holds.
-/
import Derived.Test.YtnenlnmfoocpdaaRows
import Derived.Test.YtnenlnmfoocpdaaApSpl3toApSet
set_option linter.unusedSimpArgs false
set_option linter.unusedVariables false
namespace Go.Proofs.Ytnenlnmfoocpdaa
open Go.Am Go.Am.Ap

theorem argsOf {dd : List D} (h : ArgsSh [Ct.shPol, (.sl (.int .i64))] dd) : ∃ (y0 : Ct.Pol) (y1 : List Int), dd = [y0.d, Is y1] ∧ Ct.Pol.Ok y0 ∧ Ct.IsOk y1 := by
  obtain ⟨x0, _, rfl, h0, x1, _, rfl, h1, rfl⟩ := h
  obtain ⟨y0, rfl, k0⟩ := Ct.argPol h0
  obtain ⟨y1, rfl, k1⟩ := Ct.argInts h1
  exact ⟨y0, y1, rfl, k0, k1⟩

theorem own : ownKnob Try.prog.godebug = none := by kernel_rfl

set_option maxRecDepth 100000 in
theorem proved : Rows.AppealSettlesSaid :=
  OpenClaim.holds_of_wide 6 Try.f6 rfl rfl rfl rfl rfl rfl rfl ⟨rfl, rfl, rfl, rfl, rfl⟩ rfl rfl rfl rfl rfl (by kernel_rfl) Try.func6 (by kernel_rfl) (of_decide_eq_true (by kernel_rfl)) (by unfold Func.isWrapper; first | (rw [if_pos (by decide +kernel)]; kernel_rfl) | (rw [if_neg (by decide +kernel)]; exact ⟨rfl, rfl⟩))
    (fun _ started _ _ _ => returnsInHanded_of_change (C := Try.checked) own started (by kernel_rfl) Try.func6
      (ChangeSpec.witness6 false ⟨#[], #[.agg #[.int .i64 0, .int .i64 0, .slice none 0 0], .slice none 0 0], []⟩ 8 (by kernel_rfl) (by kernel_rfl) (by kernel_rfl) (by kernel_rfl))
      (fun _ base args ds gs before hval hW _ _ => law_contract (fn := Try.f6) (s := Rows.appealSettlesSpec) (n := 8) (shs := [Ct.shPol, (.sl (.int .i64))]) (by kernel_rfl) (by kernel_rfl) rfl rfl (by kernel_rfl) (by kernel_rfl)
        (fun ds h => by
          match ds, h with
          | [_, _], _ => rfl)
        (fun dd h => by
          obtain ⟨y0, y1, rfl, k0, k1⟩ := argsOf h
          exact ⟨_, Ct.c6 y0 y1⟩) base args ds gs before hval hW))

end Go.Proofs.Ytnenlnmfoocpdaa
