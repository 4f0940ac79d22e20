/-
  AppealNil holds.
-/
import Derived.Test.YtnenlnmfoocpdaaRows
import Derived.Test.YtnenlnmfoocpdaaApNil
set_option linter.unusedSimpArgs false
set_option linter.unusedVariables false
namespace Go.Proofs.Ytnenlnmfoocpdaa
open Go.Am Go.Am.Ap

theorem argsNil {dd : List D} (h : ArgsSh [Ap.shAct, .int .i64, .int .i64] dd) : ∃ (a : Ap.Act) (n m : Int), dd = [a.d, I n, I m] := by
  obtain ⟨x, _, rfl, hx, y, _, rfl, hy, z, _, rfl, hz, rfl⟩ := h
  obtain ⟨cs, rfl, hc⟩ := hx.1 rfl
  obtain ⟨a, ha, _⟩ := ofAct hc
  obtain ⟨n, hn, _⟩ := ofI (hy.2 rfl)
  obtain ⟨m, hm, _⟩ := ofI (hz.2 rfl)
  cases hn
  cases hm
  exact ⟨a, n, m, by rw [ha]⟩

theorem own : ownKnob Try.prog.godebug = none := by kernel_rfl

set_option maxRecDepth 100000 in
theorem proved : Rows.AppealNilSaid :=
  OpenClaim.holds_of_wide 15 Try.f15 rfl rfl rfl rfl rfl rfl rfl ⟨rfl, rfl, rfl, rfl, rfl⟩ rfl rfl rfl rfl rfl (by kernel_rfl) Try.func15 (by kernel_rfl) (of_decide_eq_true (by kernel_rfl)) (by unfold Func.isWrapper; first | (rw [if_pos (by decide +kernel)]; kernel_rfl) | (rw [if_neg (by decide +kernel)]; exact ⟨rfl, rfl⟩))
    (fun _ started _ _ _ => returnsInHanded_of_change (C := Try.checked) own started (by kernel_rfl) Try.func15
      (ChangeSpec.witness6 false ⟨#[], #[.agg #[.int .i64 0, .int .i64 0, .int .i64 0, .int .i64 0, .int .i64 0, .int .i64 0, .int .i64 0, .int .i64 0, .slice none 0 0, .int .i64 0, .bool false, .int .i64 0], .int .i64 0, .int .i64 0], []⟩ 8 (by kernel_rfl) (by kernel_rfl) (by kernel_rfl) (by kernel_rfl))
      (fun _ base args ds gs before hval hW _ _ => law_contract (fn := Try.f15) (s := Rows.appealNilSpec) (n := 8) (shs := [Ap.shAct, .int .i64, .int .i64]) (by kernel_rfl) (by kernel_rfl) rfl rfl (by kernel_rfl) (by kernel_rfl)
        (fun ds h => by
          match ds, h with
          | [_, _, _], _ => rfl)
        (fun dd h => by
          obtain ⟨a, n, m, rfl⟩ := argsNil h
          exact c15 a n m) base args ds gs before hval hW))

end Go.Proofs.Ytnenlnmfoocpdaa
