/-
  ScoreLater holds.
-/
import Derived.Test.YthkepocejfghcaaGreatRows
import Derived.Test.YthkepocejfghcaaGreatScLentoScAct
import Derived.Test.YthkepocejfghcaaGreatScG3toScL11
set_option linter.unusedSimpArgs false
set_option linter.unusedVariables false
namespace Go.Proofs.YthkepocejfghcaaGreat
open Go.Am Go.Am.Sc

theorem argsOf {dd : List D} (h : ArgsSh [Sc.shPlan, (.sl Sc.shCard), .int .i64, .int .i64] dd) : ∃ (y0 : Plan) (y1 : List Card) (y2 : Int) (y3 : Int), dd = [y0.d, Cards y1, I y2, I y3] ∧ Plan.Ok y0 ∧ CardsOk y1 ∧ i64 y2 ∧ i64 y3 := by
  obtain ⟨x0, _, rfl, h0, x1, _, rfl, h1, x2, _, rfl, h2, x3, _, rfl, h3, rfl⟩ := h
  obtain ⟨y0, rfl, k0⟩ := argPlan h0
  obtain ⟨y1, rfl, k1⟩ := argCards h1
  obtain ⟨y2, rfl, k2⟩ := argInt h2
  obtain ⟨y3, rfl, k3⟩ := argInt h3
  exact ⟨y0, y1, y2, y3, rfl, k0, k1, k2, k3⟩

theorem own : ownKnob Tryz.prog.godebug = none := by kernel_rfl

set_option maxRecDepth 100000 in
theorem proved : Rows.ScoreLaterSaid :=
  OpenClaim.holds_of_wide 11 Tryz.f11 rfl rfl rfl rfl rfl rfl rfl ⟨rfl, rfl, rfl, rfl, rfl⟩ rfl rfl rfl rfl rfl (by kernel_rfl) Tryz.func11 (by kernel_rfl) (of_decide_eq_true (by kernel_rfl)) (by unfold Func.isWrapper; first | (rw [if_pos (by decide +kernel)]; kernel_rfl) | (rw [if_neg (by decide +kernel)]; exact ⟨rfl, rfl⟩))
    (fun _ started _ _ _ => returnsInHanded_of_change (C := Tryz.checked) own started (by kernel_rfl) Tryz.func11
      (ChangeSpec.witness6 false ⟨#[], #[.agg #[.slice none 0 0, .int .i64 0, .int .i64 0, .int .i64 0, .int .i64 0, .int .i64 0, .slice none 0 0, .bool false, .int .i64 0, .int .i64 0, .int .i64 0, .int .i64 0, .slice none 0 0, .slice none 0 0], .slice none 0 0, .int .i64 0, .int .i64 0], []⟩ 8 (by kernel_rfl) (by kernel_rfl) (by kernel_rfl) (by kernel_rfl))
      (fun _ base args ds gs before hval hW _ _ => law_contract (fn := Tryz.f11) (s := Rows.scoreLaterSpec) (n := 8) (shs := [Sc.shPlan, (.sl Sc.shCard), .int .i64, .int .i64]) (by kernel_rfl) (by kernel_rfl) rfl rfl (by kernel_rfl) (by kernel_rfl)
        (fun ds h => by
          match ds, h with
          | [_, _, _, _], _ => rfl)
        (fun dd h => by
          obtain ⟨y0, y1, y2, y3, rfl, k0, k1, k2, k3⟩ := argsOf h
          exact c11 (fun _ => known_spec _) k0 k1 y2 y3) base args ds gs before hval hW))

end Go.Proofs.YthkepocejfghcaaGreat
