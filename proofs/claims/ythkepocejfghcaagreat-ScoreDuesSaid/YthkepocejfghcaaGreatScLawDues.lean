/-
  ScoreDues holds.
-/
import Derived.Test.YthkepocejfghcaaGreatRows
import Derived.Test.YthkepocejfghcaaGreatScLentoScAct
import Derived.Test.YthkepocejfghcaaGreatScC1toScD4
set_option linter.unusedSimpArgs false
set_option linter.unusedVariables false
namespace Go.Proofs.YthkepocejfghcaaGreat
open Go.Am Go.Am.Sc

theorem argsOf {dd : List D} (h : ArgsSh [Sc.shPlan, Sc.shCard, .int .i64] dd) : ∃ (y0 : Plan) (y1 : Card) (y2 : Int), dd = [y0.d, y1.d, I y2] ∧ Plan.Ok y0 ∧ Card.Ok y1 ∧ i64 y2 := by
  obtain ⟨x0, _, rfl, h0, x1, _, rfl, h1, x2, _, rfl, h2, rfl⟩ := h
  obtain ⟨y0, rfl, k0⟩ := argPlan h0
  obtain ⟨y1, rfl, k1⟩ := argCard h1
  obtain ⟨y2, rfl, k2⟩ := argInt h2
  exact ⟨y0, y1, y2, rfl, k0, k1, k2⟩

theorem own : ownKnob Tryz.prog.godebug = none := by kernel_rfl

set_option maxRecDepth 100000 in
theorem proved : Rows.ScoreDuesSaid :=
  OpenClaim.holds_of_wide 9 Tryz.f9 rfl rfl rfl rfl rfl rfl rfl ⟨rfl, rfl, rfl, rfl, rfl⟩ rfl rfl rfl rfl rfl (by kernel_rfl) Tryz.func9 (by kernel_rfl) (of_decide_eq_true (by kernel_rfl)) (by unfold Func.isWrapper; first | (rw [if_pos (by decide +kernel)]; kernel_rfl) | (rw [if_neg (by decide +kernel)]; exact ⟨rfl, rfl⟩))
    (fun _ started _ _ _ => returnsInHanded_of_change (C := Tryz.checked) own started (by kernel_rfl) Tryz.func9
      (ChangeSpec.witness6 false ⟨#[], #[.agg #[.slice none 0 0, .int .i64 0, .int .i64 0, .int .i64 0, .int .i64 0, .int .i64 0, .slice none 0 0, .bool false, .int .i64 0, .int .i64 0, .int .i64 0, .int .i64 0, .slice none 0 0, .slice none 0 0], .agg #[.int .i64 0, .slice none 0 0, .slice none 0 0], .int .i64 0], []⟩ 8 (by kernel_rfl) (by kernel_rfl) (by kernel_rfl) (by kernel_rfl))
      (fun _ base args ds gs before hval hW _ _ => law_contract (fn := Tryz.f9) (s := Rows.scoreDuesSpec) (n := 8) (shs := [Sc.shPlan, Sc.shCard, .int .i64]) (by kernel_rfl) (by kernel_rfl) rfl rfl (by kernel_rfl) (by kernel_rfl)
        (fun ds h => by
          match ds, h with
          | [_, _, _], _ => rfl)
        (fun dd h => by
          obtain ⟨y0, y1, y2, rfl, k0, k1, k2⟩ := argsOf h
          exact ⟨_, c9 (known_spec _) k0 k1 y2⟩) base args ds gs before hval hW))

end Go.Proofs.YthkepocejfghcaaGreat
