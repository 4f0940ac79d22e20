/-
  A nil court, and the zero one.
-/
import Derived.Test.YtnenlnmfoocpdaaApTabN
import Derived.Test.YtnenlnmfoocpdaaApAct
set_option linter.unusedSimpArgs false
set_option linter.unusedVariables false
namespace Go.Am.Ap
open Go.Proofs

noncomputable def tabNil : Tab := [e51, e49, e31, e45, e47, e29] ++ tabKnown

theorem tabNil_ok : ∀ e, e ∈ tabNil → EntOk Try.prog e := by
  intro e he
  simp only [tabNil, List.cons_append, List.nil_append, List.mem_cons] at he
  rcases he with rfl | rfl | rfl | rfl | rfl | rfl | he
  · exact ok51
  · exact ok49
  · exact ok31
  · exact ok45
  · exact ok47
  · exact ok29
  · exact tabKnown_ok e he

/-- what a call of Do leaves in the store that does nothing -/
def left1 : List D := [.blk 3 1 [I 0], .blk 24 1 [I 1]]

theorem c51nil (a : Act) (n m : Int) : FSpecWO Try.prog 51 (.st []) [.v (.pointer none), a.d, I n, I m] (.ret (B true)) (.st left1) :=
  (runOrc_ok (n := 50) tabNil_ok 8).W 51 (.st []) _ _ _ (by kernel_rfl)

/-- the zero court -/
def zeroCourt : D := .ptr [I 0, .lst [], I 0, I 0, I 0, I 0, B false, .lst [], .lst []]

theorem c51zero (a : Act) (n m : Int) : FSpecWO Try.prog 51 (.st left1) [zeroCourt, a.d, I n, I m] (.ret (B true)) (.st (left1 ++ left1)) :=
  (runOrc_ok (n := 50) tabNil_ok 8).W 51 (.st left1) _ _ _ (by kernel_rfl)

theorem c15 (a : Act) (n m : Int) : ∃ h', FSpecWO Try.prog 15 (.st []) [a.d, I n, I m] (.ret (B true)) h' := by
  cases hF : decide (25 < (a.facts.length : Int))
  · refine ⟨.st (left1 ++ left1), ok15.specW rfl (by kernel_rfl) ?_⟩
    have k1 := c51nil a n m
    have k2 := c51zero a n m
    have k3 := known_spec (left1 ++ left1)
    unfold Entry.t e15 t15
    simp only [List.cons_append, List.nil_append]
    refine st_ev rfl (by simp only [List.cons_append, List.nil_append]; rfl) ?_
    refine st_ev rfl (by simp only [List.cons_append, List.nil_append]; rfl) ?_
    refine st_ev (d := B false) ?_ (by simp only [List.cons_append, List.nil_append]; rfl) ?_
    · refine Eq.trans ?_ (congrArg (fun b => some (B b)) hF)
      simp only [List.length_map]
      rfl
    repeat' (first
      | ((with_reducible apply st_wcallA); (· rfl); (· rfl); (· simp only [List.cons_append, List.nil_append]; rfl); all_goals (intro h; first | (cases h; done) | skip))
      | ((with_reducible apply st_callA); (· rfl); (· simp only [List.cons_append, List.nil_append]; rfl); all_goals (intro h; first | (cases h; done) | skip))
      | ((with_reducible apply st_ev); (· rfl); (· simp only [List.cons_append, List.nil_append]; rfl))
      | ((with_reducible apply st_wcall); (· rfl); (· rfl); (· first | exact k1 | exact k2); (· rfl); (· simp only [List.cons_append, List.nil_append]; rfl))
      | ((with_reducible apply st_call); (· rfl); (· rfl); (· first | exact k3); (· rfl); (· simp only [List.cons_append, List.nil_append]; rfl))
      | (with_reducible refine st_nil ?_)
      | (exact st_ret rfl rfl))
  · refine ⟨.st [], ok15.specW rfl (by kernel_rfl) ?_⟩
    unfold Entry.t e15 t15
    simp only [List.cons_append, List.nil_append]
    refine st_ev rfl (by simp only [List.cons_append, List.nil_append]; rfl) ?_
    refine st_ev rfl (by simp only [List.cons_append, List.nil_append]; rfl) ?_
    refine st_ev (d := B true) ?_ (by simp only [List.cons_append, List.nil_append]; rfl) ?_
    · refine Eq.trans ?_ (congrArg (fun b => some (B b)) hF)
      simp only [List.length_map]
      rfl
    repeat' (first
      | ((with_reducible apply st_wcallA); (· rfl); (· rfl); (· simp only [List.cons_append, List.nil_append]; rfl); all_goals (intro h; first | (cases h; done) | skip))
      | ((with_reducible apply st_callA); (· rfl); (· simp only [List.cons_append, List.nil_append]; rfl); all_goals (intro h; first | (cases h; done) | skip))
      | ((with_reducible apply st_ev); (· rfl); (· simp only [List.cons_append, List.nil_append]; rfl))
      | ((with_reducible apply st_wcall); (· rfl); (· rfl); (· first | skip); (· rfl); (· simp only [List.cons_append, List.nil_append]; rfl))
      | ((with_reducible apply st_call); (· rfl); (· rfl); (· first | skip); (· rfl); (· simp only [List.cons_append, List.nil_append]; rfl))
      | (with_reducible refine st_nil ?_)
      | (exact st_ret rfl rfl))

end Go.Am.Ap
