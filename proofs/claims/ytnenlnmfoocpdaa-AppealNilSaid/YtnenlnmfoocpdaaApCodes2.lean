/-
  The law AppealCodes.
-/
import Derived.Test.YtnenlnmfoocpdaaApCodes
set_option linter.unusedSimpArgs false
set_option linter.unusedVariables false
namespace Go.Am.Ap
open Go.Proofs

variable {bs : List D}

theorem app_ok {xs : List Art} (hl : xs.length ≤ 1000) : D.app 4 32 (.lst []) (.lst (xs.map Art.d)) = some (.lst (xs.map Art.d)) := by
  have h1 : allCells 4 (xs.map Art.d) = true := by simp [allCells, Art.d, D.cells]
  have h2 : allCells 4 [] = true := rfl
  simp only [D.app, h1, h2]
  rw [if_pos]
  · rfl
  · simp [maxLen]; omega

theorem c56 (xs : List Art) (hl : xs.length ≤ 1000) : FSpecR Try.prog 56 (.st bs) [.lst (xs.map Art.d)] (.lst (xs.map Art.d)) := by
  refine ok56.specR rfl (by kernel_rfl) rfl ?_
  unfold Entry.t e56 t56
  simp only [List.cons_append, List.nil_append]
  cases xs with
  | nil =>
    refine ⟨.lst [], [true, false], rfl, rfl, fun b hb => ?_⟩
    simp only [List.cons_append, List.nil_append]
    rcases b with _ | _
    repeat' (first
      | ((with_reducible apply st_guard); (· rfl); (· simp only [List.cons_append, List.nil_append]; rfl); all_goals (intro h; (try simp only [Bool.not_true, Bool.not_false] at h); first | (cases h; done) | (exact absurd h (by decide)) | (exfalso; simp [IntKind.wrap, IntKind.bits, IntKind.signed] at h; done) | (exfalso; simp only [decide_eq_false_iff_not, decide_eq_true_eq] at h; omega) | (cases h) | (try rw [h])))
      | ((with_reducible apply st_cond); (· rfl); all_goals (intro h; (try simp only [Bool.not_true, Bool.not_false] at h); first | (cases h; done) | (exact absurd h (by decide)) | (exfalso; simp [IntKind.wrap, IntKind.bits, IntKind.signed] at h; done) | (exfalso; simp only [decide_eq_false_iff_not, decide_eq_true_eq] at h; omega) | (cases h) | (try rw [h])))
      | ((with_reducible apply st_callG); (· rfl); (· simp only [List.cons_append, List.nil_append]; rfl); all_goals (intro h; (try simp only [Bool.not_true, Bool.not_false] at h); first | (cases h; done) | (exact absurd h (by decide)) | (exfalso; simp [IntKind.wrap, IntKind.bits, IntKind.signed] at h; done) | (exfalso; simp only [decide_eq_false_iff_not, decide_eq_true_eq] at h; omega) | (cases h) | (try rw [h])))
      | ((with_reducible apply st_ev); (· rfl); (· simp only [List.cons_append, List.nil_append]; rfl))
      | ((with_reducible apply st_call); (· rfl); (· rfl); (· first | skip); (· rfl); (· simp only [List.cons_append, List.nil_append]; rfl))
      | (with_reducible refine st_nil ?_)
      | ((with_reducible apply st_ite); (· rfl); all_goals (intro h; (try simp only [Bool.not_true, Bool.not_false] at h); first | (cases h; done) | (exact absurd h (by decide)) | (exfalso; simp [IntKind.wrap, IntKind.bits, IntKind.signed] at h; done) | (exfalso; simp only [decide_eq_false_iff_not, decide_eq_true_eq] at h; omega) | (cases h) | skip)))
    all_goals ((with_reducible apply st_ret); (· rfl); rfl)
  | cons a xs =>
    refine ⟨.lst ((a :: xs).map Art.d), [false], rfl, rfl, fun b hb => ?_⟩
    simp only [List.cons_append, List.nil_append]
    have hb' : b = false := by simpa using hb
    subst hb'
    refine st_ite rfl (fun h => absurd h (by decide)) (fun _ => ?_)
    refine st_ev rfl (by simp only [List.cons_append, List.nil_append]; rfl) ?_
    refine st_ev (app_ok hl) (by simp only [List.cons_append, List.nil_append]; rfl) (st_nil (st_ret rfl rfl))

/-- a new court -/
def court (c : Cod) : D := .blk 99 9 [I c.cars, .lst (c.arts.map Art.d), I c.window, I c.second, I c.fee, I c.price, B true, .snil, .snil]

theorem c24n (c : Cod) (ho : okCode c = false) : FSpecW Try.prog 24 (.st bs) [c.d] (.tup [.v (.pointer none), I 2]) (.st bs) := by
  refine ok24.specW rfl (by kernel_rfl) ?_
  have k41 := c41 (bs := bs) c
  rw [ho] at k41
  unfold Entry.t e24 t24
  simp only [List.cons_append, List.nil_append]
  repeat' (first
    | ((with_reducible apply st_guard); (· rfl); (· simp only [List.cons_append, List.nil_append]; rfl); all_goals (intro h; (try simp only [Bool.not_true, Bool.not_false] at h); first | (cases h; done) | (exact absurd h (by decide)) | (exfalso; simp [IntKind.wrap, IntKind.bits, IntKind.signed] at h; done) | (exfalso; simp only [decide_eq_false_iff_not, decide_eq_true_eq] at h; omega) | (cases h) | (try rw [h])))
    | ((with_reducible apply st_cond); (· rfl); all_goals (intro h; (try simp only [Bool.not_true, Bool.not_false] at h); first | (cases h; done) | (exact absurd h (by decide)) | (exfalso; simp [IntKind.wrap, IntKind.bits, IntKind.signed] at h; done) | (exfalso; simp only [decide_eq_false_iff_not, decide_eq_true_eq] at h; omega) | (cases h) | (try rw [h])))
    | ((with_reducible apply st_callG); (· rfl); (· simp only [List.cons_append, List.nil_append]; rfl); all_goals (intro h; (try simp only [Bool.not_true, Bool.not_false] at h); first | (cases h; done) | (exact absurd h (by decide)) | (exfalso; simp [IntKind.wrap, IntKind.bits, IntKind.signed] at h; done) | (exfalso; simp only [decide_eq_false_iff_not, decide_eq_true_eq] at h; omega) | (cases h) | (try rw [h])))
    | ((with_reducible apply st_ev); (· rfl); (· simp only [List.cons_append, List.nil_append]; rfl))
    | ((with_reducible apply st_call); (· rfl); (· rfl); (· first | exact k41); (· rfl); (· simp only [List.cons_append, List.nil_append]; rfl))
    | (with_reducible refine st_nil ?_)
    | ((with_reducible apply st_ite); (· rfl); all_goals (intro h; (try simp only [Bool.not_true, Bool.not_false] at h); first | (cases h; done) | (exact absurd h (by decide)) | (exfalso; simp [IntKind.wrap, IntKind.bits, IntKind.signed] at h; done) | (exfalso; simp only [decide_eq_false_iff_not, decide_eq_true_eq] at h; omega) | (cases h) | skip)))
  all_goals ((with_reducible apply st_ret); (· rfl); rfl)

theorem c24y (c : Cod) (hl : c.arts.length ≤ 1000) (ho : okCode c = true) : FSpecW Try.prog 24 (.st []) [c.d] (.tup [.loc 0 0, I 0]) (.st [court c]) := by
  refine ok24.specW rfl (by kernel_rfl) ?_
  have k41 := c41 (bs := []) c
  rw [ho] at k41
  have k56 := c56 (bs := []) c.arts hl
  unfold Entry.t e24 t24
  simp only [List.cons_append, List.nil_append]
  repeat' (first
    | ((with_reducible apply st_guard); (· rfl); (· simp only [List.cons_append, List.nil_append]; rfl); all_goals (intro h; (try simp only [Bool.not_true, Bool.not_false] at h); first | (cases h; done) | (exact absurd h (by decide)) | (exfalso; simp [IntKind.wrap, IntKind.bits, IntKind.signed] at h; done) | (exfalso; simp only [decide_eq_false_iff_not, decide_eq_true_eq] at h; omega) | (cases h) | (try rw [h])))
    | ((with_reducible apply st_cond); (· rfl); all_goals (intro h; (try simp only [Bool.not_true, Bool.not_false] at h); first | (cases h; done) | (exact absurd h (by decide)) | (exfalso; simp [IntKind.wrap, IntKind.bits, IntKind.signed] at h; done) | (exfalso; simp only [decide_eq_false_iff_not, decide_eq_true_eq] at h; omega) | (cases h) | (try rw [h])))
    | ((with_reducible apply st_callG); (· rfl); (· simp only [List.cons_append, List.nil_append]; rfl); all_goals (intro h; (try simp only [Bool.not_true, Bool.not_false] at h); first | (cases h; done) | (exact absurd h (by decide)) | (exfalso; simp [IntKind.wrap, IntKind.bits, IntKind.signed] at h; done) | (exfalso; simp only [decide_eq_false_iff_not, decide_eq_true_eq] at h; omega) | (cases h) | (try rw [h])))
    | ((with_reducible apply st_ev); (· rfl); (· simp only [List.cons_append, List.nil_append]; rfl))
    | ((with_reducible apply st_call); (· rfl); (· rfl); (· first | exact k41 | exact k56); (· rfl); (· simp only [List.cons_append, List.nil_append]; rfl))
    | (with_reducible refine st_nil ?_)
    | ((with_reducible apply st_ite); (· rfl); all_goals (intro h; (try simp only [Bool.not_true, Bool.not_false] at h); first | (cases h; done) | (exact absurd h (by decide)) | (exfalso; simp [IntKind.wrap, IntKind.bits, IntKind.signed] at h; done) | (exfalso; simp only [decide_eq_false_iff_not, decide_eq_true_eq] at h; omega) | (cases h) | skip)))
  all_goals ((with_reducible apply st_ret); (· rfl); rfl)

theorem c61 (c : Cod) : FSpecR Try.prog 61 (.st [court c]) [.loc 0 0] (B true) := by
  refine ok61.specR rfl (by kernel_rfl) rfl ?_
  unfold Entry.t e61 t61
  simp only [List.cons_append, List.nil_append]
  repeat' (first
    | ((with_reducible apply st_guard); (· rfl); (· simp only [List.cons_append, List.nil_append]; rfl); all_goals (intro h; (try simp only [Bool.not_true, Bool.not_false] at h); first | (cases h; done) | (exact absurd h (by decide)) | (exfalso; simp [IntKind.wrap, IntKind.bits, IntKind.signed] at h; done) | (exfalso; simp only [decide_eq_false_iff_not, decide_eq_true_eq] at h; omega) | (cases h) | (try rw [h])))
    | ((with_reducible apply st_cond); (· rfl); all_goals (intro h; (try simp only [Bool.not_true, Bool.not_false] at h); first | (cases h; done) | (exact absurd h (by decide)) | (exfalso; simp [IntKind.wrap, IntKind.bits, IntKind.signed] at h; done) | (exfalso; simp only [decide_eq_false_iff_not, decide_eq_true_eq] at h; omega) | (cases h) | (try rw [h])))
    | ((with_reducible apply st_callG); (· rfl); (· simp only [List.cons_append, List.nil_append]; rfl); all_goals (intro h; (try simp only [Bool.not_true, Bool.not_false] at h); first | (cases h; done) | (exact absurd h (by decide)) | (exfalso; simp [IntKind.wrap, IntKind.bits, IntKind.signed] at h; done) | (exfalso; simp only [decide_eq_false_iff_not, decide_eq_true_eq] at h; omega) | (cases h) | (try rw [h])))
    | ((with_reducible apply st_ev); (· rfl); (· simp only [List.cons_append, List.nil_append]; rfl))
    | ((with_reducible apply st_call); (· rfl); (· rfl); (· first | skip); (· rfl); (· simp only [List.cons_append, List.nil_append]; rfl))
    | (with_reducible refine st_nil ?_)
    | ((with_reducible apply st_ite); (· rfl); all_goals (intro h; (try simp only [Bool.not_true, Bool.not_false] at h); first | (cases h; done) | (exact absurd h (by decide)) | (exfalso; simp [IntKind.wrap, IntKind.bits, IntKind.signed] at h; done) | (exfalso; simp only [decide_eq_false_iff_not, decide_eq_true_eq] at h; omega) | (cases h) | skip)))
  all_goals ((with_reducible apply st_ret); (· rfl); rfl)

theorem c29 (c : Cod) : FSpecR Try.prog 29 (.st [court c]) [.loc 0 0] (.lst []) := by
  refine ok29.specR rfl (by kernel_rfl) rfl ?_
  unfold Entry.t e29 t29
  simp only [List.cons_append, List.nil_append]
  repeat' (first
    | ((with_reducible apply st_guard); (· rfl); (· simp only [List.cons_append, List.nil_append]; rfl); all_goals (intro h; (try simp only [Bool.not_true, Bool.not_false] at h); first | (cases h; done) | (exact absurd h (by decide)) | (exfalso; simp [IntKind.wrap, IntKind.bits, IntKind.signed] at h; done) | (exfalso; simp only [decide_eq_false_iff_not, decide_eq_true_eq] at h; omega) | (cases h) | (try rw [h])))
    | ((with_reducible apply st_cond); (· rfl); all_goals (intro h; (try simp only [Bool.not_true, Bool.not_false] at h); first | (cases h; done) | (exact absurd h (by decide)) | (exfalso; simp [IntKind.wrap, IntKind.bits, IntKind.signed] at h; done) | (exfalso; simp only [decide_eq_false_iff_not, decide_eq_true_eq] at h; omega) | (cases h) | (try rw [h])))
    | ((with_reducible apply st_callG); (· rfl); (· simp only [List.cons_append, List.nil_append]; rfl); all_goals (intro h; (try simp only [Bool.not_true, Bool.not_false] at h); first | (cases h; done) | (exact absurd h (by decide)) | (exfalso; simp [IntKind.wrap, IntKind.bits, IntKind.signed] at h; done) | (exfalso; simp only [decide_eq_false_iff_not, decide_eq_true_eq] at h; omega) | (cases h) | (try rw [h])))
    | ((with_reducible apply st_ev); (· rfl); (· simp only [List.cons_append, List.nil_append]; rfl))
    | ((with_reducible apply st_call); (· rfl); (· rfl); (· first | exact c61 c); (· rfl); (· simp only [List.cons_append, List.nil_append]; rfl))
    | (with_reducible refine st_nil ?_)
    | ((with_reducible apply st_ite); (· rfl); all_goals (intro h; (try simp only [Bool.not_true, Bool.not_false] at h); first | (cases h; done) | (exact absurd h (by decide)) | (exfalso; simp [IntKind.wrap, IntKind.bits, IntKind.signed] at h; done) | (exfalso; simp only [decide_eq_false_iff_not, decide_eq_true_eq] at h; omega) | (cases h) | skip)))
  refine st_join ?_
  refine ⟨[.lst [], I 0], rfl, 1, rfl, ?_⟩
  simp only [List.cons_append, List.nil_append]
  repeat' (first
    | ((with_reducible apply st_guard); (· rfl); (· simp only [List.cons_append, List.nil_append]; rfl); all_goals (intro h; (try simp only [Bool.not_true, Bool.not_false] at h); first | (cases h; done) | (exact absurd h (by decide)) | (exfalso; simp [IntKind.wrap, IntKind.bits, IntKind.signed] at h; done) | (exfalso; simp only [decide_eq_false_iff_not, decide_eq_true_eq] at h; omega) | (cases h) | (try rw [h])))
    | ((with_reducible apply st_cond); (· rfl); all_goals (intro h; (try simp only [Bool.not_true, Bool.not_false] at h); first | (cases h; done) | (exact absurd h (by decide)) | (exfalso; simp [IntKind.wrap, IntKind.bits, IntKind.signed] at h; done) | (exfalso; simp only [decide_eq_false_iff_not, decide_eq_true_eq] at h; omega) | (cases h) | (try rw [h])))
    | ((with_reducible apply st_callG); (· rfl); (· simp only [List.cons_append, List.nil_append]; rfl); all_goals (intro h; (try simp only [Bool.not_true, Bool.not_false] at h); first | (cases h; done) | (exact absurd h (by decide)) | (exfalso; simp [IntKind.wrap, IntKind.bits, IntKind.signed] at h; done) | (exfalso; simp only [decide_eq_false_iff_not, decide_eq_true_eq] at h; omega) | (cases h) | (try rw [h])))
    | ((with_reducible apply st_ev); (· rfl); (· simp only [List.cons_append, List.nil_append]; rfl))
    | ((with_reducible apply st_call); (· rfl); (· rfl); (· first | skip); (· rfl); (· simp only [List.cons_append, List.nil_append]; rfl))
    | (with_reducible refine st_nil ?_)
    | ((with_reducible apply st_ite); (· rfl); all_goals (intro h; (try simp only [Bool.not_true, Bool.not_false] at h); first | (cases h; done) | (exact absurd h (by decide)) | (exfalso; simp [IntKind.wrap, IntKind.bits, IntKind.signed] at h; done) | (exfalso; simp only [decide_eq_false_iff_not, decide_eq_true_eq] at h; omega) | (cases h) | skip)))
  refine st_jump rfl (over_jump (by decide) (at_jump ⟨rfl, ?_⟩))
  simp only [List.cons_append, List.nil_append]
  refine st_ret rfl rfl

theorem c7 (c : Cod) (n m : Int) : ∃ h', FSpecWO Try.prog 7 (.st []) [c.d, I n, I m] (.ret (B true)) h' := by
  have k21 := c21 (bs := []) c
  cases hF : (decide ((c.arts.length : Int) ≤ 20) || (decide (500 < (c.arts.length : Int)) && decide ((c.arts.length : Int) < 600)))
  · rw [hF] at k21
    refine ⟨.st [], ok7.specW rfl (by kernel_rfl) ?_⟩
    have k16 := known_spec []
    unfold Entry.t e7 t7
    simp only [List.cons_append, List.nil_append]
    repeat' (first
      | (with_reducible refine st_join ?_)
      | ((with_reducible apply st_jump); (· rfl); refine at_jump ⟨rfl, ?_⟩; simp only [List.cons_append, List.nil_append])
      | ((with_reducible apply st_guard); (· rfl); (· simp only [List.cons_append, List.nil_append]; rfl); all_goals (intro h; (try simp only [Bool.not_true, Bool.not_false] at h); first | (cases h; done) | (exact absurd h (by decide)) | (exfalso; simp [IntKind.wrap, IntKind.bits, IntKind.signed] at h; done) | (exfalso; simp only [decide_eq_false_iff_not, decide_eq_true_eq] at h; omega) | (cases h) | (try rw [h])))
      | ((with_reducible apply st_cond); (· rfl); all_goals (intro h; (try simp only [Bool.not_true, Bool.not_false] at h); first | (cases h; done) | (exact absurd h (by decide)) | (exfalso; simp [IntKind.wrap, IntKind.bits, IntKind.signed] at h; done) | (exfalso; simp only [decide_eq_false_iff_not, decide_eq_true_eq] at h; omega) | (cases h) | (try rw [h])))
      | ((with_reducible apply st_callG); (· rfl); (· simp only [List.cons_append, List.nil_append]; rfl); all_goals (intro h; (try simp only [Bool.not_true, Bool.not_false] at h); first | (cases h; done) | (exact absurd h (by decide)) | (exfalso; simp [IntKind.wrap, IntKind.bits, IntKind.signed] at h; done) | (exfalso; simp only [decide_eq_false_iff_not, decide_eq_true_eq] at h; omega) | (cases h) | (try rw [h])))
      | ((with_reducible apply st_ev); (· rfl); (· simp only [List.cons_append, List.nil_append]; rfl))
      | ((with_reducible apply st_call); (· rfl); (· rfl); (· first | exact k21 | exact k16); (· rfl); (· simp only [List.cons_append, List.nil_append]; rfl))
      | (with_reducible refine st_nil ?_)
      | ((with_reducible apply st_ite); (· rfl); all_goals (intro h; (try simp only [Bool.not_true, Bool.not_false] at h); first | (cases h; done) | (exact absurd h (by decide)) | (exfalso; simp [IntKind.wrap, IntKind.bits, IntKind.signed] at h; done) | (exfalso; simp only [decide_eq_false_iff_not, decide_eq_true_eq] at h; omega) | (cases h) | skip)))
    all_goals first | ((with_reducible apply st_ret); (· rfl); first | (simp only [catchL]; done) | exact rfl | (simp only [catchL]; rfl)) | (exfalso; simp_all [inR]; (try omega); done)
  · have hl : c.arts.length ≤ 1000 := by simp at hF; omega
    rw [hF] at k21
    have k23 := c23 (bs := []) c
    cases ho : okCode c
    · rw [ho] at k23
      refine ⟨.st [], ok7.specW rfl (by kernel_rfl) ?_⟩
      have k24 := c24n (bs := []) c ho
      have k41 := c41 (bs := []) c
      rw [ho] at k41
      have k39 := c39 (bs := []) c n m hl
      have hv : verRes c n m = (.zero, 2) := by simp [verRes, ho]
      rw [hv] at k39
      have k16 := known_spec []
      unfold Entry.t e7 t7
      simp only [List.cons_append, List.nil_append]
      repeat' (first
        | ((with_reducible apply st_wcall); (· rfl); (· rfl); (· first | exact k24); (· rfl); (· simp only [List.cons_append, List.nil_append]; rfl))
        | (with_reducible refine st_join ?_)
        | ((with_reducible apply st_jump); (· rfl); refine at_jump ⟨rfl, ?_⟩; simp only [List.cons_append, List.nil_append])
        | ((with_reducible apply st_guard); (· rfl); (· simp only [List.cons_append, List.nil_append]; rfl); all_goals (intro h; (try simp only [Bool.not_true, Bool.not_false] at h); first | (cases h; done) | (exact absurd h (by decide)) | (exfalso; simp [IntKind.wrap, IntKind.bits, IntKind.signed] at h; done) | (exfalso; simp only [decide_eq_false_iff_not, decide_eq_true_eq] at h; omega) | (cases h) | (try rw [h])))
        | ((with_reducible apply st_cond); (· rfl); all_goals (intro h; (try simp only [Bool.not_true, Bool.not_false] at h); first | (cases h; done) | (exact absurd h (by decide)) | (exfalso; simp [IntKind.wrap, IntKind.bits, IntKind.signed] at h; done) | (exfalso; simp only [decide_eq_false_iff_not, decide_eq_true_eq] at h; omega) | (cases h) | (try rw [h])))
        | ((with_reducible apply st_callG); (· rfl); (· simp only [List.cons_append, List.nil_append]; rfl); all_goals (intro h; (try simp only [Bool.not_true, Bool.not_false] at h); first | (cases h; done) | (exact absurd h (by decide)) | (exfalso; simp [IntKind.wrap, IntKind.bits, IntKind.signed] at h; done) | (exfalso; simp only [decide_eq_false_iff_not, decide_eq_true_eq] at h; omega) | (cases h) | (try rw [h])))
        | ((with_reducible apply st_ev); (· rfl); (· simp only [List.cons_append, List.nil_append]; rfl))
        | ((with_reducible apply st_call); (· rfl); (· rfl); (· first | exact k21 | exact k23 | exact k39 | exact k41 | exact k16); (· rfl); (· simp only [List.cons_append, List.nil_append]; rfl))
        | (with_reducible refine st_nil ?_)
        | ((with_reducible apply st_ite); (· rfl); all_goals (intro h; (try simp only [Bool.not_true, Bool.not_false] at h); first | (cases h; done) | (exact absurd h (by decide)) | (exfalso; simp [IntKind.wrap, IntKind.bits, IntKind.signed] at h; done) | (exfalso; simp only [decide_eq_false_iff_not, decide_eq_true_eq] at h; omega) | (cases h) | skip)))
      all_goals first | ((with_reducible apply st_ret); (· rfl); first | (simp only [catchL]; done) | exact rfl | (simp only [catchL]; rfl)) | (exfalso; simp_all [inR]; (try omega); done)
    · rw [ho] at k23
      refine ⟨.st [court c], ok7.specW rfl (by kernel_rfl) ?_⟩
      have k24 := c24y c hl ho
      have k41 := c41 (bs := [court c]) c
      rw [ho] at k41
      have k39 := c39 (bs := [court c]) c n m hl
      have k40 := c40 (bs := [court c]) c n m hl
      have k29 := c29 c
      have k16 := known_spec [court c]
      cases hin : (inR n 1 10000 && inR m 0 10000000)
      · have hv : verRes c n m = (.zero, 2) := by unfold verRes; rw [ho, Bool.true_and, hin]; rfl
        rw [hv] at k39
        unfold Entry.t e7 t7
        simp only [List.cons_append, List.nil_append]
        repeat' (first
          | ((with_reducible apply st_wcall); (· rfl); (· rfl); (· first | exact k24); (· rfl); (· simp only [List.cons_append, List.nil_append]; rfl))
          | (with_reducible refine st_join ?_)
          | ((with_reducible apply st_jump); (· rfl); refine at_jump ⟨rfl, ?_⟩; simp only [List.cons_append, List.nil_append])
          | ((with_reducible apply st_guard); (· rfl); (· simp only [List.cons_append, List.nil_append]; rfl); all_goals (intro h; (try simp only [Bool.not_true, Bool.not_false] at h); first | (cases h; done) | (exact absurd h (by decide)) | (exfalso; simp [IntKind.wrap, IntKind.bits, IntKind.signed] at h; done) | (exfalso; simp only [decide_eq_false_iff_not, decide_eq_true_eq] at h; omega) | (cases h) | (try rw [h])))
          | ((with_reducible apply st_cond); (· rfl); all_goals (intro h; (try simp only [Bool.not_true, Bool.not_false] at h); first | (cases h; done) | (exact absurd h (by decide)) | (exfalso; simp [IntKind.wrap, IntKind.bits, IntKind.signed] at h; done) | (exfalso; simp only [decide_eq_false_iff_not, decide_eq_true_eq] at h; omega) | (cases h) | (try rw [h])))
          | ((with_reducible apply st_callG); (· rfl); (· simp only [List.cons_append, List.nil_append]; rfl); all_goals (intro h; (try simp only [Bool.not_true, Bool.not_false] at h); first | (cases h; done) | (exact absurd h (by decide)) | (exfalso; simp [IntKind.wrap, IntKind.bits, IntKind.signed] at h; done) | (exfalso; simp only [decide_eq_false_iff_not, decide_eq_true_eq] at h; omega) | (cases h) | (try rw [h])))
          | ((with_reducible apply st_ev); (· rfl); (· simp only [List.cons_append, List.nil_append]; rfl))
          | ((with_reducible apply st_call); (· rfl); (· rfl); (· first | exact k21 | exact k23 | exact k39 | exact k41 | exact k29 | exact k16); (· rfl); (· simp only [List.cons_append, List.nil_append]; rfl))
          | (with_reducible refine st_nil ?_)
          | ((with_reducible apply st_ite); (· rfl); all_goals (intro h; (try simp only [Bool.not_true, Bool.not_false] at h); first | (cases h; done) | (exact absurd h (by decide)) | (exfalso; simp [IntKind.wrap, IntKind.bits, IntKind.signed] at h; done) | (exfalso; simp only [decide_eq_false_iff_not, decide_eq_true_eq] at h; omega) | (cases h) | skip)))
        all_goals first | ((with_reducible apply st_ret); (· rfl); first | (simp only [catchL]; done) | exact rfl | (simp only [catchL]; rfl)) | (exfalso; simp_all [inR]; (try omega); done)
      · cases hA : verArt c.arts n m c.arts.length with
        | none =>
          have hv : verRes c n m = (.zero, 5) := by unfold verRes; rw [ho, Bool.true_and, hin, hA]; rfl
          rw [hv] at k39
          rw [hA] at k40
          unfold Entry.t e7 t7
          simp only [List.cons_append, List.nil_append]
          repeat' (first
            | ((with_reducible apply st_wcall); (· rfl); (· rfl); (· first | exact k24); (· rfl); (· simp only [List.cons_append, List.nil_append]; rfl))
            | (with_reducible refine st_join ?_)
            | ((with_reducible apply st_jump); (· rfl); refine at_jump ⟨rfl, ?_⟩; simp only [List.cons_append, List.nil_append])
            | ((with_reducible apply st_guard); (· rfl); (· simp only [List.cons_append, List.nil_append]; rfl); all_goals (intro h; (try simp only [Bool.not_true, Bool.not_false] at h); first | (cases h; done) | (exact absurd h (by decide)) | (exfalso; simp [IntKind.wrap, IntKind.bits, IntKind.signed] at h; done) | (exfalso; simp only [decide_eq_false_iff_not, decide_eq_true_eq] at h; omega) | (cases h) | (try rw [h])))
            | ((with_reducible apply st_cond); (· rfl); all_goals (intro h; (try simp only [Bool.not_true, Bool.not_false] at h); first | (cases h; done) | (exact absurd h (by decide)) | (exfalso; simp [IntKind.wrap, IntKind.bits, IntKind.signed] at h; done) | (exfalso; simp only [decide_eq_false_iff_not, decide_eq_true_eq] at h; omega) | (cases h) | (try rw [h])))
            | ((with_reducible apply st_callG); (· rfl); (· simp only [List.cons_append, List.nil_append]; rfl); all_goals (intro h; (try simp only [Bool.not_true, Bool.not_false] at h); first | (cases h; done) | (exact absurd h (by decide)) | (exfalso; simp [IntKind.wrap, IntKind.bits, IntKind.signed] at h; done) | (exfalso; simp only [decide_eq_false_iff_not, decide_eq_true_eq] at h; omega) | (cases h) | (try rw [h])))
            | ((with_reducible apply st_ev); (· rfl); (· simp only [List.cons_append, List.nil_append]; rfl))
            | ((with_reducible apply st_call); (· rfl); (· rfl); (· first | exact k21 | exact k23 | exact k39 | exact k40 | exact k41 | exact k29 | exact k16); (· rfl); (· simp only [List.cons_append, List.nil_append]; rfl))
            | (with_reducible refine st_nil ?_)
            | ((with_reducible apply st_ite); (· rfl); all_goals (intro h; (try simp only [Bool.not_true, Bool.not_false] at h); first | (cases h; done) | (exact absurd h (by decide)) | (exfalso; simp [IntKind.wrap, IntKind.bits, IntKind.signed] at h; done) | (exfalso; simp only [decide_eq_false_iff_not, decide_eq_true_eq] at h; omega) | (cases h) | skip)))
          all_goals first | ((with_reducible apply st_ret); (· rfl); first | (simp only [catchL]; done) | exact rfl | (simp only [catchL]; rfl)) | (exfalso; simp_all [inR]; (try omega); done)
        | some a =>
          have hv : verRes c n m = (a, 0) := by unfold verRes; rw [ho, Bool.true_and, hin, hA]; rfl
          rw [hv] at k39
          rw [hA] at k40
          unfold Entry.t e7 t7
          simp only [List.cons_append, List.nil_append]
          repeat' (first
            | ((with_reducible apply st_wcall); (· rfl); (· rfl); (· first | exact k24); (· rfl); (· simp only [List.cons_append, List.nil_append]; rfl))
            | (with_reducible refine st_join ?_)
            | ((with_reducible apply st_jump); (· rfl); refine at_jump ⟨rfl, ?_⟩; simp only [List.cons_append, List.nil_append])
            | ((with_reducible apply st_guard); (· rfl); (· simp only [List.cons_append, List.nil_append]; rfl); all_goals (intro h; (try simp only [Bool.not_true, Bool.not_false] at h); first | (cases h; done) | (exact absurd h (by decide)) | (exfalso; simp [IntKind.wrap, IntKind.bits, IntKind.signed] at h; done) | (exfalso; simp only [decide_eq_false_iff_not, decide_eq_true_eq] at h; omega) | (cases h) | (try rw [h])))
            | ((with_reducible apply st_cond); (· rfl); all_goals (intro h; (try simp only [Bool.not_true, Bool.not_false] at h); first | (cases h; done) | (exact absurd h (by decide)) | (exfalso; simp [IntKind.wrap, IntKind.bits, IntKind.signed] at h; done) | (exfalso; simp only [decide_eq_false_iff_not, decide_eq_true_eq] at h; omega) | (cases h) | (try rw [h])))
            | ((with_reducible apply st_callG); (· rfl); (· simp only [List.cons_append, List.nil_append]; rfl); all_goals (intro h; (try simp only [Bool.not_true, Bool.not_false] at h); first | (cases h; done) | (exact absurd h (by decide)) | (exfalso; simp [IntKind.wrap, IntKind.bits, IntKind.signed] at h; done) | (exfalso; simp only [decide_eq_false_iff_not, decide_eq_true_eq] at h; omega) | (cases h) | (try rw [h])))
            | ((with_reducible apply st_ev); (· rfl); (· simp only [List.cons_append, List.nil_append]; rfl))
            | ((with_reducible apply st_call); (· rfl); (· rfl); (· first | exact k21 | exact k23 | exact k39 | exact k40 | exact k41 | exact k29 | exact k16); (· rfl); (· simp only [List.cons_append, List.nil_append]; rfl))
            | (with_reducible refine st_nil ?_)
            | ((with_reducible apply st_ite); (· rfl); all_goals (intro h; (try simp only [Bool.not_true, Bool.not_false] at h); first | (cases h; done) | (exact absurd h (by decide)) | (exfalso; simp [IntKind.wrap, IntKind.bits, IntKind.signed] at h; done) | (exfalso; simp only [decide_eq_false_iff_not, decide_eq_true_eq] at h; omega) | (cases h) | skip)))
          all_goals first | ((with_reducible apply st_ret); (· rfl); first | (simp only [catchL]; done) | exact rfl | (simp only [catchL]; rfl)) | (exfalso; simp_all [inR]; (try omega); done)

end Go.Am.Ap
