/-
  Several texts, one behind the other.
-/
import Derived.Test.YtnenlnmfoocpdaaApCodes
import Derived.Test.YtnenlnmfoocpdaaAmFntoAmSt2
import Derived.Test.YtnenlnmfoocpdaaApU3toApKnown
set_option linter.unusedSimpArgs false
set_option linter.unusedVariables false
/-
  The law AppealCodes.
-/
namespace Go.Am.Ap
open Go.Proofs

variable {bs : List D}

theorem app_ok {xs : List Art} (hl : xs.length ≤ 1000) : D.app 4 32 (.lst []) (.lst (xs.map Art.d)) = some (.lst (xs.map Art.d)) := by
  have h1 : allCells 4 (xs.map Art.d) = true := by simp [allCells, Art.d, D.cells]
  have h2 : allCells 4 [] = true := rfl
  simp only [D.app, h1, h2]
  rw [if_pos]
  · rfl
  · simp [maxLen]; omega

theorem c56 (xs : List Art) (hl : xs.length ≤ 1000) : FSpecR Try.prog 56 (.st bs) [.lst (xs.map Art.d)] (.lst (xs.map Art.d)) := by
  refine ok56.specR rfl (by kernel_rfl) rfl ?_
  unfold Entry.t e56 t56
  simp only [List.cons_append, List.nil_append]
  cases xs with
  | nil =>
    refine ⟨.lst [], [true, false], rfl, rfl, fun b hb => ?_⟩
    simp only [List.cons_append, List.nil_append]
    rcases b with _ | _
    repeat' (first
      | ((with_reducible apply st_guard); (· rfl); (· simp only [sbe]; rfl); all_goals (intro h; (try simp only [Bool.not_true, Bool.not_false] at h); first | (cases h; done) | (exact absurd h (by decide)) | (exfalso; simp [IntKind.wrap, IntKind.bits, IntKind.signed] at h; done) | (exfalso; simp only [decide_eq_false_iff_not, decide_eq_true_eq] at h; omega) | (cases h) | (try rw [h])))
      | ((with_reducible apply st_cond); (· rfl); all_goals (intro h; (try simp only [Bool.not_true, Bool.not_false] at h); first | (cases h; done) | (exact absurd h (by decide)) | (exfalso; simp [IntKind.wrap, IntKind.bits, IntKind.signed] at h; done) | (exfalso; simp only [decide_eq_false_iff_not, decide_eq_true_eq] at h; omega) | (cases h) | (try rw [h])))
      | ((with_reducible apply st_callG); (· rfl); (· simp only [sbe]; rfl); all_goals (intro h; (try simp only [Bool.not_true, Bool.not_false] at h); first | (cases h; done) | (exact absurd h (by decide)) | (exfalso; simp [IntKind.wrap, IntKind.bits, IntKind.signed] at h; done) | (exfalso; simp only [decide_eq_false_iff_not, decide_eq_true_eq] at h; omega) | (cases h) | (try rw [h])))
      | ((with_reducible apply st_ev); (· rfl); (· simp only [sbe]; rfl))
      | ((with_reducible apply st_call); (· rfl); (· rfl); (· first | skip); (· rfl); (· simp only [sbe]; rfl))
      | (with_reducible refine st_nil ?_)
      | ((with_reducible apply st_ite); (· rfl); all_goals (intro h; (try simp only [Bool.not_true, Bool.not_false] at h); first | (cases h; done) | (exact absurd h (by decide)) | (exfalso; simp [IntKind.wrap, IntKind.bits, IntKind.signed] at h; done) | (exfalso; simp only [decide_eq_false_iff_not, decide_eq_true_eq] at h; omega) | (cases h) | skip)))
    all_goals ((with_reducible apply st_ret); (· rfl); rfl)
  | cons a xs =>
    refine ⟨.lst ((a :: xs).map Art.d), [false], rfl, rfl, fun b hb => ?_⟩
    simp only [List.cons_append, List.nil_append]
    have hb' : b = false := by simpa using hb
    subst hb'
    refine st_ite rfl (fun h => absurd h (by decide)) (fun _ => ?_)
    refine st_ev rfl (by simp only [sbe]; rfl) ?_
    refine st_ev (app_ok hl) (by simp only [sbe]; rfl) (st_nil (st_ret rfl rfl))

def court (c : Cod) : D := .blk 99 9 [I c.cars, .lst (c.arts.map Art.d), I c.window, I c.second, I c.fee, I c.price, B true, .snil, .snil]

theorem c24n (c : Cod) (ho : okCode c = false) : FSpecW Try.prog 24 (.st bs) [c.d] (.tup [.v (.pointer none), I 2]) (.st bs) := by
  refine ok24.specW rfl (by kernel_rfl) ?_
  have k41 := c41 (bs := bs) c
  rw [ho] at k41
  unfold Entry.t e24 t24
  simp only [List.cons_append, List.nil_append]
  repeat' (first
    | ((with_reducible apply st_guard); (· rfl); (· simp only [sbe]; rfl); all_goals (intro h; (try simp only [Bool.not_true, Bool.not_false] at h); first | (cases h; done) | (exact absurd h (by decide)) | (exfalso; simp [IntKind.wrap, IntKind.bits, IntKind.signed] at h; done) | (exfalso; simp only [decide_eq_false_iff_not, decide_eq_true_eq] at h; omega) | (cases h) | (try rw [h])))
    | ((with_reducible apply st_cond); (· rfl); all_goals (intro h; (try simp only [Bool.not_true, Bool.not_false] at h); first | (cases h; done) | (exact absurd h (by decide)) | (exfalso; simp [IntKind.wrap, IntKind.bits, IntKind.signed] at h; done) | (exfalso; simp only [decide_eq_false_iff_not, decide_eq_true_eq] at h; omega) | (cases h) | (try rw [h])))
    | ((with_reducible apply st_callG); (· rfl); (· simp only [sbe]; rfl); all_goals (intro h; (try simp only [Bool.not_true, Bool.not_false] at h); first | (cases h; done) | (exact absurd h (by decide)) | (exfalso; simp [IntKind.wrap, IntKind.bits, IntKind.signed] at h; done) | (exfalso; simp only [decide_eq_false_iff_not, decide_eq_true_eq] at h; omega) | (cases h) | (try rw [h])))
    | ((with_reducible apply st_ev); (· rfl); (· simp only [sbe]; rfl))
    | ((with_reducible apply st_call); (· rfl); (· rfl); (· first | exact k41); (· rfl); (· simp only [sbe]; rfl))
    | (with_reducible refine st_nil ?_)
    | ((with_reducible apply st_ite); (· rfl); all_goals (intro h; (try simp only [Bool.not_true, Bool.not_false] at h); first | (cases h; done) | (exact absurd h (by decide)) | (exfalso; simp [IntKind.wrap, IntKind.bits, IntKind.signed] at h; done) | (exfalso; simp only [decide_eq_false_iff_not, decide_eq_true_eq] at h; omega) | (cases h) | skip)))
  all_goals ((with_reducible apply st_ret); (· rfl); rfl)

theorem c24y (c : Cod) (hl : c.arts.length ≤ 1000) (ho : okCode c = true) : FSpecW Try.prog 24 (.st []) [c.d] (.tup [.loc 0 0, I 0]) (.st [court c]) := by
  refine ok24.specW rfl (by kernel_rfl) ?_
  have k41 := c41 (bs := []) c
  rw [ho] at k41
  have k56 := c56 (bs := []) c.arts hl
  unfold Entry.t e24 t24
  simp only [List.cons_append, List.nil_append]
  repeat' (first
    | ((with_reducible apply st_guard); (· rfl); (· simp only [sbe]; rfl); all_goals (intro h; (try simp only [Bool.not_true, Bool.not_false] at h); first | (cases h; done) | (exact absurd h (by decide)) | (exfalso; simp [IntKind.wrap, IntKind.bits, IntKind.signed] at h; done) | (exfalso; simp only [decide_eq_false_iff_not, decide_eq_true_eq] at h; omega) | (cases h) | (try rw [h])))
    | ((with_reducible apply st_cond); (· rfl); all_goals (intro h; (try simp only [Bool.not_true, Bool.not_false] at h); first | (cases h; done) | (exact absurd h (by decide)) | (exfalso; simp [IntKind.wrap, IntKind.bits, IntKind.signed] at h; done) | (exfalso; simp only [decide_eq_false_iff_not, decide_eq_true_eq] at h; omega) | (cases h) | (try rw [h])))
    | ((with_reducible apply st_callG); (· rfl); (· simp only [sbe]; rfl); all_goals (intro h; (try simp only [Bool.not_true, Bool.not_false] at h); first | (cases h; done) | (exact absurd h (by decide)) | (exfalso; simp [IntKind.wrap, IntKind.bits, IntKind.signed] at h; done) | (exfalso; simp only [decide_eq_false_iff_not, decide_eq_true_eq] at h; omega) | (cases h) | (try rw [h])))
    | ((with_reducible apply st_ev); (· rfl); (· simp only [sbe]; rfl))
    | ((with_reducible apply st_call); (· rfl); (· rfl); (· first | exact k41 | exact k56); (· rfl); (· simp only [sbe]; rfl))
    | (with_reducible refine st_nil ?_)
    | ((with_reducible apply st_ite); (· rfl); all_goals (intro h; (try simp only [Bool.not_true, Bool.not_false] at h); first | (cases h; done) | (exact absurd h (by decide)) | (exfalso; simp [IntKind.wrap, IntKind.bits, IntKind.signed] at h; done) | (exfalso; simp only [decide_eq_false_iff_not, decide_eq_true_eq] at h; omega) | (cases h) | skip)))
  all_goals ((with_reducible apply st_ret); (· rfl); rfl)

theorem c61 (c : Cod) : FSpecR Try.prog 61 (.st [court c]) [.loc 0 0] (B true) := by
  refine ok61.specR rfl (by kernel_rfl) rfl ?_
  unfold Entry.t e61 t61
  simp only [List.cons_append, List.nil_append]
  repeat' (first
    | ((with_reducible apply st_guard); (· rfl); (· simp only [sbe]; rfl); all_goals (intro h; (try simp only [Bool.not_true, Bool.not_false] at h); first | (cases h; done) | (exact absurd h (by decide)) | (exfalso; simp [IntKind.wrap, IntKind.bits, IntKind.signed] at h; done) | (exfalso; simp only [decide_eq_false_iff_not, decide_eq_true_eq] at h; omega) | (cases h) | (try rw [h])))
    | ((with_reducible apply st_cond); (· rfl); all_goals (intro h; (try simp only [Bool.not_true, Bool.not_false] at h); first | (cases h; done) | (exact absurd h (by decide)) | (exfalso; simp [IntKind.wrap, IntKind.bits, IntKind.signed] at h; done) | (exfalso; simp only [decide_eq_false_iff_not, decide_eq_true_eq] at h; omega) | (cases h) | (try rw [h])))
    | ((with_reducible apply st_callG); (· rfl); (· simp only [sbe]; rfl); all_goals (intro h; (try simp only [Bool.not_true, Bool.not_false] at h); first | (cases h; done) | (exact absurd h (by decide)) | (exfalso; simp [IntKind.wrap, IntKind.bits, IntKind.signed] at h; done) | (exfalso; simp only [decide_eq_false_iff_not, decide_eq_true_eq] at h; omega) | (cases h) | (try rw [h])))
    | ((with_reducible apply st_ev); (· rfl); (· simp only [sbe]; rfl))
    | ((with_reducible apply st_call); (· rfl); (· rfl); (· first | skip); (· rfl); (· simp only [sbe]; rfl))
    | (with_reducible refine st_nil ?_)
    | ((with_reducible apply st_ite); (· rfl); all_goals (intro h; (try simp only [Bool.not_true, Bool.not_false] at h); first | (cases h; done) | (exact absurd h (by decide)) | (exfalso; simp [IntKind.wrap, IntKind.bits, IntKind.signed] at h; done) | (exfalso; simp only [decide_eq_false_iff_not, decide_eq_true_eq] at h; omega) | (cases h) | skip)))
  all_goals ((with_reducible apply st_ret); (· rfl); rfl)

theorem c29 (c : Cod) : FSpecR Try.prog 29 (.st [court c]) [.loc 0 0] (.lst []) := by
  refine ok29.specR rfl (by kernel_rfl) rfl ?_
  unfold Entry.t e29 t29
  simp only [List.cons_append, List.nil_append]
  repeat' (first
    | ((with_reducible apply st_guard); (· rfl); (· simp only [sbe]; rfl); all_goals (intro h; (try simp only [Bool.not_true, Bool.not_false] at h); first | (cases h; done) | (exact absurd h (by decide)) | (exfalso; simp [IntKind.wrap, IntKind.bits, IntKind.signed] at h; done) | (exfalso; simp only [decide_eq_false_iff_not, decide_eq_true_eq] at h; omega) | (cases h) | (try rw [h])))
    | ((with_reducible apply st_cond); (· rfl); all_goals (intro h; (try simp only [Bool.not_true, Bool.not_false] at h); first | (cases h; done) | (exact absurd h (by decide)) | (exfalso; simp [IntKind.wrap, IntKind.bits, IntKind.signed] at h; done) | (exfalso; simp only [decide_eq_false_iff_not, decide_eq_true_eq] at h; omega) | (cases h) | (try rw [h])))
    | ((with_reducible apply st_callG); (· rfl); (· simp only [sbe]; rfl); all_goals (intro h; (try simp only [Bool.not_true, Bool.not_false] at h); first | (cases h; done) | (exact absurd h (by decide)) | (exfalso; simp [IntKind.wrap, IntKind.bits, IntKind.signed] at h; done) | (exfalso; simp only [decide_eq_false_iff_not, decide_eq_true_eq] at h; omega) | (cases h) | (try rw [h])))
    | ((with_reducible apply st_ev); (· rfl); (· simp only [sbe]; rfl))
    | ((with_reducible apply st_call); (· rfl); (· rfl); (· first | exact c61 c); (· rfl); (· simp only [sbe]; rfl))
    | (with_reducible refine st_nil ?_)
    | ((with_reducible apply st_ite); (· rfl); all_goals (intro h; (try simp only [Bool.not_true, Bool.not_false] at h); first | (cases h; done) | (exact absurd h (by decide)) | (exfalso; simp [IntKind.wrap, IntKind.bits, IntKind.signed] at h; done) | (exfalso; simp only [decide_eq_false_iff_not, decide_eq_true_eq] at h; omega) | (cases h) | skip)))
  refine st_join ?_
  refine ⟨[.lst [], I 0], rfl, 1, rfl, ?_⟩
  simp only [List.cons_append, List.nil_append]
  repeat' (first
    | ((with_reducible apply st_guard); (· rfl); (· simp only [sbe]; rfl); all_goals (intro h; (try simp only [Bool.not_true, Bool.not_false] at h); first | (cases h; done) | (exact absurd h (by decide)) | (exfalso; simp [IntKind.wrap, IntKind.bits, IntKind.signed] at h; done) | (exfalso; simp only [decide_eq_false_iff_not, decide_eq_true_eq] at h; omega) | (cases h) | (try rw [h])))
    | ((with_reducible apply st_cond); (· rfl); all_goals (intro h; (try simp only [Bool.not_true, Bool.not_false] at h); first | (cases h; done) | (exact absurd h (by decide)) | (exfalso; simp [IntKind.wrap, IntKind.bits, IntKind.signed] at h; done) | (exfalso; simp only [decide_eq_false_iff_not, decide_eq_true_eq] at h; omega) | (cases h) | (try rw [h])))
    | ((with_reducible apply st_callG); (· rfl); (· simp only [sbe]; rfl); all_goals (intro h; (try simp only [Bool.not_true, Bool.not_false] at h); first | (cases h; done) | (exact absurd h (by decide)) | (exfalso; simp [IntKind.wrap, IntKind.bits, IntKind.signed] at h; done) | (exfalso; simp only [decide_eq_false_iff_not, decide_eq_true_eq] at h; omega) | (cases h) | (try rw [h])))
    | ((with_reducible apply st_ev); (· rfl); (· simp only [sbe]; rfl))
    | ((with_reducible apply st_call); (· rfl); (· rfl); (· first | skip); (· rfl); (· simp only [sbe]; rfl))
    | (with_reducible refine st_nil ?_)
    | ((with_reducible apply st_ite); (· rfl); all_goals (intro h; (try simp only [Bool.not_true, Bool.not_false] at h); first | (cases h; done) | (exact absurd h (by decide)) | (exfalso; simp [IntKind.wrap, IntKind.bits, IntKind.signed] at h; done) | (exfalso; simp only [decide_eq_false_iff_not, decide_eq_true_eq] at h; omega) | (cases h) | skip)))
  refine st_jump rfl (over_jump (by decide) (at_jump ⟨rfl, ?_⟩))
  simp only [List.cons_append, List.nil_append]
  refine st_ret rfl rfl

theorem c7 (c : Cod) (n m : Int) : ∃ h', FSpecWO Try.prog 7 (.st []) [c.d, I n, I m] (.ret (B true)) h' := by
  have k21 := c21 (bs := []) c
  cases hF : (decide ((c.arts.length : Int) ≤ 20) || (decide (500 < (c.arts.length : Int)) && decide ((c.arts.length : Int) < 600)))
  · rw [hF] at k21
    refine ⟨.st [], ok7.specW rfl (by kernel_rfl) ?_⟩
    have k16 := known_spec []
    unfold Entry.t e7 t7
    simp only [List.cons_append, List.nil_append]
    repeat' (first
      | (with_reducible refine st_join ?_)
      | ((with_reducible apply st_jump); (· rfl); refine at_jump ⟨rfl, ?_⟩; simp only [List.cons_append, List.nil_append])
      | ((with_reducible apply st_guard); (· rfl); (· simp only [sbe]; rfl); all_goals (intro h; (try simp only [Bool.not_true, Bool.not_false] at h); first | (cases h; done) | (exact absurd h (by decide)) | (exfalso; simp [IntKind.wrap, IntKind.bits, IntKind.signed] at h; done) | (exfalso; simp only [decide_eq_false_iff_not, decide_eq_true_eq] at h; omega) | (cases h) | (try rw [h])))
      | ((with_reducible apply st_cond); (· rfl); all_goals (intro h; (try simp only [Bool.not_true, Bool.not_false] at h); first | (cases h; done) | (exact absurd h (by decide)) | (exfalso; simp [IntKind.wrap, IntKind.bits, IntKind.signed] at h; done) | (exfalso; simp only [decide_eq_false_iff_not, decide_eq_true_eq] at h; omega) | (cases h) | (try rw [h])))
      | ((with_reducible apply st_callG); (· rfl); (· simp only [sbe]; rfl); all_goals (intro h; (try simp only [Bool.not_true, Bool.not_false] at h); first | (cases h; done) | (exact absurd h (by decide)) | (exfalso; simp [IntKind.wrap, IntKind.bits, IntKind.signed] at h; done) | (exfalso; simp only [decide_eq_false_iff_not, decide_eq_true_eq] at h; omega) | (cases h) | (try rw [h])))
      | ((with_reducible apply st_ev); (· rfl); (· simp only [sbe]; rfl))
      | ((with_reducible apply st_call); (· rfl); (· rfl); (· first | exact k21 | exact k16); (· rfl); (· simp only [sbe]; rfl))
      | (with_reducible refine st_nil ?_)
      | ((with_reducible apply st_ite); (· rfl); all_goals (intro h; (try simp only [Bool.not_true, Bool.not_false] at h); first | (cases h; done) | (exact absurd h (by decide)) | (exfalso; simp [IntKind.wrap, IntKind.bits, IntKind.signed] at h; done) | (exfalso; simp only [decide_eq_false_iff_not, decide_eq_true_eq] at h; omega) | (cases h) | skip)))
    all_goals first | ((with_reducible apply st_ret); (· rfl); first | (simp only [catchL]; done) | exact rfl | (simp only [catchL]; rfl)) | (exfalso; simp_all [inR]; (try omega); done)
  · have hl : c.arts.length ≤ 1000 := by simp at hF; omega
    rw [hF] at k21
    have k23 := c23 (bs := []) c
    cases ho : okCode c
    · rw [ho] at k23
      refine ⟨.st [], ok7.specW rfl (by kernel_rfl) ?_⟩
      have k24 := c24n (bs := []) c ho
      have k41 := c41 (bs := []) c
      rw [ho] at k41
      have k39 := c39 (bs := []) c n m hl
      have hv : verRes c n m = (.zero, 2) := by simp [verRes, ho]
      rw [hv] at k39
      have k16 := known_spec []
      unfold Entry.t e7 t7
      simp only [List.cons_append, List.nil_append]
      repeat' (first
        | ((with_reducible apply st_wcall); (· rfl); (· rfl); (· first | exact k24); (· rfl); (· simp only [sbe]; rfl))
        | (with_reducible refine st_join ?_)
        | ((with_reducible apply st_jump); (· rfl); refine at_jump ⟨rfl, ?_⟩; simp only [List.cons_append, List.nil_append])
        | ((with_reducible apply st_guard); (· rfl); (· simp only [sbe]; rfl); all_goals (intro h; (try simp only [Bool.not_true, Bool.not_false] at h); first | (cases h; done) | (exact absurd h (by decide)) | (exfalso; simp [IntKind.wrap, IntKind.bits, IntKind.signed] at h; done) | (exfalso; simp only [decide_eq_false_iff_not, decide_eq_true_eq] at h; omega) | (cases h) | (try rw [h])))
        | ((with_reducible apply st_cond); (· rfl); all_goals (intro h; (try simp only [Bool.not_true, Bool.not_false] at h); first | (cases h; done) | (exact absurd h (by decide)) | (exfalso; simp [IntKind.wrap, IntKind.bits, IntKind.signed] at h; done) | (exfalso; simp only [decide_eq_false_iff_not, decide_eq_true_eq] at h; omega) | (cases h) | (try rw [h])))
        | ((with_reducible apply st_callG); (· rfl); (· simp only [sbe]; rfl); all_goals (intro h; (try simp only [Bool.not_true, Bool.not_false] at h); first | (cases h; done) | (exact absurd h (by decide)) | (exfalso; simp [IntKind.wrap, IntKind.bits, IntKind.signed] at h; done) | (exfalso; simp only [decide_eq_false_iff_not, decide_eq_true_eq] at h; omega) | (cases h) | (try rw [h])))
        | ((with_reducible apply st_ev); (· rfl); (· simp only [sbe]; rfl))
        | ((with_reducible apply st_call); (· rfl); (· rfl); (· first | exact k21 | exact k23 | exact k39 | exact k41 | exact k16); (· rfl); (· simp only [sbe]; rfl))
        | (with_reducible refine st_nil ?_)
        | ((with_reducible apply st_ite); (· rfl); all_goals (intro h; (try simp only [Bool.not_true, Bool.not_false] at h); first | (cases h; done) | (exact absurd h (by decide)) | (exfalso; simp [IntKind.wrap, IntKind.bits, IntKind.signed] at h; done) | (exfalso; simp only [decide_eq_false_iff_not, decide_eq_true_eq] at h; omega) | (cases h) | skip)))
      all_goals first | ((with_reducible apply st_ret); (· rfl); first | (simp only [catchL]; done) | exact rfl | (simp only [catchL]; rfl)) | (exfalso; simp_all [inR]; (try omega); done)
    · rw [ho] at k23
      refine ⟨.st [court c], ok7.specW rfl (by kernel_rfl) ?_⟩
      have k24 := c24y c hl ho
      have k41 := c41 (bs := [court c]) c
      rw [ho] at k41
      have k39 := c39 (bs := [court c]) c n m hl
      have k40 := c40 (bs := [court c]) c n m hl
      have k29 := c29 c
      have k16 := known_spec [court c]
      cases hin : (inR n 1 10000 && inR m 0 10000000)
      · have hv : verRes c n m = (.zero, 2) := by unfold verRes; rw [ho, Bool.true_and, hin]; rfl
        rw [hv] at k39
        unfold Entry.t e7 t7
        simp only [List.cons_append, List.nil_append]
        repeat' (first
          | ((with_reducible apply st_wcall); (· rfl); (· rfl); (· first | exact k24); (· rfl); (· simp only [sbe]; rfl))
          | (with_reducible refine st_join ?_)
          | ((with_reducible apply st_jump); (· rfl); refine at_jump ⟨rfl, ?_⟩; simp only [List.cons_append, List.nil_append])
          | ((with_reducible apply st_guard); (· rfl); (· simp only [sbe]; rfl); all_goals (intro h; (try simp only [Bool.not_true, Bool.not_false] at h); first | (cases h; done) | (exact absurd h (by decide)) | (exfalso; simp [IntKind.wrap, IntKind.bits, IntKind.signed] at h; done) | (exfalso; simp only [decide_eq_false_iff_not, decide_eq_true_eq] at h; omega) | (cases h) | (try rw [h])))
          | ((with_reducible apply st_cond); (· rfl); all_goals (intro h; (try simp only [Bool.not_true, Bool.not_false] at h); first | (cases h; done) | (exact absurd h (by decide)) | (exfalso; simp [IntKind.wrap, IntKind.bits, IntKind.signed] at h; done) | (exfalso; simp only [decide_eq_false_iff_not, decide_eq_true_eq] at h; omega) | (cases h) | (try rw [h])))
          | ((with_reducible apply st_callG); (· rfl); (· simp only [sbe]; rfl); all_goals (intro h; (try simp only [Bool.not_true, Bool.not_false] at h); first | (cases h; done) | (exact absurd h (by decide)) | (exfalso; simp [IntKind.wrap, IntKind.bits, IntKind.signed] at h; done) | (exfalso; simp only [decide_eq_false_iff_not, decide_eq_true_eq] at h; omega) | (cases h) | (try rw [h])))
          | ((with_reducible apply st_ev); (· rfl); (· simp only [sbe]; rfl))
          | ((with_reducible apply st_call); (· rfl); (· rfl); (· first | exact k21 | exact k23 | exact k39 | exact k41 | exact k29 | exact k16); (· rfl); (· simp only [sbe]; rfl))
          | (with_reducible refine st_nil ?_)
          | ((with_reducible apply st_ite); (· rfl); all_goals (intro h; (try simp only [Bool.not_true, Bool.not_false] at h); first | (cases h; done) | (exact absurd h (by decide)) | (exfalso; simp [IntKind.wrap, IntKind.bits, IntKind.signed] at h; done) | (exfalso; simp only [decide_eq_false_iff_not, decide_eq_true_eq] at h; omega) | (cases h) | skip)))
        all_goals first | ((with_reducible apply st_ret); (· rfl); first | (simp only [catchL]; done) | exact rfl | (simp only [catchL]; rfl)) | (exfalso; simp_all [inR]; (try omega); done)
      · cases hA : verArt c.arts n m c.arts.length with
        | none =>
          have hv : verRes c n m = (.zero, 5) := by unfold verRes; rw [ho, Bool.true_and, hin, hA]; rfl
          rw [hv] at k39
          rw [hA] at k40
          unfold Entry.t e7 t7
          simp only [List.cons_append, List.nil_append]
          repeat' (first
            | ((with_reducible apply st_wcall); (· rfl); (· rfl); (· first | exact k24); (· rfl); (· simp only [sbe]; rfl))
            | (with_reducible refine st_join ?_)
            | ((with_reducible apply st_jump); (· rfl); refine at_jump ⟨rfl, ?_⟩; simp only [List.cons_append, List.nil_append])
            | ((with_reducible apply st_guard); (· rfl); (· simp only [sbe]; rfl); all_goals (intro h; (try simp only [Bool.not_true, Bool.not_false] at h); first | (cases h; done) | (exact absurd h (by decide)) | (exfalso; simp [IntKind.wrap, IntKind.bits, IntKind.signed] at h; done) | (exfalso; simp only [decide_eq_false_iff_not, decide_eq_true_eq] at h; omega) | (cases h) | (try rw [h])))
            | ((with_reducible apply st_cond); (· rfl); all_goals (intro h; (try simp only [Bool.not_true, Bool.not_false] at h); first | (cases h; done) | (exact absurd h (by decide)) | (exfalso; simp [IntKind.wrap, IntKind.bits, IntKind.signed] at h; done) | (exfalso; simp only [decide_eq_false_iff_not, decide_eq_true_eq] at h; omega) | (cases h) | (try rw [h])))
            | ((with_reducible apply st_callG); (· rfl); (· simp only [sbe]; rfl); all_goals (intro h; (try simp only [Bool.not_true, Bool.not_false] at h); first | (cases h; done) | (exact absurd h (by decide)) | (exfalso; simp [IntKind.wrap, IntKind.bits, IntKind.signed] at h; done) | (exfalso; simp only [decide_eq_false_iff_not, decide_eq_true_eq] at h; omega) | (cases h) | (try rw [h])))
            | ((with_reducible apply st_ev); (· rfl); (· simp only [sbe]; rfl))
            | ((with_reducible apply st_call); (· rfl); (· rfl); (· first | exact k21 | exact k23 | exact k39 | exact k40 | exact k41 | exact k29 | exact k16); (· rfl); (· simp only [sbe]; rfl))
            | (with_reducible refine st_nil ?_)
            | ((with_reducible apply st_ite); (· rfl); all_goals (intro h; (try simp only [Bool.not_true, Bool.not_false] at h); first | (cases h; done) | (exact absurd h (by decide)) | (exfalso; simp [IntKind.wrap, IntKind.bits, IntKind.signed] at h; done) | (exfalso; simp only [decide_eq_false_iff_not, decide_eq_true_eq] at h; omega) | (cases h) | skip)))
          all_goals first | ((with_reducible apply st_ret); (· rfl); first | (simp only [catchL]; done) | exact rfl | (simp only [catchL]; rfl)) | (exfalso; simp_all [inR]; (try omega); done)
        | some a =>
          have hv : verRes c n m = (a, 0) := by unfold verRes; rw [ho, Bool.true_and, hin, hA]; rfl
          rw [hv] at k39
          rw [hA] at k40
          unfold Entry.t e7 t7
          simp only [List.cons_append, List.nil_append]
          repeat' (first
            | ((with_reducible apply st_wcall); (· rfl); (· rfl); (· first | exact k24); (· rfl); (· simp only [sbe]; rfl))
            | (with_reducible refine st_join ?_)
            | ((with_reducible apply st_jump); (· rfl); refine at_jump ⟨rfl, ?_⟩; simp only [List.cons_append, List.nil_append])
            | ((with_reducible apply st_guard); (· rfl); (· simp only [sbe]; rfl); all_goals (intro h; (try simp only [Bool.not_true, Bool.not_false] at h); first | (cases h; done) | (exact absurd h (by decide)) | (exfalso; simp [IntKind.wrap, IntKind.bits, IntKind.signed] at h; done) | (exfalso; simp only [decide_eq_false_iff_not, decide_eq_true_eq] at h; omega) | (cases h) | (try rw [h])))
            | ((with_reducible apply st_cond); (· rfl); all_goals (intro h; (try simp only [Bool.not_true, Bool.not_false] at h); first | (cases h; done) | (exact absurd h (by decide)) | (exfalso; simp [IntKind.wrap, IntKind.bits, IntKind.signed] at h; done) | (exfalso; simp only [decide_eq_false_iff_not, decide_eq_true_eq] at h; omega) | (cases h) | (try rw [h])))
            | ((with_reducible apply st_callG); (· rfl); (· simp only [sbe]; rfl); all_goals (intro h; (try simp only [Bool.not_true, Bool.not_false] at h); first | (cases h; done) | (exact absurd h (by decide)) | (exfalso; simp [IntKind.wrap, IntKind.bits, IntKind.signed] at h; done) | (exfalso; simp only [decide_eq_false_iff_not, decide_eq_true_eq] at h; omega) | (cases h) | (try rw [h])))
            | ((with_reducible apply st_ev); (· rfl); (· simp only [sbe]; rfl))
            | ((with_reducible apply st_call); (· rfl); (· rfl); (· first | exact k21 | exact k23 | exact k39 | exact k40 | exact k41 | exact k29 | exact k16); (· rfl); (· simp only [sbe]; rfl))
            | (with_reducible refine st_nil ?_)
            | ((with_reducible apply st_ite); (· rfl); all_goals (intro h; (try simp only [Bool.not_true, Bool.not_false] at h); first | (cases h; done) | (exact absurd h (by decide)) | (exfalso; simp [IntKind.wrap, IntKind.bits, IntKind.signed] at h; done) | (exfalso; simp only [decide_eq_false_iff_not, decide_eq_true_eq] at h; omega) | (cases h) | skip)))
          all_goals first | ((with_reducible apply st_ret); (· rfl); first | (simp only [catchL]; done) | exact rfl | (simp only [catchL]; rfl)) | (exfalso; simp_all [inR]; (try omega); done)

end Go.Am.Ap

/-
  Acts as data.
-/
namespace Go.Am.Ap
open Go.Proofs

structure Akt where
  kind : Int
  minute : Int
  paper : Int
  cse : Int
  by_ : Int
  against : Int
  article : Int
  at_ : Int
  facts : List Int
  paid : Int
  upheld : Bool
  penalty : Int

abbrev Is (l : List Int) : D := .lst (l.map I)

def Akt.cs (a : Akt) : List D := [I a.kind, I a.minute, I a.paper, I a.cse, I a.by_, I a.against, I a.article, I a.at_, Is a.facts, I a.paid, B a.upheld, I a.penalty]
def Akt.d (a : Akt) : D := .agg a.cs

def shArt : Sh := .st [.int .i64, .int .i64, .int .i64, .int .i64]
def shCode : Sh := .st [.int .i64, .sl shArt, .int .i64, .int .i64, .int .i64, .int .i64]
def shAct : Sh := .st [.int .i64, .int .i64, .int .i64, .int .i64, .int .i64, .int .i64, .int .i64, .int .i64, .sl (.int .i64), .int .i64, .bool, .int .i64]

def i64 (n : Int) : Prop := -9223372036854775808 ≤ n ∧ n < 9223372036854775808


theorem ofI {ds : List D} (h : OfSh (.int .i64) ds) : ∃ n, ds = [I n] ∧ i64 n := by
  simp only [OfSh] at h
  obtain ⟨n, h, h1, h2⟩ := h
  refine ⟨n, h, ?_⟩
  simp [IntKind.min, IntKind.max, IntKind.bits, IntKind.signed] at h1 h2
  exact ⟨h1, by omega⟩

theorem ofIs : ∀ {es : List D}, (∀ x, x ∈ es → OfSh (.int .i64) [x]) → ∃ xs : List Int, es = xs.map I ∧ ∀ x, x ∈ xs → i64 x
  | [], _ => ⟨[], rfl, by simp⟩
  | e :: es, h => by
    obtain ⟨n, hn, hb⟩ := ofI (h e (by simp))
    cases hn
    obtain ⟨xs, rfl, hx⟩ := ofIs (es := es) fun x hx => h x (by simp [hx])
    exact ⟨n :: xs, rfl, by simpa using ⟨hb, hx⟩⟩

theorem ofSl {ds : List D} (h : OfSh (.sl (.int .i64)) ds) : ∃ xs : List Int, ds = [Is xs] ∧ (∀ x, x ∈ xs → i64 x) ∧ xs.length ≤ maxLen := by
  simp only [OfSh] at h
  obtain ⟨es, rfl, hl, hes⟩ := h
  obtain ⟨xs, rfl, hx⟩ := ofIs fun x hx => by
    have := (hes x hx).2 rfl
    simpa only [OfSh] using this
  exact ⟨xs, rfl, hx, by simpa using hl⟩

def Art.Ok (a : Art) : Prop := i64 a.n ∧ Ap.i64 a.f ∧ Ap.i64 a.l ∧ Ap.i64 a.m

def Cod.Ok (c : Cod) : Prop := Ap.i64 c.cars ∧ Ap.i64 c.window ∧ Ap.i64 c.second ∧ Ap.i64 c.fee ∧ Ap.i64 c.price ∧ (∀ a, a ∈ c.arts → a.Ok) ∧ c.arts.length ≤ maxLen

structure Akt.Ok (a : Akt) : Prop where
  kind : i64 a.kind
  minute : i64 a.minute
  paper : i64 a.paper
  cse : i64 a.cse
  by_ : i64 a.by_
  against : i64 a.against
  article : i64 a.article
  at_ : i64 a.at_
  facts : ∀ x, x ∈ a.facts → i64 x
  len : a.facts.length ≤ maxLen
  paid : i64 a.paid
  penalty : i64 a.penalty

theorem ofAct {cs : List D} (h : OfSh shAct cs) : ∃ a : Akt, .agg cs = a.d ∧ a.Ok := by
  simp only [shAct, OfSh, OfAll] at h
  obtain ⟨_, _, rfl, h1, _, _, rfl, h2, _, _, rfl, h3, _, _, rfl, h4, _, _, rfl, h5, _, _, rfl, h6, _, _, rfl, h7, _, _, rfl, h8, _, _, rfl, h9, _, _, rfl, h10, _, _, rfl, h11, _, _, rfl, h12, rfl⟩ := h
  have cv : ∀ {ds : List D}, (∃ n : Int, ds = [.v (.int .i64 n)] ∧ IntKind.i64.min ≤ n ∧ n ≤ IntKind.i64.max) → ∃ n, ds = [I n] ∧ i64 n := fun h => ofI (by simpa only [OfSh] using h)
  obtain ⟨n1, rfl, b1⟩ := cv h1
  obtain ⟨n2, rfl, b2⟩ := cv h2
  obtain ⟨n3, rfl, b3⟩ := cv h3
  obtain ⟨n4, rfl, b4⟩ := cv h4
  obtain ⟨n5, rfl, b5⟩ := cv h5
  obtain ⟨n6, rfl, b6⟩ := cv h6
  obtain ⟨n7, rfl, b7⟩ := cv h7
  obtain ⟨n8, rfl, b8⟩ := cv h8
  obtain ⟨xs, rfl, b9, hl⟩ := ofSl (by simpa only [OfSh] using h9)
  obtain ⟨n10, rfl, b10⟩ := cv h10
  obtain ⟨b, rfl⟩ := h11
  obtain ⟨n12, rfl, b12⟩ := cv h12
  exact ⟨⟨n1, n2, n3, n4, n5, n6, n7, n8, xs, n10, b, n12⟩, rfl, ⟨b1, b2, b3, b4, b5, b6, b7, b8, b9, hl, b10, b12⟩⟩

end Go.Am.Ap

/-
  What the court's functions answer that only read.
-/
namespace Go.Am.Ct
set_option maxRecDepth 100000
set_option maxHeartbeats 4000000
open Go.Proofs Go.Am.Ap

def fcs (f : Int × D) : List D := [I f.1, f.2]
def ncs (i : Nat) : List D := [I i]

def crtCells (c : Cod) (sa sf : D) : List D := [I c.cars, .lst (c.arts.map Art.d), I c.window, I c.second, I c.fee, I c.price, B true, sa, sf]

def ActsAt (bs : List D) (j : Nat) (c : Cod) (l : List Akt) (sa sf : D) : Prop := bs[j]? = some (.blk 99 9 (crtCells c sa sf)) ∧ SlOf bs 43 12 Akt.cs sa l

variable {bs : List D} {j : Nat} {c : Cod} {l : List Akt} {sa sf : D}

theorem c61 (h : ActsAt bs j c l sa sf) : FSpecR Try.prog 61 (.st bs) [.loc j 0] (B true) := by
  refine ku61.R rfl rfl ?_
  unfold u61
  simp only [ups_cons, ups_nil, List.cons_append, List.nil_append]
  repeat' (first
    | ((with_reducible apply nrm); (· simp only [sbe]; rfl))
    | ((with_reducible apply u_chk); (· rfl))
    | ((with_reducible apply u_ld); (· rfl); (· rfl); (· first | exact ld_blk h.1 rfl); (· simp only [sbe]; rfl))
    | ((with_reducible apply u_ev); (· rfl); (· simp only [sbe]; rfl))
    | ((with_reducible apply u_and); (· rfl))
    | ((with_reducible apply u_jump); (· rfl); (· rfl))
    | (with_reducible refine at_jump ?_)
    | (with_reducible refine over_jump (by decide) ?_)
    | (with_reducible refine kj rfl ?_)
    | ((with_reducible apply u_ite); (· rfl); all_goals (intro hz; (try simp only [sbs] at hz); first | (exact absurd hz (by decide)) | (exfalso; omega) | skip))
    | (with_reducible exact u_ret rfl rfl)
    | ((with_reducible apply u_ret); (· rfl); first | exact rfl | (refine retB ?_) | (refine retI ?_) | (refine retD ?_))
    | ((with_reducible intro hz); (try simp only [sbs] at hz)))

theorem c95 (h : ActsAt bs j c l sa sf) (n : Int) : FSpecR Try.prog 95 (.st bs) [I n, .ptr [.loc j 0]] (B (inR n 1 c.cars)) := by
  refine ku95.R rfl rfl ?_
  unfold u95
  simp only [ups_cons, ups_nil, List.cons_append, List.nil_append]
  repeat' (first
    | ((with_reducible apply nrm); (· simp only [sbe]; rfl))
    | ((with_reducible apply u_chk); (· rfl))
    | ((with_reducible apply u_ld); (· rfl); (· rfl); (· first | exact ld_blk h.1 rfl); (· simp only [sbe]; rfl))
    | ((with_reducible apply u_ev); (· rfl); (· simp only [sbe]; rfl))
    | ((with_reducible apply u_call); (· rfl); (· rfl); (· first | exact c52 _ _ _); (· rfl); (· simp only [sbe]; rfl))
    | ((with_reducible apply u_jump); (· rfl); (· rfl))
    | (with_reducible refine at_jump ?_)
    | (with_reducible refine over_jump (by decide) ?_)
    | (with_reducible refine kj rfl ?_)
    | ((with_reducible apply u_ite); (· rfl); all_goals (intro hz; (try simp only [sbs] at hz); first | (exact absurd hz (by decide)) | (exfalso; omega) | skip))
    | (with_reducible exact u_ret rfl rfl)
    | ((with_reducible apply u_ret); (· rfl); first | exact rfl | (refine retB ?_) | (refine retI ?_) | (refine retD ?_)))

def incrAt (l : List Int) (i : Nat) : Bool := inR (l.getD i 0) 1 1000 && ((i : Int) == 0 || decide (l.getD (i - 1) 0 < l.getD i 0))
def incr (l : List Int) : Nat → Bool
  | 0 => true
  | i + 1 => incr l i && incrAt l i
def factsOk (l : List Int) : Bool := decide ((l.length : Int) ≤ 20) && incr l l.length

def only (a : Akt) : Akt :=
  if a.kind = 1 then ⟨a.kind, a.minute, a.paper, 0, 0, 0, 0, 0, a.facts, 0, false, 0⟩
  else if a.kind = 2 then ⟨a.kind, a.minute, a.paper, 0, a.by_, a.against, a.article, a.at_, a.facts, a.paid, false, 0⟩
  else if a.kind = 3 ∨ a.kind = 5 then ⟨a.kind, a.minute, 0, a.cse, 0, 0, 0, 0, a.facts, 0, a.upheld, a.penalty⟩
  else if a.kind = 4 then ⟨a.kind, a.minute, 0, a.cse, a.by_, 0, 0, 0, a.facts, a.paid, false, 0⟩
  else ⟨a.kind, a.minute, 0, a.cse, a.by_, 0, 0, 0, a.facts, 0, false, 0⟩

def sameBut (a b : Akt) : Bool := a.kind == b.kind && a.minute == b.minute && a.paper == b.paper && a.cse == b.cse && a.by_ == b.by_ && a.against == b.against && a.article == b.article && a.at_ == b.at_ && a.paid == b.paid && a.upheld == b.upheld && a.penalty == b.penalty

def actOk (cars : Int) (a : Akt) : Bool :=
  (if a.kind = 1 then inR a.minute 0 10000000 && inR a.paper 1 1000000 && a.facts.isEmpty
  else if a.kind = 2 then inR a.minute 0 10000000 && inR a.by_ 1 cars && inR a.against 1 cars && a.by_ != a.against && inR a.paper 1 1000000 && inR a.article 1 10000 && inR a.at_ 0 a.minute && inR a.paid 0 1000000000 && factsOk a.facts
  else if a.kind = 3 ∨ a.kind = 5 then inR a.minute 0 10000000 && decide (0 ≤ a.cse) && inR a.penalty 0 36000000 && a.facts.isEmpty
  else if a.kind = 4 then inR a.minute 0 10000000 && decide (0 ≤ a.cse) && inR a.by_ 1 cars && inR a.paid 0 1000000000 && a.facts.isEmpty
  else if a.kind = 6 then inR a.minute 0 10000000 && decide (0 ≤ a.cse) && inR a.by_ 1 cars && a.facts.isEmpty
  else false) && sameBut a (only a)

attribute [local irreducible] inR

theorem isE (l : List Int) : ((l.length : Int) == 0) = l.isEmpty := by cases l <;> simp <;> omega

theorem c62 (h : ActsAt bs j c l sa sf) (a : Akt) (ha : a.facts.length ≤ 1000000) : FSpecR Try.prog 62 (.st bs) [.loc j 0, a.d] (B (actOk c.cars a)) := by
  refine ku62.R rfl rfl ?_
  unfold u62
  simp only [ups_cons, ups_nil, List.cons_append, List.nil_append]
  repeat' (first
    | ((with_reducible apply nrm); (· simp only [sbe]; rfl))
    | ((with_reducible apply u_chk); (· rfl))
    | ((with_reducible apply u_lenL); (· rfl); (· exact lenL_map); (· simp only [sbe]; rfl))
    | ((with_reducible apply u_inc); (· rfl); (· omega); (· simp only [sbe]; rfl))
    | ((with_reducible apply u_pred); (· rfl); (· omega); (· simp only [sbe]; rfl))
    | ((with_reducible apply u_add); (· rfl); (· rfl); (· omega); (· simp only [sbe]; rfl))
    | ((with_reducible apply u_sub); (· rfl); (· rfl); (· omega); (· simp only [sbe]; rfl))
    | ((with_reducible apply u_sel); (· rfl); (· rfl); (· rfl); (· simp only [sbe, List.zipWith_cons_cons, List.zipWith_nil_left, selD]; rfl))
    | ((with_reducible apply u_ev); (· rfl); (· simp only [sbe]; rfl))
    | ((with_reducible apply u_call); (· rfl); (· rfl); (· first | exact c52 _ _ _); (· rfl); (· simp only [sbe]; rfl))
    | ((with_reducible apply u_callv); (· rfl); (· rfl); (· rfl); (· rfl); (· first | exact c95 h _); (· rfl); (· simp only [sbe]; rfl))
    | ((with_reducible apply u_or); (· rfl))
    | ((with_reducible apply u_and); (· rfl))
    | (with_reducible refine u_join ?_)
    | ((with_reducible apply u_jump); (· rfl); (· rfl))
    | (with_reducible refine at_jump ?_)
    | (with_reducible refine over_jump (by decide) ?_)
    | (with_reducible refine kj rfl ?_)
    | ((with_reducible apply u_ite); (· rfl); all_goals (intro hz; (try simp only [sbs] at hz); first | (exact absurd hz (by decide)) | (exfalso; omega) | skip))
    | (with_reducible exact u_ret rfl rfl)
    | ((with_reducible apply u_ret); (· rfl); first | exact rfl | (refine retB ?_) | (refine retI ?_) | (refine retD ?_))
    | ((with_reducible intro hz); (try simp only [sbs] at hz)))
  rotate_left
  · refine u_range (fun i => [B (decide ((a.facts.length : Int) ≤ 20) && incr a.facts i), I i]) (fun _ => True) a.facts.length ?_ (fun _ => rfl) trivial (fun i hi _ R hR => ?_) (fun _ R => ?_)
    · simp [evalAll, E.eval, incr]
    · repeat' (first
        | ((with_reducible apply nrm); (· simp only [sbe]; rfl))
        | ((with_reducible apply u_chk); (· rfl))
        | ((with_reducible apply u_eaddr); (· rfl); (· rfl); (· first | exact eaddr_get (by omega) rfl); (· simp only [sbe]; rfl))
        | ((with_reducible apply u_lenL); (· rfl); (· exact lenL_map); (· simp only [sbe]; rfl))
        | ((with_reducible apply u_inc); (· rfl); (· omega); (· simp only [sbe]; rfl))
        | ((with_reducible apply u_pred); (· rfl); (· omega); (· simp only [sbe]; rfl))
        | ((with_reducible apply u_add); (· rfl); (· rfl); (· omega); (· simp only [sbe]; rfl))
        | ((with_reducible apply u_sub); (· rfl); (· rfl); (· omega); (· simp only [sbe]; rfl))
        | ((with_reducible apply u_sel); (· rfl); (· rfl); (· rfl); (· simp only [sbe, List.zipWith_cons_cons, List.zipWith_nil_left, selD]; rfl))
        | ((with_reducible apply u_ev); (· rfl); (· simp only [sbe]; rfl))
        | ((with_reducible apply u_call); (· rfl); (· rfl); (· first | exact c52 _ _ _); (· rfl); (· simp only [sbe]; rfl))
        | ((with_reducible apply u_or); (· rfl))
        | ((with_reducible apply u_and); (· rfl))
        | (with_reducible refine u_join ?_)
        | ((with_reducible apply u_jump); (· rfl); (· rfl))
        | (with_reducible refine at_jump ?_)
        | (with_reducible refine over_jump (by decide) ?_)
        | (with_reducible refine kj rfl ?_)
        | ((with_reducible apply u_ite); (· rfl); all_goals (intro hz; (try simp only [sbs] at hz); first | (exact absurd hz (by decide)) | (exfalso; omega) | skip))
        | (with_reducible exact u_ret rfl rfl)
        | ((with_reducible apply u_ret); (· rfl); first | exact rfl | (refine retB ?_) | (refine retI ?_) | (refine retD ?_))
        | ((with_reducible intro hz); (try simp only [sbs] at hz)))
      all_goals (
        have hj := hR trivial
        refine Eq.mp (congrArg R ?_) hj
        simp [incr, incrAt, Bool.and_assoc, hi, show i - 1 < a.facts.length by omega])
    · repeat' (first
        | ((with_reducible apply nrm); (· simp only [sbe]; rfl))
        | ((with_reducible apply u_chk); (· rfl))
        | ((with_reducible apply u_lenL); (· rfl); (· exact lenL_map); (· simp only [sbe]; rfl))
        | ((with_reducible apply u_inc); (· rfl); (· omega); (· simp only [sbe]; rfl))
        | ((with_reducible apply u_pred); (· rfl); (· omega); (· simp only [sbe]; rfl))
        | ((with_reducible apply u_add); (· rfl); (· rfl); (· omega); (· simp only [sbe]; rfl))
        | ((with_reducible apply u_sub); (· rfl); (· rfl); (· omega); (· simp only [sbe]; rfl))
        | ((with_reducible apply u_sel); (· rfl); (· rfl); (· rfl); (· simp only [sbe, List.zipWith_cons_cons, List.zipWith_nil_left, selD]; rfl))
        | ((with_reducible apply u_ev); (· rfl); (· simp only [sbe]; rfl))
        | ((with_reducible apply u_call); (· rfl); (· rfl); (· first | exact c52 _ _ _); (· rfl); (· simp only [sbe]; rfl))
        | ((with_reducible apply u_or); (· rfl))
        | ((with_reducible apply u_and); (· rfl))
        | (with_reducible refine u_join ?_)
        | ((with_reducible apply u_jump); (· rfl); (· rfl))
        | (with_reducible refine at_jump ?_)
        | (with_reducible refine over_jump (by decide) ?_)
        | (with_reducible refine kj rfl ?_)
        | ((with_reducible apply u_ite); (· rfl); all_goals (intro hz; (try simp only [sbs] at hz); first | (exact absurd hz (by decide)) | (exfalso; omega) | skip))
        | (with_reducible exact u_ret rfl rfl)
        | ((with_reducible apply u_ret); (· rfl); first | exact rfl | (refine retB ?_) | (refine retI ?_) | (refine retD ?_))
        | ((with_reducible intro hz); (try simp only [sbs] at hz)))
      all_goals (try (exfalso; omega))
      all_goals simp_all [actOk, only, sameBut, factsOk, Bool.and_assoc]
  all_goals (first | rw [isE] | skip)
  all_goals simp_all [actOk, only, sameBut, Bool.and_assoc]

def Akt.zero : Akt := ⟨0, 0, 0, 0, 0, 0, 0, 0, [], 0, false, 0⟩
def nth (l : List Akt) (i : Nat) : Akt := l.getD i Akt.zero

theorem nth_get {l : List Akt} {i : Nat} (h : i < l.length) : nth l i = l[i] := by simp [nth, h]

def stStep (second m : Int) (a : Akt) (out : Int) : Int := if a.kind = 6 then 2 else if a.kind = 3 then (if second < m - a.minute then 5 else 3) else if a.kind = 4 then 4 else if a.kind = 5 then 5 else out

def stGo (l : List Akt) (second m : Int) : List Nat → Int → Int
  | [], s => s
  | i :: r, s => if m < (nth l i).minute then s else stGo l second m r (stStep second m (nth l i) s)

theorem stGo_cons (l : List Akt) (second m : Int) (i : Nat) (r : List Nat) (s : Int) : stGo l second m (i :: r) s = if m < (nth l i).minute then s else stGo l second m r (stStep second m (nth l i) s) := rfl

theorem c73 (h : ActsAt bs j c l sa sf) (hm : ∀ a, a ∈ l → 0 ≤ a.minute) {s : D} {idx : List Nat} (hs : SlOf bs 3 1 ncs s idx) (hi : ∀ i, i ∈ idx → i < l.length) (hL : idx.length ≤ 1000000) (p m : Int) (hb : i64 m) : FSpecR Try.prog 73 (.st bs) [.loc j 0, .agg [I p, s], I m] (I (stGo l c.second m idx 1)) := by
  refine ku73.R rfl rfl ?_
  unfold u73
  simp only [ups_cons, ups_nil, List.cons_append, List.nil_append]
  repeat' (first
    | ((with_reducible apply nrm); (· simp only [sbe]; rfl))
    | ((with_reducible apply u_chk); (· rfl))
    | ((with_reducible apply u_lenL); (· rfl); (· first | exact hs.len); (· simp only [sbe]; rfl))
    | ((with_reducible apply u_lenL); (· rfl); (· exact lenL_map); (· simp only [sbe]; rfl))
    | ((with_reducible apply u_inc); (· rfl); (· omega); (· simp only [sbe]; rfl))
    | ((with_reducible apply u_pred); (· rfl); (· omega); (· simp only [sbe]; rfl))
    | ((with_reducible apply u_add); (· rfl); (· rfl); (· omega); (· simp only [sbe]; rfl))
    | ((with_reducible apply u_sub); (· rfl); (· rfl); (· omega); (· simp only [sbe]; rfl))
    | ((with_reducible apply u_ev); (· rfl); (· simp only [sbe]; rfl))
    | (with_reducible refine u_join ?_)
    | ((with_reducible apply u_jump); (· rfl); (· rfl))
    | (with_reducible refine at_jump ?_)
    | (with_reducible refine over_jump (by decide) ?_)
    | (with_reducible refine kj rfl ?_)
    | ((with_reducible apply u_phi); (· rfl); (· intro hz; rfl); (· intro hz; rfl); (· rfl); (· simp only [sbe, List.zipWith_cons_cons, List.zipWith_nil_left, selD]; rfl))
    | ((with_reducible apply u_ite); (· rfl); all_goals (intro hz; (try simp only [sbs] at hz); first | (exact absurd hz (by decide)) | (exfalso; omega) | skip))
    | (with_reducible exact u_ret rfl rfl)
    | ((with_reducible apply u_ret); (· rfl); first | exact rfl | (refine retB ?_) | (refine retI ?_) | (refine retD ?_)))
  refine u_list idx (fun s i => [I s, I i]) (fun r s => stGo l c.second m r s = stGo l c.second m idx 1) 1 rfl (fun _ _ => rfl) rfl (fun i x s1 hx hlt hG R hR => ?_) (fun s1 hG R => ?_)
  · have hxl := hi x (List.mem_of_getElem? hx)
    obtain ⟨b1, rfl, hb1⟩ := hs.get hlt
    obtain ⟨b2, rfl, hb2⟩ := h.2.get hxl
    have hmx := hm _ (List.getElem_mem hxl)
    have hn := nth_get hxl
    unfold i64 at hb
    have hG' := hG
    rw [stGo_cons, hn] at hG'
    repeat' (first
      | ((with_reducible apply nrm); (· simp only [sbe]; rfl))
      | ((with_reducible apply u_chk); (· rfl))
      | ((with_reducible apply u_ld); (· rfl); (· rfl); (· first | exact ld_el0 hb1 (fun _ => rfl) hx rfl | exact ld_blk h.1 rfl | exact ld_el hb2 (fun _ => rfl) (List.getElem?_eq_getElem hxl)); (· simp only [sbe]; rfl))
      | ((with_reducible apply u_eaddr); (· rfl); (· rfl); (· first | exact eaddr_sl hlt | exact eaddr_sl hxl); (· simp only [sbe]; rfl))
      | ((with_reducible apply u_lenL); (· rfl); (· exact lenL_map); (· simp only [sbe]; rfl))
      | ((with_reducible apply u_inc); (· rfl); (· omega); (· simp only [sbe]; rfl))
      | ((with_reducible apply u_pred); (· rfl); (· omega); (· simp only [sbe]; rfl))
      | ((with_reducible apply u_add); (· rfl); (· rfl); (· omega); (· simp only [sbe]; rfl))
      | ((with_reducible apply u_sub); (· rfl); (· rfl); (· omega); (· simp only [sbe]; rfl))
      | ((with_reducible apply u_ev); (· rfl); (· simp only [sbe]; rfl))
      | (with_reducible refine u_join ?_)
      | ((with_reducible apply u_jump); (· rfl); (· rfl))
      | (with_reducible refine at_jump ?_)
      | (with_reducible refine over_jump (by decide) ?_)
      | (with_reducible refine kj rfl ?_)
      | ((with_reducible apply u_phi); (· rfl); (· intro hz; rfl); (· intro hz; rfl); (· rfl); (· simp only [sbe, List.zipWith_cons_cons, List.zipWith_nil_left, selD]; rfl))
      | ((with_reducible apply u_ite); (· rfl); all_goals (intro hz; (try simp only [sbs] at hz); first | (exact absurd hz (by decide)) | (exfalso; omega) | skip))
      | (with_reducible exact u_ret rfl rfl)
      | ((with_reducible apply u_ret); (· rfl); first | exact rfl | (refine retB ?_) | (refine retI ?_) | (refine retD ?_)))
    · exact (if_pos (show m < l[x].minute by omega)).symm.trans hG'
    all_goals (
      refine hR _ (Eq.trans ?_ hG')
      rw [if_neg (show ¬ m < l[x].minute by omega)]
      simp [stStep, *])
  · repeat' (first
      | ((with_reducible apply nrm); (· simp only [sbe]; rfl))
      | ((with_reducible apply u_chk); (· rfl))
      | ((with_reducible apply u_lenL); (· rfl); (· exact lenL_map); (· simp only [sbe]; rfl))
      | ((with_reducible apply u_inc); (· rfl); (· omega); (· simp only [sbe]; rfl))
      | ((with_reducible apply u_pred); (· rfl); (· omega); (· simp only [sbe]; rfl))
      | ((with_reducible apply u_add); (· rfl); (· rfl); (· omega); (· simp only [sbe]; rfl))
      | ((with_reducible apply u_sub); (· rfl); (· rfl); (· omega); (· simp only [sbe]; rfl))
      | ((with_reducible apply u_ev); (· rfl); (· simp only [sbe]; rfl))
      | (with_reducible refine u_join ?_)
      | ((with_reducible apply u_jump); (· rfl); (· rfl))
      | (with_reducible refine at_jump ?_)
      | (with_reducible refine over_jump (by decide) ?_)
      | (with_reducible refine kj rfl ?_)
      | ((with_reducible apply u_phi); (· rfl); (· intro hz; rfl); (· intro hz; rfl); (· rfl); (· simp only [sbe, List.zipWith_cons_cons, List.zipWith_nil_left, selD]; rfl))
      | ((with_reducible apply u_ite); (· rfl); all_goals (intro hz; (try simp only [sbs] at hz); first | (exact absurd hz (by decide)) | (exfalso; omega) | skip))
      | (with_reducible exact u_ret rfl rfl)
      | ((with_reducible apply u_ret); (· rfl); first | exact rfl | (refine retB ?_) | (refine retI ?_) | (refine retD ?_)))
    exact hG

def fi (P : Akt → Bool) (l : List Akt) : Int := match l.findIdx? P with
  | some i => i
  | none => -1

theorem fi_at {P : Akt → Bool} {l : List Akt} {i : Nat} (hi : i < l.length) (hP : P l[i] = true) (hn : ∀ k (h : k < i), P (l[k]'(by omega)) = false) : fi P l = i := by
  have : l.findIdx? P = some i := by
    rw [List.findIdx?_eq_some_iff_getElem]
    exact ⟨hi, hP, fun j hj => by simp [hn j hj]⟩
  simp [fi, this]

theorem fi_no {P : Akt → Bool} {l : List Akt} (hn : ∀ a, a ∈ l → P a = false) : fi P l = -1 := by
  have : l.findIdx? P = none := by
    rw [List.findIdx?_eq_none_iff]
    exact hn
  simp [fi, this]

theorem fi_cases (P : Akt → Bool) (l : List Akt) : (fi P l = -1 ∧ ∀ a, a ∈ l → P a = false) ∨ ∃ (i : Nat) (h : i < l.length), fi P l = i ∧ P l[i] = true ∧ ∀ k (h : k < i), P (l[k]'(by omega)) = false := by
  cases h : l.findIdx? P with
  | none => left; exact ⟨by simp [fi, h], List.findIdx?_eq_none_iff.1 h⟩
  | some i =>
    right
    obtain ⟨h1, h2, h3⟩ := List.findIdx?_eq_some_iff_getElem.1 h
    exact ⟨i, h1, by simp [fi, h], h2, fun k hk => by simpa using h3 k hk⟩

theorem c86 {P : Akt → Bool} {f : Nat} {us cs : List D} (hs : SlOf bs 43 12 Akt.cs sa l) (hL : l.length ≤ 1000000) (hc : callable Try.prog f = true) (hf : ∀ i (h : i < l.length), FSpecR Try.prog f (.st bs) (us ++ [l[i].d] ++ cs) (B (P l[i]))) : FSpecR Try.prog 86 (.st bs) [sa, .fn f us cs] (I (fi P l)) := by
  refine ku86.R rfl (by rcases hs with ⟨_, rfl⟩ | ⟨_, rfl, _⟩ <;> rfl) ?_
  unfold u86
  simp only [ups_cons, ups_nil, List.cons_append, List.nil_append]
  repeat' (first
    | ((with_reducible apply nrm); (· simp only [sbe]; rfl))
    | ((with_reducible apply u_lenL); (· rfl); (· first | exact hs.len); (· simp only [sbe]; rfl))
    | ((with_reducible apply u_lenL); (· rfl); (· exact lenL_map); (· simp only [sbe]; rfl))
    | ((with_reducible apply u_inc); (· rfl); (· omega); (· simp only [sbe]; rfl))
    | ((with_reducible apply u_add); (· rfl); (· rfl); (· omega); (· simp only [sbe]; rfl))
    | ((with_reducible apply u_ev); (· rfl); (· simp only [sbe]; rfl))
    | (with_reducible refine u_join ?_)
    | ((with_reducible apply u_jump); (· rfl); (· rfl))
    | (with_reducible refine at_jump ?_)
    | (with_reducible refine over_jump (by decide) ?_)
    | (with_reducible refine kj rfl ?_)
    | ((with_reducible apply u_ite); (· rfl); all_goals (intro hz; (try simp only [sbs] at hz); first | (exact absurd hz (by decide)) | (exfalso; omega) | skip))
    | (with_reducible exact u_ret rfl rfl)
    | ((with_reducible apply u_ret); (· rfl); first | exact rfl | (refine retB ?_) | (refine retI ?_) | (refine retD ?_)))
  refine u_range (fun i => [I i]) (fun i => ∀ k (h : k < i) (h2 : k < l.length), P l[k] = false) l.length rfl (fun _ => rfl) (fun k h => absurd h (Nat.not_lt_zero _)) (fun i hi hJ R hR => ?_) (fun hJ R => ?_)
  · obtain ⟨b, rfl, hb⟩ := hs.get hi
    repeat' (first
      | ((with_reducible apply nrm); (· simp only [sbe]; rfl))
      | ((with_reducible apply u_ld); (· rfl); (· rfl); (· first | exact ld_el hb (fun _ => rfl) (List.getElem?_eq_getElem hi)); (· simp only [sbe]; rfl))
      | ((with_reducible apply u_eaddr); (· rfl); (· rfl); (· first | exact eaddr_sl hi); (· simp only [sbe]; rfl))
      | ((with_reducible apply u_lenL); (· rfl); (· exact lenL_map); (· simp only [sbe]; rfl))
      | ((with_reducible apply u_inc); (· rfl); (· omega); (· simp only [sbe]; rfl))
      | ((with_reducible apply u_add); (· rfl); (· rfl); (· omega); (· simp only [sbe]; rfl))
      | ((with_reducible apply u_ev); (· rfl); (· simp only [sbe]; rfl))
      | (with_reducible refine u_join ?_)
      | ((with_reducible apply u_jump); (· rfl); (· rfl))
      | (with_reducible refine at_jump ?_)
      | (with_reducible refine over_jump (by decide) ?_)
      | (with_reducible refine kj rfl ?_)
      | ((with_reducible apply u_ite); (· rfl); all_goals (intro hz; (try simp only [sbs] at hz); first | (exact absurd hz (by decide)) | (exfalso; omega) | skip))
      | (with_reducible exact u_ret rfl rfl)
      | ((with_reducible apply u_ret); (· rfl); first | exact rfl | (refine retB ?_) | (refine retI ?_) | (refine retD ?_)))
    refine u_callv rfl hc rfl rfl (hf i hi) rfl (by simp only [List.cons_append, List.nil_append]; rfl) ?_
    repeat' (first
      | ((with_reducible apply nrm); (· simp only [sbe]; rfl))
      | ((with_reducible apply u_lenL); (· rfl); (· exact lenL_map); (· simp only [sbe]; rfl))
      | ((with_reducible apply u_inc); (· rfl); (· omega); (· simp only [sbe]; rfl))
      | ((with_reducible apply u_add); (· rfl); (· rfl); (· omega); (· simp only [sbe]; rfl))
      | ((with_reducible apply u_ev); (· rfl); (· simp only [sbe]; rfl))
      | (with_reducible refine u_join ?_)
      | ((with_reducible apply u_jump); (· rfl); (· rfl))
      | (with_reducible refine at_jump ?_)
      | (with_reducible refine over_jump (by decide) ?_)
      | (with_reducible refine kj rfl ?_)
      | ((with_reducible apply u_ite); (· rfl); all_goals (intro hz; (try simp only [sbs] at hz); first | (exact absurd hz (by decide)) | (exfalso; omega) | skip))
      | (with_reducible exact u_ret rfl rfl)
      | ((with_reducible apply u_ret); (· rfl); first | exact rfl | (refine retB ?_) | (refine retI ?_) | (refine retD ?_)))
    · rename_i hz
      exact (fi_at hi hz fun k hk => hJ k hk (by omega)).symm
    · rename_i hz
      refine hR fun k hk h2 => ?_
      rcases Nat.lt_or_ge k i with h3 | h3
      · exact hJ k h3 h2
      · have e : k = i := by omega
        subst e
        exact hz
  · repeat' (first
      | ((with_reducible apply nrm); (· simp only [sbe]; rfl))
      | ((with_reducible apply u_lenL); (· rfl); (· exact lenL_map); (· simp only [sbe]; rfl))
      | ((with_reducible apply u_inc); (· rfl); (· omega); (· simp only [sbe]; rfl))
      | ((with_reducible apply u_add); (· rfl); (· rfl); (· omega); (· simp only [sbe]; rfl))
      | ((with_reducible apply u_ev); (· rfl); (· simp only [sbe]; rfl))
      | (with_reducible refine u_join ?_)
      | ((with_reducible apply u_jump); (· rfl); (· rfl))
      | (with_reducible refine at_jump ?_)
      | (with_reducible refine over_jump (by decide) ?_)
      | (with_reducible refine kj rfl ?_)
      | ((with_reducible apply u_ite); (· rfl); all_goals (intro hz; (try simp only [sbs] at hz); first | (exact absurd hz (by decide)) | (exfalso; omega) | skip))
      | (with_reducible exact u_ret rfl rfl)
      | ((with_reducible apply u_ret); (· rfl); first | exact rfl | (refine retB ?_) | (refine retI ?_) | (refine retD ?_)))
    refine (fi_no fun a ha => ?_).symm
    obtain ⟨k, hk, rfl⟩ := List.mem_iff_getElem.1 ha
    exact hJ k hk hk

theorem c110 (a : Akt) (p : Int) : FSpecR Try.prog 110 (.st bs) [a.d, .ptr [I p]] (B (a.kind == 1 && a.paper == p)) := by
  refine ku110.R rfl rfl ?_
  unfold u110
  simp only [ups_cons, ups_nil, List.cons_append, List.nil_append]
  repeat' (first
    | ((with_reducible apply nrm); (· simp only [sbe]; rfl))
    | ((with_reducible apply u_chk); (· rfl))
    | ((with_reducible apply u_ev); (· rfl); (· simp only [sbe]; rfl))
    | ((with_reducible apply u_and); (· rfl))
    | ((with_reducible apply u_jump); (· rfl); (· rfl))
    | (with_reducible refine at_jump ?_)
    | (with_reducible refine over_jump (by decide) ?_)
    | (with_reducible refine kj rfl ?_)
    | ((with_reducible apply u_ite); (· rfl); all_goals (intro hz; (try simp only [sbs] at hz); first | (exact absurd hz (by decide)) | (exfalso; omega) | skip))
    | (with_reducible exact u_ret rfl rfl)
    | ((with_reducible apply u_ret); (· rfl); first | exact rfl | (refine retB ?_) | (refine retI ?_) | (refine retD ?_))
    | ((with_reducible intro hz); (try simp only [sbs] at hz)))

def isPub (p : Int) (a : Akt) : Bool := a.kind == 1 && a.paper == p
def pubAt (l : List Akt) (p : Int) : Int := if fi (isPub p) l < 0 then -1 else (nth l (fi (isPub p) l).toNat).minute

theorem c97 (h : ActsAt bs j c l sa sf) (hL : l.length ≤ 1000000) (p : Int) : FSpecR Try.prog 97 (.st bs) [.loc j 0, I p] (I (pubAt l p)) := by
  refine ku97.R rfl rfl ?_
  unfold u97
  simp only [ups_cons, ups_nil, List.cons_append, List.nil_append]
  have hc := c86 (us := []) (cs := [.ptr [I p]]) (P := isPub p) h.2 hL (by kernel_rfl) (fun i hi => c110 _ _)
  rcases fi_cases (isPub p) l with ⟨hf, _⟩ | ⟨i, hi, hf, _, _⟩
  · rw [hf] at hc
    repeat' (first
      | ((with_reducible apply nrm); (· simp only [sbe]; rfl))
      | ((with_reducible apply u_chk); (· rfl))
      | ((with_reducible apply u_ld); (· rfl); (· rfl); (· first | exact ld_blk h.1 rfl); (· simp only [sbe]; rfl))
      | ((with_reducible apply u_ev); (· rfl); (· simp only [sbe]; rfl))
      | ((with_reducible apply u_call); (· rfl); (· rfl); (· first | exact hc); (· rfl); (· simp only [sbe]; rfl))
      | ((with_reducible apply u_jump); (· rfl); (· rfl))
      | (with_reducible refine at_jump ?_)
      | (with_reducible refine over_jump (by decide) ?_)
      | (with_reducible refine kj rfl ?_)
      | ((with_reducible apply u_ite); (· rfl); all_goals (intro hz; (try simp only [sbs] at hz); first | (exact absurd hz (by decide)) | (exfalso; omega) | skip))
      | (with_reducible exact u_ret rfl rfl)
      | ((with_reducible apply u_ret); (· rfl); first | exact rfl | (refine retB ?_) | (refine retI ?_) | (refine retD ?_)))
    simp [pubAt, hf]
  · rw [hf] at hc
    obtain ⟨b, rfl, hb⟩ := h.2.get hi
    repeat' (first
      | ((with_reducible apply nrm); (· simp only [sbe]; rfl))
      | ((with_reducible apply u_chk); (· rfl))
      | ((with_reducible apply u_ld); (· rfl); (· rfl); (· first | exact ld_blk h.1 rfl | exact ld_elc hb (fun _ => rfl) (List.getElem?_eq_getElem hi) rfl); (· simp only [sbe]; rfl))
      | ((with_reducible apply u_eaddr); (· rfl); (· rfl); (· first | exact eaddr_sl hi); (· simp only [sbe]; rfl))
      | ((with_reducible apply u_ev); (· rfl); (· simp only [sbe]; rfl))
      | ((with_reducible apply u_call); (· rfl); (· rfl); (· first | exact hc); (· rfl); (· simp only [sbe]; rfl))
      | ((with_reducible apply u_jump); (· rfl); (· rfl))
      | (with_reducible refine at_jump ?_)
      | (with_reducible refine over_jump (by decide) ?_)
      | (with_reducible refine kj rfl ?_)
      | ((with_reducible apply u_ite); (· rfl); all_goals (intro hz; (try simp only [sbs] at hz); first | (exact absurd hz (by decide)) | (exfalso; omega) | skip))
      | (with_reducible exact u_ret rfl rfl)
      | ((with_reducible apply u_ret); (· rfl); first | exact rfl | (refine retB ?_) | (refine retI ?_) | (refine retD ?_)))
    simp [pubAt, hf, nth, hi]
    omega

def refusal (e : Int) : D := .ifc 109 (.agg [I e])

theorem c96n {b : Bool} (hb : b = false) (e : Int) : FSpecO Try.prog 96 (.st bs) [B b, I e] (.ret (.tup [])) := by
  subst hb
  refine ku96.readO rfl rfl ?_
  unfold u96
  simp only [ups_cons, ups_nil, List.cons_append, List.nil_append]
  repeat' (first
    | ((with_reducible apply nrm); (· simp only [sbe]; rfl))
    | ((with_reducible apply u_ev); (· rfl); (· simp only [sbe]; rfl))
    | (with_reducible refine u_join ?_)
    | ((with_reducible apply u_jump); (· rfl); (· rfl))
    | (with_reducible refine at_jump ?_)
    | (with_reducible refine over_jump (by decide) ?_)
    | (with_reducible refine kj rfl ?_)
    | ((with_reducible apply u_ite); (· rfl); all_goals (intro hz; (try simp only [sbs] at hz); first | (exact absurd hz (by decide)) | (exfalso; omega) | skip))
    | (with_reducible exact u_ret rfl rfl)
    | ((with_reducible apply u_ret); (· rfl); first | exact rfl | (refine retB ?_) | (refine retI ?_) | (refine retD ?_)))

theorem c96y {b : Bool} (hb : b = true) (e : Int) : FSpecO Try.prog 96 (.st bs) [B b, I e] (.pan (refusal e)) := by
  subst hb
  refine ku96.readO rfl rfl ?_
  unfold u96
  simp only [ups_cons, ups_nil, List.cons_append, List.nil_append]
  repeat' (first
    | ((with_reducible apply nrm); (· simp only [sbe]; rfl))
    | ((with_reducible apply u_ev); (· rfl); (· simp only [sbe]; rfl))
    | (with_reducible refine u_join ?_)
    | ((with_reducible apply u_jump); (· rfl); (· rfl))
    | (with_reducible refine at_jump ?_)
    | (with_reducible refine over_jump (by decide) ?_)
    | (with_reducible refine kj rfl ?_)
    | ((with_reducible apply u_ite); (· rfl); all_goals (intro hz; (try simp only [sbs] at hz); first | (exact absurd hz (by decide)) | (exfalso; omega) | skip))
    | (with_reducible exact u_ret rfl rfl)
    | ((with_reducible apply u_ret); (· rfl); first | exact rfl | (refine retB ?_) | (refine retI ?_) | (refine retD ?_)))
  exact u_pan rfl rfl rfl ⟨_, _, rfl⟩

end Go.Am.Ct

/-
  What the court does with acts: the parts that only read.
-/
namespace Go.Am.Ct
set_option maxRecDepth 100000
set_option maxHeartbeats 4000000
open Go.Proofs Go.Am.Ap

variable {bs : List D} {j : Nat} {c : Cod} {l : List Akt} {sa sf : D} {fs : List (Int × D)}

attribute [local irreducible] inR

theorem c98y (h : ActsAt bs j c l sa sf) (hf : SlOf bs 115 2 fcs sf fs) {k : Nat} (hk : k < fs.length) {p : Int} {b1 n1 : Nat} (hfk : fs[k] = (p, .sl b1 0 n1)) : FSpecO Try.prog 98 (.st bs) [.loc j 0, I k] (.ret (.agg [I p, .sl b1 0 n1])) := by
  refine ku98.readO rfl rfl ?_
  unfold u98
  simp only [ups_cons, ups_nil, List.cons_append, List.nil_append]
  obtain ⟨b, rfl, hb⟩ := hf.get hk
  have h0 : decide ((k : Int) ≥ (fs.length : Int)) = false := by simp; omega
  have hx : fs[k]? = some (p, D.sl b1 0 n1) := by rw [List.getElem?_eq_getElem hk, hfk]
  repeat' (first
    | ((with_reducible apply nrm); (· simp only [sbe]; rfl))
    | ((with_reducible apply u_chk); (· rfl))
    | ((with_reducible apply u_ld); (· rfl); (· rfl); (· first | exact ld_blk h.1 rfl | exact ld_el hb (fun _ => rfl) hx); (· simp only [sbe]; rfl))
    | ((with_reducible apply u_eaddr); (· rfl); (· rfl); (· first | exact eaddr_sl hk); (· simp only [sbe]; rfl))
    | ((with_reducible apply u_lenL); (· rfl); (· exact lenL_map); (· simp only [sbe]; rfl))
    | ((with_reducible apply u_ev); (· rfl); (· simp only [sbe]; rfl))
    | ((with_reducible apply u_pcallR); (· rfl); (· rfl); (· first | exact c96n h0 _); (· rfl); (· simp only [sbe]; rfl))
    | ((with_reducible apply u_jump); (· rfl); (· rfl))
    | (with_reducible refine at_jump ?_)
    | (with_reducible refine over_jump (by decide) ?_)
    | (with_reducible refine kj rfl ?_)
    | ((with_reducible apply u_ite); (· rfl); all_goals (intro hz; (try simp only [sbs] at hz); first | (exact absurd hz (by decide)) | (exfalso; omega) | skip))
    | (with_reducible exact u_ret rfl rfl)
    | ((with_reducible apply u_ret); (· rfl); first | exact rfl | (refine retB ?_) | (refine retI ?_) | (refine retD ?_)))

theorem c98n (h : ActsAt bs j c l sa sf) (hf : SlOf bs 115 2 fcs sf fs) {n : Int} (hk : fs.length ≤ n) : FSpecO Try.prog 98 (.st bs) [.loc j 0, I n] (.pan (refusal 5)) := by
  refine ku98.readO rfl rfl ?_
  unfold u98
  simp only [ups_cons, ups_nil, List.cons_append, List.nil_append]
  have h0 : decide (n ≥ (fs.length : Int)) = true := by simp; omega
  repeat' (first
    | ((with_reducible apply nrm); (· simp only [sbe]; rfl))
    | ((with_reducible apply u_chk); (· rfl))
    | ((with_reducible apply u_ld); (· rfl); (· rfl); (· first | exact ld_blk h.1 rfl); (· simp only [sbe]; rfl))
    | ((with_reducible apply u_lenL); (· rfl); (· first | exact hf.len); (· simp only [sbe]; rfl))
    | ((with_reducible apply u_lenL); (· rfl); (· exact lenL_map); (· simp only [sbe]; rfl))
    | ((with_reducible apply u_ev); (· rfl); (· simp only [sbe]; rfl))
    | ((with_reducible apply u_pcallP); (· rfl); (· rfl); (· first | exact c96y h0 _); (· rfl); (· exact ⟨_, _, rfl⟩))
    | ((with_reducible apply u_jump); (· rfl); (· rfl))
    | (with_reducible refine at_jump ?_)
    | (with_reducible refine over_jump (by decide) ?_)
    | (with_reducible refine kj rfl ?_)
    | ((with_reducible apply u_ite); (· rfl); all_goals (intro hz; (try simp only [sbs] at hz); first | (exact absurd hz (by decide)) | (exfalso; omega) | skip))
    | (with_reducible exact u_ret rfl rfl)
    | ((with_reducible apply u_ret); (· rfl); first | exact rfl | (refine retB ?_) | (refine retI ?_) | (refine retD ?_)))

def lastSt (c : Cod) (l : List Akt) (idx : List Nat) : Int := stGo l c.second (nth l (idx.getLast?.getD 0)).minute idx 1

theorem c99 (h : ActsAt bs j c l sa sf) (hm : ∀ a, a ∈ l → inR a.minute 0 10000000 = true) {s : D} {idx : List Nat} (hs : SlOf bs 3 1 ncs s idx) (hi : ∀ i, i ∈ idx → i < l.length) (hL : idx.length ≤ 1000000) (hne : idx ≠ []) (p : Int) : FSpecO Try.prog 99 (.st bs) [.loc j 0, .agg [I p, s]] (.ret (I (lastSt c l idx))) := by
  have hm' : ∀ a, a ∈ l → 0 ≤ a.minute ∧ a.minute ≤ 10000000 := fun a ha => by
    have := hm a ha
    unfold inR at this
    simpa using this
  have hpos : 0 < idx.length := List.length_pos_iff.2 hne
  have hlt : idx.length - 1 < idx.length := by omega
  have hx := List.getElem?_eq_getElem hlt
  have hxl := hi _ (List.getElem_mem hlt)
  have e : lastSt c l idx = stGo l c.second l[idx[idx.length - 1]].minute idx 1 := by
    unfold lastSt
    rw [List.getLast?_eq_getElem?, hx]
    simp [nth, hxl]
  have hb := hm' _ (List.getElem_mem hxl)
  have h73 := c73 h (fun a ha => (hm' a ha).1) hs hi hL p l[idx[idx.length - 1]].minute ⟨by omega, by omega⟩
  rw [← e] at h73
  refine ku99.readO rfl rfl ?_
  unfold u99
  simp only [ups_cons, ups_nil, List.cons_append, List.nil_append]
  obtain ⟨b1, rfl, hb1⟩ := hs.get hlt
  obtain ⟨b2, rfl, hb2⟩ := h.2.get hxl
  repeat' (first
    | ((with_reducible apply nrm); (· simp only [sbe]; rfl))
    | ((with_reducible apply u_chk); (· rfl))
    | ((with_reducible apply u_ld); (· rfl); (· rfl); (· first | exact ld_blk h.1 rfl | exact ld_el0 hb1 (fun _ => rfl) hx rfl | exact ld_elc hb2 (fun _ => rfl) (List.getElem?_eq_getElem hxl) rfl); (· simp only [sbe]; rfl))
    | ((with_reducible apply u_eaddr); (· rfl); (· rfl); (· first | exact eaddr_sl hlt | exact eaddr_sl hxl); (· simp only [sbe]; rfl))
    | ((with_reducible apply u_lenL); (· rfl); (· exact lenL_map); (· simp only [sbe]; rfl))
    | ((with_reducible apply u_pred); (· rfl); (· omega); (· simp only [sbe]; rfl))
    | ((with_reducible apply u_sub); (· rfl); (· rfl); (· omega); (· simp only [sbe]; rfl))
    | ((with_reducible apply u_ev); (· rfl); (· simp only [sbe]; rfl))
    | ((with_reducible apply u_call); (· rfl); (· rfl); (· first | exact h73); (· rfl); (· simp only [sbe]; rfl))
    | ((with_reducible apply u_jump); (· rfl); (· rfl))
    | (with_reducible refine at_jump ?_)
    | (with_reducible refine over_jump (by decide) ?_)
    | (with_reducible refine kj rfl ?_)
    | ((with_reducible apply u_ite); (· rfl); all_goals (intro hz; (try simp only [sbs] at hz); first | (exact absurd hz (by decide)) | (exfalso; omega) | skip))
    | (with_reducible exact u_ret rfl rfl)
    | ((with_reducible apply u_ret); (· rfl); first | exact rfl | (refine retB ?_) | (refine retI ?_) | (refine retD ?_)))

def verA (c : Cod) (n m : Int) : Art := (verArt c.arts n m c.arts.length).getD .zero

def penBad (c : Cod) (p a : Akt) : Bool := (a.upheld && !(inR a.penalty (verA c p.article p.at_).l (verA c p.article p.at_).m)) || (!a.upheld && a.penalty != 0)

theorem c100 (h : ActsAt bs j c l sa sf) (hc : c.arts.length ≤ 1000) {p : Nat} (hp : p < l.length) (hv : 0 ≤ ver c.arts l[p].article l[p].at_ c.arts.length) (s : D) (a : Akt) :
    FSpecO Try.prog 100 (.st bs) [.loc j 0, .agg [I p, s], a.d] (if penBad c l[p] a = true then .pan (refusal 7) else .ret (.tup [])) := by
  refine ku100.readO rfl rfl ?_
  unfold u100
  simp only [ups_cons, ups_nil, List.cons_append, List.nil_append]
  obtain ⟨b, rfl, hb⟩ := h.2.get hp
  rcases ver_spec c.arts l[p].article l[p].at_ c.arts.length with ⟨h1, _⟩ | ⟨jj, v, h1, h2, h3⟩
  · omega
  have h81 := c81 (bs := bs) c l[p].article l[p].at_ hc
  rw [h1] at h81
  have hvA : verA c l[p].article l[p].at_ = v := by simp [verA, h3]
  cases hbad : penBad c l[p] a
  · unfold penBad at hbad
    rw [hvA] at hbad
    repeat' (first
      | ((with_reducible apply nrm); (· simp only [sbe]; rfl))
      | ((with_reducible apply u_chk); (· rfl))
      | ((with_reducible apply u_ld); (· rfl); (· rfl); (· first | exact ld_blk h.1 rfl | exact ldN_blk h.1 (Nat.le_of_ble_eq_true rfl) | exact ld_el hb (fun _ => rfl) (List.getElem?_eq_getElem hp)); (· simp only [sbe]; rfl))
      | ((with_reducible apply u_eaddr); (· rfl); (· rfl); (· first | exact eaddr_sl hp | exact eaddr_lst h2 rfl); (· simp only [sbe]; rfl))
      | ((with_reducible apply u_ev); (· rfl); (· simp only [sbe]; rfl))
      | ((with_reducible apply u_call); (· rfl); (· rfl); (· first | exact h81 | exact c52 _ _ _); (· rfl); (· simp only [sbe]; rfl))
      | ((with_reducible apply u_pcallR); (· rfl); (· rfl); (· first | exact c96n hbad _); (· rfl); (· simp only [sbe]; rfl))
      | ((with_reducible apply u_or); (· rfl))
      | ((with_reducible apply u_and); (· rfl))
      | ((with_reducible apply u_jump); (· rfl); (· rfl))
      | (with_reducible refine at_jump ?_)
      | (with_reducible refine over_jump (by decide) ?_)
      | (with_reducible refine kj rfl ?_)
      | ((with_reducible apply u_ite); (· rfl); all_goals (intro hz; (try simp only [sbs] at hz); first | (exact absurd hz (by decide)) | (exfalso; omega) | skip))
      | (with_reducible exact u_ret rfl rfl)
      | ((with_reducible apply u_ret); (· rfl); first | exact rfl | (refine retB ?_) | (refine retI ?_) | (refine retD ?_))
      | ((with_reducible intro hz); (try simp only [sbs] at hz)))
  · unfold penBad at hbad
    rw [hvA] at hbad
    repeat' (first
      | ((with_reducible apply nrm); (· simp only [sbe]; rfl))
      | ((with_reducible apply u_chk); (· rfl))
      | ((with_reducible apply u_ld); (· rfl); (· rfl); (· first | exact ld_blk h.1 rfl | exact ldN_blk h.1 (Nat.le_of_ble_eq_true rfl) | exact ld_el hb (fun _ => rfl) (List.getElem?_eq_getElem hp)); (· simp only [sbe]; rfl))
      | ((with_reducible apply u_eaddr); (· rfl); (· rfl); (· first | exact eaddr_sl hp | exact eaddr_lst h2 rfl); (· simp only [sbe]; rfl))
      | ((with_reducible apply u_ev); (· rfl); (· simp only [sbe]; rfl))
      | ((with_reducible apply u_call); (· rfl); (· rfl); (· first | exact h81 | exact c52 _ _ _); (· rfl); (· simp only [sbe]; rfl))
      | ((with_reducible apply u_pcallP); (· rfl); (· rfl); (· first | exact c96y hbad _); (· rfl); (· exact ⟨_, _, rfl⟩))
      | ((with_reducible apply u_or); (· rfl))
      | ((with_reducible apply u_and); (· rfl))
      | ((with_reducible apply u_jump); (· rfl); (· rfl))
      | (with_reducible refine at_jump ?_)
      | (with_reducible refine over_jump (by decide) ?_)
      | (with_reducible refine kj rfl ?_)
      | ((with_reducible apply u_ite); (· rfl); all_goals (intro hz; (try simp only [sbs] at hz); first | (exact absurd hz (by decide)) | (exfalso; omega) | skip))
      | (with_reducible exact u_ret rfl rfl)
      | ((with_reducible apply u_ret); (· rfl); first | exact rfl | (refine retB ?_) | (refine retI ?_) | (refine retD ?_))
      | ((with_reducible intro hz); (try simp only [sbs] at hz)))

structure CaseAt (bs : List D) (c : Cod) (l : List Akt) (fs : List (Int × D)) (k p : Nat) (s : D) (idx : List Nat) : Prop where
  fk : fs[k]? = some (↑p, s)
  sl : SlOf bs 3 1 ncs s idx
  lt : ∀ i, i ∈ idx → i < l.length
  pl : p < l.length
  ne : idx ≠ []
  len : idx.length ≤ 1000000
  ver : 0 ≤ ver c.arts (nth l p).article (nth l p).at_ c.arts.length

theorem CaseAt.hk {k p : Nat} {s : D} {idx : List Nat} (h : CaseAt bs c l fs k p s idx) : k < fs.length := (List.getElem?_eq_some_iff.1 h.fk).1
theorem CaseAt.get {k p : Nat} {s : D} {idx : List Nat} (h : CaseAt bs c l fs k p s idx) : fs[k]'h.hk = (↑p, s) := (List.getElem?_eq_some_iff.1 h.fk).2

theorem c64 (h : ActsAt bs j c l sa sf) (hL : l.length ≤ 1000000) (a : Akt) : FSpecWO Try.prog 64 (.st bs) [.loc j 0, a.d] (if 0 ≤ pubAt l a.paper then .pan (refusal 6) else .ret (I (-1))) (.st bs) := by
  refine ku64.writeO rfl ?_
  unfold u64
  simp only [ups_cons, ups_nil, List.cons_append, List.nil_append]
  split
  · rename_i hp
    repeat' (first
      | ((with_reducible apply nrm); (· simp only [sbe]; rfl))
      | ((with_reducible apply u_chk); (· rfl))
      | ((with_reducible apply u_ev); (· rfl); (· simp only [sbe]; rfl))
      | ((with_reducible apply u_call); (· rfl); (· rfl); (· first | exact c97 h hL _); (· rfl); (· simp only [sbe]; rfl))
      | ((with_reducible apply u_pcallP); (· rfl); (· rfl); (· first | exact c96y (decide_eq_true hp) _); (· rfl); (· exact ⟨_, _, rfl⟩))
      | ((with_reducible apply u_jump); (· rfl); (· rfl))
      | (with_reducible refine at_jump ?_)
      | (with_reducible refine over_jump (by decide) ?_)
      | (with_reducible refine kj rfl ?_)
      | ((with_reducible apply u_ite); (· rfl); all_goals (intro hz; (try simp only [sbs] at hz); first | (exact absurd hz (by decide)) | (exfalso; omega) | skip))
      | (with_reducible exact u_ret rfl rfl)
      | ((with_reducible apply u_ret); (· rfl); first | exact rfl | (refine retB ?_) | (refine retI ?_) | (refine retD ?_)))
  · rename_i hp
    repeat' (first
      | ((with_reducible apply nrm); (· simp only [sbe]; rfl))
      | ((with_reducible apply u_chk); (· rfl))
      | ((with_reducible apply u_ev); (· rfl); (· simp only [sbe]; rfl))
      | ((with_reducible apply u_call); (· rfl); (· rfl); (· first | exact c97 h hL _); (· rfl); (· simp only [sbe]; rfl))
      | ((with_reducible apply u_pcallR); (· rfl); (· rfl); (· first | exact c96n (decide_eq_false hp) _); (· rfl); (· simp only [sbe]; rfl))
      | ((with_reducible apply u_jump); (· rfl); (· rfl))
      | (with_reducible refine at_jump ?_)
      | (with_reducible refine over_jump (by decide) ?_)
      | (with_reducible refine kj rfl ?_)
      | ((with_reducible apply u_ite); (· rfl); all_goals (intro hz; (try simp only [sbs] at hz); first | (exact absurd hz (by decide)) | (exfalso; omega) | skip))
      | (with_reducible exact u_ret rfl rfl)
      | ((with_reducible apply u_ret); (· rfl); first | exact rfl | (refine retB ?_) | (refine retI ?_) | (refine retD ?_)))


theorem c66 (h : ActsAt bs j c l sa sf) (hc : c.arts.length ≤ 1000) (hm : ∀ a, a ∈ l → inR a.minute 0 10000000 = true) (hf : SlOf bs 115 2 fcs sf fs) {k p : Nat} {idx : List Nat} {s : D} (hF : CaseAt bs c l fs k p s idx) (a : Akt) (ha : a.cse = k) :
    FSpecWO Try.prog 66 (.st bs) [.loc j 0, a.d] (if lastSt c l idx ≠ 1 then .pan (refusal 6) else if penBad c (nth l p) a = true then .pan (refusal 7) else .ret (I a.cse)) (.st bs) := by
  refine ku66.writeO rfl ?_
  unfold u66
  simp only [ups_cons, ups_nil, List.cons_append, List.nil_append]
  have hFs := hF.sl
  obtain ⟨b1, rfl, hb1⟩ := hFs.get (List.length_pos_iff.2 hF.ne)
  have h98 := c98y h hf hF.hk hF.get
  rw [← ha] at h98
  have h99 := c99 h hm hF.sl hF.lt hF.len hF.ne p
  have hv := hF.ver
  have h100 := c100 h hc hF.pl (by rw [nth_get hF.pl] at hv; exact hv) (.sl b1 0 idx.length) a
  rw [nth_get hF.pl]
  split
  · rename_i h1
    repeat' (first
      | ((with_reducible apply nrm); (· simp only [sbe]; rfl))
      | ((with_reducible apply u_chk); (· rfl))
      | ((with_reducible apply u_ev); (· rfl); (· simp only [sbe]; rfl))
      | ((with_reducible apply u_pcallR); (· rfl); (· rfl); (· first | exact h98 | exact h99); (· rfl); (· simp only [sbe]; rfl))
      | ((with_reducible apply u_pcallP); (· rfl); (· rfl); (· first | exact c96y (by simpa using h1) _); (· rfl); (· exact ⟨_, _, rfl⟩))
      | ((with_reducible apply u_jump); (· rfl); (· rfl))
      | (with_reducible refine at_jump ?_)
      | (with_reducible refine over_jump (by decide) ?_)
      | (with_reducible refine kj rfl ?_)
      | ((with_reducible apply u_ite); (· rfl); all_goals (intro hz; (try simp only [sbs] at hz); first | (exact absurd hz (by decide)) | (exfalso; omega) | skip))
      | (with_reducible exact u_ret rfl rfl)
      | ((with_reducible apply u_ret); (· rfl); first | exact rfl | (refine retB ?_) | (refine retI ?_) | (refine retD ?_)))
  · rename_i h1
    split
    · rename_i h2
      rw [if_pos h2] at h100
      repeat' (first
        | ((with_reducible apply nrm); (· simp only [sbe]; rfl))
        | ((with_reducible apply u_chk); (· rfl))
        | ((with_reducible apply u_ev); (· rfl); (· simp only [sbe]; rfl))
        | ((with_reducible apply u_pcallR); (· rfl); (· rfl); (· first | exact h98 | exact h99 | exact c96n (by simpa using h1) _); (· rfl); (· simp only [sbe]; rfl))
        | ((with_reducible apply u_pcallP); (· rfl); (· rfl); (· first | exact h100); (· rfl); (· exact ⟨_, _, rfl⟩))
        | ((with_reducible apply u_jump); (· rfl); (· rfl))
        | (with_reducible refine at_jump ?_)
        | (with_reducible refine over_jump (by decide) ?_)
        | (with_reducible refine kj rfl ?_)
        | ((with_reducible apply u_ite); (· rfl); all_goals (intro hz; (try simp only [sbs] at hz); first | (exact absurd hz (by decide)) | (exfalso; omega) | skip))
        | (with_reducible exact u_ret rfl rfl)
        | ((with_reducible apply u_ret); (· rfl); first | exact rfl | (refine retB ?_) | (refine retI ?_) | (refine retD ?_)))
    · rename_i h2
      rw [if_neg h2] at h100
      repeat' (first
        | ((with_reducible apply nrm); (· simp only [sbe]; rfl))
        | ((with_reducible apply u_chk); (· rfl))
        | ((with_reducible apply u_ev); (· rfl); (· simp only [sbe]; rfl))
        | ((with_reducible apply u_pcallR); (· rfl); (· rfl); (· first | exact h98 | exact h99 | exact c96n (by simpa using h1) _ | exact h100); (· rfl); (· simp only [sbe]; rfl))
        | ((with_reducible apply u_jump); (· rfl); (· rfl))
        | (with_reducible refine at_jump ?_)
        | (with_reducible refine over_jump (by decide) ?_)
        | (with_reducible refine kj rfl ?_)
        | ((with_reducible apply u_ite); (· rfl); all_goals (intro hz; (try simp only [sbs] at hz); first | (exact absurd hz (by decide)) | (exfalso; omega) | skip))
        | (with_reducible exact u_ret rfl rfl)
        | ((with_reducible apply u_ret); (· rfl); first | exact rfl | (refine retB ?_) | (refine retI ?_) | (refine retD ?_)))

theorem c68 (h : ActsAt bs j c l sa sf) (hc : c.arts.length ≤ 1000) (hm : ∀ a, a ∈ l → inR a.minute 0 10000000 = true) (hf : SlOf bs 115 2 fcs sf fs) {k p : Nat} {idx : List Nat} {s : D} (hF : CaseAt bs c l fs k p s idx) (a : Akt) (ha : a.cse = k) :
    FSpecWO Try.prog 68 (.st bs) [.loc j 0, a.d] (if lastSt c l idx ≠ 4 then .pan (refusal 6) else if penBad c (nth l p) a = true then .pan (refusal 7) else .ret (I a.cse)) (.st bs) := by
  refine ku68.writeO rfl ?_
  unfold u68
  simp only [ups_cons, ups_nil, List.cons_append, List.nil_append]
  have hFs := hF.sl
  obtain ⟨b1, rfl, hb1⟩ := hFs.get (List.length_pos_iff.2 hF.ne)
  have h98 := c98y h hf hF.hk hF.get
  rw [← ha] at h98
  have h99 := c99 h hm hF.sl hF.lt hF.len hF.ne p
  have hv := hF.ver
  have h100 := c100 h hc hF.pl (by rw [nth_get hF.pl] at hv; exact hv) (.sl b1 0 idx.length) a
  rw [nth_get hF.pl]
  split
  · rename_i h1
    repeat' (first
      | ((with_reducible apply nrm); (· simp only [sbe]; rfl))
      | ((with_reducible apply u_chk); (· rfl))
      | ((with_reducible apply u_ev); (· rfl); (· simp only [sbe]; rfl))
      | ((with_reducible apply u_pcallR); (· rfl); (· rfl); (· first | exact h98 | exact h99); (· rfl); (· simp only [sbe]; rfl))
      | ((with_reducible apply u_pcallP); (· rfl); (· rfl); (· first | exact c96y (by simpa using h1) _); (· rfl); (· exact ⟨_, _, rfl⟩))
      | ((with_reducible apply u_jump); (· rfl); (· rfl))
      | (with_reducible refine at_jump ?_)
      | (with_reducible refine over_jump (by decide) ?_)
      | (with_reducible refine kj rfl ?_)
      | ((with_reducible apply u_ite); (· rfl); all_goals (intro hz; (try simp only [sbs] at hz); first | (exact absurd hz (by decide)) | (exfalso; omega) | skip))
      | (with_reducible exact u_ret rfl rfl)
      | ((with_reducible apply u_ret); (· rfl); first | exact rfl | (refine retB ?_) | (refine retI ?_) | (refine retD ?_)))
  · rename_i h1
    split
    · rename_i h2
      rw [if_pos h2] at h100
      repeat' (first
        | ((with_reducible apply nrm); (· simp only [sbe]; rfl))
        | ((with_reducible apply u_chk); (· rfl))
        | ((with_reducible apply u_ev); (· rfl); (· simp only [sbe]; rfl))
        | ((with_reducible apply u_pcallR); (· rfl); (· rfl); (· first | exact h98 | exact h99 | exact c96n (by simpa using h1) _); (· rfl); (· simp only [sbe]; rfl))
        | ((with_reducible apply u_pcallP); (· rfl); (· rfl); (· first | exact h100); (· rfl); (· exact ⟨_, _, rfl⟩))
        | ((with_reducible apply u_jump); (· rfl); (· rfl))
        | (with_reducible refine at_jump ?_)
        | (with_reducible refine over_jump (by decide) ?_)
        | (with_reducible refine kj rfl ?_)
        | ((with_reducible apply u_ite); (· rfl); all_goals (intro hz; (try simp only [sbs] at hz); first | (exact absurd hz (by decide)) | (exfalso; omega) | skip))
        | (with_reducible exact u_ret rfl rfl)
        | ((with_reducible apply u_ret); (· rfl); first | exact rfl | (refine retB ?_) | (refine retI ?_) | (refine retD ?_)))
    · rename_i h2
      rw [if_neg h2] at h100
      repeat' (first
        | ((with_reducible apply nrm); (· simp only [sbe]; rfl))
        | ((with_reducible apply u_chk); (· rfl))
        | ((with_reducible apply u_ev); (· rfl); (· simp only [sbe]; rfl))
        | ((with_reducible apply u_pcallR); (· rfl); (· rfl); (· first | exact h98 | exact h99 | exact c96n (by simpa using h1) _ | exact h100); (· rfl); (· simp only [sbe]; rfl))
        | ((with_reducible apply u_jump); (· rfl); (· rfl))
        | (with_reducible refine at_jump ?_)
        | (with_reducible refine over_jump (by decide) ?_)
        | (with_reducible refine kj rfl ?_)
        | ((with_reducible apply u_ite); (· rfl); all_goals (intro hz; (try simp only [sbs] at hz); first | (exact absurd hz (by decide)) | (exfalso; omega) | skip))
        | (with_reducible exact u_ret rfl rfl)
        | ((with_reducible apply u_ret); (· rfl); first | exact rfl | (refine retB ?_) | (refine retI ?_) | (refine retD ?_)))

theorem c69 (h : ActsAt bs j c l sa sf) (hm : ∀ a, a ∈ l → inR a.minute 0 10000000 = true) (hf : SlOf bs 115 2 fcs sf fs) {k p : Nat} {idx : List Nat} {s : D} (hF : CaseAt bs c l fs k p s idx) (a : Akt) (ha : a.cse = k) :
    FSpecWO Try.prog 69 (.st bs) [.loc j 0, a.d] (if lastSt c l idx ≠ 1 then .pan (refusal 6) else if a.by_ ≠ (nth l p).by_ then .pan (refusal 7) else .ret (I a.cse)) (.st bs) := by
  refine ku69.writeO rfl ?_
  unfold u69
  simp only [ups_cons, ups_nil, List.cons_append, List.nil_append]
  have hFs := hF.sl
  obtain ⟨b1, rfl, hb1⟩ := hFs.get (List.length_pos_iff.2 hF.ne)
  have h98 := c98y h hf hF.hk hF.get
  rw [← ha] at h98
  have h99 := c99 h hm hF.sl hF.lt hF.len hF.ne p
  have hp := hF.pl
  obtain ⟨b, rfl, hb⟩ := h.2.get hp
  rw [nth_get hp]
  split
  · rename_i h1
    repeat' (first
      | ((with_reducible apply nrm); (· simp only [sbe]; rfl))
      | ((with_reducible apply u_chk); (· rfl))
      | ((with_reducible apply u_ev); (· rfl); (· simp only [sbe]; rfl))
      | ((with_reducible apply u_pcallR); (· rfl); (· rfl); (· first | exact h98 | exact h99); (· rfl); (· simp only [sbe]; rfl))
      | ((with_reducible apply u_pcallP); (· rfl); (· rfl); (· first | exact c96y (by simpa using h1) _); (· rfl); (· exact ⟨_, _, rfl⟩))
      | ((with_reducible apply u_jump); (· rfl); (· rfl))
      | (with_reducible refine at_jump ?_)
      | (with_reducible refine over_jump (by decide) ?_)
      | (with_reducible refine kj rfl ?_)
      | ((with_reducible apply u_ite); (· rfl); all_goals (intro hz; (try simp only [sbs] at hz); first | (exact absurd hz (by decide)) | (exfalso; omega) | skip))
      | (with_reducible exact u_ret rfl rfl)
      | ((with_reducible apply u_ret); (· rfl); first | exact rfl | (refine retB ?_) | (refine retI ?_) | (refine retD ?_)))
  · rename_i h1
    split
    · rename_i h2
      repeat' (first
        | ((with_reducible apply nrm); (· simp only [sbe]; rfl))
        | ((with_reducible apply u_chk); (· rfl))
        | ((with_reducible apply u_ld); (· rfl); (· rfl); (· first | exact ld_blk h.1 rfl | exact ld_elc hb (fun _ => rfl) (List.getElem?_eq_getElem hp) rfl); (· simp only [sbe]; rfl))
        | ((with_reducible apply u_eaddr); (· rfl); (· rfl); (· first | exact eaddr_sl hp); (· simp only [sbe]; rfl))
        | ((with_reducible apply u_ev); (· rfl); (· simp only [sbe]; rfl))
        | ((with_reducible apply u_pcallR); (· rfl); (· rfl); (· first | exact h98 | exact h99 | exact c96n (by simpa using h1) _); (· rfl); (· simp only [sbe]; rfl))
        | ((with_reducible apply u_pcallP); (· rfl); (· rfl); (· first | exact c96y (by simpa using h2) _); (· rfl); (· exact ⟨_, _, rfl⟩))
        | ((with_reducible apply u_jump); (· rfl); (· rfl))
        | (with_reducible refine at_jump ?_)
        | (with_reducible refine over_jump (by decide) ?_)
        | (with_reducible refine kj rfl ?_)
        | ((with_reducible apply u_ite); (· rfl); all_goals (intro hz; (try simp only [sbs] at hz); first | (exact absurd hz (by decide)) | (exfalso; omega) | skip))
        | (with_reducible exact u_ret rfl rfl)
        | ((with_reducible apply u_ret); (· rfl); first | exact rfl | (refine retB ?_) | (refine retI ?_) | (refine retD ?_)))
    · rename_i h2
      repeat' (first
        | ((with_reducible apply nrm); (· simp only [sbe]; rfl))
        | ((with_reducible apply u_chk); (· rfl))
        | ((with_reducible apply u_ld); (· rfl); (· rfl); (· first | exact ld_blk h.1 rfl | exact ld_elc hb (fun _ => rfl) (List.getElem?_eq_getElem hp) rfl); (· simp only [sbe]; rfl))
        | ((with_reducible apply u_eaddr); (· rfl); (· rfl); (· first | exact eaddr_sl hp); (· simp only [sbe]; rfl))
        | ((with_reducible apply u_ev); (· rfl); (· simp only [sbe]; rfl))
        | ((with_reducible apply u_pcallR); (· rfl); (· rfl); (· first | exact h98 | exact h99 | exact c96n (by simpa using h1) _ | exact c96n (by simpa using h2) _); (· rfl); (· simp only [sbe]; rfl))
        | ((with_reducible apply u_jump); (· rfl); (· rfl))
        | (with_reducible refine at_jump ?_)
        | (with_reducible refine over_jump (by decide) ?_)
        | (with_reducible refine kj rfl ?_)
        | ((with_reducible apply u_ite); (· rfl); all_goals (intro hz; (try simp only [sbs] at hz); first | (exact absurd hz (by decide)) | (exfalso; omega) | skip))
        | (with_reducible exact u_ret rfl rfl)
        | ((with_reducible apply u_ret); (· rfl); first | exact rfl | (refine retB ?_) | (refine retI ?_) | (refine retD ?_)))

def appR (c : Cod) (l : List Akt) (p : Nat) (idx : List Nat) (a : Akt) : Int :=
  if lastSt c l idx ≠ 3 then 6 else if a.by_ ≠ (nth l p).by_ ∧ a.by_ ≠ (nth l p).against then 7 else if c.second < a.minute - (nth l (idx.getLast?.getD 0)).minute then 8 else if a.paid ≠ c.price then 7 else 0

theorem c67 (h : ActsAt bs j c l sa sf) (hm : ∀ a, a ∈ l → inR a.minute 0 10000000 = true) (hf : SlOf bs 115 2 fcs sf fs) {k p : Nat} {idx : List Nat} {s : D} (hF : CaseAt bs c l fs k p s idx) (a : Akt) (ha : a.cse = k) (ham : inR a.minute 0 10000000 = true) :
    FSpecWO Try.prog 67 (.st bs) [.loc j 0, a.d] (if appR c l p idx a ≠ 0 then .pan (refusal (appR c l p idx a)) else .ret (I a.cse)) (.st bs) := by
  refine ku67.writeO rfl ?_
  unfold u67
  simp only [ups_cons, ups_nil, List.cons_append, List.nil_append]
  have hpos : 0 < idx.length := List.length_pos_iff.2 hF.ne
  have hlen := hF.len
  have hlt : idx.length - 1 < idx.length := by omega
  have hx := List.getElem?_eq_getElem hlt
  have hxl := hF.lt _ (List.getElem_mem hlt)
  have hFs := hF.sl
  obtain ⟨b1, rfl, hb1⟩ := hFs.get hpos
  have h98 := c98y h hf hF.hk hF.get
  rw [← ha] at h98
  have h99 := c99 h hm hF.sl hF.lt hF.len hF.ne p
  have hp := hF.pl
  obtain ⟨b, rfl, hb⟩ := h.2.get hp
  have hmx := hm _ (List.getElem_mem hxl)
  have e : (nth l (idx.getLast?.getD 0)) = l[idx[idx.length - 1]] := by
    rw [List.getLast?_eq_getElem?, hx]
    simp [nth, hxl]
  have hmx' : 0 ≤ l[idx[idx.length - 1]].minute ∧ l[idx[idx.length - 1]].minute ≤ 10000000 := by unfold inR at hmx; simpa using hmx
  have ham' : 0 ≤ a.minute ∧ a.minute ≤ 10000000 := by unfold inR at ham; simpa using ham
  unfold appR
  rw [nth_get hp, e]
  by_cases h1 : lastSt c l idx ≠ 3
  · simp only [if_pos h1]
    repeat' (first
      | ((with_reducible apply nrm); (· simp only [sbe]; rfl))
      | ((with_reducible apply u_chk); (· rfl))
      | ((with_reducible apply u_lenL); (· rfl); (· exact lenL_map); (· simp only [sbe]; rfl))
      | ((with_reducible apply u_pred); (· rfl); (· omega); (· simp only [sbe]; rfl))
      | ((with_reducible apply u_sub); (· rfl); (· rfl); (· omega); (· simp only [sbe]; rfl))
      | ((with_reducible apply u_ev); (· rfl); (· simp only [sbe]; rfl))
      | ((with_reducible apply u_pcallR); (· rfl); (· rfl); (· first | exact h98 | exact h99); (· rfl); (· simp only [sbe]; rfl))
      | ((with_reducible apply u_pcallP); (· rfl); (· rfl); (· first | exact c96y (by simpa using h1) _); (· rfl); (· exact ⟨_, _, rfl⟩))
      | ((with_reducible apply u_and); (· rfl))
      | ((with_reducible apply u_jump); (· rfl); (· rfl))
      | (with_reducible refine at_jump ?_)
      | (with_reducible refine over_jump (by decide) ?_)
      | (with_reducible refine kj rfl ?_)
      | ((with_reducible apply u_ite); (· rfl); all_goals (intro hz; (try simp only [sbs] at hz); first | (exact absurd hz (by decide)) | (exfalso; omega) | skip))
      | (with_reducible exact u_ret rfl rfl)
      | ((with_reducible apply u_ret); (· rfl); first | exact rfl | (refine retB ?_) | (refine retI ?_) | (refine retD ?_))
      | ((with_reducible intro hz); (try simp only [sbs] at hz)))
  · simp only [if_neg h1]
    by_cases h2 : a.by_ ≠ l[p].by_ ∧ a.by_ ≠ l[p].against
    · simp only [if_pos h2]
      repeat' (first
        | ((with_reducible apply nrm); (· simp only [sbe]; rfl))
        | ((with_reducible apply u_chk); (· rfl))
        | ((with_reducible apply u_ld); (· rfl); (· rfl); (· first | exact ld_blk h.1 rfl | exact ld_el hb (fun _ => rfl) (List.getElem?_eq_getElem hp)); (· simp only [sbe]; rfl))
        | ((with_reducible apply u_eaddr); (· rfl); (· rfl); (· first | exact eaddr_sl hp); (· simp only [sbe]; rfl))
        | ((with_reducible apply u_lenL); (· rfl); (· exact lenL_map); (· simp only [sbe]; rfl))
        | ((with_reducible apply u_pred); (· rfl); (· omega); (· simp only [sbe]; rfl))
        | ((with_reducible apply u_sub); (· rfl); (· rfl); (· omega); (· simp only [sbe]; rfl))
        | ((with_reducible apply u_ev); (· rfl); (· simp only [sbe]; rfl))
        | ((with_reducible apply u_pcallR); (· rfl); (· rfl); (· first | exact h98 | exact h99 | exact c96n (by simpa using h1) _); (· rfl); (· simp only [sbe]; rfl))
        | ((with_reducible apply u_pcallP); (· rfl); (· rfl); (· first | exact c96y (by simpa using h2) _); (· rfl); (· exact ⟨_, _, rfl⟩))
        | ((with_reducible apply u_and); (· rfl))
        | ((with_reducible apply u_jump); (· rfl); (· rfl))
        | (with_reducible refine at_jump ?_)
        | (with_reducible refine over_jump (by decide) ?_)
        | (with_reducible refine kj rfl ?_)
        | ((with_reducible apply u_ite); (· rfl); all_goals (intro hz; (try simp only [sbs] at hz); first | (exact absurd hz (by decide)) | (exfalso; omega) | skip))
        | (with_reducible exact u_ret rfl rfl)
        | ((with_reducible apply u_ret); (· rfl); first | exact rfl | (refine retB ?_) | (refine retI ?_) | (refine retD ?_))
        | ((with_reducible intro hz); (try simp only [sbs] at hz)))
    · simp only [if_neg h2]
      by_cases h3 : c.second < a.minute - l[idx[idx.length - 1]].minute
      · simp only [if_pos h3]
        repeat' (first
          | ((with_reducible apply nrm); (· simp only [sbe]; rfl))
          | ((with_reducible apply u_chk); (· rfl))
          | ((with_reducible apply u_ld); (· rfl); (· rfl); (· first | exact ld_blk h.1 rfl | exact ld_el hb (fun _ => rfl) (List.getElem?_eq_getElem hp) | exact ld_el0 hb1 (fun _ => rfl) hx rfl | exact ld_elc hb (fun _ => rfl) (List.getElem?_eq_getElem hxl) rfl); (· simp only [sbe]; rfl))
          | ((with_reducible apply u_eaddr); (· rfl); (· rfl); (· first | exact eaddr_sl hp | exact eaddr_sl hlt | exact eaddr_sl hxl); (· simp only [sbe]; rfl))
          | ((with_reducible apply u_lenL); (· rfl); (· exact lenL_map); (· simp only [sbe]; rfl))
          | ((with_reducible apply u_pred); (· rfl); (· omega); (· simp only [sbe]; rfl))
          | ((with_reducible apply u_sub); (· rfl); (· rfl); (· omega); (· simp only [sbe]; rfl))
          | ((with_reducible apply u_ev); (· rfl); (· simp only [sbe]; rfl))
          | ((with_reducible apply u_pcallR); (· rfl); (· rfl); (· first | exact h98 | exact h99 | exact c96n (by simpa using h1) _ | exact c96n (by simpa using h2) _); (· rfl); (· simp only [sbe]; rfl))
          | ((with_reducible apply u_pcallP); (· rfl); (· rfl); (· first | exact c96y (decide_eq_true h3) _); (· rfl); (· exact ⟨_, _, rfl⟩))
          | ((with_reducible apply u_and); (· rfl))
          | ((with_reducible apply u_jump); (· rfl); (· rfl))
          | (with_reducible refine at_jump ?_)
          | (with_reducible refine over_jump (by decide) ?_)
          | (with_reducible refine kj rfl ?_)
          | ((with_reducible apply u_ite); (· rfl); all_goals (intro hz; (try simp only [sbs] at hz); first | (exact absurd hz (by decide)) | (exfalso; omega) | skip))
          | (with_reducible exact u_ret rfl rfl)
          | ((with_reducible apply u_ret); (· rfl); first | exact rfl | (refine retB ?_) | (refine retI ?_) | (refine retD ?_))
          | ((with_reducible intro hz); (try simp only [sbs] at hz)))
      · simp only [if_neg h3]
        by_cases h4 : a.paid ≠ c.price
        · simp only [if_pos h4]
          repeat' (first
            | ((with_reducible apply nrm); (· simp only [sbe]; rfl))
            | ((with_reducible apply u_chk); (· rfl))
            | ((with_reducible apply u_ld); (· rfl); (· rfl); (· first | exact ld_blk h.1 rfl | exact ld_el hb (fun _ => rfl) (List.getElem?_eq_getElem hp) | exact ld_el0 hb1 (fun _ => rfl) hx rfl | exact ld_elc hb (fun _ => rfl) (List.getElem?_eq_getElem hxl) rfl); (· simp only [sbe]; rfl))
            | ((with_reducible apply u_eaddr); (· rfl); (· rfl); (· first | exact eaddr_sl hp | exact eaddr_sl hlt | exact eaddr_sl hxl); (· simp only [sbe]; rfl))
            | ((with_reducible apply u_lenL); (· rfl); (· exact lenL_map); (· simp only [sbe]; rfl))
            | ((with_reducible apply u_pred); (· rfl); (· omega); (· simp only [sbe]; rfl))
            | ((with_reducible apply u_sub); (· rfl); (· rfl); (· omega); (· simp only [sbe]; rfl))
            | ((with_reducible apply u_ev); (· rfl); (· simp only [sbe]; rfl))
            | ((with_reducible apply u_pcallR); (· rfl); (· rfl); (· first | exact h98 | exact h99 | exact c96n (by simpa using h1) _ | exact c96n (by simpa using h2) _ | exact c96n (decide_eq_false h3) _); (· rfl); (· simp only [sbe]; rfl))
            | ((with_reducible apply u_pcallP); (· rfl); (· rfl); (· first | exact c96y (by simpa using h4) _); (· rfl); (· exact ⟨_, _, rfl⟩))
            | ((with_reducible apply u_and); (· rfl))
            | ((with_reducible apply u_jump); (· rfl); (· rfl))
            | (with_reducible refine at_jump ?_)
            | (with_reducible refine over_jump (by decide) ?_)
            | (with_reducible refine kj rfl ?_)
            | ((with_reducible apply u_ite); (· rfl); all_goals (intro hz; (try simp only [sbs] at hz); first | (exact absurd hz (by decide)) | (exfalso; omega) | skip))
            | (with_reducible exact u_ret rfl rfl)
            | ((with_reducible apply u_ret); (· rfl); first | exact rfl | (refine retB ?_) | (refine retI ?_) | (refine retD ?_))
            | ((with_reducible intro hz); (try simp only [sbs] at hz)))
        · simp only [if_neg h4]
          repeat' (first
            | ((with_reducible apply nrm); (· simp only [sbe]; rfl))
            | ((with_reducible apply u_chk); (· rfl))
            | ((with_reducible apply u_ld); (· rfl); (· rfl); (· first | exact ld_blk h.1 rfl | exact ld_el hb (fun _ => rfl) (List.getElem?_eq_getElem hp) | exact ld_el0 hb1 (fun _ => rfl) hx rfl | exact ld_elc hb (fun _ => rfl) (List.getElem?_eq_getElem hxl) rfl); (· simp only [sbe]; rfl))
            | ((with_reducible apply u_eaddr); (· rfl); (· rfl); (· first | exact eaddr_sl hp | exact eaddr_sl hlt | exact eaddr_sl hxl); (· simp only [sbe]; rfl))
            | ((with_reducible apply u_lenL); (· rfl); (· exact lenL_map); (· simp only [sbe]; rfl))
            | ((with_reducible apply u_pred); (· rfl); (· omega); (· simp only [sbe]; rfl))
            | ((with_reducible apply u_sub); (· rfl); (· rfl); (· omega); (· simp only [sbe]; rfl))
            | ((with_reducible apply u_ev); (· rfl); (· simp only [sbe]; rfl))
            | ((with_reducible apply u_pcallR); (· rfl); (· rfl); (· first | exact h98 | exact h99 | exact c96n (by simpa using h1) _ | exact c96n (by simpa using h2) _ | exact c96n (decide_eq_false h3) _ | exact c96n (by simpa using h4) _); (· rfl); (· simp only [sbe]; rfl))
            | ((with_reducible apply u_and); (· rfl))
            | ((with_reducible apply u_jump); (· rfl); (· rfl))
            | (with_reducible refine at_jump ?_)
            | (with_reducible refine over_jump (by decide) ?_)
            | (with_reducible refine kj rfl ?_)
            | ((with_reducible apply u_ite); (· rfl); all_goals (intro hz; (try simp only [sbs] at hz); first | (exact absurd hz (by decide)) | (exfalso; omega) | skip))
            | (with_reducible exact u_ret rfl rfl)
            | ((with_reducible apply u_ret); (· rfl); first | exact rfl | (refine retB ?_) | (refine retI ?_) | (refine retD ?_))
            | ((with_reducible intro hz); (try simp only [sbs] at hz)))


theorem c66n (h : ActsAt bs j c l sa sf) (hf : SlOf bs 115 2 fcs sf fs) (a : Akt) (ha : fs.length ≤ a.cse) : FSpecWO Try.prog 66 (.st bs) [.loc j 0, a.d] (.pan (refusal 5)) (.st bs) := by
  refine ku66.writeO rfl ?_
  unfold u66
  simp only [ups_cons, ups_nil, List.cons_append, List.nil_append]
  repeat' (first
    | ((with_reducible apply nrm); (· simp only [sbe]; rfl))
    | ((with_reducible apply u_chk); (· rfl))
    | ((with_reducible apply u_ev); (· rfl); (· simp only [sbe]; rfl))
    | ((with_reducible apply u_pcallP); (· rfl); (· rfl); (· first | exact c98n h hf ha); (· rfl); (· exact ⟨_, _, rfl⟩))
    | ((with_reducible apply u_jump); (· rfl); (· rfl))
    | (with_reducible refine at_jump ?_)
    | (with_reducible refine over_jump (by decide) ?_)
    | (with_reducible refine kj rfl ?_)
    | ((with_reducible apply u_ite); (· rfl); all_goals (intro hz; (try simp only [sbs] at hz); first | (exact absurd hz (by decide)) | (exfalso; omega) | skip))
    | (with_reducible exact u_ret rfl rfl)
    | ((with_reducible apply u_ret); (· rfl); first | exact rfl | (refine retB ?_) | (refine retI ?_) | (refine retD ?_)))

theorem c67n (h : ActsAt bs j c l sa sf) (hf : SlOf bs 115 2 fcs sf fs) (a : Akt) (ha : fs.length ≤ a.cse) : FSpecWO Try.prog 67 (.st bs) [.loc j 0, a.d] (.pan (refusal 5)) (.st bs) := by
  refine ku67.writeO rfl ?_
  unfold u67
  simp only [ups_cons, ups_nil, List.cons_append, List.nil_append]
  repeat' (first
    | ((with_reducible apply nrm); (· simp only [sbe]; rfl))
    | ((with_reducible apply u_chk); (· rfl))
    | ((with_reducible apply u_lenL); (· rfl); (· exact lenL_map); (· simp only [sbe]; rfl))
    | ((with_reducible apply u_pred); (· rfl); (· omega); (· simp only [sbe]; rfl))
    | ((with_reducible apply u_sub); (· rfl); (· rfl); (· omega); (· simp only [sbe]; rfl))
    | ((with_reducible apply u_ev); (· rfl); (· simp only [sbe]; rfl))
    | ((with_reducible apply u_pcallP); (· rfl); (· rfl); (· first | exact c98n h hf ha); (· rfl); (· exact ⟨_, _, rfl⟩))
    | ((with_reducible apply u_and); (· rfl))
    | ((with_reducible apply u_jump); (· rfl); (· rfl))
    | (with_reducible refine at_jump ?_)
    | (with_reducible refine over_jump (by decide) ?_)
    | (with_reducible refine kj rfl ?_)
    | ((with_reducible apply u_ite); (· rfl); all_goals (intro hz; (try simp only [sbs] at hz); first | (exact absurd hz (by decide)) | (exfalso; omega) | skip))
    | (with_reducible exact u_ret rfl rfl)
    | ((with_reducible apply u_ret); (· rfl); first | exact rfl | (refine retB ?_) | (refine retI ?_) | (refine retD ?_))
    | ((with_reducible intro hz); (try simp only [sbs] at hz)))

theorem c68n (h : ActsAt bs j c l sa sf) (hf : SlOf bs 115 2 fcs sf fs) (a : Akt) (ha : fs.length ≤ a.cse) : FSpecWO Try.prog 68 (.st bs) [.loc j 0, a.d] (.pan (refusal 5)) (.st bs) := by
  refine ku68.writeO rfl ?_
  unfold u68
  simp only [ups_cons, ups_nil, List.cons_append, List.nil_append]
  repeat' (first
    | ((with_reducible apply nrm); (· simp only [sbe]; rfl))
    | ((with_reducible apply u_chk); (· rfl))
    | ((with_reducible apply u_ev); (· rfl); (· simp only [sbe]; rfl))
    | ((with_reducible apply u_pcallP); (· rfl); (· rfl); (· first | exact c98n h hf ha); (· rfl); (· exact ⟨_, _, rfl⟩))
    | ((with_reducible apply u_jump); (· rfl); (· rfl))
    | (with_reducible refine at_jump ?_)
    | (with_reducible refine over_jump (by decide) ?_)
    | (with_reducible refine kj rfl ?_)
    | ((with_reducible apply u_ite); (· rfl); all_goals (intro hz; (try simp only [sbs] at hz); first | (exact absurd hz (by decide)) | (exfalso; omega) | skip))
    | (with_reducible exact u_ret rfl rfl)
    | ((with_reducible apply u_ret); (· rfl); first | exact rfl | (refine retB ?_) | (refine retI ?_) | (refine retD ?_)))

theorem c69n (h : ActsAt bs j c l sa sf) (hf : SlOf bs 115 2 fcs sf fs) (a : Akt) (ha : fs.length ≤ a.cse) : FSpecWO Try.prog 69 (.st bs) [.loc j 0, a.d] (.pan (refusal 5)) (.st bs) := by
  refine ku69.writeO rfl ?_
  unfold u69
  simp only [ups_cons, ups_nil, List.cons_append, List.nil_append]
  repeat' (first
    | ((with_reducible apply nrm); (· simp only [sbe]; rfl))
    | ((with_reducible apply u_chk); (· rfl))
    | ((with_reducible apply u_ev); (· rfl); (· simp only [sbe]; rfl))
    | ((with_reducible apply u_pcallP); (· rfl); (· rfl); (· first | exact c98n h hf ha); (· rfl); (· exact ⟨_, _, rfl⟩))
    | ((with_reducible apply u_jump); (· rfl); (· rfl))
    | (with_reducible refine at_jump ?_)
    | (with_reducible refine over_jump (by decide) ?_)
    | (with_reducible refine kj rfl ?_)
    | ((with_reducible apply u_ite); (· rfl); all_goals (intro hz; (try simp only [sbs] at hz); first | (exact absurd hz (by decide)) | (exfalso; omega) | skip))
    | (with_reducible exact u_ret rfl rfl)
    | ((with_reducible apply u_ret); (· rfl); first | exact rfl | (refine retB ?_) | (refine retI ?_) | (refine retD ?_)))

end Go.Am.Ct

/-
  What the specification's functions answer.
-/
namespace Go.Am.Ct
set_option maxRecDepth 100000
set_option maxHeartbeats 4000000
open Go.Proofs Go.Am.Ap

variable {bs : List D} {c : Cod} {l : List Akt}

abbrev Rec (l : List Akt) : D := .lst (l.map Akt.d)
abbrev In (i : Nat) : D := I (i : Int)
abbrev Ix (l : List Nat) : D := .lst (l.map In)

def lastIx (P : Akt → Bool) (l : List Akt) : Nat → Int
  | 0 => -1
  | i + 1 => if P (nth l i) = true then i else lastIx P l i

def isAct (kind number minute : Int) (a : Akt) : Bool := a.kind == kind && a.cse == number && decide (a.minute ≤ minute)
def rlast (l : List Akt) (kind number minute : Int) : Int := lastIx (isAct kind number minute) l l.length

theorem c59 (hL : l.length ≤ 1000000) (kind number minute : Int) : FSpecR Try.prog 59 (.st bs) [Rec l, I kind, I number, I minute] (I (rlast l kind number minute)) := by
  refine ku59.R rfl rfl ?_
  unfold u59
  simp only [ups_cons, ups_nil, List.cons_append, List.nil_append]
  repeat' (first
    | ((with_reducible apply nrm); (· simp only [sbe]; rfl))
    | ((with_reducible apply u_chk); (· rfl))
    | ((with_reducible apply u_lenL); (· rfl); (· exact lenL_map); (· simp only [sbe]; rfl))
    | ((with_reducible apply u_inc); (· rfl); (· omega); (· simp only [sbe]; rfl))
    | ((with_reducible apply u_add); (· rfl); (· rfl); (· omega); (· simp only [sbe]; rfl))
    | ((with_reducible apply u_ev); (· rfl); (· simp only [sbe]; rfl))
    | ((with_reducible apply u_and); (· rfl))
    | (with_reducible refine u_join ?_)
    | ((with_reducible apply u_jump); (· rfl); (· rfl))
    | (with_reducible refine at_jump ?_)
    | (with_reducible refine over_jump (by decide) ?_)
    | (with_reducible refine kj rfl ?_)
    | ((with_reducible apply u_phi); (· rfl); (· intro hz; rfl); (· intro hz; rfl); (· rfl); (· simp only [sbe, List.zipWith_cons_cons, List.zipWith_nil_left, selD]; rfl))
    | ((with_reducible apply u_ite); (· rfl); all_goals (intro hz; (try simp only [sbs] at hz); first | (exact absurd hz (by decide)) | (exfalso; omega) | skip))
    | (with_reducible exact u_ret rfl rfl)
    | ((with_reducible apply u_ret); (· rfl); first | exact rfl | (refine retB ?_) | (refine retI ?_) | (refine retD ?_))
    | ((with_reducible intro hz); (try simp only [sbs] at hz)))
  refine u_range (fun i => [I (lastIx (isAct kind number minute) l i), I i]) (fun _ => True) l.length rfl (fun _ => rfl) trivial (fun i hi _ R hR => ?_) (fun _ R => ?_)
  · have hn := nth_get hi
    repeat' (first
      | ((with_reducible apply nrm); (· simp only [sbe]; rfl))
      | ((with_reducible apply u_chk); (· rfl))
      | ((with_reducible apply u_eaddr); (· rfl); (· rfl); (· first | exact eaddr_get hi rfl); (· simp only [sbe]; rfl))
      | ((with_reducible apply u_lenL); (· rfl); (· exact lenL_map); (· simp only [sbe]; rfl))
      | ((with_reducible apply u_inc); (· rfl); (· omega); (· simp only [sbe]; rfl))
      | ((with_reducible apply u_add); (· rfl); (· rfl); (· omega); (· simp only [sbe]; rfl))
      | ((with_reducible apply u_ev); (· rfl); (· simp only [sbe]; rfl))
      | ((with_reducible apply u_and); (· rfl))
      | (with_reducible refine u_join ?_)
      | ((with_reducible apply u_jump); (· rfl); (· rfl))
      | (with_reducible refine at_jump ?_)
      | (with_reducible refine over_jump (by decide) ?_)
      | (with_reducible refine kj rfl ?_)
      | ((with_reducible apply u_phi); (· rfl); (· intro hz; rfl); (· intro hz; rfl); (· rfl); (· simp only [sbe, List.zipWith_cons_cons, List.zipWith_nil_left, selD]; rfl))
      | ((with_reducible apply u_ite); (· rfl); all_goals (intro hz; (try simp only [sbs] at hz); first | (exact absurd hz (by decide)) | (exfalso; omega) | skip))
      | (with_reducible exact u_ret rfl rfl)
      | ((with_reducible apply u_ret); (· rfl); first | exact rfl | (refine retB ?_) | (refine retI ?_) | (refine retD ?_))
      | ((with_reducible intro hz); (try simp only [sbs] at hz)))
    have hr := hR trivial
    simp only [lastIx, hn, isAct] at hr
    simpa using hr
  · repeat' (first
      | ((with_reducible apply nrm); (· simp only [sbe]; rfl))
      | ((with_reducible apply u_chk); (· rfl))
      | ((with_reducible apply u_lenL); (· rfl); (· exact lenL_map); (· simp only [sbe]; rfl))
      | ((with_reducible apply u_inc); (· rfl); (· omega); (· simp only [sbe]; rfl))
      | ((with_reducible apply u_add); (· rfl); (· rfl); (· omega); (· simp only [sbe]; rfl))
      | ((with_reducible apply u_ev); (· rfl); (· simp only [sbe]; rfl))
      | ((with_reducible apply u_and); (· rfl))
      | (with_reducible refine u_join ?_)
      | ((with_reducible apply u_jump); (· rfl); (· rfl))
      | (with_reducible refine at_jump ?_)
      | (with_reducible refine over_jump (by decide) ?_)
      | (with_reducible refine kj rfl ?_)
      | ((with_reducible apply u_phi); (· rfl); (· intro hz; rfl); (· intro hz; rfl); (· rfl); (· simp only [sbe, List.zipWith_cons_cons, List.zipWith_nil_left, selD]; rfl))
      | ((with_reducible apply u_ite); (· rfl); all_goals (intro hz; (try simp only [sbs] at hz); first | (exact absurd hz (by decide)) | (exfalso; omega) | skip))
      | (with_reducible exact u_ret rfl rfl)
      | ((with_reducible apply u_ret); (· rfl); first | exact rfl | (refine retB ?_) | (refine retI ?_) | (refine retD ?_))
      | ((with_reducible intro hz); (try simp only [sbs] at hz)))

def prot (l : List Akt) : Nat → List Nat
  | 0 => []
  | i + 1 => if (nth l i).kind = 2 then prot l i ++ [i] else prot l i

theorem prot_len (l : List Akt) : ∀ n, (prot l n).length ≤ n
  | 0 => Nat.le_refl _
  | n + 1 => by
    have := prot_len l n
    simp only [prot]
    split
    · simp; omega
    · omega

theorem c27 (hL : l.length ≤ 1000000) : FSpecR Try.prog 27 (.st bs) [Rec l] (Ix (prot l l.length)) := by
  refine ku27.R rfl rfl ?_
  unfold u27
  simp only [ups_cons, ups_nil, List.cons_append, List.nil_append]
  repeat' (first
    | ((with_reducible apply nrm); (· simp only [sbe]; rfl))
    | ((with_reducible apply u_chk); (· rfl))
    | ((with_reducible apply u_lenL); (· rfl); (· exact lenL_map); (· simp only [sbe]; rfl))
    | ((with_reducible apply u_inc); (· rfl); (· omega); (· simp only [sbe]; rfl))
    | ((with_reducible apply u_add); (· rfl); (· rfl); (· omega); (· simp only [sbe]; rfl))
    | ((with_reducible apply u_ev); (· rfl); (· simp only [sbe]; rfl))
    | (with_reducible refine u_join ?_)
    | ((with_reducible apply u_jump); (· rfl); (· rfl))
    | (with_reducible refine at_jump ?_)
    | (with_reducible refine over_jump (by decide) ?_)
    | (with_reducible refine kj rfl ?_)
    | ((with_reducible apply u_ite); (· rfl); all_goals (intro hz; (try simp only [sbs] at hz); first | (exact absurd hz (by decide)) | (exfalso; omega) | skip))
    | (with_reducible exact u_ret rfl rfl)
    | ((with_reducible apply u_ret); (· rfl); first | exact rfl | (refine retB ?_) | (refine retI ?_) | (refine retD ?_)))
  refine u_range (fun i => [Ix (prot l i), I i]) (fun _ => True) l.length rfl (fun _ => rfl) trivial (fun i hi _ R hR => ?_) (fun _ R => ?_)
  · have hn := nth_get hi
    have hp := prot_len l i
    have hm : (prot l i).length + 1 ≤ maxLen := by unfold maxLen; omega
    repeat' (first
      | ((with_reducible apply nrm); (· simp only [sbe]; rfl))
      | ((with_reducible apply u_chk); (· rfl))
      | ((with_reducible apply u_eaddr); (· rfl); (· rfl); (· first | exact eaddr_get hi rfl); (· simp only [sbe]; rfl))
      | ((with_reducible apply u_app); (· rfl); (· rfl); (· first | exact app1_lst (enc := In) (a := i) (by omega) hm (fun _ => rfl)); (· simp only [sbe]; rfl))
      | ((with_reducible apply u_lenL); (· rfl); (· exact lenL_map); (· simp only [sbe]; rfl))
      | ((with_reducible apply u_inc); (· rfl); (· omega); (· simp only [sbe]; rfl))
      | ((with_reducible apply u_add); (· rfl); (· rfl); (· omega); (· simp only [sbe]; rfl))
      | ((with_reducible apply u_ev); (· rfl); (· simp only [sbe]; rfl))
      | (with_reducible refine u_join ?_)
      | ((with_reducible apply u_jump); (· rfl); (· rfl))
      | (with_reducible refine at_jump ?_)
      | (with_reducible refine over_jump (by decide) ?_)
      | (with_reducible refine kj rfl ?_)
      | ((with_reducible apply u_ite); (· rfl); all_goals (intro hz; (try simp only [sbs] at hz); first | (exact absurd hz (by decide)) | (exfalso; omega) | skip))
      | (with_reducible exact u_ret rfl rfl)
      | ((with_reducible apply u_ret); (· rfl); first | exact rfl | (refine retB ?_) | (refine retI ?_) | (refine retD ?_)))
    all_goals (
      have hr := hR trivial
      simp only [prot, hn] at hr
      first | rw [if_pos hz] at hr | rw [if_neg hz] at hr
      simpa [Ix] using hr)
  · repeat' (first
      | ((with_reducible apply nrm); (· simp only [sbe]; rfl))
      | ((with_reducible apply u_chk); (· rfl))
      | ((with_reducible apply u_lenL); (· rfl); (· exact lenL_map); (· simp only [sbe]; rfl))
      | ((with_reducible apply u_inc); (· rfl); (· omega); (· simp only [sbe]; rfl))
      | ((with_reducible apply u_add); (· rfl); (· rfl); (· omega); (· simp only [sbe]; rfl))
      | ((with_reducible apply u_ev); (· rfl); (· simp only [sbe]; rfl))
      | (with_reducible refine u_join ?_)
      | ((with_reducible apply u_jump); (· rfl); (· rfl))
      | (with_reducible refine at_jump ?_)
      | (with_reducible refine over_jump (by decide) ?_)
      | (with_reducible refine kj rfl ?_)
      | ((with_reducible apply u_ite); (· rfl); all_goals (intro hz; (try simp only [sbs] at hz); first | (exact absurd hz (by decide)) | (exfalso; omega) | skip))
      | (with_reducible exact u_ret rfl rfl)
      | ((with_reducible apply u_ret); (· rfl); first | exact rfl | (refine retB ?_) | (refine retI ?_) | (refine retD ?_)))

theorem c58 (hL : l.length ≤ 1000000) (p : Int) : FSpecR Try.prog 58 (.st bs) [Rec l, I p] (I (fi (isPub p) l)) := by
  refine ku58.R rfl rfl ?_
  unfold u58
  simp only [ups_cons, ups_nil, List.cons_append, List.nil_append]
  repeat' (first
    | ((with_reducible apply nrm); (· simp only [sbe]; rfl))
    | ((with_reducible apply u_chk); (· rfl))
    | ((with_reducible apply u_lenL); (· rfl); (· exact lenL_map); (· simp only [sbe]; rfl))
    | ((with_reducible apply u_inc); (· rfl); (· omega); (· simp only [sbe]; rfl))
    | ((with_reducible apply u_add); (· rfl); (· rfl); (· omega); (· simp only [sbe]; rfl))
    | ((with_reducible apply u_ev); (· rfl); (· simp only [sbe]; rfl))
    | ((with_reducible apply u_and); (· rfl))
    | (with_reducible refine u_join ?_)
    | ((with_reducible apply u_jump); (· rfl); (· rfl))
    | (with_reducible refine at_jump ?_)
    | (with_reducible refine over_jump (by decide) ?_)
    | (with_reducible refine kj rfl ?_)
    | ((with_reducible apply u_ite); (· rfl); all_goals (intro hz; (try simp only [sbs] at hz); first | (exact absurd hz (by decide)) | (exfalso; omega) | skip))
    | (with_reducible exact u_ret rfl rfl)
    | ((with_reducible apply u_ret); (· rfl); first | exact rfl | (refine retB ?_) | (refine retI ?_) | (refine retD ?_))
    | ((with_reducible intro hz); (try simp only [sbs] at hz)))
  refine u_range (fun i => [I i]) (fun i => ∀ k (h : k < i) (h2 : k < l.length), isPub p l[k] = false) l.length rfl (fun _ => rfl) (fun k h => absurd h (Nat.not_lt_zero _)) (fun i hi hJ R hR => ?_) (fun hJ R => ?_)
  · repeat' (first
      | ((with_reducible apply nrm); (· simp only [sbe]; rfl))
      | ((with_reducible apply u_chk); (· rfl))
      | ((with_reducible apply u_eaddr); (· rfl); (· rfl); (· first | exact eaddr_get hi rfl); (· simp only [sbe]; rfl))
      | ((with_reducible apply u_lenL); (· rfl); (· exact lenL_map); (· simp only [sbe]; rfl))
      | ((with_reducible apply u_inc); (· rfl); (· omega); (· simp only [sbe]; rfl))
      | ((with_reducible apply u_add); (· rfl); (· rfl); (· omega); (· simp only [sbe]; rfl))
      | ((with_reducible apply u_ev); (· rfl); (· simp only [sbe]; rfl))
      | ((with_reducible apply u_and); (· rfl))
      | (with_reducible refine u_join ?_)
      | ((with_reducible apply u_jump); (· rfl); (· rfl))
      | (with_reducible refine at_jump ?_)
      | (with_reducible refine over_jump (by decide) ?_)
      | (with_reducible refine kj rfl ?_)
      | ((with_reducible apply u_ite); (· rfl); all_goals (intro hz; (try simp only [sbs] at hz); first | (exact absurd hz (by decide)) | (exfalso; omega) | skip))
      | (with_reducible exact u_ret rfl rfl)
      | ((with_reducible apply u_ret); (· rfl); first | exact rfl | (refine retB ?_) | (refine retI ?_) | (refine retD ?_))
      | ((with_reducible intro hz); (try simp only [sbs] at hz)))
    · rename_i hz
      refine (fi_at hi (by simp [isPub, hz]) fun k hk => hJ k hk (by omega)).symm
    · rename_i hz
      refine hR fun k hk h2 => ?_
      rcases Nat.lt_or_ge k i with h3 | h3
      · exact hJ k h3 h2
      · have e : k = i := by omega
        subst e
        rcases hz with hz | hz <;> simp [isPub, hz]
  · repeat' (first
      | ((with_reducible apply nrm); (· simp only [sbe]; rfl))
      | ((with_reducible apply u_chk); (· rfl))
      | ((with_reducible apply u_lenL); (· rfl); (· exact lenL_map); (· simp only [sbe]; rfl))
      | ((with_reducible apply u_inc); (· rfl); (· omega); (· simp only [sbe]; rfl))
      | ((with_reducible apply u_add); (· rfl); (· rfl); (· omega); (· simp only [sbe]; rfl))
      | ((with_reducible apply u_ev); (· rfl); (· simp only [sbe]; rfl))
      | ((with_reducible apply u_and); (· rfl))
      | (with_reducible refine u_join ?_)
      | ((with_reducible apply u_jump); (· rfl); (· rfl))
      | (with_reducible refine at_jump ?_)
      | (with_reducible refine over_jump (by decide) ?_)
      | (with_reducible refine kj rfl ?_)
      | ((with_reducible apply u_ite); (· rfl); all_goals (intro hz; (try simp only [sbs] at hz); first | (exact absurd hz (by decide)) | (exfalso; omega) | skip))
      | (with_reducible exact u_ret rfl rfl)
      | ((with_reducible apply u_ret); (· rfl); first | exact rfl | (refine retB ?_) | (refine retI ?_) | (refine retD ?_))
      | ((with_reducible intro hz); (try simp only [sbs] at hz)))
    refine (fi_no fun a ha => ?_).symm
    obtain ⟨k, hk, rfl⟩ := List.mem_iff_getElem.1 ha
    exact hJ k hk hk

attribute [local irreducible] inR

theorem incr_at {l : List Int} : ∀ {n : Nat}, (∀ k, k < n → incrAt l k = true) → incr l n = true
  | 0, _ => rfl
  | n + 1, h => by simp only [incr, incr_at (n := n) fun k hk => h k (by omega), h n (by omega), Bool.and_self]

theorem incr_no {l : List Int} : ∀ {n k : Nat}, k < n → incrAt l k = false → incr l n = false
  | n + 1, k, hk, h => by
    simp only [incr]
    rcases Nat.lt_or_ge k n with h1 | h1
    · rw [incr_no h1 h]; rfl
    · have e : k = n := by omega
      rw [e] at h
      rw [h]; simp

theorem c94 (xs : List Int) (hL : xs.length ≤ 1000000000) : FSpecR Try.prog 94 (.st bs) [Is xs] (B (factsOk xs)) := by
  refine ku94.R rfl rfl ?_
  unfold u94
  simp only [ups_cons, ups_nil, List.cons_append, List.nil_append]
  repeat' (first
    | ((with_reducible apply nrm); (· simp only [sbe]; rfl))
    | ((with_reducible apply u_lenL); (· rfl); (· exact lenL_map); (· simp only [sbe]; rfl))
    | ((with_reducible apply u_inc); (· rfl); (· omega); (· simp only [sbe]; rfl))
    | ((with_reducible apply u_pred); (· rfl); (· omega); (· simp only [sbe]; rfl))
    | ((with_reducible apply u_add); (· rfl); (· rfl); (· omega); (· simp only [sbe]; rfl))
    | ((with_reducible apply u_sub); (· rfl); (· rfl); (· omega); (· simp only [sbe]; rfl))
    | ((with_reducible apply u_ev); (· rfl); (· simp only [sbe]; rfl))
    | ((with_reducible apply u_or); (· rfl))
    | ((with_reducible apply u_and); (· rfl))
    | (with_reducible refine u_join ?_)
    | ((with_reducible apply u_jump); (· rfl); (· rfl))
    | (with_reducible refine at_jump ?_)
    | (with_reducible refine over_jump (by decide) ?_)
    | (with_reducible refine kj rfl ?_)
    | ((with_reducible apply u_ite); (· rfl); all_goals (intro hz; (try simp only [sbs] at hz); first | (exact absurd hz (by decide)) | (exfalso; omega) | skip))
    | (with_reducible exact u_ret rfl rfl)
    | ((with_reducible apply u_ret); (· rfl); first | exact rfl | (refine retB ?_) | (refine retI ?_) | (refine retD ?_))
    | ((with_reducible intro hz); (try simp only [sbs] at hz)))
  refine u_range (fun i => [I i]) (fun i => ∀ k, k < i → incrAt xs k = true) xs.length rfl (fun _ => rfl) (fun k h => absurd h (Nat.not_lt_zero _)) (fun i hi hJ R hR => ?_) (fun hJ R => ?_)
  · have hg : xs.getD i 0 = xs[i] := by simp [hi]
    have hg2 : 0 < i → xs.getD (i - 1) 0 = xs[i - 1] := fun h => by simp [show i - 1 < xs.length by omega]
    have hi' : i - 1 < xs.length := by omega
    repeat' (first
      | ((with_reducible apply nrm); (· simp only [sbe]; rfl))
      | ((with_reducible apply u_eaddr); (· rfl); (· rfl); (· first | exact eaddr_get hi rfl | exact eaddr_get hi' rfl); (· simp only [sbe]; rfl))
      | ((with_reducible apply u_lenL); (· rfl); (· exact lenL_map); (· simp only [sbe]; rfl))
      | ((with_reducible apply u_inc); (· rfl); (· omega); (· simp only [sbe]; rfl))
      | ((with_reducible apply u_pred); (· rfl); (· omega); (· simp only [sbe]; rfl))
      | ((with_reducible apply u_add); (· rfl); (· rfl); (· omega); (· simp only [sbe]; rfl))
      | ((with_reducible apply u_sub); (· rfl); (· rfl); (· omega); (· simp only [sbe]; rfl))
      | ((with_reducible apply u_ev); (· rfl); (· simp only [sbe]; rfl))
      | ((with_reducible apply u_call); (· rfl); (· rfl); (· first | exact c55 _ _ _); (· rfl); (· simp only [sbe]; rfl))
      | ((with_reducible apply u_or); (· rfl))
      | ((with_reducible apply u_and); (· rfl))
      | (with_reducible refine u_join ?_)
      | ((with_reducible apply u_jump); (· rfl); (· rfl))
      | (with_reducible refine at_jump ?_)
      | (with_reducible refine over_jump (by decide) ?_)
      | (with_reducible refine kj rfl ?_)
      | ((with_reducible apply u_ite); (· rfl); all_goals (intro hz; (try simp only [sbs] at hz); first | (exact absurd hz (by decide)) | (exfalso; omega) | skip))
      | (with_reducible exact u_ret rfl rfl)
      | ((with_reducible apply u_ret); (· rfl); first | exact rfl | (refine retB ?_) | (refine retI ?_) | (refine retD ?_))
      | ((with_reducible intro hz); (try simp only [sbs] at hz)))
    · rename_i hz
      have : incrAt xs i = false := by
        unfold incrAt
        rw [hg]
        rcases hz with hz | ⟨h1, h2⟩
        · simp [hz]
        · rw [hg2 (by omega)]
          simp
          intro _
          omega
      simp [factsOk, incr_no hi this]
    · rename_i hz
      refine hR fun k hk => ?_
      rcases Nat.lt_or_ge k i with h3 | h3
      · exact hJ k h3
      · have e : k = i := by omega
        subst e
        unfold incrAt
        rw [hg, hz.1]
        by_cases h0 : k = 0
        · simp [h0]
        · rw [hg2 (by omega)]
          simp
          right
          have := hz.2
          rcases this with h | h <;> omega
  · repeat' (first
      | ((with_reducible apply nrm); (· simp only [sbe]; rfl))
      | ((with_reducible apply u_lenL); (· rfl); (· exact lenL_map); (· simp only [sbe]; rfl))
      | ((with_reducible apply u_inc); (· rfl); (· omega); (· simp only [sbe]; rfl))
      | ((with_reducible apply u_pred); (· rfl); (· omega); (· simp only [sbe]; rfl))
      | ((with_reducible apply u_add); (· rfl); (· rfl); (· omega); (· simp only [sbe]; rfl))
      | ((with_reducible apply u_sub); (· rfl); (· rfl); (· omega); (· simp only [sbe]; rfl))
      | ((with_reducible apply u_ev); (· rfl); (· simp only [sbe]; rfl))
      | ((with_reducible apply u_or); (· rfl))
      | ((with_reducible apply u_and); (· rfl))
      | (with_reducible refine u_join ?_)
      | ((with_reducible apply u_jump); (· rfl); (· rfl))
      | (with_reducible refine at_jump ?_)
      | (with_reducible refine over_jump (by decide) ?_)
      | (with_reducible refine kj rfl ?_)
      | ((with_reducible apply u_ite); (· rfl); all_goals (intro hz; (try simp only [sbs] at hz); first | (exact absurd hz (by decide)) | (exfalso; omega) | skip))
      | (with_reducible exact u_ret rfl rfl)
      | ((with_reducible apply u_ret); (· rfl); first | exact rfl | (refine retB ?_) | (refine retI ?_) | (refine retD ?_))
      | ((with_reducible intro hz); (try simp only [sbs] at hz)))
    simp [factsOk, incr_at hJ]

theorem c19 (xs ys : List Int) (hx : xs.length ≤ 1000000000) : FSpecR Try.prog 19 (.st bs) [Is xs, Is ys] (B (decide (xs = ys))) := by
  refine ku19.R rfl rfl ?_
  unfold u19
  simp only [ups_cons, ups_nil, List.cons_append, List.nil_append]
  repeat' (first
    | ((with_reducible apply nrm); (· simp only [sbe]; rfl))
    | ((with_reducible apply u_lenL); (· rfl); (· exact lenL_map); (· simp only [sbe]; rfl))
    | ((with_reducible apply u_inc); (· rfl); (· omega); (· simp only [sbe]; rfl))
    | ((with_reducible apply u_add); (· rfl); (· rfl); (· omega); (· simp only [sbe]; rfl))
    | ((with_reducible apply u_ev); (· rfl); (· simp only [sbe]; rfl))
    | (with_reducible refine u_join ?_)
    | ((with_reducible apply u_jump); (· rfl); (· rfl))
    | (with_reducible refine at_jump ?_)
    | (with_reducible refine over_jump (by decide) ?_)
    | (with_reducible refine kj rfl ?_)
    | ((with_reducible apply u_ite); (· rfl); all_goals (intro hz; (try simp only [sbs] at hz); first | (exact absurd hz (by decide)) | (exfalso; omega) | skip))
    | (with_reducible exact u_ret rfl rfl)
    | ((with_reducible apply u_ret); (· rfl); first | exact rfl | (refine retB ?_) | (refine retI ?_) | (refine retD ?_)))
  · symm
    simp
    intro e
    rw [e] at hz
    simp at hz
  · have hz : xs.length = ys.length := by omega
    refine u_range (fun i => [I i]) (fun i => ∀ k, k < i → xs[k]? = ys[k]?) xs.length rfl (fun _ => rfl) (fun k h => absurd h (Nat.not_lt_zero _)) (fun i hi hJ R hR => ?_) (fun hJ R => ?_)
    · have hi' : i < ys.length := by omega
      repeat' (first
        | ((with_reducible apply nrm); (· simp only [sbe]; rfl))
        | ((with_reducible apply u_eaddr); (· rfl); (· rfl); (· first | exact eaddr_get hi rfl | exact eaddr_get hi' rfl); (· simp only [sbe]; rfl))
        | ((with_reducible apply u_lenL); (· rfl); (· exact lenL_map); (· simp only [sbe]; rfl))
        | ((with_reducible apply u_inc); (· rfl); (· omega); (· simp only [sbe]; rfl))
        | ((with_reducible apply u_add); (· rfl); (· rfl); (· omega); (· simp only [sbe]; rfl))
        | ((with_reducible apply u_ev); (· rfl); (· simp only [sbe]; rfl))
        | (with_reducible refine u_join ?_)
        | ((with_reducible apply u_jump); (· rfl); (· rfl))
        | (with_reducible refine at_jump ?_)
        | (with_reducible refine over_jump (by decide) ?_)
        | (with_reducible refine kj rfl ?_)
        | ((with_reducible apply u_ite); (· rfl); all_goals (intro hz; (try simp only [sbs] at hz); first | (exact absurd hz (by decide)) | (exfalso; omega) | skip))
        | (with_reducible exact u_ret rfl rfl)
        | ((with_reducible apply u_ret); (· rfl); first | exact rfl | (refine retB ?_) | (refine retI ?_) | (refine retD ?_)))
      · symm
        simp
        intro e
        subst e
        exact hz rfl
      · refine hR fun k hk => ?_
        rcases Nat.lt_or_ge k i with h3 | h3
        · exact hJ k h3
        · have e : k = i := by omega
          subst e
          rw [List.getElem?_eq_getElem hi, List.getElem?_eq_getElem hi', hz]
    · repeat' (first
        | ((with_reducible apply nrm); (· simp only [sbe]; rfl))
        | ((with_reducible apply u_lenL); (· rfl); (· exact lenL_map); (· simp only [sbe]; rfl))
        | ((with_reducible apply u_inc); (· rfl); (· omega); (· simp only [sbe]; rfl))
        | ((with_reducible apply u_add); (· rfl); (· rfl); (· omega); (· simp only [sbe]; rfl))
        | ((with_reducible apply u_ev); (· rfl); (· simp only [sbe]; rfl))
        | (with_reducible refine u_join ?_)
        | ((with_reducible apply u_jump); (· rfl); (· rfl))
        | (with_reducible refine at_jump ?_)
        | (with_reducible refine over_jump (by decide) ?_)
        | (with_reducible refine kj rfl ?_)
        | ((with_reducible apply u_ite); (· rfl); all_goals (intro hz; (try simp only [sbs] at hz); first | (exact absurd hz (by decide)) | (exfalso; omega) | skip))
        | (with_reducible exact u_ret rfl rfl)
        | ((with_reducible apply u_ret); (· rfl); first | exact rfl | (refine retB ?_) | (refine retI ?_) | (refine retD ?_)))
      symm
      simp
      refine List.ext_getElem? fun k => ?_
      rcases Nat.lt_or_ge k xs.length with h | h
      · exact hJ k h
      · rw [List.getElem?_eq_none h, List.getElem?_eq_none (by omega)]

def sameA (a b : Akt) : Bool := sameBut a b && decide (a.facts = b.facts)

theorem c71 (a b : Akt) (ha : a.facts.length ≤ 1000000000) : FSpecR Try.prog 71 (.st bs) [a.d, b.d] (B (sameA a b)) := by
  refine ku71.R rfl rfl ?_
  unfold u71
  simp only [ups_cons, ups_nil, List.cons_append, List.nil_append]
  repeat' (first
    | ((with_reducible apply nrm); (· simp only [sbe]; rfl))
    | ((with_reducible apply u_chk); (· rfl))
    | ((with_reducible apply u_ev); (· rfl); (· simp only [sbe]; rfl))
    | ((with_reducible apply u_call); (· rfl); (· rfl); (· first | exact c19 _ _ ha); (· rfl); (· simp only [sbe]; rfl))
    | ((with_reducible apply u_and); (· rfl))
    | ((with_reducible apply u_jump); (· rfl); (· rfl))
    | (with_reducible refine at_jump ?_)
    | (with_reducible refine over_jump (by decide) ?_)
    | (with_reducible refine kj rfl ?_)
    | ((with_reducible apply u_ite); (· rfl); all_goals (intro hz; (try simp only [sbs] at hz); first | (exact absurd hz (by decide)) | (exfalso; omega) | skip))
    | (with_reducible exact u_ret rfl rfl)
    | ((with_reducible apply u_ret); (· rfl); first | exact rfl | (refine retB ?_) | (refine retI ?_) | (refine retD ?_))
    | ((with_reducible intro hz); (try simp only [sbs] at hz)))

def fitsR (c : Cod) (l : List Akt) (a : Akt) : Bool :=
  if a.upheld = true then inR a.penalty (verA c (nth l ((prot l l.length).getD a.cse.toNat 0)).article (nth l ((prot l l.length).getD a.cse.toNat 0)).at_).l (verA c (nth l ((prot l l.length).getD a.cse.toNat 0)).article (nth l ((prot l l.length).getD a.cse.toNat 0)).at_).m
  else a.penalty == 0

theorem prot_lt (l : List Akt) : ∀ (n : Nat) (i : Nat), i ∈ prot l n → i < n
  | 0, i, h => by simp [prot] at h
  | n + 1, i, h => by
    simp only [prot] at h
    split at h
    · rcases List.mem_append.1 h with h | h
      · have := prot_lt l n i h; omega
      · simp at h; omega
    · have := prot_lt l n i h; omega

theorem c60 (hc : c.arts.length ≤ 1000) (hL : l.length ≤ 1000000) (a : Akt) {k : Nat} (hk : a.cse = k) (hkl : k < (prot l l.length).length) : FSpecR Try.prog 60 (.st bs) [c.d, Rec l, a.d] (B (fitsR c l a)) := by
  refine ku60.R rfl rfl ?_
  unfold u60
  simp only [ups_cons, ups_nil, List.cons_append, List.nil_append]
  have hp := prot_lt l l.length _ (List.getElem_mem hkl)
  have e1 : (prot l l.length).getD a.cse.toNat 0 = (prot l l.length)[k] := by rw [hk]; simp [hkl]
  have e2 := nth_get hp
  unfold fitsR
  rw [e1, e2]
  have hea : D.eaddr 1 (Ix (prot l l.length)) (I a.cse) = some (.ptr [In (prot l l.length)[k]]) := by rw [hk]; exact eaddr_get hkl rfl
  cases hu : a.upheld
  · have h1 : (!a.upheld) = true := by rw [hu]; rfl
    repeat' (first
      | ((with_reducible apply nrm); (· simp only [sbe]; rfl))
      | ((with_reducible apply u_iteT); (· rfl); (· first | exact h1))
      | ((with_reducible apply u_chk); (· rfl))
      | ((with_reducible apply u_ev); (· rfl); (· simp only [sbe]; rfl))
      | ((with_reducible apply u_jump); (· rfl); (· rfl))
      | (with_reducible refine at_jump ?_)
      | (with_reducible refine over_jump (by decide) ?_)
      | (with_reducible refine kj rfl ?_)
      | ((with_reducible apply u_ite); (· rfl); all_goals (intro hz; (try simp only [sbs] at hz); first | (exact absurd hz (by decide)) | (exfalso; omega) | skip))
      | (with_reducible exact u_ret rfl rfl)
      | ((with_reducible apply u_ret); (· rfl); first | exact rfl | (refine retB ?_) | (refine retI ?_) | (refine retD ?_)))
  · have h1 : (!a.upheld) = false := by rw [hu]; rfl
    repeat' (first
      | ((with_reducible apply nrm); (· simp only [sbe]; rfl))
      | ((with_reducible apply u_iteF); (· rfl); (· first | exact h1))
      | ((with_reducible apply u_chk); (· rfl))
      | ((with_reducible apply u_eaddr); (· rfl); (· rfl); (· first | exact hea | exact eaddr_get hp rfl); (· simp only [sbe]; rfl))
      | ((with_reducible apply u_ev); (· rfl); (· simp only [sbe]; rfl))
      | ((with_reducible apply u_call); (· rfl); (· rfl); (· first | exact c27 hL | exact c40 c _ _ hc | exact c55 _ _ _); (· rfl); (· simp only [sbe]; rfl))
      | ((with_reducible apply u_jump); (· rfl); (· rfl))
      | (with_reducible refine at_jump ?_)
      | (with_reducible refine over_jump (by decide) ?_)
      | (with_reducible refine kj rfl ?_)
      | ((with_reducible apply u_ite); (· rfl); all_goals (intro hz; (try simp only [sbs] at hz); first | (exact absurd hz (by decide)) | (exfalso; omega) | skip))
      | (with_reducible exact u_ret rfl rfl)
      | ((with_reducible apply u_ret); (· rfl); first | exact rfl | (refine retB ?_) | (refine retI ?_) | (refine retD ?_)))

theorem c57 (a : Akt) (ha : a.facts.length ≤ 1000000) : FSpecR Try.prog 57 (.st bs) [c.d, a.d] (B (actOk c.cars a)) := by
  refine ku57.R rfl rfl ?_
  unfold u57
  simp only [ups_cons, ups_nil, List.cons_append, List.nil_append]
  repeat' (first
    | ((with_reducible apply nrm); (· simp only [sbe]; rfl))
    | ((with_reducible apply u_chk); (· rfl))
    | ((with_reducible apply u_ev); (· rfl); (· simp only [sbe]; rfl))
    | ((with_reducible apply u_call); (· rfl); (· rfl); (· first | exact c55 _ _ _ | exact c94 _ (by omega) | exact c71 a ⟨a.kind, a.minute, a.paper, 0, 0, 0, 0, 0, [], 0, false, 0⟩ (by omega) | exact c71 a ⟨a.kind, a.minute, a.paper, 0, a.by_, a.against, a.article, a.at_, a.facts, a.paid, false, 0⟩ (by omega) | exact c71 a ⟨a.kind, a.minute, 0, a.cse, 0, 0, 0, 0, [], 0, a.upheld, a.penalty⟩ (by omega) | exact c71 a ⟨a.kind, a.minute, 0, a.cse, a.by_, 0, 0, 0, [], a.paid, false, 0⟩ (by omega) | exact c71 a ⟨a.kind, a.minute, 0, a.cse, a.by_, 0, 0, 0, [], 0, false, 0⟩ (by omega)); (· rfl); (· simp only [sbe]; rfl))
    | ((with_reducible apply u_and); (· rfl))
    | (with_reducible refine u_join ?_)
    | ((with_reducible apply u_jump); (· rfl); (· rfl))
    | (with_reducible refine at_jump ?_)
    | (with_reducible refine over_jump (by decide) ?_)
    | (with_reducible refine kj rfl ?_)
    | ((with_reducible apply u_ite); (· rfl); all_goals (intro hz; (try simp only [sbs] at hz); first | (exact absurd hz (by decide)) | (exfalso; omega) | skip))
    | (with_reducible exact u_ret rfl rfl)
    | ((with_reducible apply u_ret); (· rfl); first | exact rfl | (refine retB ?_) | (refine retI ?_) | (refine retD ?_))
    | ((with_reducible intro hz); (try simp only [sbs] at hz)))
  all_goals (
    rw [Bool.eq_iff_iff]
    simp [actOk, only, sameA, sameBut, *])
  all_goals (try (constructor <;> intro h <;> simp_all; done))
  all_goals (intros; exact ⟨fun ⟨⟨h1, h2⟩, h3⟩ => ⟨⟨h1, h3⟩, h2⟩, fun ⟨⟨h1, h2⟩, h3⟩ => ⟨⟨h1, h3⟩, h2⟩⟩)

def refused (c : Cod) (l : List Akt) (a : Akt) : Int :=
  if actOk c.cars a = false ∨ (0 < l.length ∧ a.minute < (nth l (l.length - 1)).minute) then 2
  else if 2000 ≤ l.length then 4
  else if a.kind = 1 then (if 0 ≤ fi (isPub a.paper) l then 6 else 0)
  else if a.kind = 2 then
    if fi (isPub a.paper) l < 0 ∨ (verArt c.arts a.article a.at_ c.arts.length).isSome = false then 5
    else if c.window < a.minute - (nth l (fi (isPub a.paper) l).toNat).minute then 8
    else if a.paid ≠ c.fee then 7 else 0
  else if (prot l l.length).length ≤ a.cse then 5
  else
    let pr := nth l ((prot l l.length).getD a.cse.toNat 0)
    let x := rlast l 6 a.cse 10000000
    let d := rlast l 3 a.cse 10000000
    let ap := rlast l 4 a.cse 10000000
    let ju := rlast l 5 a.cse 10000000
    if a.kind = 3 then (if 0 ≤ x ∨ 0 ≤ d then 6 else if fitsR c l a = false then 7 else 0)
    else if a.kind = 4 then (if d < 0 ∨ 0 ≤ ap then 6 else if a.by_ ≠ pr.by_ ∧ a.by_ ≠ pr.against then 7 else if c.second < a.minute - (nth l d.toNat).minute then 8 else if a.paid ≠ c.price then 7 else 0)
    else if a.kind = 5 then (if ap < 0 ∨ 0 ≤ ju then 6 else if fitsR c l a = false then 7 else 0)
    else (if 0 ≤ x ∨ 0 ≤ d then 6 else if a.by_ ≠ pr.by_ then 7 else 0)

theorem eaddr_int {x : Int} (h0 : 0 ≤ x) (h1 : x < l.length) : D.eaddr 12 (Rec l) (I x) = some (.ptr (nth l x.toNat).cs) := by
  have h : x.toNat < l.length := by omega
  have e := eaddr_get (xs := l) (enc := Akt.d) (i := x.toNat) (sz := 12) h rfl
  rw [show ((x.toNat : Nat) : Int) = x by omega] at e
  rw [e, nth_get h]
  rfl

theorem eaddr_nth {i : Nat} (h : i < l.length) : D.eaddr 12 (Rec l) (I (i : Int)) = some (.ptr (nth l i).cs) := eaddr_int (by omega) (by omega)

theorem lastIx_lt (P : Akt → Bool) (l : List Akt) : ∀ n, -1 ≤ lastIx P l n ∧ lastIx P l n < n
  | 0 => by simp [lastIx]
  | n + 1 => by
    have := lastIx_lt P l n
    simp only [lastIx]
    split <;> omega

theorem rlast_lt (l : List Akt) (kind number minute : Int) : -1 ≤ rlast l kind number minute ∧ rlast l kind number minute < l.length := lastIx_lt _ _ _

theorem fi_lt (P : Akt → Bool) (l : List Akt) : -1 ≤ fi P l ∧ fi P l < l.length := by
  rcases fi_cases P l with ⟨h, _⟩ | ⟨i, hi, h, _⟩ <;> omega

def Mins (l : List Akt) : Prop := ∀ a, a ∈ l → inR a.minute 0 10000000 = true

theorem Mins.nth (h : Mins l) (i : Nat) : 0 ≤ (nth l i).minute ∧ (Ct.nth l i).minute ≤ 10000000 := by
  rcases Nat.lt_or_ge i l.length with hi | hi
  · rw [nth_get hi]
    have := h _ (List.getElem_mem hi)
    unfold inR at this
    simpa using this
  · simp [Ct.nth, hi, Akt.zero]

theorem actOk_minute {cars : Int} {a : Akt} (h : actOk cars a = true) : inR a.minute 0 10000000 = true := by
  unfold actOk at h
  simp only [Bool.and_eq_true] at h
  have h := h.1
  split at h
  · simp_all
  · split at h
    · simp_all
    · split at h
      · simp_all
      · split at h
        · simp_all
        · split at h
          · simp_all
          · cases h

theorem actOk_kind {cars : Int} {a : Akt} (h : actOk cars a = true) : a.kind = 1 ∨ a.kind = 2 ∨ ((a.kind = 3 ∨ a.kind = 4 ∨ a.kind = 5 ∨ a.kind = 6) ∧ 0 ≤ a.cse) := by
  unfold actOk at h
  simp only [Bool.and_eq_true] at h
  have h := h.1
  split at h
  · exact .inl ‹_›
  · split at h
    · exact .inr (.inl ‹_›)
    · split at h
      · simp only [Bool.and_eq_true, decide_eq_true_eq] at h
        rename_i h1
        exact .inr (.inr ⟨by omega, h.1.1.2⟩)
      · split at h
        · simp only [Bool.and_eq_true, decide_eq_true_eq] at h
          exact .inr (.inr ⟨by omega, h.1.1.1.2⟩)
        · split at h
          · simp only [Bool.and_eq_true, decide_eq_true_eq] at h
            exact .inr (.inr ⟨by omega, h.1.1.2⟩)
          · cases h

theorem c25 (hc : c.arts.length ≤ 1000) (hL : l.length ≤ 1000000) (hm : Mins l) (a : Akt) (ha : a.facts.length ≤ 1000000) : FSpecR Try.prog 25 (.st bs) [c.d, Rec l, a.d] (I (refused c l a)) := by
  refine ku25.R rfl rfl ?_
  unfold u25
  simp only [ups_cons, ups_nil, List.cons_append, List.nil_append]
  have h57 := c57 (bs := bs) (c := c) a ha
  have hf := fi_lt (isPub a.paper) l
  have hf1 := hm.nth (fi (isPub a.paper) l).toNat
  have hd := rlast_lt l 3 a.cse 10000000
  have hd1 := hm.nth (rlast l 3 a.cse 10000000).toNat
  unfold refused
  by_cases hok : actOk c.cars a = false
  · rw [hok] at h57
    simp only [hok, true_or, if_true]
    repeat' (first
      | ((with_reducible apply nrm); (· simp only [sbe]; rfl))
      | ((with_reducible apply u_iteT); (· rfl); (· first | exact rfl))
      | ((with_reducible apply u_chk); (· rfl))
      | ((with_reducible apply u_eaddr); (· rfl); (· rfl); (· first | exact eaddr_nth (by omega)); (· simp only [sbe]; rfl))
      | ((with_reducible apply u_lenL); (· rfl); (· exact lenL_map); (· simp only [sbe]; rfl))
      | ((with_reducible apply u_pred); (· rfl); (· omega); (· simp only [sbe]; rfl))
      | ((with_reducible apply u_sub); (· rfl); (· rfl); (· omega); (· simp only [sbe]; rfl))
      | ((with_reducible apply u_sel); (· rfl); (· rfl); (· rfl); (· simp only [sbe, List.zipWith_cons_cons, List.zipWith_nil_left, selD]; rfl))
      | ((with_reducible apply u_ev); (· rfl); (· simp only [sbe]; rfl))
      | ((with_reducible apply u_call); (· rfl); (· rfl); (· first | exact h57); (· rfl); (· simp only [sbe]; rfl))
      | ((with_reducible apply u_or); (· rfl))
      | ((with_reducible apply u_and); (· rfl))
      | (with_reducible refine u_join ?_)
      | ((with_reducible apply u_jump); (· rfl); (· rfl))
      | (with_reducible refine at_jump ?_)
      | (with_reducible refine over_jump (by decide) ?_)
      | (with_reducible refine kj rfl ?_)
      | ((with_reducible apply u_ite); (· rfl); all_goals (intro hz; (try simp only [sbs] at hz); first | (exact absurd hz (by decide)) | (exfalso; omega) | skip))
      | (with_reducible exact u_ret rfl rfl)
      | ((with_reducible apply u_ret); (· rfl); first | exact rfl | (refine retB ?_) | (refine retI ?_) | (refine retD ?_))
      | ((with_reducible intro hz); (try simp only [sbs] at hz)))
    exact false
  · have hok : actOk c.cars a = true := by simpa using hok
    rw [hok] at h57
    have hk := actOk_kind hok
    have hmin := actOk_minute hok
    unfold inR at hmin
    simp only [Bool.and_eq_true, decide_eq_true_eq] at hmin
    simp only [hok, Bool.true_eq_false, false_or]
    have hpl : ∀ (h0 : 0 ≤ a.cse) (h1 : a.cse < (prot l l.length).length), D.eaddr 1 (Ix (prot l l.length)) (I a.cse) = some (.ptr [In ((prot l l.length).getD a.cse.toNat 0)]) ∧ D.eaddr 12 (Rec l) (In ((prot l l.length).getD a.cse.toNat 0)) = some (.ptr (nth l ((prot l l.length).getD a.cse.toNat 0)).cs) := by
      intro h0 h1
      have e : a.cse = (a.cse.toNat : Int) := by omega
      have h2 : a.cse.toNat < (prot l l.length).length := by omega
      have h3 : (prot l l.length).getD a.cse.toNat 0 = (prot l l.length)[a.cse.toNat] := by simp [h2]
      rw [h3]
      refine ⟨?_, eaddr_nth (prot_lt l l.length _ (List.getElem_mem h2))⟩
      have e3 := eaddr_get (xs := prot l l.length) (enc := In) (i := a.cse.toNat) (sz := 1) h2 rfl
      rw [show ((a.cse.toNat : Nat) : Int) = a.cse by omega] at e3
      exact e3
    have h60 : ∀ (h0 : 0 ≤ a.cse) (h1 : a.cse < (prot l l.length).length), FSpecR Try.prog 60 (.st bs) [c.d, Rec l, a.d] (B (fitsR c l a)) := fun h0 h1 => c60 hc hL a (k := a.cse.toNat) (by omega) (by omega)
    repeat' (first
      | ((with_reducible apply nrm); (· simp only [sbe]; rfl))
      | ((with_reducible apply u_chk); (· rfl))
      | ((with_reducible apply u_eaddr); (· rfl); (· rfl); (· first | exact eaddr_nth (by omega) | exact (hpl (by omega) (by omega)).1 | exact (hpl (by omega) (by omega)).2 | exact eaddr_int (by omega) (by omega)); (· simp only [sbe]; rfl))
      | ((with_reducible apply u_lenL); (· rfl); (· exact lenL_map); (· simp only [sbe]; rfl))
      | ((with_reducible apply u_pred); (· rfl); (· omega); (· simp only [sbe]; rfl))
      | ((with_reducible apply u_sub); (· rfl); (· rfl); (· omega); (· simp only [sbe]; rfl))
      | ((with_reducible apply u_sel); (· rfl); (· rfl); (· rfl); (· simp only [sbe, List.zipWith_cons_cons, List.zipWith_nil_left, selD]; rfl))
      | ((with_reducible apply u_ev); (· rfl); (· simp only [sbe]; rfl))
      | ((with_reducible apply u_call); (· rfl); (· rfl); (· first | exact h57 | exact c58 hL _ | exact c40 c _ _ hc | exact c27 hL | exact c59 hL _ _ _ | exact h60 (by omega) (by omega)); (· rfl); (· simp only [sbe]; rfl))
      | ((with_reducible apply u_or); (· rfl))
      | ((with_reducible apply u_and); (· rfl))
      | (with_reducible refine u_join ?_)
      | ((with_reducible apply u_jump); (· rfl); (· rfl))
      | (with_reducible refine at_jump ?_)
      | (with_reducible refine over_jump (by decide) ?_)
      | (with_reducible refine kj rfl ?_)
      | ((with_reducible apply u_ite); (· rfl); all_goals (intro hz; (try simp only [sbs] at hz); first | (exact absurd hz (by decide)) | (exfalso; omega) | skip))
      | (with_reducible exact u_ret rfl rfl)
      | ((with_reducible apply u_ret); (· rfl); first | exact rfl | (refine retB ?_) | (refine retI ?_) | (refine retD ?_))
      | ((with_reducible intro hz); (try simp only [sbs] at hz)))
    all_goals (first | (rw [if_pos (by omega)]; done) | (rw [if_neg (by omega), if_pos (by omega)]; done) | ((repeat' split) <;> first | rfl | (exfalso; omega) | (exfalso; simp_all; done) | (exfalso; simp_all; omega)))

end Go.Am.Ct

/-
  Records that a court accepts.
-/
namespace Go.Am.Ct
open Go.Am.Ap
set_option maxHeartbeats 1000000

theorem snocInd {α : Type} {P : List α → Prop} (h0 : P []) (h1 : ∀ l a, P l → P (l ++ [a])) (l : List α) : P l := by
  have : ∀ r : List α, P r.reverse := by
    intro r
    induction r with
    | nil => exact h0
    | cons a r ih => rw [List.reverse_cons]; exact h1 _ _ ih
  simpa using this l.reverse

theorem nth_left {l : List Akt} {a : Akt} {i : Nat} (h : i < l.length) : nth (l ++ [a]) i = nth l i := by
  simp [nth, List.getElem?_append_left h]
theorem nth_last (l : List Akt) (a : Akt) : nth (l ++ [a]) l.length = a := by simp [nth]

theorem lastIx_left (P : Akt → Bool) (l : List Akt) (a : Akt) : ∀ {n : Nat}, n ≤ l.length → lastIx P (l ++ [a]) n = lastIx P l n
  | 0, _ => rfl
  | n + 1, h => by simp only [lastIx, nth_left (a := a) (show n < l.length by omega), lastIx_left P l a (show n ≤ l.length by omega)]

theorem rlast_snoc (l : List Akt) (a : Akt) (kd k m : Int) : rlast (l ++ [a]) kd k m = if isAct kd k m a = true then (l.length : Int) else rlast l kd k m := by
  unfold rlast
  rw [List.length_append]
  simp only [List.length_cons, List.length_nil, Nat.zero_add, lastIx, nth_last, lastIx_left _ l a (Nat.le_refl _)]

theorem lastIx_at {P : Akt → Bool} {l : List Akt} : ∀ {n j : Nat}, lastIx P l n = j → P (nth l j) = true
  | 0, j, h => by simp only [lastIx] at h; omega
  | n + 1, j, h => by
    simp only [lastIx] at h
    split at h
    · have e : n = j := by omega
      subst e
      assumption
    · exact lastIx_at h

theorem rlast_at {l : List Akt} {kd k m : Int} {j : Nat} (h : rlast l kd k m = j) : isAct kd k m (nth l j) = true := lastIx_at h

theorem prot_left (l : List Akt) (a : Akt) : ∀ {n : Nat}, n ≤ l.length → prot (l ++ [a]) n = prot l n
  | 0, _ => rfl
  | n + 1, h => by simp only [prot, nth_left (a := a) (show n < l.length by omega), prot_left l a (show n ≤ l.length by omega)]

def pro (l : List Akt) : List Nat := prot l l.length

theorem pro_snoc (l : List Akt) (a : Akt) : pro (l ++ [a]) = if a.kind = 2 then pro l ++ [l.length] else pro l := by
  unfold pro
  rw [List.length_append]
  simp only [List.length_cons, List.length_nil, Nat.zero_add, prot, nth_last, prot_left l a (Nat.le_refl _)]

def Acc (c : Cod) (l : List Akt) : Prop := ∀ i, i < l.length → refused c (l.take i) (nth l i) = 0

theorem acc_snoc {c : Cod} {l : List Akt} {a : Akt} : Acc c (l ++ [a]) ↔ Acc c l ∧ refused c l a = 0 := by
  constructor
  · intro h
    refine ⟨fun i hi => ?_, ?_⟩
    · have := h i (by simp; omega)
      rwa [nth_left hi, List.take_append_of_le_length (by omega)] at this
    · have := h l.length (by simp)
      rwa [nth_last, List.take_append_of_le_length (Nat.le_refl _), List.take_length] at this
  · rintro ⟨h1, h2⟩ i hi
    rcases Nat.lt_or_ge i l.length with h | h
    · rw [nth_left h, List.take_append_of_le_length (by omega)]
      exact h1 i h
    · have e : i = l.length := by simp at hi; omega
      subst e
      rw [nth_last, List.take_append_of_le_length (Nat.le_refl _), List.take_length]
      exact h2

abbrev MM : Int := 10000000

structure Shape (l : List Akt) (k : Int) : Prop where
  dx : rlast l 3 k MM < 0 ∨ rlast l 6 k MM < 0
  da : rlast l 3 k MM < 0 → rlast l 4 k MM < 0
  aj : rlast l 4 k MM < 0 → rlast l 5 k MM < 0
  oa : 0 ≤ rlast l 4 k MM → rlast l 3 k MM < rlast l 4 k MM
  oj : 0 ≤ rlast l 5 k MM → rlast l 4 k MM < rlast l 5 k MM

structure Inv (c : Cod) (l : List Akt) : Prop where
  mins : Mins l
  sorted : ∀ i j, i ≤ j → j < l.length → (nth l i).minute ≤ (nth l j).minute
  ok : ∀ i, i < l.length → actOk c.cars (nth l i) = true
  len : l.length ≤ 2000
  uniq : ∀ i, i < l.length → 3 ≤ (nth l i).kind → (i : Int) = rlast l (nth l i).kind (nth l i).cse MM
  cse : ∀ i, i < l.length → 3 ≤ (nth l i).kind → 0 ≤ (nth l i).cse ∧ (nth l i).cse < (pro l).length
  shape : ∀ k, Shape l k
  after : ∀ (k p : Nat), (pro l)[k]? = some p → ∀ kd, 3 ≤ kd → 0 ≤ rlast l kd k MM → (p : Int) < rlast l kd k MM

structure Good (c : Cod) (l : List Akt) (a : Akt) : Prop where
  ok : actOk c.cars a = true
  late : l.length = 0 ∨ (nth l (l.length - 1)).minute ≤ a.minute
  len : l.length < 2000
  pub : a.kind = 1 → fi (isPub a.paper) l < 0
  prt : a.kind = 2 → 0 ≤ fi (isPub a.paper) l ∧ (verArt c.arts a.article a.at_ c.arts.length).isSome = true ∧ a.minute - (nth l (fi (isPub a.paper) l).toNat).minute ≤ c.window ∧ a.paid = c.fee
  cse : 3 ≤ a.kind → 0 ≤ a.cse ∧ a.cse < (pro l).length
  dec : a.kind = 3 → rlast l 6 a.cse MM < 0 ∧ rlast l 3 a.cse MM < 0 ∧ fitsR c l a = true
  app : a.kind = 4 → 0 ≤ rlast l 3 a.cse MM ∧ rlast l 4 a.cse MM < 0 ∧ (a.by_ = (nth l ((pro l).getD a.cse.toNat 0)).by_ ∨ a.by_ = (nth l ((pro l).getD a.cse.toNat 0)).against) ∧ a.minute - (nth l (rlast l 3 a.cse MM).toNat).minute ≤ c.second ∧ a.paid = c.price
  jud : a.kind = 5 → 0 ≤ rlast l 4 a.cse MM ∧ rlast l 5 a.cse MM < 0 ∧ fitsR c l a = true
  drp : a.kind = 6 → rlast l 6 a.cse MM < 0 ∧ rlast l 3 a.cse MM < 0 ∧ a.by_ = (nth l ((pro l).getD a.cse.toNat 0)).by_

theorem good_of {c : Cod} {l : List Akt} {a : Akt} (h : refused c l a = 0) : Good c l a := by
  unfold refused at h
  split at h
  · cases h
  rename_i h1
  split at h
  · cases h
  rename_i h2
  have hok : actOk c.cars a = true := by
    cases e : actOk c.cars a
    · exact absurd (.inl e) h1
    · rfl
  have hk := actOk_kind hok
  have hl : l.length = 0 ∨ (nth l (l.length - 1)).minute ≤ a.minute := by
    by_cases e : l.length = 0
    · exact .inl e
    · right
      have : ¬ (0 < l.length ∧ a.minute < (nth l (l.length - 1)).minute) := fun hh => h1 (.inr hh)
      omega
  by_cases k1 : a.kind = 1
  · rw [if_pos k1] at h
    refine ⟨hok, hl, by omega, fun _ => ?_, fun e => by omega, fun e => by omega, fun e => by omega, fun e => by omega, fun e => by omega, fun e => by omega⟩
    split at h <;> omega
  rw [if_neg k1] at h
  by_cases k2 : a.kind = 2
  · rw [if_pos k2] at h
    refine ⟨hok, hl, by omega, fun e => absurd e k1, fun _ => ?_, fun e => by omega, fun e => by omega, fun e => by omega, fun e => by omega, fun e => by omega⟩
    split at h
    · cases h
    rename_i h3
    split at h
    · cases h
    rename_i h4
    split at h
    · cases h
    rename_i h5
    refine ⟨by omega, ?_, by omega, by omega⟩
    cases e : (verArt c.arts a.article a.at_ c.arts.length).isSome
    · exact absurd (.inr e) h3
    · rfl
  rw [if_neg k2] at h
  have hk3 : (a.kind = 3 ∨ a.kind = 4 ∨ a.kind = 5 ∨ a.kind = 6) ∧ 0 ≤ a.cse := by omega
  split at h
  · cases h
  rename_i h3
  have hc : 0 ≤ a.cse ∧ a.cse < (pro l).length := ⟨hk3.2, by unfold pro; omega⟩
  have fit : ∀ {b : Bool}, ¬ b = false → b = true := fun h => by simpa using h
  refine ⟨hok, hl, by omega, fun e => absurd e k1, fun e => absurd e k2, fun _ => hc, fun e => ?_, fun e => ?_, fun e => ?_, fun e => ?_⟩
  · simp only [e] at h
    split at h
    · split at h
      · cases h
      · rename_i g1
        split at h
        · cases h
        · rename_i g2
          exact ⟨by unfold MM; omega, by unfold MM; omega, fit g2⟩
    · contradiction
  · simp only [e] at h
    rw [if_neg (by omega), if_pos trivial] at h
    split at h
    · cases h
    · rename_i g1
      split at h
      · cases h
      · rename_i g2
        split at h
        · cases h
        · rename_i g3
          split at h
          · cases h
          · rename_i g4
            refine ⟨by unfold MM; omega, by unfold MM; omega, ?_, by unfold MM; omega, by omega⟩
            unfold pro
            omega
  · simp only [e] at h
    rw [if_neg (by omega), if_neg (by omega), if_pos trivial] at h
    split at h
    · cases h
    · rename_i g1
      split at h
      · cases h
      · rename_i g2
        exact ⟨by unfold MM; omega, by unfold MM; omega, fit g2⟩
  · simp only [e] at h
    rw [if_neg (by omega), if_neg (by omega), if_neg (by omega)] at h
    split at h
    · cases h
    · rename_i g1
      split at h
      · cases h
      · rename_i g2
        refine ⟨by unfold MM; omega, by unfold MM; omega, ?_⟩
        unfold pro
        omega

theorem inv_of {c : Cod} : ∀ (l : List Akt), Acc c l → Inv c l := by
  have step : ∀ (l : List Akt) (a : Akt), Inv c l → refused c l a = 0 → Inv c (l ++ [a]) := by
    intro l a h hr
    have g := good_of hr
    have hk := actOk_kind g.ok
    have hmin := actOk_minute g.ok
    have hmM : a.minute ≤ MM := by unfold inR at hmin; simp at hmin; unfold MM; omega
    have isA : ∀ kd k, isAct kd k MM a = true ↔ a.kind = kd ∧ a.cse = k := by
      intro kd k
      simp [isAct, hmM]
    have rs : ∀ kd k, rlast (l ++ [a]) kd k MM = if a.kind = kd ∧ a.cse = k then (l.length : Int) else rlast l kd k MM := by
      intro kd k
      rw [rlast_snoc]
      by_cases e : isAct kd k MM a = true
      · rw [if_pos e, if_pos ((isA kd k).1 e)]
      · rw [if_neg e, if_neg fun hh => e ((isA kd k).2 hh)]
    have lt := fun kd k => (rlast_lt l kd k MM).2
    have pl : (pro l).length ≤ (pro (l ++ [a])).length := by rw [pro_snoc]; split <;> simp
    refine ⟨?_, ?_, ?_, by have := g.len; simp; omega, ?_, ?_, ?_, ?_⟩
    · intro b hb
      rcases List.mem_append.1 hb with hb | hb
      · exact h.mins b hb
      · simp at hb; rw [hb]; exact hmin
    · intro i j hij hj
      rcases Nat.lt_or_ge j l.length with hjl | hjl
      · rw [nth_left hjl, nth_left (by omega)]
        exact h.sorted i j hij hjl
      · have e : j = l.length := by simp at hj; omega
        subst e
        rw [nth_last]
        rcases Nat.lt_or_ge i l.length with hil | hil
        · rw [nth_left hil]
          have := h.sorted i (l.length - 1) (by omega) (by omega)
          rcases g.late with h0 | h0 <;> omega
        · have e : i = l.length := by omega
          rw [e, nth_last]
          exact Int.le_refl _
    · intro i hi
      rcases Nat.lt_or_ge i l.length with hil | hil
      · rw [nth_left hil]; exact h.ok i hil
      · have e : i = l.length := by simp at hi; omega
        rw [e, nth_last]; exact g.ok
    · intro i hi h3
      rcases Nat.lt_or_ge i l.length with hil | hil
      · rw [nth_left hil] at h3 ⊢
        rw [rs]
        have hu := h.uniq i hil h3
        split
        · rename_i hh
          exfalso
          rw [← hh.1, ← hh.2] at hu
          rw [← hh.1] at h3
          have hk3 : a.kind = 3 ∨ a.kind = 4 ∨ a.kind = 5 ∨ a.kind = 6 := by omega
          rcases hk3 with e | e | e | e <;> rw [e] at hu
          · have := g.dec e; omega
          · have := g.app e; omega
          · have := g.jud e; omega
          · have := g.drp e; omega
        · exact hu
      · have e : i = l.length := by simp at hi; omega
        rw [e, nth_last, rs, if_pos ⟨rfl, rfl⟩]
    · intro i hi h3
      rcases Nat.lt_or_ge i l.length with hil | hil
      · rw [nth_left hil] at h3 ⊢
        have := h.cse i hil h3
        omega
      · have e : i = l.length := by simp at hi; omega
        rw [e, nth_last] at h3 ⊢
        have := g.cse h3
        omega
    · intro k
      have s := h.shape k
      have l3 := lt 3 k
      have l4 := lt 4 k
      have l5 := lt 5 k
      have l6 := lt 6 k
      have s1 := s.dx
      have s2 := s.da
      have s3 := s.aj
      have s4 := s.oa
      have s5 := s.oj
      by_cases ek : a.cse = k
      · subst ek
        rcases hk with e | e | ⟨e | e | e | e, _⟩
        · exact ⟨by simpa [rs, e] using s1, by simpa [rs, e] using s2, by simpa [rs, e] using s3, by simpa [rs, e] using s4, by simpa [rs, e] using s5⟩
        · exact ⟨by simpa [rs, e] using s1, by simpa [rs, e] using s2, by simpa [rs, e] using s3, by simpa [rs, e] using s4, by simpa [rs, e] using s5⟩
        · have q := g.dec e
          constructor <;> simp [rs, e] <;> omega
        · have q := g.app e
          constructor <;> simp [rs, e] <;> omega
        · have q := g.jud e
          constructor <;> simp [rs, e] <;> omega
        · have q := g.drp e
          constructor <;> simp [rs, e] <;> omega
      · exact ⟨by simpa [rs, ek] using s1, by simpa [rs, ek] using s2, by simpa [rs, ek] using s3, by simpa [rs, ek] using s4, by simpa [rs, ek] using s5⟩
    · intro k p hp kd h3 h0
      rw [rs] at h0 ⊢
      have pin : ∀ (k p : Nat), (pro l)[k]? = some p → p < l.length := fun k p hp => prot_lt l l.length p (List.mem_of_getElem? hp)
      split
      · rename_i hh
        have := g.cse (by omega)
        have hkl : k < (pro l).length := by omega
        rw [pro_snoc, if_neg (by omega)] at hp
        have := pin k p hp
        omega
      · rename_i hh
        rw [if_neg hh] at h0
        have key : (pro l)[k]? = some p := by
          rw [pro_snoc] at hp
          split at hp
          · rcases Nat.lt_or_ge k (pro l).length with hkl | hkl
            · rwa [List.getElem?_append_left hkl] at hp
            · exfalso
              obtain ⟨j, hj⟩ : ∃ j : Nat, rlast l kd k MM = j := ⟨(rlast l kd k MM).toNat, by omega⟩
              have := lt kd k
              have hj2 : j < l.length := by omega
              have hP := rlast_at hj
              simp only [isAct, Bool.and_eq_true, beq_iff_eq] at hP
              have := h.cse j hj2 (by omega)
              omega
          · exact hp
        exact h.after k p key kd h3 h0
  refine snocInd ?_ ?_
  · intro _
    have r : ∀ kd k, rlast [] kd k MM = -1 := fun _ _ => rfl
    exact ⟨fun _ h => (by cases h), fun i j _ h => (by simp at h), fun i h => (by simp at h), by simp, fun i h => (by simp at h), fun i h => (by simp at h), fun k => ⟨by simp [r], by simp [r], by simp [r], by simp [r], by simp [r]⟩, fun k p hp => by simp [pro, prot] at hp⟩
  · intro l a ih hacc
    obtain ⟨h1, h2⟩ := acc_snoc.1 hacc
    exact step l a (ih h1) h2

end Go.Am.Ct

/-
  The cases of a record.
-/
namespace Go.Am.Ct
open Go.Am.Ap
set_option maxHeartbeats 1000000

def opt (x : Int) : List Nat := if 0 ≤ x then [x.toNat] else []

def idxOf (l : List Akt) (k : Int) (p : Nat) : List Nat := p :: (opt (rlast l 3 k MM) ++ (opt (rlast l 4 k MM) ++ (opt (rlast l 5 k MM) ++ opt (rlast l 6 k MM))))

def qOf (l : List Akt) : List (Nat × List Nat) := (pro l).mapIdx fun k p => (p, idxOf l k p)

theorem qOf_get {l : List Akt} {k p : Nat} (h : (pro l)[k]? = some p) : (qOf l)[k]? = some (p, idxOf l k p) := by simp [qOf, h]

theorem qOf_len (l : List Akt) : (qOf l).length = (pro l).length := by simp [qOf]

variable {c : Cod} {l : List Akt}

theorem opt_lt {x : Int} {n : Nat} (h : x < n) {i : Nat} (hi : i ∈ opt x) : i < n := by
  unfold opt at hi
  split at hi
  · simp at hi; omega
  · cases hi

theorem pro_lt {k p : Nat} (h : (pro l)[k]? = some p) : p < l.length := prot_lt l l.length p (List.mem_of_getElem? h)

theorem idx_lt {k p : Nat} (h : (pro l)[k]? = some p) : ∀ i, i ∈ idxOf l k p → i < l.length := by
  intro i hi
  simp only [idxOf, List.mem_cons, List.mem_append] at hi
  rcases hi with rfl | hi | hi | hi | hi
  · exact pro_lt h
  · exact opt_lt (rlast_lt l 3 k MM).2 hi
  · exact opt_lt (rlast_lt l 4 k MM).2 hi
  · exact opt_lt (rlast_lt l 5 k MM).2 hi
  · exact opt_lt (rlast_lt l 6 k MM).2 hi

theorem idx_len {k : Int} {p : Nat} : (idxOf l k p).length ≤ 5 := by
  have h : ∀ x, (opt x).length ≤ 1 := fun x => by unfold opt; split <;> simp
  have h1 := h (rlast l 3 k MM)
  have h2 := h (rlast l 4 k MM)
  have h3 := h (rlast l 5 k MM)
  have h4 := h (rlast l 6 k MM)
  simp only [idxOf, List.length_cons, List.length_append]
  omega

theorem idx_ne {k : Int} {p : Nat} : idxOf l k p ≠ [] := by simp [idxOf]

theorem pro_kind : ∀ {n p : Nat}, p ∈ prot l n → (nth l p).kind = 2
  | 0, p, h => by simp [prot] at h
  | n + 1, p, h => by
    simp only [prot] at h
    split at h
    · rcases List.mem_append.1 h with h | h
      · exact pro_kind h
      · simp at h; subst h; assumption
    · exact pro_kind h

theorem at_of {kd k : Int} (h : 0 ≤ rlast l kd k MM) : ∃ i : Nat, rlast l kd k MM = i ∧ i < l.length ∧ (nth l i).kind = kd ∧ (nth l i).cse = k := by
  obtain ⟨i, hi⟩ : ∃ i : Nat, rlast l kd k MM = i := ⟨(rlast l kd k MM).toNat, by omega⟩
  have := (rlast_lt l kd k MM).2
  have hP := rlast_at hi
  simp only [isAct, Bool.and_eq_true, beq_iff_eq] at hP
  exact ⟨i, hi, by omega, hP.1.1, hP.1.2⟩

theorem rl_m (h : Inv c l) {kd k m : Int} (h3 : 3 ≤ kd) (hm : m ≤ MM) : rlast l kd k m = if 0 ≤ rlast l kd k MM ∧ (nth l (rlast l kd k MM).toNat).minute ≤ m then rlast l kd k MM else -1 := by
  have mn := h.mins
  have key : ∀ i, i < l.length → isAct kd k m (nth l i) = true → (i : Int) = rlast l kd k MM ∧ (nth l i).minute ≤ m := by
    intro i hi hP
    simp only [isAct, Bool.and_eq_true, beq_iff_eq, decide_eq_true_eq] at hP
    have := h.uniq i hi (by omega)
    rw [hP.1.1, hP.1.2] at this
    exact ⟨this, hP.2⟩
  have lt := rlast_lt l kd k m
  rcases Int.lt_or_le (rlast l kd k m) 0 with h0 | h0
  · have e : rlast l kd k m = -1 := by omega
    rw [e]
    split
    · rename_i hh
      exfalso
      obtain ⟨i, hi, hil, hk1, hk2⟩ := at_of hh.1
      have hP : isAct kd k m (nth l i) = true := by
        simp only [isAct, Bool.and_eq_true, beq_iff_eq, decide_eq_true_eq]
        have := hh.2
        rw [hi] at this
        exact ⟨⟨hk1, hk2⟩, by simpa using this⟩
      have : ∀ n, i < n → n ≤ l.length → (i : Int) ≤ lastIx (isAct kd k m) l n := by
        intro n
        induction n with
        | zero => intro h; omega
        | succ n ih =>
          intro h1 h2
          simp only [lastIx]
          split
          · omega
          · rename_i hno
            rcases Nat.lt_or_ge i n with h3 | h3
            · exact ih h3 (by omega)
            · have e : i = n := by omega
              subst e
              exact absurd hP hno
      have := this l.length hil (Nat.le_refl _)
      unfold rlast at h0
      omega
    · rfl
  · obtain ⟨i, hi⟩ : ∃ i : Nat, rlast l kd k m = i := ⟨(rlast l kd k m).toNat, by omega⟩
    have hP := rlast_at hi
    have := key i (by omega) hP
    rw [hi, ← this.1]
    rw [if_pos ⟨by omega, by simpa using this.2⟩]

def stR (c : Cod) (l : List Akt) (k m : Int) : Int :=
  if 0 ≤ rlast l 6 k m then 2 else if 0 ≤ rlast l 5 k m then 5 else if 0 ≤ rlast l 4 k m then 4 else if rlast l 3 k m < 0 then 1 else if c.second < m - (nth l (rlast l 3 k m).toNat).minute then 5 else 3

theorem stGo_opt {second m s : Int} {x : Int} {r : List Nat} : stGo l second m (opt x ++ r) s = if 0 ≤ x then (if m < (nth l x.toNat).minute then s else stGo l second m r (stStep second m (nth l x.toNat) s)) else stGo l second m r s := by
  unfold opt
  split
  · rfl
  · rfl

theorem stGo_opt1 {second m s : Int} {x : Int} : stGo l second m (opt x) s = if 0 ≤ x then (if m < (nth l x.toNat).minute then s else stStep second m (nth l x.toNat) s) else s := by
  unfold opt
  split
  · rfl
  · rfl

theorem state_eq (h : Inv c l) {k p : Nat} (hp : (pro l)[k]? = some p) {m : Int} (hm : m ≤ MM) (hpm : (nth l p).minute ≤ m) : stGo l c.second m (idxOf l k p) 1 = stR c l k m := by
  have hkd : (nth l p).kind = 2 := pro_kind (List.mem_of_getElem? hp)
  have s := h.shape k
  unfold idxOf stR
  rw [stGo_cons, if_neg (by omega)]
  simp only [stGo_opt, stGo_opt1]
  rw [rl_m h (by omega : (3 : Int) ≤ 3) hm, rl_m h (by omega : (3 : Int) ≤ 4) hm, rl_m h (by omega : (3 : Int) ≤ 5) hm, rl_m h (by omega : (3 : Int) ≤ 6) hm]
  have e0 : stStep c.second m (nth l p) 1 = 1 := by simp [stStep, hkd]
  rw [e0]
  have s1 := s.dx
  have s2 := s.da
  have s3 := s.aj
  have s4 := s.oa
  have s5 := s.oj
  have mono : ∀ x y : Int, 0 ≤ x → x < y → y < l.length → (nth l x.toNat).minute ≤ (nth l y.toNat).minute := fun x y h0 h1 h2 => h.sorted _ _ (by omega) (by omega)
  have l3 := (rlast_lt l 3 k MM).2
  have l4 := (rlast_lt l 4 k MM).2
  have l5 := (rlast_lt l 5 k MM).2
  have kinds : ∀ kd : Int, 0 ≤ rlast l kd k MM → (nth l (rlast l kd k MM).toNat).kind = kd := fun kd h0 => by
    obtain ⟨i, hi, _, hk, _⟩ := at_of h0
    rw [hi]
    simpa using hk
  by_cases h6 : 0 ≤ rlast l 6 k MM
  · have h3 : ¬ 0 ≤ rlast l 3 k MM := by omega
    have h4 : ¬ 0 ≤ rlast l 4 k MM := by omega
    have h5 : ¬ 0 ≤ rlast l 5 k MM := by omega
    have k6 := kinds 6 h6
    by_cases g : (nth l (rlast l 6 k MM).toNat).minute ≤ m
    · have g' := Int.not_lt.2 g
      simp [h3, h4, h5, h6, g, g', stStep, k6]
    · have g' := Int.not_le.1 g
      simp [h3, h4, h5, h6, g, g']
  · by_cases h3 : 0 ≤ rlast l 3 k MM
    · have k3 := kinds 3 h3
      have h3n : ¬ rlast l 3 k MM < 0 := by omega
      by_cases g3 : (nth l (rlast l 3 k MM).toNat).minute ≤ m
      · have g3' := Int.not_lt.2 g3
        by_cases h4 : 0 ≤ rlast l 4 k MM
        · have k4 := kinds 4 h4
          by_cases g4 : (nth l (rlast l 4 k MM).toNat).minute ≤ m
          · have g4' := Int.not_lt.2 g4
            by_cases h5 : 0 ≤ rlast l 5 k MM
            · have k5 := kinds 5 h5
              by_cases g5 : (nth l (rlast l 5 k MM).toNat).minute ≤ m
              · have g5' := Int.not_lt.2 g5
                simp [h3, h4, h5, h6, g3, g3', g4, g4', g5, g5', stStep, k3, k4, k5]
              · have g5' := Int.not_le.1 g5
                simp [h3, h4, h5, h6, g3, g3', g4, g4', g5, g5', stStep, k3, k4, k5]
            · simp [h3, h4, h5, h6, g3, g3', g4, g4', stStep, k3, k4]
          · have g4' := Int.not_le.1 g4
            have h5n : ¬ (0 ≤ rlast l 5 k MM ∧ (nth l (rlast l 5 k MM).toNat).minute ≤ m) := fun hh => by
              have := mono _ _ h4 (s5 hh.1) l5
              omega
            simp [h3, h3n, h4, h5n, h6, g3, g3', g4, g4', stStep, k3]
        · have h5 : ¬ 0 ≤ rlast l 5 k MM := by omega
          simp [h3, h3n, h4, h5, h6, g3, g3', stStep, k3]
      · have g3' := Int.not_le.1 g3
        have h4n : ¬ (0 ≤ rlast l 4 k MM ∧ (nth l (rlast l 4 k MM).toNat).minute ≤ m) := fun hh => by
          have := mono _ _ h3 (s4 hh.1) l4
          omega
        have h5n : ¬ (0 ≤ rlast l 5 k MM ∧ (nth l (rlast l 5 k MM).toNat).minute ≤ m) := fun hh => by
          have h40 : 0 ≤ rlast l 4 k MM := by omega
          have e1 := mono _ _ h40 (s5 hh.1) l5
          have e2 := mono _ _ h3 (s4 h40) l4
          omega
        simp [h3, h4n, h5n, h6, g3, g3']
    · have h4 : ¬ 0 ≤ rlast l 4 k MM := by omega
      have h5 : ¬ 0 ≤ rlast l 5 k MM := by omega
      simp [h3, h4, h5, h6]

end Go.Am.Ct

/-
  One act more.
-/
namespace Go.Am.Ct
open Go.Am.Ap
set_option maxHeartbeats 1000000

variable {c : Cod} {l : List Akt} {a : Akt}

theorem isA_iff (g : Good c l a) (kd k : Int) : isAct kd k MM a = true ↔ a.kind = kd ∧ a.cse = k := by
  have hmin := actOk_minute g.ok
  have hmM : a.minute ≤ MM := by unfold inR at hmin; simp at hmin; unfold MM; omega
  simp [isAct, hmM]

theorem rs_of (g : Good c l a) (kd k : Int) : rlast (l ++ [a]) kd k MM = if a.kind = kd ∧ a.cse = k then (l.length : Int) else rlast l kd k MM := by
  rw [rlast_snoc]
  by_cases e : isAct kd k MM a = true
  · rw [if_pos e, if_pos ((isA_iff g kd k).1 e)]
  · rw [if_neg e, if_neg fun hh => e ((isA_iff g kd k).2 hh)]

theorem idx_same (g : Good c l a) {k : Int} (p : Nat) (h : a.kind ≤ 2 ∨ a.cse ≠ k) : idxOf (l ++ [a]) k p = idxOf l k p := by
  unfold idxOf
  rw [rs_of g, rs_of g, rs_of g, rs_of g, if_neg (by omega), if_neg (by omega), if_neg (by omega), if_neg (by omega)]

theorem opt_neg {x : Int} (h : x < 0) : opt x = [] := by unfold opt; rw [if_neg (by omega)]
theorem opt_nat (n : Nat) : opt (n : Int) = [n] := by unfold opt; rw [if_pos (by omega)]; simp

theorem idx_new (hI : Inv c l) (g : Good c l a) (p : Nat) (h3 : 3 ≤ a.kind) : idxOf (l ++ [a]) a.cse p = idxOf l a.cse p ++ [l.length] := by
  have hk := actOk_kind g.ok
  have s := hI.shape a.cse
  have s1 := s.dx
  have s2 := s.da
  have s3 := s.aj
  unfold idxOf
  rw [rs_of g, rs_of g, rs_of g, rs_of g]
  have hk3 : a.kind = 3 ∨ a.kind = 4 ∨ a.kind = 5 ∨ a.kind = 6 := by omega
  rcases hk3 with e | e | e | e
  · have q := g.dec e
    simp [e, opt_nat, opt_neg (show rlast l 3 a.cse MM < 0 by omega), opt_neg (show rlast l 4 a.cse MM < 0 by omega), opt_neg (show rlast l 5 a.cse MM < 0 by omega), opt_neg (show rlast l 6 a.cse MM < 0 by omega)]
  · have q := g.app e
    simp [e, opt_nat, opt_neg (show rlast l 4 a.cse MM < 0 by omega), opt_neg (show rlast l 5 a.cse MM < 0 by omega), opt_neg (show rlast l 6 a.cse MM < 0 by omega)]
  · have q := g.jud e
    simp [e, opt_nat, opt_neg (show rlast l 5 a.cse MM < 0 by omega), opt_neg (show rlast l 6 a.cse MM < 0 by omega)]
  · have q := g.drp e
    simp [e, opt_nat, opt_neg (show rlast l 3 a.cse MM < 0 by omega), opt_neg (show rlast l 4 a.cse MM < 0 by omega), opt_neg (show rlast l 5 a.cse MM < 0 by omega), opt_neg (show rlast l 6 a.cse MM < 0 by omega)]

theorem q_pub (g : Good c l a) (h : a.kind = 1) : qOf (l ++ [a]) = qOf l := by
  unfold qOf
  rw [pro_snoc, if_neg (by omega)]
  refine List.ext_getElem? fun k => ?_
  simp only [List.getElem?_mapIdx]
  congr 1
  funext p
  rw [idx_same g p (.inl (by omega))]

theorem q_pro (hI : Inv c l) (g : Good c l a) (h : a.kind = 2) : qOf (l ++ [a]) = qOf l ++ [(l.length, [l.length])] := by
  unfold qOf
  rw [pro_snoc, if_pos h, List.mapIdx_append]
  have none : ∀ kd : Int, 3 ≤ kd → rlast l kd (pro l).length MM < 0 := fun kd h3 => by
    rcases Int.lt_or_le (rlast l kd (pro l).length MM) 0 with h0 | h0
    · exact h0
    · obtain ⟨i, hi, hil, h1, h2⟩ := at_of h0
      have := hI.cse i hil (by omega)
      omega
  congr 1
  · refine List.ext_getElem? fun k => ?_
    simp only [List.getElem?_mapIdx]
    congr 1
    funext p
    rw [idx_same g p (.inl (by omega))]
  · simp only [List.mapIdx_cons, List.mapIdx_nil, Nat.zero_add]
    rw [idx_same g _ (.inl (by omega))]
    unfold idxOf
    rw [opt_neg (none 3 (by omega)), opt_neg (none 4 (by omega)), opt_neg (none 5 (by omega)), opt_neg (none 6 (by omega))]
    rfl

theorem q_upd (hI : Inv c l) (g : Good c l a) (h3 : 3 ≤ a.kind) {k p : Nat} (hk : a.cse = k) (hp : (pro l)[k]? = some p) : qOf (l ++ [a]) = (qOf l).set k (p, idxOf l k p ++ [l.length]) := by
  have hpl : (pro (l ++ [a])) = pro l := by rw [pro_snoc, if_neg (by omega)]
  refine List.ext_getElem? fun i => ?_
  have hkl : k < (qOf l).length := by rw [qOf_len]; exact (List.getElem?_eq_some_iff.1 hp).1
  by_cases e : i = k
  · subst e
    rw [List.getElem?_set_self hkl, qOf_get (p := p) (by rw [hpl]; exact hp), ← hk, idx_new hI g p h3]
  · rw [List.getElem?_set_ne (Ne.symm e)]
    unfold qOf
    simp only [List.getElem?_mapIdx, hpl]
    congr 1
    funext p'
    rw [idx_same g p' (.inr (by omega))]

end Go.Am.Ct

/-
  What the court does with acts.
-/
namespace Go.Am.Ct
set_option maxRecDepth 100000
set_option maxHeartbeats 4000000
open Go.Proofs Go.Am.Ap

variable {bs : List D} {j : Nat} {c : Cod} {l : List Akt} {sa sf : D} {fs : List (Int × D)}

attribute [local irreducible] inR

theorem c63n {n m : Nat} : FSpecD Try.prog 63 (.st bs) [.loc n 0, .loc m 0] none (.st bs) := by
  refine ku63.recoverD (d0 := .tup []) rfl rfl ?_
  unfold u63
  simp only [ups_cons, ups_nil, List.cons_append, List.nil_append]
  repeat' (first
    | ((with_reducible apply nrm); (· simp only [sbe]; rfl))
    | ((with_reducible apply u_chk); (· rfl))
    | ((with_reducible apply u_ev); (· rfl); (· simp only [sbe]; rfl))
    | (with_reducible refine u_join ?_)
    | ((with_reducible apply u_jump); (· rfl); (· rfl))
    | (with_reducible refine at_jump ?_)
    | (with_reducible refine over_jump (by decide) ?_)
    | (with_reducible refine kj rfl ?_)
    | ((with_reducible apply u_ite); (· rfl); all_goals (intro hz; (try simp only [sbs] at hz); first | (exact absurd hz (by decide)) | (exfalso; omega) | skip))
    | (with_reducible exact u_ret rfl rfl)
    | ((with_reducible apply u_ret); (· rfl); first | exact rfl | (refine retB ?_) | (refine retI ?_) | (refine retD ?_)))

theorem c63p {n m : Nat} {x y : D} {e : Int} (hn : bs[n]? = some (.blk 3 1 [x])) (hm : bs[m]? = some (.blk 24 1 [y])) (hne : n ≠ m) : FSpecD Try.prog 63 (.st bs) [.loc n 0, .loc m 0] (some (refusal e)) (.st ((bs.set n (.blk 3 1 [I 0])).set m (.blk 24 1 [I e]))) := by
  refine ku63.recoverD (d0 := .tup []) rfl rfl ?_
  unfold u63
  simp only [ups_cons, ups_nil, List.cons_append, List.nil_append]
  have h1 := sto_blk (k := 0) hn (by simp) (d := I 0) rfl
  have h2 := sto_blk (bs := bs.set n (.blk 3 1 [I 0])) (k := 0) (by rw [set_get_ne hne]; exact hm) (by simp) (d := I e) rfl
  repeat' (first
    | ((with_reducible apply nrm); (· simp only [sbe]; rfl))
    | ((with_reducible apply u_chk); (· rfl))
    | ((with_reducible apply u_sto); (· rfl); (· rfl); (· rfl); (· first | exact h1 | exact h2); (· simp only [sbe]; rfl))
    | ((with_reducible apply u_ev); (· rfl); (· simp only [sbe]; rfl))
    | (with_reducible refine u_join ?_)
    | ((with_reducible apply u_jump); (· rfl); (· rfl))
    | (with_reducible refine at_jump ?_)
    | (with_reducible refine over_jump (by decide) ?_)
    | (with_reducible refine kj rfl ?_)
    | ((with_reducible apply u_ite); (· rfl); all_goals (intro hz; (try simp only [sbs] at hz); first | (exact absurd hz (by decide)) | (exfalso; omega) | skip))
    | (with_reducible exact u_ret rfl rfl)
    | ((with_reducible apply u_ret); (· rfl); first | exact rfl | (refine retB ?_) | (refine retI ?_) | (refine retD ?_)))

structure Crt (bs : List D) (F : Nat → Prop) (j : Nat) (c : Cod) (l : List Akt) (q : List (Nat × List Nat)) (sa sf : D) (fs : List (Int × D)) : Prop where
  acts : ActsAt bs j c l sa sf
  files : SlOf bs 115 2 fcs sf fs
  len : fs.length = q.length
  case : ∀ (k p : Nat) (idx : List Nat), q[k]? = some (p, idx) → ∃ s, fs[k]? = some (↑p, s) ∧ SlOf bs 3 1 ncs s idx
  inj : ∀ (k k' : Nat) (f f' : Int × D) (i : Nat), fs[k]? = some f → fs[k']? = some f' → D.sid f.2 = some i → D.sid f'.2 = some i → k = k'
  fj : F j
  fa : ∀ i, sa.sid = some i → F i
  ff : ∀ i, sf.sid = some i → F i
  fc : ∀ (k : Nat) (f : Int × D) (i : Nat), fs[k]? = some f → D.sid f.2 = some i → F i
  lt : ∀ k, F k → k < bs.length

theorem Crt.keep {bs' : List D} {F : Nat → Prop} {q : List (Nat × List Nat)} (h : Crt bs F j c l q sa sf fs) (hl : bs.length ≤ bs'.length) (hk : ∀ k, F k → bs'[k]? = bs[k]?) : Crt bs' F j c l q sa sf fs where
  acts := ⟨by rw [hk _ h.fj]; exact h.acts.1, h.acts.2.keep fun i hi => hk _ (h.fa i hi)⟩
  files := h.files.keep fun i hi => hk _ (h.ff i hi)
  len := h.len
  case := fun k p idx hq => by
    obtain ⟨s, h1, h2⟩ := h.case k p idx hq
    exact ⟨s, h1, h2.keep fun i hi => hk _ (h.fc k _ i h1 hi)⟩
  inj := h.inj
  fj := h.fj
  fa := h.fa
  ff := h.ff
  fc := h.fc
  lt := fun k hk' => Nat.lt_of_lt_of_le (h.lt k hk') hl

theorem Crt.more {F : Nat → Prop} {q : List (Nat × List Nat)} (h : Crt bs F j c l q sa sf fs) (r : List D) : Crt (bs ++ r) F j c l q sa sf fs :=
  h.keep (by simp) fun k hk => List.getElem?_append_left (h.lt k hk)

def proR (c : Cod) (l : List Akt) (a : Akt) : Int :=
  if pubAt l a.paper < 0 ∨ ver c.arts a.article a.at_ c.arts.length < 0 then 5 else if c.window < a.minute - pubAt l a.paper then 8 else if a.paid ≠ c.fee then 7 else 0

theorem c65n {F : Nat → Prop} {q : List (Nat × List Nat)} (h : Crt bs F j c l q sa sf fs) (hc : c.arts.length ≤ 1000) (hL : l.length ≤ 1000000) (a : Akt) (hpm : -1 ≤ pubAt l a.paper ∧ pubAt l a.paper ≤ 10000000) (ham : inR a.minute 0 10000000 = true) (hr : proR c l a ≠ 0) :
    FSpecWO Try.prog 65 (.st bs) [.loc j 0, a.d] (.pan (refusal (proR c l a))) (.st bs) := by
  refine ku65.writeO rfl ?_
  unfold u65
  simp only [ups_cons, ups_nil, List.cons_append, List.nil_append]
  have h97 := c97 h.acts hL a.paper
  have h81 := c81 (bs := bs) c a.article a.at_ hc
  have ham' : 0 ≤ a.minute ∧ a.minute ≤ 10000000 := by unfold inR at ham; simpa using ham
  unfold proR at hr ⊢
  by_cases h1 : pubAt l a.paper < 0 ∨ ver c.arts a.article a.at_ c.arts.length < 0
  · simp only [if_pos h1]
    repeat' (first
      | ((with_reducible apply nrm); (· simp only [sbe]; rfl))
      | ((with_reducible apply u_chk); (· rfl))
      | ((with_reducible apply u_ld); (· rfl); (· rfl); (· first | exact ldN_blk h.acts.1 (Nat.le_of_ble_eq_true rfl)); (· simp only [sbe]; rfl))
      | ((with_reducible apply u_lenL); (· rfl); (· exact lenL_map); (· simp only [sbe]; rfl))
      | ((with_reducible apply u_pred); (· rfl); (· omega); (· simp only [sbe]; rfl))
      | ((with_reducible apply u_sub); (· rfl); (· rfl); (· omega); (· simp only [sbe]; rfl))
      | ((with_reducible apply u_ev); (· rfl); (· simp only [sbe]; rfl))
      | ((with_reducible apply u_call); (· rfl); (· rfl); (· first | exact h97 | exact h81); (· rfl); (· simp only [sbe]; rfl))
      | ((with_reducible apply u_pcallP); (· rfl); (· rfl); (· first | exact c96y (by simpa using h1) _); (· rfl); (· exact ⟨_, _, rfl⟩))
      | ((with_reducible apply u_or); (· rfl))
      | ((with_reducible apply u_jump); (· rfl); (· rfl))
      | (with_reducible refine at_jump ?_)
      | (with_reducible refine over_jump (by decide) ?_)
      | (with_reducible refine kj rfl ?_)
      | ((with_reducible apply u_ite); (· rfl); all_goals (intro hz; (try simp only [sbs] at hz); first | (exact absurd hz (by decide)) | (exfalso; omega) | skip))
      | (with_reducible exact u_ret rfl rfl)
      | ((with_reducible apply u_ret); (· rfl); first | exact rfl | (refine retB ?_) | (refine retI ?_) | (refine retD ?_))
      | ((with_reducible intro hz); (try simp only [sbs] at hz)))
  · simp only [if_neg h1] at hr ⊢
    have h1' : (decide (pubAt l a.paper < 0) || !decide (0 ≤ ver c.arts a.article a.at_ c.arts.length)) = false := by simpa using h1
    by_cases h2 : c.window < a.minute - pubAt l a.paper
    · simp only [if_pos h2]
      repeat' (first
        | ((with_reducible apply nrm); (· simp only [sbe]; rfl))
        | ((with_reducible apply u_chk); (· rfl))
        | ((with_reducible apply u_ld); (· rfl); (· rfl); (· first | exact ldN_blk h.acts.1 (Nat.le_of_ble_eq_true rfl) | exact ld_blk h.acts.1 rfl); (· simp only [sbe]; rfl))
        | ((with_reducible apply u_lenL); (· rfl); (· exact lenL_map); (· simp only [sbe]; rfl))
        | ((with_reducible apply u_pred); (· rfl); (· omega); (· simp only [sbe]; rfl))
        | ((with_reducible apply u_sub); (· rfl); (· rfl); (· omega); (· simp only [sbe]; rfl))
        | ((with_reducible apply u_ev); (· rfl); (· simp only [sbe]; rfl))
        | ((with_reducible apply u_call); (· rfl); (· rfl); (· first | exact h97 | exact h81); (· rfl); (· simp only [sbe]; rfl))
        | ((with_reducible apply u_pcallR); (· rfl); (· rfl); (· first | exact c96n h1' _); (· rfl); (· simp only [sbe]; rfl))
        | ((with_reducible apply u_pcallP); (· rfl); (· rfl); (· first | exact c96y (decide_eq_true h2) _); (· rfl); (· exact ⟨_, _, rfl⟩))
        | ((with_reducible apply u_or); (· rfl))
        | ((with_reducible apply u_jump); (· rfl); (· rfl))
        | (with_reducible refine at_jump ?_)
        | (with_reducible refine over_jump (by decide) ?_)
        | (with_reducible refine kj rfl ?_)
        | ((with_reducible apply u_ite); (· rfl); all_goals (intro hz; (try simp only [sbs] at hz); first | (exact absurd hz (by decide)) | (exfalso; omega) | skip))
        | (with_reducible exact u_ret rfl rfl)
        | ((with_reducible apply u_ret); (· rfl); first | exact rfl | (refine retB ?_) | (refine retI ?_) | (refine retD ?_))
        | ((with_reducible intro hz); (try simp only [sbs] at hz)))
    · simp only [if_neg h2] at hr ⊢
      by_cases h3 : a.paid ≠ c.fee
      · simp only [if_pos h3]
        repeat' (first
          | ((with_reducible apply nrm); (· simp only [sbe]; rfl))
          | ((with_reducible apply u_chk); (· rfl))
          | ((with_reducible apply u_ld); (· rfl); (· rfl); (· first | exact ldN_blk h.acts.1 (Nat.le_of_ble_eq_true rfl) | exact ld_blk h.acts.1 rfl); (· simp only [sbe]; rfl))
          | ((with_reducible apply u_lenL); (· rfl); (· exact lenL_map); (· simp only [sbe]; rfl))
          | ((with_reducible apply u_pred); (· rfl); (· omega); (· simp only [sbe]; rfl))
          | ((with_reducible apply u_sub); (· rfl); (· rfl); (· omega); (· simp only [sbe]; rfl))
          | ((with_reducible apply u_ev); (· rfl); (· simp only [sbe]; rfl))
          | ((with_reducible apply u_call); (· rfl); (· rfl); (· first | exact h97 | exact h81); (· rfl); (· simp only [sbe]; rfl))
          | ((with_reducible apply u_pcallR); (· rfl); (· rfl); (· first | exact c96n h1' _ | exact c96n (decide_eq_false h2) _); (· rfl); (· simp only [sbe]; rfl))
          | ((with_reducible apply u_pcallP); (· rfl); (· rfl); (· first | exact c96y (by simpa using h3) _); (· rfl); (· exact ⟨_, _, rfl⟩))
          | ((with_reducible apply u_or); (· rfl))
          | ((with_reducible apply u_jump); (· rfl); (· rfl))
          | (with_reducible refine at_jump ?_)
          | (with_reducible refine over_jump (by decide) ?_)
          | (with_reducible refine kj rfl ?_)
          | ((with_reducible apply u_ite); (· rfl); all_goals (intro hz; (try simp only [sbs] at hz); first | (exact absurd hz (by decide)) | (exfalso; omega) | skip))
          | (with_reducible exact u_ret rfl rfl)
          | ((with_reducible apply u_ret); (· rfl); first | exact rfl | (refine retB ?_) | (refine retI ?_) | (refine retD ?_))
          | ((with_reducible intro hz); (try simp only [sbs] at hz)))
      · simp [h3] at hr

theorem c65y {F : Nat → Prop} {q : List (Nat × List Nat)} (h : Crt bs F j c l q sa sf fs) (hc : c.arts.length ≤ 1000) (hL : l.length ≤ 1000000) (hq : q.length ≤ 1000000) (a : Akt) (hpm : -1 ≤ pubAt l a.paper ∧ pubAt l a.paper ≤ 10000000) (ham : inR a.minute 0 10000000 = true) (hr : proR c l a = 0) :
    ∃ bs' F', FSpecWO Try.prog 65 (.st bs) [.loc j 0, a.d] (.ret (I q.length)) (.st bs') ∧ Stp bs F bs' F' ∧ Crt bs' F' j c l (q ++ [(l.length, [])]) sa (.sl bs.length 0 (fs.length + 1)) (fs ++ [((l.length : Int), .snil)]) := by
  have h97 := c97 h.acts hL a.paper
  have h81 := c81 (bs := bs) c a.article a.at_ hc
  have ham' : 0 ≤ a.minute ∧ a.minute ≤ 10000000 := by unfold inR at ham; simpa using ham
  unfold proR at hr
  have h1 : ¬ (pubAt l a.paper < 0 ∨ ver c.arts a.article a.at_ c.arts.length < 0) := fun hh => by simp [hh] at hr
  simp only [if_neg h1] at hr
  have h2 : ¬ c.window < a.minute - pubAt l a.paper := fun hh => by simp [hh] at hr
  simp only [if_neg h2] at hr
  have h3 : ¬ a.paid ≠ c.fee := fun hh => by simp [hh] at hr
  have h1' : (decide (pubAt l a.paper < 0) || !decide (0 ≤ ver c.arts a.article a.at_ c.arts.length)) = false := by simpa using h1
  have hfl := h.len
  obtain ⟨bs1, ga, gs, gn, gl, go⟩ := h.files.append (bytes := 32) (x := ((l.length : Int), D.snil)) (y := .agg [I l.length, .snil]) (fun _ => rfl) rfl rfl (by omega) (by unfold maxLen; omega)
  have hj1 : bs1[j]? = some (.blk 99 9 (crtCells c sa sf)) := by
    rw [go j (h.lt j h.fj) (fun hs => ?_)]
    · exact h.acts.1
    · rcases h.files with ⟨_, e⟩ | ⟨i, e, hi⟩
      · rw [e] at hs; cases hs
      · rw [e] at hs; cases hs
        rw [h.acts.1] at hi
        cases hi
  have g2 := sto_blk (k := 8) hj1 (by simp [crtCells]) (d := .sl bs.length 0 (fs.length + 1)) rfl
  have hjlt : j < bs1.length := (List.getElem?_eq_some_iff.1 hj1).1
  have hjb : j < bs.length := h.lt j h.fj
  have hj2 : (bs1.set j (.blk 99 9 ((crtCells c sa sf).set 8 (.sl bs.length 0 (fs.length + 1)))))[j]? = some (.blk 99 9 (crtCells c sa (.sl bs.length 0 (fs.length + 1)))) := by rw [set_get hjlt]; rfl
  refine ⟨bs1.set j (.blk 99 9 ((crtCells c sa sf).set 8 (.sl bs.length 0 (fs.length + 1)))), fun k => F k ∨ k = bs.length, ?_, ⟨by simp [gl], fun k hk hF => ?_, fun k hk => hk.elim .inl fun e => .inr (by omega)⟩, ?_⟩
  · refine ku65.writeO rfl ?_
    unfold u65
    simp only [ups_cons, ups_nil, List.cons_append, List.nil_append]
    repeat' (first
      | ((with_reducible apply nrm); (· simp only [sbe]; rfl))
      | ((with_reducible apply u_chk); (· rfl))
      | ((with_reducible apply u_stoa); (· rfl); (· rfl); (· rfl); (· rfl); (· rfl); (· first | exact gs); (· first | exact g2); (· simp only [sbe]; rfl))
      | ((with_reducible apply u_ld); (· rfl); (· rfl); (· first | exact ldN_blk h.acts.1 (Nat.le_of_ble_eq_true rfl) | exact ld_blk h.acts.1 rfl | exact ld_blk hj2 rfl); (· simp only [sbe]; rfl))
      | ((with_reducible apply u_lenL); (· rfl); (· first | exact h.acts.2.len); (· simp only [sbe]; rfl))
      | ((with_reducible apply u_apph); (· rfl); (· rfl); (· rfl); (· first | exact ga); (· simp only [sbe]; rfl))
      | ((with_reducible apply u_lenL); (· rfl); (· exact lenL_map); (· simp only [sbe]; rfl))
      | ((with_reducible apply u_pred); (· rfl); (· omega); (· simp only [sbe]; rfl))
      | ((with_reducible apply u_sub); (· rfl); (· rfl); (· omega); (· simp only [sbe]; rfl))
      | ((with_reducible apply u_ev); (· rfl); (· simp only [sbe]; rfl))
      | ((with_reducible apply u_call); (· rfl); (· rfl); (· first | exact h97 | exact h81); (· rfl); (· simp only [sbe]; rfl))
      | ((with_reducible apply u_pcallR); (· rfl); (· rfl); (· first | exact c96n h1' _ | exact c96n (decide_eq_false h2) _ | exact c96n (by simpa using h3) _); (· rfl); (· simp only [sbe]; rfl))
      | ((with_reducible apply u_or); (· rfl))
      | ((with_reducible apply u_jump); (· rfl); (· rfl))
      | (with_reducible refine at_jump ?_)
      | (with_reducible refine over_jump (by decide) ?_)
      | (with_reducible refine kj rfl ?_)
      | ((with_reducible apply u_ite); (· rfl); all_goals (intro hz; (try simp only [sbs] at hz); first | (exact absurd hz (by decide)) | (exfalso; omega) | skip))
      | (with_reducible exact u_ret rfl rfl)
      | ((with_reducible apply u_ret); (· rfl); first | exact rfl | (refine retB ?_) | (refine retI ?_) | (refine retD ?_))
      | ((with_reducible intro hz); (try simp only [sbs] at hz)))
    simp [hfl]
  · rw [set_get_ne (fun e => hF (by rw [← e]; exact h.fj)), go k hk (fun hs => hF (h.ff k hs))]
  · have hkeep : ∀ k, k < bs.length → k ≠ j → sf.sid ≠ some k → (bs1.set j (.blk 99 9 ((crtCells c sa sf).set 8 (.sl bs.length 0 (fs.length + 1)))))[k]? = bs[k]? := fun k h1 h2 h3 => by rw [set_get_ne (Ne.symm h2), go k h1 h3]
    have old : ∀ {α : Type} {e : TypeId} {sz : Nat} {enc : α → List D} {s : D} {xs : List α}, SlOf bs e sz enc s xs → e ≠ 99 → e ≠ 115 → SlOf (bs1.set j (.blk 99 9 ((crtCells c sa sf).set 8 (.sl bs.length 0 (fs.length + 1))))) e sz enc s xs := fun hs h1 h2 => hs.keep fun i hi => hkeep i (hs.lt hi) (hs.ne hi h.acts.1 h1) fun hf => hs.ne hi (h.files.blk hf) h2 rfl
    refine ⟨⟨hj2, old h.acts.2 (by decide) (by decide)⟩, .inr ⟨bs.length, by simp, by rw [set_get_ne (by omega)]; exact gn⟩, by simp [hfl], fun k p idx hq => ?_, fun k k' f f' i h1 h2 h3 h4 => ?_, .inl h.fj, fun i hi => .inl (h.fa i hi), fun i hi => .inr (by cases hi; rfl), fun k f i h1 h2 => ?_, fun k hk => ?_⟩
    · rcases Nat.lt_or_ge k q.length with hk | hk
      · rw [List.getElem?_append_left hk] at hq
        obtain ⟨s, g1, g2⟩ := h.case k p idx hq
        exact ⟨s, by rw [List.getElem?_append_left (by omega)]; exact g1, old g2 (by decide) (by decide)⟩
      · rw [List.getElem?_append_right hk] at hq
        have e : k - q.length = 0 := by
          rcases Nat.eq_zero_or_pos (k - q.length) with e | e
          · exact e
          · rw [List.getElem?_eq_none (by simp; omega)] at hq; cases hq
        rw [e] at hq
        cases hq
        exact ⟨.snil, by rw [List.getElem?_append_right (by omega), show k - fs.length = 0 by omega]; rfl, SlOf.nil⟩
    · have lo : ∀ {k : Nat} {f : Int × D} {i : Nat}, (fs ++ [((l.length : Int), D.snil)])[k]? = some f → D.sid f.2 = some i → fs[k]? = some f := by
        intro k f i h1 h2
        rcases Nat.lt_or_ge k fs.length with hk | hk
        · rwa [List.getElem?_append_left hk] at h1
        · rw [List.getElem?_append_right hk] at h1
          cases hkk : k - fs.length with
          | zero => rw [hkk] at h1; cases h1; cases h2
          | succ m => rw [hkk] at h1; simp at h1
      exact h.inj k k' f f' i (lo h1 h3) (lo h2 h4) h3 h4
    · rcases Nat.lt_or_ge k fs.length with hk | hk
      · rw [List.getElem?_append_left hk] at h1
        exact .inl (h.fc k f i h1 h2)
      · rw [List.getElem?_append_right hk] at h1
        cases hkk : k - fs.length with
        | zero => rw [hkk] at h1; cases h1; cases h2
        | succ m => rw [hkk] at h1; simp at h1
    · rw [List.length_set, gl]
      rcases hk with hk | hk
      · have := h.lt k hk; omega
      · omega

theorem Crt.other {F : Nat → Prop} {q : List (Nat × List Nat)} (h : Crt bs F j c l q sa sf fs) {n : Nat} (hn : ¬ F n) (x : D) : Crt (bs.set n x) F j c l q sa sf fs :=
  h.keep (by simp) fun k hk => set_get_ne (fun e => hn (e ▸ hk))

theorem Crt.fileAppend {F : Nat → Prop} {q : List (Nat × List Nat)} (h : Crt bs F j c l q sa sf fs) {k p : Nat} {idx : List Nat} (hk : q[k]? = some (p, idx)) (hL : idx.length ≤ 1000000) (n : Nat) :
    ∃ bs1 bs2 F' b s, sf = .sl b 0 fs.length ∧ bs[b]? = some (.blk 115 2 (fs.flatMap fcs)) ∧ fs[k]? = some (↑p, s) ∧ D.apph 3 1 8 (.st bs) s (.lst [I n]) = some (.st bs1) ∧ D.apps (.st bs) s (.lst [I n]) = some (.sl bs.length 0 (idx.length + 1)) ∧
      D.sto 1 (.st bs1) (.loc b (k * 2 + 1)) (.sl bs.length 0 (idx.length + 1)) = some (.st bs2) ∧ (∀ i, i < bs.length → (¬ F i ∨ i = j) → bs1[i]? = bs[i]?) ∧ Stp bs F bs2 F' ∧ Crt bs2 F' j c l (q.set k (p, idx ++ [n])) sa sf (fs.set k (↑p, .sl bs.length 0 (idx.length + 1))) := by
  obtain ⟨s, hs, hsl⟩ := h.case k p idx hk
  have hkf := (List.getElem?_eq_some_iff.1 hs).1
  have hkq := (List.getElem?_eq_some_iff.1 hk).1
  obtain ⟨b, hb, hbb⟩ := h.files.get hkf
  obtain ⟨bs1, ga, gs, gn, gl, go⟩ := hsl.append (bytes := 8) (x := n) (y := I n) (fun _ => rfl) rfl rfl (by omega) (by unfold maxLen; omega)
  have hblt : b < bs.length := (List.getElem?_eq_some_iff.1 hbb).1
  have hb1 : bs1[b]? = some (.blk 115 2 (fs.flatMap fcs)) := by
    rw [go b hblt (fun e => hsl.ne e hbb (by decide) rfl)]
    exact hbb
  have g2 := sto_el (xs := fs) (enc := fcs) (o := 1) (d := .sl bs.length 0 (idx.length + 1)) (x' := (↑p, .sl bs.length 0 (idx.length + 1))) hb1 (fun _ => rfl) hs (by omega) rfl rfl
  have hb1lt : b < bs1.length := by omega
  have hFb : F b := h.ff b (by rw [hb]; rfl)
  refine ⟨bs1, bs1.set b (.blk 115 2 ((fs.set k (↑p, .sl bs.length 0 (idx.length + 1))).flatMap fcs)), fun i => F i ∨ i = bs.length, b, s, hb, hbb, hs, ga, gs, g2, fun i hi hF => go i hi fun e => hF.elim (fun hF => hF (h.fc k _ i hs e)) (fun e' => hsl.ne e h.acts.1 (by decide) e'), ⟨by simp [gl], fun i hi hF => ?_, fun i hi => hi.elim .inl fun e => .inr (by omega)⟩, ?_⟩
  · rw [set_get_ne (fun (e : b = i) => hF (by rw [← e]; exact hFb)), go i hi (fun e => hF (h.fc k _ i hs e))]
  have keep : ∀ i, i < bs.length → i ≠ b → s.sid ≠ some i → (bs1.set b (.blk 115 2 ((fs.set k (↑p, .sl bs.length 0 (idx.length + 1))).flatMap fcs)))[i]? = bs[i]? := fun i h1 h2 h3 => by rw [set_get_ne (Ne.symm h2), go i h1 h3]
  have hjb : j ≠ b := fun e => by
    have := h.acts.1
    rw [e, hbb] at this
    cases this
  have hjs : s.sid ≠ some j := fun e => hsl.ne e h.acts.1 (by decide) rfl
  have get : ∀ i f, (fs.set k ((p : Int), D.sl bs.length 0 (idx.length + 1)))[i]? = some f → (i = k ∧ f = (↑p, .sl bs.length 0 (idx.length + 1))) ∨ (i ≠ k ∧ fs[i]? = some f) := fun i f hi => by
    by_cases e : i = k
    · subst e
      rw [List.getElem?_set_self hkf] at hi
      cases hi
      exact .inl ⟨rfl, rfl⟩
    · rw [List.getElem?_set_ne (Ne.symm e)] at hi
      exact .inr ⟨e, hi⟩
  refine ⟨⟨by rw [keep j (h.lt j h.fj) hjb hjs]; exact h.acts.1, h.acts.2.keep fun i hi => keep i (h.acts.2.lt hi) (h.acts.2.ne hi hbb (by decide)) fun e => hsl.ne e (h.acts.2.blk hi) (by decide) rfl⟩, .inr ⟨b, by rw [hb]; simp, set_get hb1lt⟩, by simp [h.len], fun i p' idx' hi => ?_, fun i i' f f' m h1 h2 h3 h4 => ?_, .inl h.fj, fun i hi => .inl (h.fa i hi), fun i hi => .inl (h.ff i hi), fun i f m h1 h2 => ?_, fun i hi => ?_⟩
  · by_cases e : i = k
    · subst e
      rw [List.getElem?_set_self hkq] at hi
      cases hi
      exact ⟨_, List.getElem?_set_self hkf, .inr ⟨bs.length, by simp, by rw [set_get_ne (by omega)]; exact gn⟩⟩
    · rw [List.getElem?_set_ne (Ne.symm e)] at hi
      obtain ⟨s', h1, h2⟩ := h.case i p' idx' hi
      exact ⟨s', by rw [List.getElem?_set_ne (Ne.symm e)]; exact h1, h2.keep fun m hm => keep m (h2.lt hm) (h2.ne hm hbb (by decide)) fun e' => e (h.inj i k _ _ m h1 hs hm e')⟩
  · rcases get i f h1 with ⟨rfl, rfl⟩ | ⟨e1, g1⟩ <;> rcases get i' f' h2 with ⟨rfl, rfl⟩ | ⟨e2, g2'⟩
    · rfl
    · cases h3
      exact absurd (h.lt _ (h.fc i' f' _ g2' h4)) (Nat.lt_irrefl _)
    · cases h4
      exact absurd (h.lt _ (h.fc i f _ g1 h3)) (Nat.lt_irrefl _)
    · exact h.inj i i' f f' m g1 g2' h3 h4
  · rcases get i f h1 with ⟨rfl, rfl⟩ | ⟨e1, g1⟩
    · cases h2
      exact .inr rfl
    · exact .inl (h.fc i f m g1 h2)
  · rw [List.length_set, gl]
    rcases hi with hi | hi
    · have := h.lt i hi; omega
    · omega

theorem Crt.actsAppend {F : Nat → Prop} {q : List (Nat × List Nat)} (h : Crt bs F j c l q sa sf fs) (hL : l.length ≤ 1000000) (a : Akt) :
    ∃ bs1 bs2 F', D.apph 43 12 112 (.st bs) sa (.lst [a.d]) = some (.st bs1) ∧ D.apps (.st bs) sa (.lst [a.d]) = some (.sl bs.length 0 (l.length + 1)) ∧
      D.sto 1 (.st bs1) (.loc j 7) (.sl bs.length 0 (l.length + 1)) = some (.st bs2) ∧ Stp bs F bs2 F' ∧ Crt bs2 F' j c (l ++ [a]) q (.sl bs.length 0 (l.length + 1)) sf fs := by
  obtain ⟨bs1, ga, gs, gn, gl, go⟩ := h.acts.2.append (bytes := 112) (x := a) (y := a.d) (fun _ => rfl) rfl rfl (by omega) (by unfold maxLen; omega)
  have hjlt := h.lt j h.fj
  have hj1 : bs1[j]? = some (.blk 99 9 (crtCells c sa sf)) := by
    rw [go j hjlt (fun e => h.acts.2.ne e h.acts.1 (by decide) rfl)]
    exact h.acts.1
  have g2 := sto_blk (k := 7) hj1 (by simp [crtCells]) (d := .sl bs.length 0 (l.length + 1)) rfl
  have hj1lt : j < bs1.length := by omega
  refine ⟨bs1, _, fun i => F i ∨ i = bs.length, ga, gs, g2, ⟨by simp [gl], fun i hi hF => ?_, fun i hi => hi.elim .inl fun e => .inr (by omega)⟩, ?_⟩
  · rw [set_get_ne (fun (e : j = i) => hF (by rw [← e]; exact h.fj)), go i hi (fun e => hF (h.fa i e))]
  have keep : ∀ i, i < bs.length → i ≠ j → sa.sid ≠ some i → (bs1.set j (.blk 99 9 ((crtCells c sa sf).set 7 (.sl bs.length 0 (l.length + 1)))))[i]? = bs[i]? := fun i h1 h2 h3 => by rw [set_get_ne (Ne.symm h2), go i h1 h3]
  have old : ∀ {α : Type} {e : TypeId} {sz : Nat} {enc : α → List D} {s : D} {xs : List α}, SlOf bs e sz enc s xs → e ≠ 99 → e ≠ 43 → SlOf (bs1.set j (.blk 99 9 ((crtCells c sa sf).set 7 (.sl bs.length 0 (l.length + 1))))) e sz enc s xs := fun hs h1 h2 => hs.keep fun i hi => keep i (hs.lt hi) (hs.ne hi h.acts.1 h1) fun hf => hs.ne hi (h.acts.2.blk hf) h2 rfl
  refine ⟨⟨by rw [set_get hj1lt]; rfl, .inr ⟨bs.length, by simp, by rw [set_get_ne (by omega)]; exact gn⟩⟩, old h.files (by decide) (by decide), h.len, fun k p idx hq => ?_, h.inj, .inl h.fj, fun i hi => .inr (by cases hi; rfl), fun i hi => .inl (h.ff i hi), fun k f i h1 h2 => .inl (h.fc k f i h1 h2), fun k hk => ?_⟩
  · obtain ⟨s, g1, g2⟩ := h.case k p idx hq
    exact ⟨s, g1, old g2 (by decide) (by decide)⟩
  · rw [List.length_set, gl]
    rcases hk with hk | hk
    · have := h.lt k hk; omega
    · omega

theorem c70 (xs : List Int) (hl : xs.length ≤ 1000000) : FSpecR Try.prog 70 (.st bs) [Is xs] (Is xs) := by
  refine ku70.R rfl rfl ?_
  unfold u70
  simp only [ups_cons, ups_nil, List.cons_append, List.nil_append]
  refine u_nilq rfl fun b hb => ?_
  have h1 := app_lst (xs := []) (ys := xs) (enc := I) (sz := 1) (bytes := 8) (by simp; omega) (by simp [maxLen]; omega) (fun _ => rfl)
  repeat' (first
    | ((with_reducible apply nrm); (· simp only [sbe]; rfl))
    | ((with_reducible apply u_app); (· rfl); (· rfl); (· first | exact h1); (· simp only [sbe]; rfl))
    | ((with_reducible apply u_ev); (· rfl); (· simp only [sbe]; rfl))
    | ((with_reducible apply u_jump); (· rfl); (· rfl))
    | (with_reducible refine at_jump ?_)
    | (with_reducible refine over_jump (by decide) ?_)
    | (with_reducible refine kj rfl ?_)
    | ((with_reducible apply u_ite); (· rfl); all_goals (intro hz; (try simp only [sbs] at hz); first | (exact absurd hz (by decide)) | (exfalso; omega) | skip))
    | (with_reducible exact u_ret rfl rfl)
    | ((with_reducible apply u_ret); (· rfl); first | exact rfl | (refine retB ?_) | (refine retI ?_) | (refine retD ?_)))
  simp_all

end Go.Am.Ct

/-
  Do.
-/
namespace Go.Am.Ct
set_option maxRecDepth 100000
set_option maxHeartbeats 4000000
open Go.Proofs Go.Am.Ap

variable {bs : List D} {j : Nat} {c : Cod} {l : List Akt} {sa sf : D} {fs : List (Int × D)} {F : Nat → Prop} {q : List (Nat × List Nat)}

attribute [local irreducible] inR

theorem e_pair {env : List D} {x y z : E} {d1 d2 d3 : D} (hx : x.eval env = some d1) (hy : y.eval env = some d2) (hz : z.eval env = some d3) : (E.tcons (.tcons x (.tcons y .tnil)) (.tcons z .tnil)).eval env = some (.tup [.tup [d1, d2], d3]) := by
  simp only [E.eval, hx, hy, hz, Option.bind_some, D.tcons]

def res0 (bs : List D) : List D := bs ++ [.blk 3 1 [I 0]] ++ [.blk 24 1 [I 0]]

theorem res_n0 : (res0 bs)[bs.length]? = some (.blk 3 1 [I 0]) := by simp [res0]
theorem res_n1 : (res0 bs)[(bs ++ [D.blk 3 1 [I 0]]).length]? = some (.blk 24 1 [I 0]) := by simp [res0]

theorem Crt.res (h : Crt bs F j c l q sa sf fs) : Crt (res0 bs) F j c l q sa sf fs := (h.more _).more _

def res1 (B : List D) (n : Nat) (x e : Int) : List D := (B.set n (.blk 3 1 [I x])).set (n + 1) (.blk 24 1 [I e])

theorem res1_n0 {B : List D} {n : Nat} {x e : Int} (h : n < B.length) : (res1 B n x e)[n]? = some (.blk 3 1 [I x]) := by
  unfold res1
  rw [set_get_ne (by omega), set_get h]
theorem res1_n1 {B : List D} {n : Nat} {x e : Int} (h : n + 1 < B.length) : (res1 B n x e)[n + 1]? = some (.blk 24 1 [I e]) := by
  unfold res1
  rw [set_get (by simpa using h)]
theorem res1_len {B : List D} {n : Nat} {x e : Int} : (res1 B n x e).length = B.length := by simp [res1]
theorem res1_old {B : List D} {n k : Nat} {x e : Int} (h : k < n) : (res1 B n x e)[k]? = B[k]? := by
  unfold res1
  rw [set_get_ne (by omega), set_get_ne (by omega)]

def early (l : List Akt) (a : Akt) : Bool := decide (0 < (l.length : Int)) && decide (a.minute < (nth l (l.length - 1)).minute)

theorem last_at (h : Crt bs F j c l q sa sf fs) : ∃ b, 0 < l.length → D.eaddr 12 sa (I (l.length - 1 : Nat)) = some (.loc b ((l.length - 1) * 12)) ∧ D.ld false 1 (.st bs) (.loc b ((l.length - 1) * 12 + 1)) = some (I (nth l (l.length - 1)).minute) := by
  by_cases hl : 0 < l.length
  · obtain ⟨b, rfl, hb⟩ := h.acts.2.get hl
    refine ⟨b, fun _ => ⟨eaddr_sl (by omega), ?_⟩⟩
    have hx := List.getElem?_eq_getElem (show l.length - 1 < l.length by omega)
    have := ld_elc (k := 1) hb (fun _ => rfl) hx rfl
    rw [this]
    simp [nth, hx]
  · exact ⟨0, fun h => absurd h hl⟩

theorem noneDone (h : Crt bs F j c l q sa sf fs) (e : Int) :
    D.sto 1 (.st (res0 bs)) (.loc bs.length 0) (I 0) = some (.st ((res0 bs).set bs.length (.blk 3 1 [I 0]))) ∧
    D.sto 1 (.st ((res0 bs).set bs.length (.blk 3 1 [I 0]))) (.loc (bs ++ [D.blk 3 1 [I 0]]).length 0) (I e) = some (.st (res1 (res0 bs) bs.length 0 e)) ∧
    D.ld false 1 (.st (res1 (res0 bs) bs.length 0 e)) (.loc bs.length 0) = some (I 0) ∧
    D.ld false 1 (.st (res1 (res0 bs) bs.length 0 e)) (.loc (bs ++ [D.blk 3 1 [I 0]]).length 0) = some (I e) ∧
    Stp bs F (res1 (res0 bs) bs.length 0 e) F ∧ Crt (res1 (res0 bs) bs.length 0 e) F j c l q sa sf fs := by
  have e2 : (bs ++ [D.blk 3 1 [I 0]]).length = bs.length + 1 := by simp
  refine ⟨sto_blk (k := 0) (res_n0 (bs := bs)) (by simp) rfl, ?_, ld_blk (k := 0) (res1_n0 (by simp [res0])) rfl, ?_, ⟨by rw [res1_len]; simp [res0], fun k hk _ => ?_, fun k hk => .inl hk⟩, h.res.keep (by rw [res1_len]; exact Nat.le_refl _) fun k hk => res1_old (h.lt k hk)⟩
  · rw [sto_blk (e := 24) (sz := 1) (cs := [I 0]) (k := 0) (by rw [set_get_ne (by simp)]; exact res_n1) (by simp) rfl, e2]
    rfl
  · rw [e2]
    exact ld_blk (k := 0) (res1_n1 (by simp [res0])) rfl
  · rw [res1_old hk]
    simp only [res0, List.append_assoc]
    rw [List.getElem?_append_left hk]


theorem c26arg (h : Crt bs F j c l q sa sf fs) (hL : l.length ≤ 1000000) (a : Akt) (ha : a.facts.length ≤ 1000000) (hbad : (!actOk c.cars a || early l a) = true) :
    ∃ bs', FSpecWO Try.prog 26 (.st bs) [.loc j 0, a.d] (.ret (.tup [I 0, I 2])) (.st bs') ∧ Stp bs F bs' F ∧ Crt bs' F j c l q sa sf fs := by
  obtain ⟨s1, s2, g1, g2, k1, k2⟩ := noneDone h 2
  refine ⟨_, ?_, k1, k2⟩
  refine ku26.deferO rfl ?_
  unfold u26
  have hr := h.res
  have h61 := c61 hr.acts
  have h62 := c62 hr.acts a ha
  obtain ⟨b0, hb0⟩ := last_at hr
  unfold early at *
  simp only [ups_cons, ups_nil, List.cons_append, List.nil_append]
  repeat' (first
    | ((with_reducible apply nrm); (· simp only [sbe]; rfl))
    | (exact u_ret (e_pair (e_ld rfl rfl g1) (e_ld rfl rfl g2) rfl) rfl)
    | ((with_reducible apply u_iteT); (· rfl); (· first | exact hbad))
    | ((with_reducible apply u_iteF); (· rfl); (· first | exact rfl))
    | ((with_reducible apply u_chk); (· rfl))
    | ((with_reducible apply u_ld); (· rfl); (· rfl); (· first | exact ld_blk hr.acts.1 rfl | exact (hb0 (by omega)).2); (· simp only [sbe]; rfl))
    | ((with_reducible apply u_eaddr); (· rfl); (· rfl); (· first | exact (hb0 (by omega)).1); (· simp only [sbe]; rfl))
    | ((with_reducible apply u_lenL); (· rfl); (· first | exact hr.acts.2.len); (· simp only [sbe]; rfl))
    | ((with_reducible apply u_sto); (· rfl); (· rfl); (· rfl); (· first | exact s1 | exact s2); (· simp only [sbe]; rfl))
    | ((with_reducible apply u_lenL); (· rfl); (· exact lenL_map); (· simp only [sbe]; rfl))
    | ((with_reducible apply u_pred); (· rfl); (· omega); (· simp only [sbe]; rfl))
    | ((with_reducible apply u_sub); (· rfl); (· rfl); (· omega); (· simp only [sbe]; rfl))
    | ((with_reducible apply u_ev); (· rfl); (· simp only [sbe]; rfl))
    | ((with_reducible apply u_call); (· rfl); (· rfl); (· first | exact h61 | exact h62); (· rfl); (· simp only [sbe]; rfl))
    | ((with_reducible apply u_or); (· rfl))
    | ((with_reducible apply u_and); (· rfl))
    | ((with_reducible apply u_dfr); (· rfl); (· rfl))
    | (with_reducible refine u_join ?_)
    | ((with_reducible apply u_jump); (· rfl); (· rfl))
    | (with_reducible refine at_jump ?_)
    | (with_reducible refine over_jump (by decide) ?_)
    | (with_reducible refine kj rfl ?_)
    | ((with_reducible apply u_ite); (· rfl); all_goals (intro hz; (try simp only [sbs] at hz); first | (exact absurd hz (by decide)) | (exfalso; omega) | skip))
    | (with_reducible exact u_ret rfl rfl)
    | ((with_reducible apply u_ret); (· rfl); first | exact rfl | (refine retB ?_) | (refine retI ?_) | (refine retD ?_))
    | ((with_reducible intro hz); (try simp only [sbs] at hz)))

theorem c26long (h : Crt bs F j c l q sa sf fs) (hL : l.length ≤ 1000000) (a : Akt) (ha : a.facts.length ≤ 1000000) (hok : (!actOk c.cars a || early l a) = false) (hm : 2000 ≤ l.length) :
    ∃ bs', FSpecWO Try.prog 26 (.st bs) [.loc j 0, a.d] (.ret (.tup [I 0, I 4])) (.st bs') ∧ Stp bs F bs' F ∧ Crt bs' F j c l q sa sf fs := by
  obtain ⟨s1, s2, g1, g2, k1, k2⟩ := noneDone h 4
  refine ⟨_, ?_, k1, k2⟩
  refine ku26.deferO rfl ?_
  unfold u26
  have hr := h.res
  have h61 := c61 hr.acts
  have h62 := c62 hr.acts a ha
  obtain ⟨b0, hb0⟩ := last_at hr
  unfold early at *
  simp only [ups_cons, ups_nil, List.cons_append, List.nil_append]
  have hm' : decide ((l.length : Int) ≥ 2000) = true := by simp; omega
  repeat' (first
    | ((with_reducible apply nrm); (· simp only [sbe]; rfl))
    | (exact u_ret (e_pair (e_ld rfl rfl g1) (e_ld rfl rfl g2) rfl) rfl)
    | ((with_reducible apply u_iteT); (· rfl); (· first | exact hm'))
    | ((with_reducible apply u_iteF); (· rfl); (· first | exact rfl | exact hok))
    | ((with_reducible apply u_chk); (· rfl))
    | ((with_reducible apply u_ld); (· rfl); (· rfl); (· first | exact ld_blk hr.acts.1 rfl | exact (hb0 (by omega)).2); (· simp only [sbe]; rfl))
    | ((with_reducible apply u_eaddr); (· rfl); (· rfl); (· first | exact (hb0 (by omega)).1); (· simp only [sbe]; rfl))
    | ((with_reducible apply u_lenL); (· rfl); (· first | exact hr.acts.2.len); (· simp only [sbe]; rfl))
    | ((with_reducible apply u_sto); (· rfl); (· rfl); (· rfl); (· first | exact s1 | exact s2); (· simp only [sbe]; rfl))
    | ((with_reducible apply u_lenL); (· rfl); (· exact lenL_map); (· simp only [sbe]; rfl))
    | ((with_reducible apply u_pred); (· rfl); (· omega); (· simp only [sbe]; rfl))
    | ((with_reducible apply u_sub); (· rfl); (· rfl); (· omega); (· simp only [sbe]; rfl))
    | ((with_reducible apply u_ev); (· rfl); (· simp only [sbe]; rfl))
    | ((with_reducible apply u_call); (· rfl); (· rfl); (· first | exact h61 | exact h62); (· rfl); (· simp only [sbe]; rfl))
    | ((with_reducible apply u_or); (· rfl))
    | ((with_reducible apply u_and); (· rfl))
    | ((with_reducible apply u_dfr); (· rfl); (· rfl))
    | (with_reducible refine u_join ?_)
    | ((with_reducible apply u_jump); (· rfl); (· rfl))
    | (with_reducible refine at_jump ?_)
    | (with_reducible refine over_jump (by decide) ?_)
    | (with_reducible refine kj rfl ?_)
    | ((with_reducible apply u_ite); (· rfl); all_goals (intro hz; (try simp only [sbs] at hz); first | (exact absurd hz (by decide)) | (exfalso; omega) | skip))
    | (with_reducible exact u_ret rfl rfl)
    | ((with_reducible apply u_ret); (· rfl); first | exact rfl | (refine retB ?_) | (refine retI ?_) | (refine retD ?_))
    | ((with_reducible intro hz); (try simp only [sbs] at hz)))

end Go.Am.Ct

/-
  Do: the acts.
-/
namespace Go.Am.Ct
set_option maxRecDepth 100000
set_option maxHeartbeats 4000000
open Go.Proofs Go.Am.Ap

variable {bs : List D} {j : Nat} {c : Cod} {l : List Akt} {sa sf : D} {fs : List (Int × D)} {F : Nat → Prop} {q : List (Nat × List Nat)}

attribute [local irreducible] inR

theorem e_two {env : List D} {x y : E} {d1 d2 : D} (hx : x.eval env = some d1) (hy : y.eval env = some d2) : (E.tcons x (.tcons y .tnil)).eval env = some (.tup [d1, d2]) := by
  simp only [E.eval, hx, hy, Option.bind_some, D.tcons]

def kents (j : Nat) : List D := [.tup [I 1, .fn 64 [.loc j 0] []], .tup [I 2, .fn 65 [.loc j 0] []], .tup [I 3, .fn 66 [.loc j 0] []], .tup [I 4, .fn 67 [.loc j 0] []], .tup [I 5, .fn 68 [.loc j 0] []], .tup [I 6, .fn 69 [.loc j 0] []]]

def mid (bs : List D) (j : Nat) : List D := res0 bs ++ [.mblk (kents j)]

theorem mid_n0 : (mid bs j)[bs.length]? = some (.blk 3 1 [I 0]) := by
  unfold mid
  rw [List.getElem?_append_left (by simp [res0])]
  exact res_n0
theorem mid_n1 : (mid bs j)[bs.length + 1]? = some (.blk 24 1 [I 0]) := by
  unfold mid
  rw [List.getElem?_append_left (by simp [res0])]
  have := res_n1 (bs := bs)
  simpa using this
theorem mid_len : (mid bs j).length = bs.length + 3 := by simp [mid, res0]
theorem mid_old {k : Nat} (h : k < bs.length) : (mid bs j)[k]? = bs[k]? := by
  simp only [mid, res0, List.append_assoc]
  rw [List.getElem?_append_left h]
theorem Crt.mid (h : Crt bs F j c l q sa sf fs) : Crt (mid bs j) F j c l q sa sf fs := h.res.more _

theorem c26pan (h : Crt bs F j c l q sa sf fs) (hL : l.length ≤ 1000000) (a : Akt) (ha : a.facts.length ≤ 1000000) (hok : (!actOk c.cars a || early l a) = false) (hm : l.length < 2000) {f i : Nat} (hg : D.mlook .int (I a.kind) (kents j) = some (some (i, .fn f [.loc j 0] []))) (hf : callable Try.prog f = true)
    {e : Int} (hp : FSpecWO Try.prog f (.st (mid bs j)) [.loc j 0, a.d] (.pan (refusal e)) (.st (mid bs j))) :
    ∃ bs', FSpecWO Try.prog 26 (.st bs) [.loc j 0, a.d] (.ret (.tup [I 0, I e])) (.st bs') ∧ Stp bs F bs' F ∧ Crt bs' F j c l q sa sf fs := by
  have e2 : (bs ++ [D.blk 3 1 [I 0]]).length = bs.length + 1 := by simp
  have g1 := ld_blk (k := 0) (res1_n0 (B := mid bs j) (n := bs.length) (x := 0) (e := e) (by rw [mid_len]; omega)) rfl
  have g2 := ld_blk (k := 0) (res1_n1 (B := mid bs j) (n := bs.length) (x := 0) (e := e) (by rw [mid_len]; omega)) rfl
  have h63 := c63p (e := e) (mid_n0 (bs := bs) (j := j)) mid_n1 (by omega)
  refine ⟨res1 (mid bs j) bs.length 0 e, ?_, ⟨by rw [res1_len, mid_len]; omega, fun k hk _ => by rw [res1_old hk, mid_old hk], fun k hk => .inl hk⟩, h.mid.keep (by rw [res1_len]; exact Nat.le_refl _) fun k hk => res1_old (h.lt k hk)⟩
  refine ku26.deferO rfl ?_
  unfold u26
  have hr := h.res
  have h61 := c61 hr.acts
  have h62 := c62 hr.acts a ha
  obtain ⟨b0, hb0⟩ := last_at hr
  unfold early at *
  simp only [ups_cons, ups_nil, List.cons_append, List.nil_append]
  have hm' : decide ((l.length : Int) ≥ 2000) = false := by simp; omega
  repeat' (first
    | ((with_reducible apply nrm); (· simp only [sbe]; rfl))
    | ((with_reducible apply u_iteF); (· rfl); (· first | exact rfl | exact hok | exact hm'))
    | ((with_reducible apply u_chk); (· rfl))
    | ((with_reducible apply u_ld); (· rfl); (· rfl); (· first | exact ld_blk hr.acts.1 rfl | exact (hb0 (by omega)).2); (· simp only [sbe]; rfl))
    | ((with_reducible apply u_eaddr); (· rfl); (· rfl); (· first | exact (hb0 (by omega)).1); (· simp only [sbe]; rfl))
    | ((with_reducible apply u_lenL); (· rfl); (· first | exact hr.acts.2.len); (· simp only [sbe]; rfl))
    | ((with_reducible apply u_m4); (· rfl); (· rfl); (· rfl); (· rfl); (· first | exact m4_put rfl | exact m4_get hg rfl); (· simp only [sbe]; rfl))
    | ((with_reducible apply u_lenL); (· rfl); (· exact lenL_map); (· simp only [sbe]; rfl))
    | ((with_reducible apply u_pred); (· rfl); (· omega); (· simp only [sbe]; rfl))
    | ((with_reducible apply u_sub); (· rfl); (· rfl); (· omega); (· simp only [sbe]; rfl))
    | ((with_reducible apply u_ev); (· rfl); (· simp only [sbe]; rfl))
    | ((with_reducible apply u_call); (· rfl); (· rfl); (· first | exact h61 | exact h62); (· rfl); (· simp only [sbe]; rfl))
    | ((with_reducible apply u_or); (· rfl))
    | ((with_reducible apply u_and); (· rfl))
    | ((with_reducible apply u_dfr); (· rfl); (· rfl))
    | (with_reducible refine u_join ?_)
    | ((with_reducible apply u_jump); (· rfl); (· rfl))
    | (with_reducible refine at_jump ?_)
    | (with_reducible refine over_jump (by decide) ?_)
    | (with_reducible refine kj rfl ?_)
    | ((with_reducible apply u_ite); (· rfl); all_goals (intro hz; (try simp only [sbs] at hz); first | (exact absurd hz (by decide)) | (exfalso; omega) | skip))
    | (with_reducible exact u_ret rfl rfl)
    | ((with_reducible apply u_ret); (· rfl); first | exact rfl | (refine retB ?_) | (refine retI ?_) | (refine retD ?_))
    | ((with_reducible intro hz); (try simp only [sbs] at hz)))
  refine u_wpcallvP rfl hf rfl rfl hp rfl ⟨rfl, .st (res1 (mid bs j) bs.length 0 e), .tup [I 0, I e], ?_, ?_, rfl⟩
  · show FSpecD Try.prog 63 (.st (mid bs j)) [.loc bs.length 0, .loc (bs ++ [D.blk 3 1 [I 0]]).length 0] (some (refusal e)) (.st (res1 (mid bs j) bs.length 0 e))
    rw [e2]
    exact h63
  · refine e_two (e_ld rfl rfl g1) (e_ld rfl rfl ?_)
    rw [← e2] at g2
    exact g2

structure Done (bs : List D) (F : Nat → Prop) (j : Nat) (c : Cod) (l : List Akt) (a : Akt) (f : FuncId) (n : Int) (C : List D) (F4 : Nat → Prop) (q4 : List (Nat × List Nat)) (sf4 : D) (fs4 : List (Int × D)) (sa : D) : Prop where
  hp : FSpecWO Try.prog f (.st (mid bs j)) [.loc j 0, a.d] (.ret (I n)) (.st C)
  st : Stp (mid bs j) F C F4
  crt : Crt C F4 j c l q4 sa sf4 fs4



theorem c26pub (h : Crt bs F j c l q sa sf fs) (hL : l.length ≤ 1000000) (a : Akt) (ha : a.facts.length ≤ 1000000) (hok : (!actOk c.cars a || early l a) = false) (hm : l.length < 2000) {f i : Nat} (hg : D.mlook .int (I a.kind) (kents j) = some (some (i, .fn f [.loc j 0] []))) (hf : callable Try.prog f = true)
    {C : List D} {F4 : Nat → Prop} {q4 : List (Nat × List Nat)} {sf4 : D} {fs4 : List (Int × D)} {n : Int} (hn : n = -1) (hd : Done bs F j c l a f n C F4 q4 sf4 fs4 sa) :
    ∃ bs' F' sa' , FSpecWO Try.prog 26 (.st bs) [.loc j 0, a.d] (.ret (.tup [I n, I 0])) (.st bs') ∧ Stp bs F bs' F' ∧ Crt bs' F' j c (l ++ [a]) q4 sa' sf4 fs4 := by
  have e2 : (bs ++ [D.blk 3 1 [I 0]]).length = bs.length + 1 := by simp
  have hC := hd.st.len
  rw [mid_len] at hC
  have nF4 : ∀ k, bs.length ≤ k → k < bs.length + 3 → ¬ F4 k := fun k h1 h2 h3 => by
    rcases hd.st.new k h3 with h4 | h4
    · have := h.lt k h4; omega
    · rw [mid_len] at h4; omega
  have nF : ∀ k, bs.length ≤ k → ¬ F k := fun k h1 h2 => by have := h.lt k h2; omega
  have hC0 : C[bs.length]? = some (.blk 3 1 [I 0]) := by rw [hd.st.old _ (by rw [mid_len]; omega) (nF _ (Nat.le_refl _))]; exact mid_n0
  have hC1 : C[bs.length + 1]? = some (.blk 24 1 [I 0]) := by rw [hd.st.old _ (by rw [mid_len]; omega) (nF _ (by omega))]; exact mid_n1
  have s1 := sto_blk (k := 0) hC0 (by simp) (d := I n) rfl
  have hc1 := hd.crt.other (nF4 bs.length (Nat.le_refl _) (by omega)) (.blk 3 1 [I n])
  have l1 : (C.set bs.length (.blk 3 1 [I n])).length = C.length := by simp
  have v0 : (C.set bs.length (.blk 3 1 [I n]))[bs.length]? = some (.blk 3 1 [I n]) := set_get (by omega)
  have v1 : (C.set bs.length (.blk 3 1 [I n]))[bs.length + 1]? = some (.blk 24 1 [I 0]) := by rw [set_get_ne (by omega)]; exact hC1
  have vo : ∀ k, k < bs.length → ¬ F k → (C.set bs.length (.blk 3 1 [I n]))[k]? = bs[k]? := fun k hk hF => by rw [set_get_ne (by omega), hd.st.old k (by rw [mid_len]; omega) hF, mid_old hk]
  have nFo : ∀ k, k < bs.length → ¬ F k → ¬ F4 k := fun k hk hF h4 => (hd.st.new k h4).elim hF fun h5 => by rw [mid_len] at h5; omega
  obtain ⟨bs4, bs5, F5, ga, gs, gt, g5, g6⟩ := hc1.actsAppend hL a
  have h5l := g5.len
  have hn' : decide (n ≥ 0) = false := by rw [hn]; rfl
  have w0 : bs5[bs.length]? = some (.blk 3 1 [I n]) := by rw [g5.old bs.length (by omega) (nF4 bs.length (Nat.le_refl _) (by omega))]; exact v0
  have w1 : bs5[bs.length + 1]? = some (.blk 24 1 [I 0]) := by rw [g5.old (bs.length + 1) (by omega) (nF4 (bs.length + 1) (by omega) (by omega))]; exact v1
  have t1 := sto_blk (k := 0) w0 (by simp) (d := I n) rfl
  have t2 : D.sto 1 (.st (bs5.set bs.length (.blk 3 1 ([I n].set 0 (I n))))) (.loc (bs ++ [D.blk 3 1 [I 0]]).length 0) (I 0) = some (.st (res1 bs5 bs.length n 0)) := by
    rw [e2]
    exact sto_blk (bs := bs5.set bs.length (.blk 3 1 ([I n].set 0 (I n)))) (i := bs.length + 1) (k := 0) (by rw [set_get_ne (by omega)]; exact w1) (by simp) (d := I 0) rfl
  have r1 := ld_blk (k := 0) (res1_n0 (B := bs5) (n := bs.length) (x := n) (e := 0) (by omega)) rfl
  have r2 := ld_blk (k := 0) (res1_n1 (B := bs5) (n := bs.length) (x := n) (e := 0) (by omega)) rfl
  have nF5 : ∀ k, bs.length ≤ k → k < bs.length + 3 → ¬ F5 k := fun k h1 h2 h3 => (g5.new k h3).elim (nF4 k h1 h2) fun h4 => by omega
  refine ⟨res1 bs5 bs.length n 0, F5, _, ?_, ⟨by rw [res1_len]; omega, fun k hk hF => ?_, fun k hk => ?_⟩, (g6.other (nF5 bs.length (Nat.le_refl _) (by omega)) _).other (nF5 (bs.length + 1) (by omega) (by omega)) _⟩
  · refine ku26.deferO rfl ?_
    unfold u26
    have hr := h.res
    have h61 := c61 hr.acts
    have h62 := c62 hr.acts a ha
    obtain ⟨b0, hb0⟩ := last_at hr
    unfold early at *
    simp only [ups_cons, ups_nil, List.cons_append, List.nil_append]
    have hm' : decide ((l.length : Int) ≥ 2000) = false := by simp; omega
    repeat' (first
      | ((with_reducible apply nrm); (· simp only [sbe]; rfl))
      | ((with_reducible apply u_iteF); (· rfl); (· first | exact rfl | exact hok | exact hm'))
      | ((with_reducible apply u_chk); (· rfl))
      | ((with_reducible apply u_ld); (· rfl); (· rfl); (· first | exact ld_blk hr.acts.1 rfl | exact (hb0 (by omega)).2); (· simp only [sbe]; rfl))
      | ((with_reducible apply u_eaddr); (· rfl); (· rfl); (· first | exact (hb0 (by omega)).1); (· simp only [sbe]; rfl))
      | ((with_reducible apply u_lenL); (· rfl); (· first | exact hr.acts.2.len); (· simp only [sbe]; rfl))
      | ((with_reducible apply u_m4); (· rfl); (· rfl); (· rfl); (· rfl); (· first | exact m4_put rfl | exact m4_get hg rfl); (· simp only [sbe]; rfl))
      | ((with_reducible apply u_lenL); (· rfl); (· exact lenL_map); (· simp only [sbe]; rfl))
      | ((with_reducible apply u_pred); (· rfl); (· omega); (· simp only [sbe]; rfl))
      | ((with_reducible apply u_sub); (· rfl); (· rfl); (· omega); (· simp only [sbe]; rfl))
      | ((with_reducible apply u_ev); (· rfl); (· simp only [sbe]; rfl))
      | ((with_reducible apply u_call); (· rfl); (· rfl); (· first | exact h61 | exact h62); (· rfl); (· simp only [sbe]; rfl))
      | ((with_reducible apply u_or); (· rfl))
      | ((with_reducible apply u_and); (· rfl))
      | ((with_reducible apply u_dfr); (· rfl); (· rfl))
      | (with_reducible refine u_join ?_)
      | ((with_reducible apply u_jump); (· rfl); (· rfl))
      | (with_reducible refine at_jump ?_)
      | (with_reducible refine over_jump (by decide) ?_)
      | (with_reducible refine kj rfl ?_)
      | ((with_reducible apply u_ite); (· rfl); all_goals (intro hz; (try simp only [sbs] at hz); first | (exact absurd hz (by decide)) | (exfalso; omega) | skip))
      | (with_reducible exact u_ret rfl rfl)
      | ((with_reducible apply u_ret); (· rfl); first | exact rfl | (refine retB ?_) | (refine retI ?_) | (refine retD ?_))
      | ((with_reducible intro hz); (try simp only [sbs] at hz)))
    refine u_wpcallvR rfl hf rfl rfl hd.hp rfl (by simp only [List.cons_append, List.nil_append]; rfl) ?_
    have h70 := c70 (bs := C.set bs.length (.blk 3 1 [I n])) a.facts ha
    repeat' (first
      | ((with_reducible apply nrm); (· simp only [sbe]; rfl))
      | ((with_reducible apply u_iteF); (· rfl); (· first | exact hn'))
      | ((with_reducible apply u_chk); (· rfl))
      | ((with_reducible apply u_stoa); (· rfl); (· rfl); (· rfl); (· rfl); (· rfl); (· first | exact gs); (· first | exact gt); (· simp only [sbe]; rfl))
      | ((with_reducible apply u_ld); (· rfl); (· rfl); (· first | exact ld_blk v0 rfl | exact ld_blk hc1.acts.1 rfl | exact ld_blk w0 rfl | exact ld_blk g6.acts.1 rfl); (· simp only [sbe]; rfl))
      | ((with_reducible apply u_sto); (· rfl); (· rfl); (· rfl); (· first | exact s1 | exact t1 | exact t2); (· simp only [sbe]; rfl))
      | ((with_reducible apply u_apph); (· rfl); (· rfl); (· rfl); (· first | exact ga); (· simp only [sbe]; rfl))
      | ((with_reducible apply u_lenL); (· rfl); (· exact lenL_map); (· simp only [sbe]; rfl))
      | ((with_reducible apply u_pred); (· rfl); (· omega); (· simp only [sbe]; rfl))
      | ((with_reducible apply u_sub); (· rfl); (· rfl); (· omega); (· simp only [sbe]; rfl))
      | ((with_reducible apply u_ev); (· rfl); (· simp only [sbe]; rfl))
      | ((with_reducible apply u_call); (· rfl); (· rfl); (· first | exact h70); (· rfl); (· simp only [sbe]; rfl))
      | ((with_reducible apply u_or); (· rfl))
      | ((with_reducible apply u_and); (· rfl))
      | ((with_reducible apply u_dfr); (· rfl); (· rfl))
      | (with_reducible refine u_join ?_)
      | ((with_reducible apply u_jump); (· rfl); (· rfl))
      | (with_reducible refine at_jump ?_)
      | (with_reducible refine over_jump (by decide) ?_)
      | (with_reducible refine kj rfl ?_)
      | ((with_reducible apply u_ite); (· rfl); all_goals (intro hz; (try simp only [sbs] at hz); first | (exact absurd hz (by decide)) | (exfalso; omega) | skip))
      | (with_reducible exact u_ret rfl rfl)
      | ((with_reducible apply u_ret); (· rfl); first | exact rfl | (refine retB ?_) | (refine retI ?_) | (refine retD ?_))
      | ((with_reducible intro hz); (try simp only [sbs] at hz)))
    refine u_ret rfl ⟨.st (res1 bs5 bs.length n 0), .tup [I n, I 0], c63n, e_two (e_ld rfl rfl r1) (e_ld rfl rfl ?_), rfl⟩
    rw [← e2] at r2
    exact r2
  · rw [res1_old hk, g5.old k (by omega) (nFo k hk hF), vo k hk hF]
  · rcases g5.new k hk with h1 | h1
    · rcases hd.st.new k h1 with h2 | h2
      · exact .inl h2
      · rw [mid_len] at h2; exact .inr (by omega)
    · exact .inr (by omega)

theorem c26upd (h : Crt bs F j c l q sa sf fs) (hL : l.length ≤ 1000000) (a : Akt) (ha : a.facts.length ≤ 1000000) (hok : (!actOk c.cars a || early l a) = false) (hm : l.length < 2000) {f i : Nat} (hg : D.mlook .int (I a.kind) (kents j) = some (some (i, .fn f [.loc j 0] []))) (hf : callable Try.prog f = true)
    {C : List D} {F4 : Nat → Prop} {q4 : List (Nat × List Nat)} {sf4 : D} {fs4 : List (Int × D)} {n : Int} {k p : Nat} {idx : List Nat} (hn : n = k) (hk : q4[k]? = some (p, idx)) (hx : idx.length ≤ 1000000) (hd : Done bs F j c l a f n C F4 q4 sf4 fs4 sa) :
    ∃ bs' F' sa' fs', FSpecWO Try.prog 26 (.st bs) [.loc j 0, a.d] (.ret (.tup [I n, I 0])) (.st bs') ∧ Stp bs F bs' F' ∧ Crt bs' F' j c (l ++ [a]) (q4.set k (p, idx ++ [l.length])) sa' sf4 fs' := by
  have e2 : (bs ++ [D.blk 3 1 [I 0]]).length = bs.length + 1 := by simp
  have hC := hd.st.len
  rw [mid_len] at hC
  have nF4 : ∀ k, bs.length ≤ k → k < bs.length + 3 → ¬ F4 k := fun k h1 h2 h3 => by
    rcases hd.st.new k h3 with h4 | h4
    · have := h.lt k h4; omega
    · rw [mid_len] at h4; omega
  have nF : ∀ k, bs.length ≤ k → ¬ F k := fun k h1 h2 => by have := h.lt k h2; omega
  have hC0 : C[bs.length]? = some (.blk 3 1 [I 0]) := by rw [hd.st.old _ (by rw [mid_len]; omega) (nF _ (Nat.le_refl _))]; exact mid_n0
  have hC1 : C[bs.length + 1]? = some (.blk 24 1 [I 0]) := by rw [hd.st.old _ (by rw [mid_len]; omega) (nF _ (by omega))]; exact mid_n1
  have s1 := sto_blk (k := 0) hC0 (by simp) (d := I n) rfl
  have hc1 := hd.crt.other (nF4 bs.length (Nat.le_refl _) (by omega)) (.blk 3 1 [I n])
  have l1 : (C.set bs.length (.blk 3 1 [I n])).length = C.length := by simp
  have v0 : (C.set bs.length (.blk 3 1 [I n]))[bs.length]? = some (.blk 3 1 [I n]) := set_get (by omega)
  have v1 : (C.set bs.length (.blk 3 1 [I n]))[bs.length + 1]? = some (.blk 24 1 [I 0]) := by rw [set_get_ne (by omega)]; exact hC1
  have vo : ∀ k, k < bs.length → ¬ F k → (C.set bs.length (.blk 3 1 [I n]))[k]? = bs[k]? := fun k hk hF => by rw [set_get_ne (by omega), hd.st.old k (by rw [mid_len]; omega) hF, mid_old hk]
  have nFo : ∀ k, k < bs.length → ¬ F k → ¬ F4 k := fun k hk hF h4 => (hd.st.new k h4).elim hF fun h5 => by rw [mid_len] at h5; omega
  obtain ⟨bs2, bs3, F3, b, s, hsf, hsb, hfk, fa, fgs, fgt, fo, g3, hc3⟩ := hc1.fileAppend hk hx l.length
  obtain ⟨bs4, bs5, F5, ga, gs, gt, g5, g6⟩ := hc3.actsAppend hL a
  have h5l := g5.len
  have h3l := g3.len
  have hn' : decide (n ≥ 0) = true := by rw [hn]; simp
  have hkl := (List.getElem?_eq_some_iff.1 hfk).1
  have nF3 : ∀ k, bs.length ≤ k → k < bs.length + 3 → ¬ F3 k := fun k h1 h2 h3 => (g3.new k h3).elim (nF4 k h1 h2) fun h4 => by omega
  have nFo3 : ∀ k, k < bs.length → ¬ F k → ¬ F3 k := fun k hk hF h4 => (g3.new k h4).elim (nFo k hk hF) fun h5 => by omega
  have u0 : bs3[bs.length]? = some (.blk 3 1 [I n]) := by rw [g3.old bs.length (by omega) (nF4 bs.length (Nat.le_refl _) (by omega))]; exact v0
  have u1 : bs3[bs.length + 1]? = some (.blk 24 1 [I 0]) := by rw [g3.old (bs.length + 1) (by omega) (nF4 (bs.length + 1) (by omega) (by omega))]; exact v1
  have hjb := h.lt j h.fj
  have y0 : bs2[bs.length]? = some (.blk 3 1 [I n]) := by rw [fo bs.length (by omega) (.inl (nF4 bs.length (Nat.le_refl _) (by omega)))]; exact v0
  have y1 : bs2[j]? = some (.blk 99 9 (crtCells c sa sf4)) := by rw [fo j (by omega) (.inr rfl)]; exact hc1.acts.1
  subst hsf
  have le : D.eaddr 2 (.sl b 0 fs4.length) (I n) = some (.loc b (k * 2)) := by rw [hn]; exact eaddr_sl hkl
  have lc := ld_elc (k := 1) hsb (fun _ => rfl) hfk rfl
  have fx : D.sto 1 (.st bs2) (.loc b (k * 2 + 1)) (.sl (C.set bs.length (.blk 3 1 [I n])).length 0 (idx.length + 1)) = some (.st bs3) := fgt
  have w0 : bs5[bs.length]? = some (.blk 3 1 [I n]) := by rw [g5.old bs.length (by omega) (nF3 bs.length (Nat.le_refl _) (by omega))]; exact u0
  have w1 : bs5[bs.length + 1]? = some (.blk 24 1 [I 0]) := by rw [g5.old (bs.length + 1) (by omega) (nF3 (bs.length + 1) (by omega) (by omega))]; exact u1
  have t1 := sto_blk (k := 0) w0 (by simp) (d := I n) rfl
  have t2 : D.sto 1 (.st (bs5.set bs.length (.blk 3 1 ([I n].set 0 (I n))))) (.loc (bs ++ [D.blk 3 1 [I 0]]).length 0) (I 0) = some (.st (res1 bs5 bs.length n 0)) := by
    rw [e2]
    exact sto_blk (bs := bs5.set bs.length (.blk 3 1 ([I n].set 0 (I n)))) (i := bs.length + 1) (k := 0) (by rw [set_get_ne (by omega)]; exact w1) (by simp) (d := I 0) rfl
  have r1 := ld_blk (k := 0) (res1_n0 (B := bs5) (n := bs.length) (x := n) (e := 0) (by omega)) rfl
  have r2 := ld_blk (k := 0) (res1_n1 (B := bs5) (n := bs.length) (x := n) (e := 0) (by omega)) rfl
  have nF5 : ∀ k, bs.length ≤ k → k < bs.length + 3 → ¬ F5 k := fun k h1 h2 h3 => (g5.new k h3).elim (nF3 k h1 h2) fun h4 => by omega
  refine ⟨res1 bs5 bs.length n 0, F5, _, _, ?_, ⟨by rw [res1_len]; omega, fun k hk hF => ?_, fun k hk => ?_⟩, (g6.other (nF5 bs.length (Nat.le_refl _) (by omega)) _).other (nF5 (bs.length + 1) (by omega) (by omega)) _⟩
  · refine ku26.deferO rfl ?_
    unfold u26
    have hr := h.res
    have h61 := c61 hr.acts
    have h62 := c62 hr.acts a ha
    obtain ⟨b0, hb0⟩ := last_at hr
    unfold early at *
    simp only [ups_cons, ups_nil, List.cons_append, List.nil_append]
    have hm' : decide ((l.length : Int) ≥ 2000) = false := by simp; omega
    repeat' (first
      | ((with_reducible apply nrm); (· simp only [sbe]; rfl))
      | ((with_reducible apply u_iteF); (· rfl); (· first | exact rfl | exact hok | exact hm'))
      | ((with_reducible apply u_chk); (· rfl))
      | ((with_reducible apply u_ld); (· rfl); (· rfl); (· first | exact ld_blk hr.acts.1 rfl | exact (hb0 (by omega)).2); (· simp only [sbe]; rfl))
      | ((with_reducible apply u_eaddr); (· rfl); (· rfl); (· first | exact (hb0 (by omega)).1); (· simp only [sbe]; rfl))
      | ((with_reducible apply u_lenL); (· rfl); (· first | exact hr.acts.2.len); (· simp only [sbe]; rfl))
      | ((with_reducible apply u_m4); (· rfl); (· rfl); (· rfl); (· rfl); (· first | exact m4_put rfl | exact m4_get hg rfl); (· simp only [sbe]; rfl))
      | ((with_reducible apply u_lenL); (· rfl); (· exact lenL_map); (· simp only [sbe]; rfl))
      | ((with_reducible apply u_pred); (· rfl); (· omega); (· simp only [sbe]; rfl))
      | ((with_reducible apply u_sub); (· rfl); (· rfl); (· omega); (· simp only [sbe]; rfl))
      | ((with_reducible apply u_ev); (· rfl); (· simp only [sbe]; rfl))
      | ((with_reducible apply u_call); (· rfl); (· rfl); (· first | exact h61 | exact h62); (· rfl); (· simp only [sbe]; rfl))
      | ((with_reducible apply u_or); (· rfl))
      | ((with_reducible apply u_and); (· rfl))
      | ((with_reducible apply u_dfr); (· rfl); (· rfl))
      | (with_reducible refine u_join ?_)
      | ((with_reducible apply u_jump); (· rfl); (· rfl))
      | (with_reducible refine at_jump ?_)
      | (with_reducible refine over_jump (by decide) ?_)
      | (with_reducible refine kj rfl ?_)
      | ((with_reducible apply u_ite); (· rfl); all_goals (intro hz; (try simp only [sbs] at hz); first | (exact absurd hz (by decide)) | (exfalso; omega) | skip))
      | (with_reducible exact u_ret rfl rfl)
      | ((with_reducible apply u_ret); (· rfl); first | exact rfl | (refine retB ?_) | (refine retI ?_) | (refine retD ?_))
      | ((with_reducible intro hz); (try simp only [sbs] at hz)))
    refine u_wpcallvR rfl hf rfl rfl hd.hp rfl (by simp only [List.cons_append, List.nil_append]; rfl) ?_
    have h70 := c70 (bs := C.set bs.length (.blk 3 1 [I n])) a.facts ha
    repeat' (first
      | ((with_reducible apply nrm); (· simp only [sbe]; rfl))
      | ((with_reducible apply u_iteT); (· rfl); (· first | exact hn'))
      | ((with_reducible apply u_chk); (· rfl))
      | ((with_reducible apply u_stoa); (· rfl); (· rfl); (· rfl); (· rfl); (· rfl); (· first | exact fgs | exact gs); (· first | exact fx | exact gt); (· simp only [sbe]; rfl))
      | ((with_reducible apply u_same); (· first | exact e_ld rfl rfl (ld_blk hc1.acts.1 rfl) | exact e_ld rfl rfl (ld_blk v0 rfl)); (· first | exact e_ld rfl rfl (ld_blk y1 rfl) | exact e_ld rfl rfl (ld_blk y0 rfl)); (· simp [D.same, Value.same]); (· simp only [sbe]; rfl))
      | ((with_reducible apply u_ld); (· rfl); (· rfl); (· first | exact ld_blk v0 rfl | exact ld_blk hc1.acts.1 rfl | exact lc | exact ld_blk hc3.acts.1 rfl | exact ld_blk w0 rfl | exact ld_blk g6.acts.1 rfl); (· simp only [sbe]; rfl))
      | ((with_reducible apply u_eaddr); (· rfl); (· rfl); (· first | exact le); (· simp only [sbe]; rfl))
      | ((with_reducible apply u_lenL); (· rfl); (· first | exact hc1.acts.2.len); (· simp only [sbe]; rfl))
      | ((with_reducible apply u_sto); (· rfl); (· rfl); (· rfl); (· first | exact s1 | exact t1 | exact t2); (· simp only [sbe]; rfl))
      | ((with_reducible apply u_apph); (· rfl); (· rfl); (· rfl); (· first | exact fa | exact ga); (· simp only [sbe]; rfl))
      | ((with_reducible apply u_lenL); (· rfl); (· exact lenL_map); (· simp only [sbe]; rfl))
      | ((with_reducible apply u_pred); (· rfl); (· omega); (· simp only [sbe]; rfl))
      | ((with_reducible apply u_sub); (· rfl); (· rfl); (· omega); (· simp only [sbe]; rfl))
      | ((with_reducible apply u_ev); (· rfl); (· simp only [sbe]; rfl))
      | ((with_reducible apply u_call); (· rfl); (· rfl); (· first | exact h70); (· rfl); (· simp only [sbe]; rfl))
      | ((with_reducible apply u_or); (· rfl))
      | ((with_reducible apply u_and); (· rfl))
      | ((with_reducible apply u_dfr); (· rfl); (· rfl))
      | (with_reducible refine u_join ?_)
      | ((with_reducible apply u_jump); (· rfl); (· rfl))
      | (with_reducible refine at_jump ?_)
      | (with_reducible refine over_jump (by decide) ?_)
      | (with_reducible refine kj rfl ?_)
      | ((with_reducible apply u_ite); (· rfl); all_goals (intro hz; (try simp only [sbs] at hz); first | (exact absurd hz (by decide)) | (exfalso; omega) | skip))
      | (with_reducible exact u_ret rfl rfl)
      | ((with_reducible apply u_ret); (· rfl); first | exact rfl | (refine retB ?_) | (refine retI ?_) | (refine retD ?_))
      | ((with_reducible intro hz); (try simp only [sbs] at hz)))
    refine u_ret rfl ⟨.st (res1 bs5 bs.length n 0), .tup [I n, I 0], c63n, e_two (e_ld rfl rfl r1) (e_ld rfl rfl ?_), rfl⟩
    rw [← e2] at r2
    exact r2
  · rw [res1_old hk, g5.old k (by omega) (nFo3 k hk hF), g3.old k (by omega) (nFo k hk hF), vo k hk hF]
  · rcases g5.new k hk with h1 | h1
    · rcases g3.new k h1 with h1 | h1
      · rcases hd.st.new k h1 with h2 | h2
        · exact .inl h2
        · rw [mid_len] at h2; exact .inr (by omega)
      · exact .inr (by omega)
    · exact .inr (by omega)

end Go.Am.Ct

/-
  Do is as the specification says.
-/
namespace Go.Am.Ct
open Go.Proofs Go.Am.Ap
set_option maxRecDepth 100000
set_option maxHeartbeats 2000000

variable {bs : List D} {j : Nat} {c : Cod} {l : List Akt} {a : Akt} {F : Nat → Prop}

structure CodOk (c : Cod) : Prop where
  arts : c.arts.length ≤ 500
  cars : 1 ≤ c.cars ∧ c.cars ≤ 200
  window : 0 ≤ c.window ∧ c.window ≤ 10000
  second : 0 ≤ c.second ∧ c.second ≤ 10000
  fee : 0 ≤ c.fee ∧ c.fee ≤ 1000000000
  price : 0 ≤ c.price ∧ c.price ≤ 1000000000

theorem codOk_of (h : okCode c = true) : CodOk c := by
  unfold okCode headBad at h
  simp only [Bool.and_eq_true, Bool.not_eq_true', Bool.or_eq_false_iff, Bool.not_eq_false', inR, decide_eq_true_eq] at h
  obtain ⟨⟨⟨⟨⟨⟨h1, h2⟩, h3⟩, h4⟩, h5⟩, h6⟩, _⟩ := h
  exact ⟨by omega, h1, h3, h4, h5, h6⟩

theorem lastSt_eq (h : Inv c l) (hs : 0 ≤ c.second) {k p : Nat} (hp : (pro l)[k]? = some p) :
    lastSt c l (idxOf l k p) = if 0 ≤ rlast l 6 k MM then 2 else if 0 ≤ rlast l 5 k MM then 5 else if 0 ≤ rlast l 4 k MM then 4 else if 0 ≤ rlast l 3 k MM then 3 else 1 := by
  have s := h.shape k
  have s1 := s.dx
  have s2 := s.da
  have s3 := s.aj
  have s4 := s.oa
  have s5 := s.oj
  have l3 := (rlast_lt l 3 k MM).2
  have l4 := (rlast_lt l 4 k MM).2
  have l5 := (rlast_lt l 5 k MM).2
  have l6 := (rlast_lt l 6 k MM).2
  have hpl := pro_lt hp
  have mono : ∀ x y : Nat, x ≤ y → y < l.length → (nth l x).minute ≤ (nth l y).minute := h.sorted
  have aft := h.after k p hp
  have minM : ∀ i, (nth l i).minute ≤ MM := fun i => by have := h.mins.nth i; unfold MM; omega
  have opos : ∀ {x : Int}, 0 ≤ x → opt x = [x.toNat] := fun hx => by unfold opt; rw [if_pos hx]
  unfold lastSt
  by_cases h6 : 0 ≤ rlast l 6 k MM
  · skip
    have e : (idxOf l k p).getLast?.getD 0 = (rlast l 6 k MM).toNat := by
      unfold idxOf
      rw [opt_neg (show rlast l 3 k MM < 0 by omega), opt_neg (show rlast l 4 k MM < 0 by omega), opt_neg (show rlast l 5 k MM < 0 by omega), opos h6]
      simp
    have := aft 6 (by omega) h6
    rw [e, state_eq h hp (minM _) (mono _ _ (by omega) (by omega))]
    unfold stR
    simp only [rl_m h (by omega : (3 : Int) ≤ 6) (minM _), rl_m h (by omega : (3 : Int) ≤ 5) (minM _), rl_m h (by omega : (3 : Int) ≤ 4) (minM _), rl_m h (by omega : (3 : Int) ≤ 3) (minM _)]
    simp [h6]
  · by_cases h5 : 0 ≤ rlast l 5 k MM
    · have h4 : 0 ≤ rlast l 4 k MM := by omega
      have h3 : 0 ≤ rlast l 3 k MM := by omega
      have e : (idxOf l k p).getLast?.getD 0 = (rlast l 5 k MM).toNat := by
        unfold idxOf
        rw [opos h3, opos h4, opos h5, opt_neg (show rlast l 6 k MM < 0 by omega)]
        simp
      have := aft 5 (by omega) h5
      rw [e, state_eq h hp (minM _) (mono _ _ (by omega) (by omega))]
      unfold stR
      simp only [rl_m h (by omega : (3 : Int) ≤ 6) (minM _), rl_m h (by omega : (3 : Int) ≤ 5) (minM _), rl_m h (by omega : (3 : Int) ≤ 4) (minM _), rl_m h (by omega : (3 : Int) ≤ 3) (minM _)]
      simp [h6, h5]
    · by_cases h4 : 0 ≤ rlast l 4 k MM
      · have h3 : 0 ≤ rlast l 3 k MM := by omega
        have e : (idxOf l k p).getLast?.getD 0 = (rlast l 4 k MM).toNat := by
          unfold idxOf
          rw [opos h3, opos h4, opt_neg (show rlast l 5 k MM < 0 by omega), opt_neg (show rlast l 6 k MM < 0 by omega)]
          simp
        have := aft 4 (by omega) h4
        rw [e, state_eq h hp (minM _) (mono _ _ (by omega) (by omega))]
        unfold stR
        simp only [rl_m h (by omega : (3 : Int) ≤ 6) (minM _), rl_m h (by omega : (3 : Int) ≤ 5) (minM _), rl_m h (by omega : (3 : Int) ≤ 4) (minM _), rl_m h (by omega : (3 : Int) ≤ 3) (minM _)]
        simp [h6, h5, h4]
      · by_cases h3 : 0 ≤ rlast l 3 k MM
        · have : ¬ c.second < 0 := by omega
          have hn3 : ¬ rlast l 3 k MM < 0 := by omega
          have e : (idxOf l k p).getLast?.getD 0 = (rlast l 3 k MM).toNat := by
            unfold idxOf
            rw [opos h3, opt_neg (show rlast l 4 k MM < 0 by omega), opt_neg (show rlast l 5 k MM < 0 by omega), opt_neg (show rlast l 6 k MM < 0 by omega)]
            simp
          have := aft 3 (by omega) h3
          rw [e, state_eq h hp (minM _) (mono _ _ (by omega) (by omega))]
          unfold stR
          simp only [rl_m h (by omega : (3 : Int) ≤ 6) (minM _), rl_m h (by omega : (3 : Int) ≤ 5) (minM _), rl_m h (by omega : (3 : Int) ≤ 4) (minM _), rl_m h (by omega : (3 : Int) ≤ 3) (minM _)]
          simp [h6, h5, h4, h3, hn3, hs]
        · skip
          have e : (idxOf l k p).getLast?.getD 0 = p := by
            unfold idxOf
            rw [opt_neg (show rlast l 3 k MM < 0 by omega), opt_neg (show rlast l 4 k MM < 0 by omega), opt_neg (show rlast l 5 k MM < 0 by omega), opt_neg (show rlast l 6 k MM < 0 by omega)]
            simp
          rw [e, state_eq h hp (minM _) (Int.le_refl _)]
          unfold stR
          simp only [rl_m h (by omega : (3 : Int) ≤ 6) (minM _), rl_m h (by omega : (3 : Int) ≤ 5) (minM _), rl_m h (by omega : (3 : Int) ≤ 4) (minM _), rl_m h (by omega : (3 : Int) ≤ 3) (minM _)]
          simp [h6, h5, h4, h3]

theorem ver_of (hA : Acc c l) {k p : Nat} (hp : (pro l)[k]? = some p) : 0 ≤ ver c.arts (nth l p).article (nth l p).at_ c.arts.length := by
  have g := good_of (hA p (pro_lt hp))
  have := g.prt (pro_kind (List.mem_of_getElem? hp))
  rcases ver_spec c.arts (nth l p).article (nth l p).at_ c.arts.length with ⟨h1, h2⟩ | ⟨jj, v, h1, _⟩
  · have := this.2.1
    rw [h2] at this
    cases this
  · omega

theorem pen_fits {p : Nat} (hp : (pro l).getD a.cse.toNat 0 = p) : penBad c (nth l p) a = !fitsR c l a := by
  unfold penBad fitsR
  unfold pro at hp
  rw [hp]
  cases a.upheld <;> simp [bne]

def Court (bs : List D) (F : Nat → Prop) (j : Nat) (c : Cod) (l : List Akt) : Prop := ∃ sa sf fs, Crt bs F j c l (qOf l) sa sf fs

def doN (c : Cod) (l : List Akt) (a : Akt) : Int := if refused c l a ≠ 0 then 0 else if a.kind = 1 then -1 else if a.kind = 2 then (pro l).length else a.cse
def doL (c : Cod) (l : List Akt) (a : Akt) : List Akt := if refused c l a = 0 then l ++ [a] else l

theorem Crt.caseAt {B : List D} {sa sf : D} {fs : List (Int × D)} (h : Crt B F j c l (qOf l) sa sf fs) (hA : Acc c l) {k p : Nat} (hp : (pro l)[k]? = some p) : ∃ s, CaseAt B c l fs k p s (idxOf l k p) := by
  obtain ⟨s, h1, h2⟩ := h.case k p _ (qOf_get hp)
  exact ⟨s, h1, h2, idx_lt hp, pro_lt hp, idx_ne, by have := idx_len (l := l) (k := k) (p := p); omega, ver_of hA hp⟩

theorem pubAt_b (hm : Mins l) (p : Int) : -1 ≤ pubAt l p ∧ pubAt l p ≤ 10000000 := by
  unfold pubAt
  split
  · omega
  · have := hm.nth (fi (isPub p) l).toNat
    omega

theorem mids (bs : List D) (F : Nat → Prop) (j : Nat) : Stp (mid bs j) F (mid bs j) F := Stp.refl _ _

theorem c26 (hA : Acc c l) (hc : CodOk c) (h : Court bs F j c l) (a : Akt) (ha : a.facts.length ≤ 1000000) :
    ∃ bs' F', FSpecWO Try.prog 26 (.st bs) [.loc j 0, a.d] (.ret (.tup [I (doN c l a), I (refused c l a)])) (.st bs') ∧ Stp bs F bs' F' ∧ Court bs' F' j c (doL c l a) := by
  obtain ⟨sa, sf, fs, h⟩ := h
  have hI := inv_of l hA
  have hlen := hI.len
  have hca := hc.arts
  have hL : l.length ≤ 1000000 := by omega
  have nope : ∀ e, refused c l a = e → e ≠ 0 → (∃ bs', FSpecWO Try.prog 26 (.st bs) [.loc j 0, a.d] (.ret (.tup [I 0, I e])) (.st bs') ∧ Stp bs F bs' F ∧ Crt bs' F j c l (qOf l) sa sf fs) → ∃ bs' F', FSpecWO Try.prog 26 (.st bs) [.loc j 0, a.d] (.ret (.tup [I (doN c l a), I (refused c l a)])) (.st bs') ∧ Stp bs F bs' F' ∧ Court bs' F' j c (doL c l a) := by
    rintro e he h0 ⟨bs', h1, h2, h3⟩
    unfold doN doL
    rw [he, if_pos h0, if_neg h0]
    exact ⟨bs', F, h1, h2, sa, sf, fs, h3⟩
  cases hbad : (!actOk c.cars a || early l a)
  rotate_left
  · refine nope 2 ?_ (by omega) (c26arg h hL a ha hbad)
    unfold refused
    rw [if_pos]
    unfold early at hbad
    simp only [Bool.or_eq_true, Bool.not_eq_true', Bool.and_eq_true, decide_eq_true_eq] at hbad
    rcases hbad with hb | hb
    · exact .inl hb
    · exact .inr ⟨by omega, hb.2⟩
  have hbad' := hbad
  unfold early at hbad
  simp only [Bool.or_eq_false_iff, Bool.not_eq_false', Bool.and_eq_false_iff, decide_eq_false_iff_not] at hbad
  have hok := hbad.1
  have hnl : ¬ (actOk c.cars a = false ∨ 0 < l.length ∧ a.minute < (nth l (l.length - 1)).minute) := by
    rintro (hh | hh)
    · rw [hok] at hh; cases hh
    · rcases hbad.2 with h1 | h1 <;> omega
  have hR : refused c l a = if 2000 ≤ l.length then 4 else refused c l a := by
    split
    · unfold refused; rw [if_neg hnl, if_pos (by omega)]
    · rfl
  by_cases hm : 2000 ≤ l.length
  · exact nope 4 (by rw [hR, if_pos hm]) (by omega) (c26long h hL a ha hbad' hm)
  have hm' : l.length < 2000 := by omega
  have hk := actOk_kind hok
  have hmin := actOk_minute hok
  have hmid := h.mid (j := j)
  have hpb := pubAt_b hI.mins a.paper
  have hql : (qOf l).length ≤ 1000000 := by rw [qOf_len]; have := prot_len l l.length; unfold pro; omega
  rcases hk with e | e | ⟨e, hcs⟩
  · -- a paper
    have hg : D.mlook .int (I a.kind) (kents j) = some (some (0, .fn 64 [.loc j 0] [])) := by rw [e]; rfl
    have h64 := c64 hmid.acts hL a
    have hp : 0 ≤ pubAt l a.paper ↔ 0 ≤ fi (isPub a.paper) l := by
      unfold pubAt
      have := hI.mins.nth (fi (isPub a.paper) l).toNat
      split <;> omega
    have hr : refused c l a = if 0 ≤ fi (isPub a.paper) l then 6 else 0 := by unfold refused; rw [if_neg hnl, if_neg hm, if_pos e]
    by_cases h0 : 0 ≤ fi (isPub a.paper) l
    · rw [if_pos (hp.2 h0)] at h64
      exact nope 6 (by rw [hr, if_pos h0]) (by omega) (c26pan h hL a ha hbad' hm' hg (by kernel_rfl) h64)
    · rw [if_neg (fun hh => h0 (hp.1 hh))] at h64
      rw [if_neg h0] at hr
      have g := good_of hr
      obtain ⟨bs', F', sa', h1, h2, h3⟩ := c26pub h hL a ha hbad' hm' hg (by kernel_rfl) rfl ⟨h64, mids _ _ _, hmid⟩
      unfold doN doL
      rw [hr, if_neg (by omega), if_pos e, if_pos rfl]
      exact ⟨bs', F', h1, h2, sa', sf, fs, by rw [q_pub g e]; exact h3⟩
  · -- a protest
    have hg : D.mlook .int (I a.kind) (kents j) = some (some (1, .fn 65 [.loc j 0] [])) := by rw [e]; rfl
    have hv : ver c.arts a.article a.at_ c.arts.length < 0 ↔ (verArt c.arts a.article a.at_ c.arts.length).isSome = false := by
      rcases ver_spec c.arts a.article a.at_ c.arts.length with ⟨h1, h2⟩ | ⟨jj, v, h1, _, h2⟩
      · rw [h1, h2]; simp
      · rw [h1, h2]; simp
    have hr : refused c l a = proR c l a := by
      unfold refused proR
      rw [if_neg hnl, if_neg hm, if_neg (by omega), if_pos e]
      have h2 := hI.mins.nth (fi (isPub a.paper) l).toNat
      unfold pubAt
      by_cases h0 : fi (isPub a.paper) l < 0
      · rw [if_pos (.inl h0), if_pos h0, if_pos (.inl (by omega))]
      · rw [if_neg h0]
        by_cases h1 : (verArt c.arts a.article a.at_ c.arts.length).isSome = false
        · rw [if_pos (.inr h1), if_pos (.inr (hv.2 h1))]
        · rw [if_neg (show ¬ (fi (isPub a.paper) l < 0 ∨ (verArt c.arts a.article a.at_ c.arts.length).isSome = false) from fun hh => hh.elim h0 h1), if_neg (show ¬ ((nth l (fi (isPub a.paper) l).toNat).minute < 0 ∨ ver c.arts a.article a.at_ c.arts.length < 0) from fun hh => hh.elim (fun h4 => by omega) fun h4 => h1 (hv.1 h4))]
    by_cases h0 : proR c l a = 0
    · obtain ⟨C, F4, h1, h2, h3⟩ := c65y hmid (by omega) hL hql a hpb hmin h0
      have hrr := hr.trans h0
      have g := good_of hrr
      obtain ⟨bs', F', sa', fs', g1, g2, g3⟩ := c26upd h hL a ha hbad' hm' hg (by kernel_rfl) (k := (qOf l).length) (p := l.length) (idx := []) rfl (by rw [List.getElem?_append_right (Nat.le_refl _)]; simp) (by simp) ⟨h1, h2, h3⟩
      unfold doN doL
      rw [hrr, if_neg (by omega), if_neg (by omega), if_pos e, if_pos rfl]
      rw [qOf_len] at g1
      refine ⟨bs', F', g1, g2, sa', .sl (mid bs j).length 0 (fs.length + 1), fs', ?_⟩
      rw [q_pro hI g e]
      have : ((qOf l ++ [(l.length, [])]).set (qOf l).length (l.length, [] ++ [l.length])) = qOf l ++ [(l.length, [l.length])] := by
        rw [List.set_append_right _ _ (Nat.le_refl _)]; simp
      rw [← this]
      exact g3
    · have h65 := c65n hmid (by omega) hL a hpb hmin h0
      exact nope _ hr h0 (c26pan h hL a ha hbad' hm' hg (by kernel_rfl) h65)
  · -- an act of a case
    have hnk : ¬ a.kind = 1 ∧ ¬ a.kind = 2 := by omega
    by_cases hlen5 : ((prot l l.length).length : Int) ≤ a.cse
    · have hr : refused c l a = 5 := by unfold refused; rw [if_neg hnl, if_neg hm, if_neg hnk.1, if_neg hnk.2, if_pos hlen5]
      have hfl : (fs.length : Int) ≤ a.cse := by rw [h.len, qOf_len]; exact hlen5
      rcases e with e | e | e | e
      · exact nope 5 hr (by omega) (c26pan h hL a ha hbad' hm' (i := 2) (f := 66) (by rw [e]; rfl) (by kernel_rfl) (c66n hmid.acts hmid.files a hfl))
      · exact nope 5 hr (by omega) (c26pan h hL a ha hbad' hm' (i := 3) (f := 67) (by rw [e]; rfl) (by kernel_rfl) (c67n hmid.acts hmid.files a hfl))
      · exact nope 5 hr (by omega) (c26pan h hL a ha hbad' hm' (i := 4) (f := 68) (by rw [e]; rfl) (by kernel_rfl) (c68n hmid.acts hmid.files a hfl))
      · exact nope 5 hr (by omega) (c26pan h hL a ha hbad' hm' (i := 5) (f := 69) (by rw [e]; rfl) (by kernel_rfl) (c69n hmid.acts hmid.files a hfl))
    obtain ⟨k, hck⟩ : ∃ k : Nat, a.cse = k := ⟨a.cse.toNat, by omega⟩
    obtain ⟨p, hp⟩ : ∃ p, (pro l)[k]? = some p := ⟨_, List.getElem?_eq_getElem (by unfold pro; omega)⟩
    obtain ⟨s, hF⟩ := hmid.caseAt hA hp
    have hgd : (pro l).getD a.cse.toNat 0 = p := by rw [hck]; simp [hp]
    have hlast := lastSt_eq hI hc.second.1 hp
    have hpen := pen_fits (c := c) hgd
    have hs := hI.shape k
    have s1 := hs.dx
    have s2 := hs.da
    have s3 := hs.aj
    have done : refused c l a = 0 → ∀ {f i : Nat}, D.mlook .int (I a.kind) (kents j) = some (some (i, .fn f [.loc j 0] [])) → callable Try.prog f = true → FSpecWO Try.prog f (.st (mid bs j)) [.loc j 0, a.d] (.ret (I a.cse)) (.st (mid bs j)) → ∃ bs' F', FSpecWO Try.prog 26 (.st bs) [.loc j 0, a.d] (.ret (.tup [I (doN c l a), I (refused c l a)])) (.st bs') ∧ Stp bs F bs' F' ∧ Court bs' F' j c (doL c l a) := by
      intro hr f i hg hcl hsp
      have g := good_of hr
      obtain ⟨bs', F', sa', fs', g1, g2, g3⟩ := c26upd h hL a ha hbad' hm' hg hcl hck (qOf_get hp) (by have := idx_len (l := l) (k := k) (p := p); omega) ⟨hsp, mids _ _ _, hmid⟩
      unfold doN doL
      rw [hr, if_neg (by omega), if_neg hnk.1, if_neg hnk.2, if_pos rfl]
      exact ⟨bs', F', g1, g2, sa', _, fs', by rw [q_upd hI g (by omega) hck hp]; exact g3⟩
    have hrr : ∀ {x : Int}, (let pr := nth l ((prot l l.length).getD a.cse.toNat 0)
        let x := rlast l 6 a.cse 10000000
        let d := rlast l 3 a.cse 10000000
        let ap := rlast l 4 a.cse 10000000
        let ju := rlast l 5 a.cse 10000000
        if a.kind = 3 then (if 0 ≤ x ∨ 0 ≤ d then 6 else if fitsR c l a = false then 7 else 0)
        else if a.kind = 4 then (if d < 0 ∨ 0 ≤ ap then 6 else if a.by_ ≠ pr.by_ ∧ a.by_ ≠ pr.against then 7 else if c.second < a.minute - (nth l d.toNat).minute then 8 else if a.paid ≠ c.price then 7 else 0)
        else if a.kind = 5 then (if ap < 0 ∨ 0 ≤ ju then 6 else if fitsR c l a = false then 7 else 0)
        else (if 0 ≤ x ∨ 0 ≤ d then 6 else if a.by_ ≠ pr.by_ then 7 else 0)) = x → refused c l a = x := by
      intro x hx
      unfold refused
      rw [if_neg hnl, if_neg hm, if_neg hnk.1, if_neg hnk.2, if_neg hlen5]
      exact hx
    rcases e with e | e | e | e
    · have hg : D.mlook .int (I a.kind) (kents j) = some (some (2, .fn 66 [.loc j 0] [])) := by rw [e]; rfl
      have hsp := c66 hmid.acts (by omega) hI.mins hmid.files hF a hck
      rw [hpen] at hsp
      by_cases hx : 0 ≤ rlast l 6 k MM ∨ 0 ≤ rlast l 3 k MM
      · have hl1 : lastSt c l (idxOf l k p) ≠ 1 := by rw [hlast]; repeat' split <;> omega
        rw [if_pos hl1] at hsp
        exact nope 6 (hrr (by simp only [e, hck]; rw [if_pos trivial, if_pos (by unfold MM at hx; exact hx)])) (by omega) (c26pan h hL a ha hbad' hm' hg (by kernel_rfl) hsp)
      · have hl1 : ¬ lastSt c l (idxOf l k p) ≠ 1 := by rw [hlast]; repeat' split <;> omega
        rw [if_neg hl1] at hsp
        cases hfit : fitsR c l a
        · rw [hfit, if_pos (show (!false) = true from rfl)] at hsp
          exact nope 7 (hrr (by simp only [e, hck]; rw [if_pos trivial, if_neg (by unfold MM at hx; exact hx), if_pos hfit])) (by omega) (c26pan h hL a ha hbad' hm' hg (by kernel_rfl) hsp)
        · rw [hfit, if_neg (by decide)] at hsp
          exact done (hrr (by simp only [e, hck]; rw [if_pos trivial, if_neg (by unfold MM at hx; exact hx), if_neg (by rw [hfit]; decide)])) hg (by kernel_rfl) hsp
    · have hg : D.mlook .int (I a.kind) (kents j) = some (some (3, .fn 67 [.loc j 0] [])) := by rw [e]; rfl
      have hsp := c67 hmid.acts hI.mins hmid.files hF a hck hmin
      have hr : refused c l a = appR c l p (idxOf l k p) a := by
        refine hrr ?_
        have hgd' : (prot l l.length).getD a.cse.toNat 0 = p := hgd
        simp only [hgd']
        simp only [e, hck]
        rw [if_neg (by omega), if_pos trivial]
        unfold appR
        by_cases hx : rlast l 3 k MM < 0 ∨ 0 ≤ rlast l 4 k MM
        · have hl1 : lastSt c l (idxOf l k p) ≠ 3 := by rw [hlast]; repeat' split <;> omega
          rw [if_pos hl1, if_pos (by unfold MM at hx; exact hx)]
        · have hl1 : ¬ lastSt c l (idxOf l k p) ≠ 3 := by rw [hlast]; repeat' split <;> omega
          have hle : (idxOf l k p).getLast?.getD 0 = (rlast l 3 k MM).toNat := by
            unfold idxOf
            rw [show opt (rlast l 3 k MM) = [(rlast l 3 k MM).toNat] by unfold opt; rw [if_pos (by omega)], opt_neg (show rlast l 6 k MM < 0 by omega), opt_neg (show rlast l 5 k MM < 0 by omega), opt_neg (show rlast l 4 k MM < 0 by omega)]
            simp
          rw [if_neg hl1, if_neg (by unfold MM at hx; exact hx), hle]
      rw [← hr] at hsp
      by_cases h0 : refused c l a = 0
      · rw [if_neg (fun hh => hh h0)] at hsp
        exact done h0 hg (by kernel_rfl) hsp
      · rw [if_pos h0] at hsp
        exact nope _ rfl h0 (c26pan h hL a ha hbad' hm' hg (by kernel_rfl) hsp)
    · have hg : D.mlook .int (I a.kind) (kents j) = some (some (4, .fn 68 [.loc j 0] [])) := by rw [e]; rfl
      have hsp := c68 hmid.acts (by omega) hI.mins hmid.files hF a hck
      rw [hpen] at hsp
      by_cases hx : rlast l 4 k MM < 0 ∨ 0 ≤ rlast l 5 k MM
      · have hl1 : lastSt c l (idxOf l k p) ≠ 4 := by rw [hlast]; repeat' split <;> omega
        rw [if_pos hl1] at hsp
        exact nope 6 (hrr (by simp only [e, hck]; rw [if_neg (by omega), if_neg (by omega), if_pos trivial, if_pos (by unfold MM at hx; exact hx)])) (by omega) (c26pan h hL a ha hbad' hm' hg (by kernel_rfl) hsp)
      · have hl1 : ¬ lastSt c l (idxOf l k p) ≠ 4 := by rw [hlast]; repeat' split <;> omega
        rw [if_neg hl1] at hsp
        cases hfit : fitsR c l a
        · rw [hfit, if_pos (show (!false) = true from rfl)] at hsp
          exact nope 7 (hrr (by simp only [e, hck]; rw [if_neg (by omega), if_neg (by omega), if_pos trivial, if_neg (by unfold MM at hx; exact hx), if_pos hfit])) (by omega) (c26pan h hL a ha hbad' hm' hg (by kernel_rfl) hsp)
        · rw [hfit, if_neg (by decide)] at hsp
          exact done (hrr (by simp only [e, hck]; rw [if_neg (by omega), if_neg (by omega), if_pos trivial, if_neg (by unfold MM at hx; exact hx), if_neg (by rw [hfit]; decide)])) hg (by kernel_rfl) hsp
    · have hg : D.mlook .int (I a.kind) (kents j) = some (some (5, .fn 69 [.loc j 0] [])) := by rw [e]; rfl
      have hsp := c69 hmid.acts hI.mins hmid.files hF a hck
      have hgd' : (prot l l.length).getD a.cse.toNat 0 = p := hgd
      by_cases hx : 0 ≤ rlast l 6 k MM ∨ 0 ≤ rlast l 3 k MM
      · have hl1 : lastSt c l (idxOf l k p) ≠ 1 := by rw [hlast]; repeat' split <;> omega
        rw [if_pos hl1] at hsp
        exact nope 6 (hrr (by simp only [e, hck]; rw [if_neg (by omega), if_neg (by omega), if_neg (by omega), if_pos (by unfold MM at hx; exact hx)])) (by omega) (c26pan h hL a ha hbad' hm' hg (by kernel_rfl) hsp)
      · have hl1 : ¬ lastSt c l (idxOf l k p) ≠ 1 := by rw [hlast]; repeat' split <;> omega
        rw [if_neg hl1] at hsp
        by_cases hb : a.by_ ≠ (nth l p).by_
        · rw [if_pos hb] at hsp
          exact nope 7 (hrr (by simp only [hgd']; simp only [e, hck]; rw [if_neg (by omega), if_neg (by omega), if_neg (by omega), if_neg (by unfold MM at hx; exact hx), if_pos hb])) (by omega) (c26pan h hL a ha hbad' hm' hg (by kernel_rfl) hsp)
        · rw [if_neg hb] at hsp
          exact done (hrr (by simp only [hgd']; simp only [e, hck]; rw [if_neg (by omega), if_neg (by omega), if_neg (by omega), if_neg (by unfold MM at hx; exact hx), if_neg hb])) hg (by kernel_rfl) hsp

end Go.Am.Ct
