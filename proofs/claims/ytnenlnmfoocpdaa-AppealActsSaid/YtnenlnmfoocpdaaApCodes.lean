/-
  What the functions of the law AppealCodes answer.
-/
import Derived.Test.YtnenlnmfoocpdaaApU3toApKnown
import Derived.Test.YtnenlnmfoocpdaaAmFntoAmSt2
set_option linter.unusedSimpArgs false
set_option linter.unusedVariables false
namespace Go.Am.Ap
open Go.Proofs

abbrev I (n : Int) : D := .v (.int .i64 n)
abbrev B (b : Bool) : D := .v (.bool b)

def inR (x lo hi : Int) : Bool := decide (lo ≤ x) && decide (x ≤ hi)

structure Art where
  n : Int
  f : Int
  l : Int
  m : Int

def Art.d (a : Art) : D := .agg [I a.n, I a.f, I a.l, I a.m]

structure Cod where
  cars : Int
  arts : List Art
  window : Int
  second : Int
  fee : Int
  price : Int

def Cod.d (c : Cod) : D := .agg [I c.cars, .lst (c.arts.map Art.d), I c.window, I c.second, I c.fee, I c.price]

def artBad (a : Art) : Bool := !(inR a.n 1 10000) || !(inR a.f 0 10000000) || !(inR a.l 0 a.m) || decide (36000000 < a.m)
def pairBad (b a : Art) : Bool := decide (a.n < b.n) || (decide (a.n = b.n) && decide (a.f ≤ b.f))
def okAt (xs : List Art) (i : Nat) : Bool := match xs[i]? with
  | some a => !artBad a && (match i with | 0 => true | j + 1 => match xs[j]? with | some b => !pairBad b a | none => true)
  | none => true
def headBad (c : Cod) : Bool := !(inR c.cars 1 200) || !(inR c.arts.length 1 500) || !(inR c.window 0 10000) || !(inR c.second 0 10000) || !(inR c.fee 0 1000000000) || !(inR c.price 0 1000000000)
def okCode (c : Cod) : Bool := !headBad c && (List.range c.arts.length).all (okAt c.arts)

variable {bs : List D}

theorem c55 (x lo hi : Int) : FSpecR Try.prog 55 (.st bs) [I x, I lo, I hi] (B (inR x lo hi)) := by
  refine ok55.specR rfl (by kernel_rfl) rfl ?_
  unfold inR
  refine st_ev rfl rfl ?_
  refine st_guard rfl rfl (fun h => ?_) (fun h => ?_) <;> rw [h]
  · refine st_ev rfl rfl (st_ev rfl rfl (st_nil (st_ret rfl ?_)))
    simp_all
  · refine st_ev rfl rfl (st_nil (st_ret rfl ?_))
    simp_all

theorem c52 (x lo hi : Int) : FSpecR Try.prog 52 (.st bs) [I x, I lo, I hi] (B (inR x lo hi)) := by
  refine ok52.specR rfl (by kernel_rfl) rfl ?_
  unfold inR
  refine st_ev rfl rfl ?_
  refine st_guard rfl rfl (fun h => ?_) (fun h => ?_) <;> rw [h]
  · refine st_ev rfl rfl (st_ev rfl rfl (st_nil (st_ret rfl ?_)))
    simp_all
  · refine st_ev rfl rfl (st_nil (st_ret rfl ?_))
    simp_all

theorem eaddr_at {xs : List Art} {i : Nat} {a : Art} (h : xs[i]? = some a) : D.eaddr 4 (.lst (xs.map Art.d)) (I i) = some (.ptr [I a.n, I a.f, I a.l, I a.m]) := by
  simp [D.eaddr, h, Art.d, D.cells]

theorem add_one {i : Nat} (h : i ≤ 1000000000) : D.bin .add .int (I i) (I 1) = some (I (i + 1 : Nat)) := by
  have : IntKind.i64.wrap ((i : Int) + 1) = (i : Int) + 1 := by simp [IntKind.wrap, IntKind.bits, IntKind.signed]; omega
  simp [D.bin, cmpI, arI, this]

theorem sub_one {i : Nat} (h : i + 1 ≤ 1000000000) : D.bin .sub .int (I (i + 1 : Nat)) (I 1) = some (I i) := by
  have : IntKind.i64.wrap (((i + 1 : Nat) : Int) - 1) = (i : Int) := by simp [IntKind.wrap, IntKind.bits, IntKind.signed]; omega
  simp only [D.bin, cmpI, arI, if_pos]
  simp only [this]
  rfl

theorem c104 (x : Int) : FSpecR Try.prog 104 (.st bs) [I x] (B false) := by
  refine ok104.specR rfl (by kernel_rfl) rfl ?_
  refine st_ev rfl rfl (st_nil (st_ret rfl ?_))
  simp

def cmpD (x y : Int) : Int := if x < y then -1 else if y < x then 1 else 0

theorem c83 (x y : Int) : FSpecR Try.prog 83 (.st bs) [I x, I y] (I (cmpD x y)) := by
  refine ok83.specR rfl (by kernel_rfl) rfl ?_
  unfold Entry.t e83 t83
  simp only [List.cons_append, List.nil_append]
  repeat' (first
    | ((with_reducible apply st_guard); (· rfl); (· simp only [sbe]; rfl); all_goals (intro h; (try simp only [Bool.not_true, Bool.not_false] at h); first | (cases h; done) | (exact absurd h (by decide)) | (exfalso; simp [IntKind.wrap, IntKind.bits, IntKind.signed] at h; done) | (exfalso; simp only [decide_eq_false_iff_not, decide_eq_true_eq] at h; omega) | (cases h) | (try rw [h])))
    | ((with_reducible apply st_cond); (· rfl); all_goals (intro h; (try simp only [Bool.not_true, Bool.not_false] at h); first | (cases h; done) | (exact absurd h (by decide)) | (exfalso; simp [IntKind.wrap, IntKind.bits, IntKind.signed] at h; done) | (exfalso; simp only [decide_eq_false_iff_not, decide_eq_true_eq] at h; omega) | (cases h) | (try rw [h])))
    | ((with_reducible apply st_callG); (· rfl); (· simp only [sbe]; rfl); all_goals (intro h; (try simp only [Bool.not_true, Bool.not_false] at h); first | (cases h; done) | (exact absurd h (by decide)) | (exfalso; simp [IntKind.wrap, IntKind.bits, IntKind.signed] at h; done) | (exfalso; simp only [decide_eq_false_iff_not, decide_eq_true_eq] at h; omega) | (cases h) | (try rw [h])))
    | ((with_reducible apply st_ev); (· rfl); (· simp only [sbe]; rfl))
    | ((with_reducible apply st_call); (· rfl); (· rfl); (· first | exact c104 _); (· rfl); (· simp only [sbe]; rfl))
    | (with_reducible refine st_nil ?_)
    | ((with_reducible apply st_ite); (· rfl); all_goals (intro h; (try simp only [Bool.not_true, Bool.not_false] at h); first | (cases h; done) | (exact absurd h (by decide)) | (exfalso; simp [IntKind.wrap, IntKind.bits, IntKind.signed] at h; done) | (exfalso; simp only [decide_eq_false_iff_not, decide_eq_true_eq] at h; omega) | (cases h) | skip)))
  all_goals (refine st_ret rfl ?_; simp_all [cmpD]; try omega)

def orD (x y : Int) : Int := if x = 0 then y else x

theorem c82 (x y : Int) : FSpecR Try.prog 82 (.st bs) [.lst [I x, I y]] (I (orD x y)) := by
  refine ok82.specR rfl (by kernel_rfl) rfl ?_
  unfold Entry.t e82 t82
  simp only [List.cons_append, List.nil_append]
  repeat' (first
    | ((with_reducible apply st_guard); (· rfl); (· simp only [sbe]; rfl); all_goals (intro h; (try simp only [Bool.not_true, Bool.not_false] at h); first | (cases h; done) | (exact absurd h (by decide)) | (exfalso; simp [IntKind.wrap, IntKind.bits, IntKind.signed] at h; done) | (exfalso; simp only [decide_eq_false_iff_not, decide_eq_true_eq] at h; omega) | (cases h) | (try rw [h])))
    | ((with_reducible apply st_cond); (· rfl); all_goals (intro h; (try simp only [Bool.not_true, Bool.not_false] at h); first | (cases h; done) | (exact absurd h (by decide)) | (exfalso; simp [IntKind.wrap, IntKind.bits, IntKind.signed] at h; done) | (exfalso; simp only [decide_eq_false_iff_not, decide_eq_true_eq] at h; omega) | (cases h) | (try rw [h])))
    | ((with_reducible apply st_callG); (· rfl); (· simp only [sbe]; rfl); all_goals (intro h; (try simp only [Bool.not_true, Bool.not_false] at h); first | (cases h; done) | (exact absurd h (by decide)) | (exfalso; simp [IntKind.wrap, IntKind.bits, IntKind.signed] at h; done) | (exfalso; simp only [decide_eq_false_iff_not, decide_eq_true_eq] at h; omega) | (cases h) | (try rw [h])))
    | ((with_reducible apply st_ev); (· rfl); (· simp only [sbe]; rfl))
    | ((with_reducible apply st_call); (· rfl); (· rfl); (· first | skip); (· rfl); (· simp only [sbe]; rfl))
    | (with_reducible refine st_nil ?_)
    | ((with_reducible apply st_ite); (· rfl); all_goals (intro h; (try simp only [Bool.not_true, Bool.not_false] at h); first | (cases h; done) | (exact absurd h (by decide)) | (exfalso; simp [IntKind.wrap, IntKind.bits, IntKind.signed] at h; done) | (exfalso; simp only [decide_eq_false_iff_not, decide_eq_true_eq] at h; omega) | (cases h) | skip)))
  refine st_join ?_
  refine ⟨[I 0], rfl, 3, rfl, ?_⟩
  simp only [List.cons_append, List.nil_append]
  repeat' (first
    | ((with_reducible apply st_guard); (· rfl); (· simp only [sbe]; rfl); all_goals (intro h; (try simp only [Bool.not_true, Bool.not_false] at h); first | (cases h; done) | (exact absurd h (by decide)) | (exfalso; simp [IntKind.wrap, IntKind.bits, IntKind.signed] at h; done) | (exfalso; simp only [decide_eq_false_iff_not, decide_eq_true_eq] at h; omega) | (cases h) | (try rw [h])))
    | ((with_reducible apply st_cond); (· rfl); all_goals (intro h; (try simp only [Bool.not_true, Bool.not_false] at h); first | (cases h; done) | (exact absurd h (by decide)) | (exfalso; simp [IntKind.wrap, IntKind.bits, IntKind.signed] at h; done) | (exfalso; simp only [decide_eq_false_iff_not, decide_eq_true_eq] at h; omega) | (cases h) | (try rw [h])))
    | ((with_reducible apply st_callG); (· rfl); (· simp only [sbe]; rfl); all_goals (intro h; (try simp only [Bool.not_true, Bool.not_false] at h); first | (cases h; done) | (exact absurd h (by decide)) | (exfalso; simp [IntKind.wrap, IntKind.bits, IntKind.signed] at h; done) | (exfalso; simp only [decide_eq_false_iff_not, decide_eq_true_eq] at h; omega) | (cases h) | (try rw [h])))
    | ((with_reducible apply st_ev); (· rfl); (· simp only [sbe]; rfl))
    | ((with_reducible apply st_call); (· rfl); (· rfl); (· first | skip); (· rfl); (· simp only [sbe]; rfl))
    | (with_reducible refine st_nil ?_)
    | ((with_reducible apply st_ite); (· rfl); all_goals (intro h; (try simp only [Bool.not_true, Bool.not_false] at h); first | (cases h; done) | (exact absurd h (by decide)) | (exfalso; simp [IntKind.wrap, IntKind.bits, IntKind.signed] at h; done) | (exfalso; simp only [decide_eq_false_iff_not, decide_eq_true_eq] at h; omega) | (cases h) | skip)))
  refine st_join ?_
  repeat' (first
    | ((with_reducible apply st_guard); (· rfl); (· simp only [sbe]; rfl); all_goals (intro h; (try simp only [Bool.not_true, Bool.not_false] at h); first | (cases h; done) | (exact absurd h (by decide)) | (exfalso; simp [IntKind.wrap, IntKind.bits, IntKind.signed] at h; done) | (exfalso; simp only [decide_eq_false_iff_not, decide_eq_true_eq] at h; omega) | (cases h) | (try rw [h])))
    | ((with_reducible apply st_cond); (· rfl); all_goals (intro h; (try simp only [Bool.not_true, Bool.not_false] at h); first | (cases h; done) | (exact absurd h (by decide)) | (exfalso; simp [IntKind.wrap, IntKind.bits, IntKind.signed] at h; done) | (exfalso; simp only [decide_eq_false_iff_not, decide_eq_true_eq] at h; omega) | (cases h) | (try rw [h])))
    | ((with_reducible apply st_callG); (· rfl); (· simp only [sbe]; rfl); all_goals (intro h; (try simp only [Bool.not_true, Bool.not_false] at h); first | (cases h; done) | (exact absurd h (by decide)) | (exfalso; simp [IntKind.wrap, IntKind.bits, IntKind.signed] at h; done) | (exfalso; simp only [decide_eq_false_iff_not, decide_eq_true_eq] at h; omega) | (cases h) | (try rw [h])))
    | ((with_reducible apply st_ev); (· rfl); (· simp only [sbe]; rfl))
    | ((with_reducible apply st_call); (· rfl); (· rfl); (· first | skip); (· rfl); (· simp only [sbe]; rfl))
    | (with_reducible refine st_nil ?_)
    | ((with_reducible apply st_ite); (· rfl); all_goals (intro h; (try simp only [Bool.not_true, Bool.not_false] at h); first | (cases h; done) | (exact absurd h (by decide)) | (exfalso; simp [IntKind.wrap, IntKind.bits, IntKind.signed] at h; done) | (exfalso; simp only [decide_eq_false_iff_not, decide_eq_true_eq] at h; omega) | (cases h) | skip)))
  · (with_reducible apply st_ret)
    · rfl
    · simp_all [catchL, orD]
  · refine st_jump rfl (at_jump ⟨rfl, ?_⟩)
    simp only [List.cons_append, List.nil_append]
    repeat' (first
      | ((with_reducible apply st_guard); (· rfl); (· simp only [sbe]; rfl); all_goals (intro h; (try simp only [Bool.not_true, Bool.not_false] at h); first | (cases h; done) | (exact absurd h (by decide)) | (exfalso; simp [IntKind.wrap, IntKind.bits, IntKind.signed] at h; done) | (exfalso; simp only [decide_eq_false_iff_not, decide_eq_true_eq] at h; omega) | (cases h) | (try rw [h])))
      | ((with_reducible apply st_cond); (· rfl); all_goals (intro h; (try simp only [Bool.not_true, Bool.not_false] at h); first | (cases h; done) | (exact absurd h (by decide)) | (exfalso; simp [IntKind.wrap, IntKind.bits, IntKind.signed] at h; done) | (exfalso; simp only [decide_eq_false_iff_not, decide_eq_true_eq] at h; omega) | (cases h) | (try rw [h])))
      | ((with_reducible apply st_callG); (· rfl); (· simp only [sbe]; rfl); all_goals (intro h; (try simp only [Bool.not_true, Bool.not_false] at h); first | (cases h; done) | (exact absurd h (by decide)) | (exfalso; simp [IntKind.wrap, IntKind.bits, IntKind.signed] at h; done) | (exfalso; simp only [decide_eq_false_iff_not, decide_eq_true_eq] at h; omega) | (cases h) | (try rw [h])))
      | ((with_reducible apply st_ev); (· rfl); (· simp only [sbe]; rfl))
      | ((with_reducible apply st_call); (· rfl); (· rfl); (· first | skip); (· rfl); (· simp only [sbe]; rfl))
      | (with_reducible refine st_nil ?_)
      | ((with_reducible apply st_ite); (· rfl); all_goals (intro h; (try simp only [Bool.not_true, Bool.not_false] at h); first | (cases h; done) | (exact absurd h (by decide)) | (exfalso; simp [IntKind.wrap, IntKind.bits, IntKind.signed] at h; done) | (exfalso; simp only [decide_eq_false_iff_not, decide_eq_true_eq] at h; omega) | (cases h) | skip)))
    refine st_jump rfl (at_jump ⟨rfl, ?_⟩)
    simp only [List.cons_append, List.nil_append]
    repeat' (first
      | ((with_reducible apply st_guard); (· rfl); (· simp only [sbe]; rfl); all_goals (intro h; (try simp only [Bool.not_true, Bool.not_false] at h); first | (cases h; done) | (exact absurd h (by decide)) | (exfalso; simp [IntKind.wrap, IntKind.bits, IntKind.signed] at h; done) | (exfalso; simp only [decide_eq_false_iff_not, decide_eq_true_eq] at h; omega) | (cases h) | (try rw [h])))
      | ((with_reducible apply st_cond); (· rfl); all_goals (intro h; (try simp only [Bool.not_true, Bool.not_false] at h); first | (cases h; done) | (exact absurd h (by decide)) | (exfalso; simp [IntKind.wrap, IntKind.bits, IntKind.signed] at h; done) | (exfalso; simp only [decide_eq_false_iff_not, decide_eq_true_eq] at h; omega) | (cases h) | (try rw [h])))
      | ((with_reducible apply st_callG); (· rfl); (· simp only [sbe]; rfl); all_goals (intro h; (try simp only [Bool.not_true, Bool.not_false] at h); first | (cases h; done) | (exact absurd h (by decide)) | (exfalso; simp [IntKind.wrap, IntKind.bits, IntKind.signed] at h; done) | (exfalso; simp only [decide_eq_false_iff_not, decide_eq_true_eq] at h; omega) | (cases h) | (try rw [h])))
      | ((with_reducible apply st_ev); (· rfl); (· simp only [sbe]; rfl))
      | ((with_reducible apply st_call); (· rfl); (· rfl); (· first | skip); (· rfl); (· simp only [sbe]; rfl))
      | (with_reducible refine st_nil ?_)
      | ((with_reducible apply st_ite); (· rfl); all_goals (intro h; (try simp only [Bool.not_true, Bool.not_false] at h); first | (cases h; done) | (exact absurd h (by decide)) | (exfalso; simp [IntKind.wrap, IntKind.bits, IntKind.signed] at h; done) | (exfalso; simp only [decide_eq_false_iff_not, decide_eq_true_eq] at h; omega) | (cases h) | skip)))
    refine st_join ?_
    repeat' (first
      | ((with_reducible apply st_guard); (· rfl); (· simp only [sbe]; rfl); all_goals (intro h; (try simp only [Bool.not_true, Bool.not_false] at h); first | (cases h; done) | (exact absurd h (by decide)) | (exfalso; simp [IntKind.wrap, IntKind.bits, IntKind.signed] at h; done) | (exfalso; simp only [decide_eq_false_iff_not, decide_eq_true_eq] at h; omega) | (cases h) | (try rw [h])))
      | ((with_reducible apply st_cond); (· rfl); all_goals (intro h; (try simp only [Bool.not_true, Bool.not_false] at h); first | (cases h; done) | (exact absurd h (by decide)) | (exfalso; simp [IntKind.wrap, IntKind.bits, IntKind.signed] at h; done) | (exfalso; simp only [decide_eq_false_iff_not, decide_eq_true_eq] at h; omega) | (cases h) | (try rw [h])))
      | ((with_reducible apply st_callG); (· rfl); (· simp only [sbe]; rfl); all_goals (intro h; (try simp only [Bool.not_true, Bool.not_false] at h); first | (cases h; done) | (exact absurd h (by decide)) | (exfalso; simp [IntKind.wrap, IntKind.bits, IntKind.signed] at h; done) | (exfalso; simp only [decide_eq_false_iff_not, decide_eq_true_eq] at h; omega) | (cases h) | (try rw [h])))
      | ((with_reducible apply st_ev); (· rfl); (· simp only [sbe]; rfl))
      | ((with_reducible apply st_call); (· rfl); (· rfl); (· first | skip); (· rfl); (· simp only [sbe]; rfl))
      | (with_reducible refine st_nil ?_)
      | ((with_reducible apply st_ite); (· rfl); all_goals (intro h; (try simp only [Bool.not_true, Bool.not_false] at h); first | (cases h; done) | (exact absurd h (by decide)) | (exfalso; simp [IntKind.wrap, IntKind.bits, IntKind.signed] at h; done) | (exfalso; simp only [decide_eq_false_iff_not, decide_eq_true_eq] at h; omega) | (cases h) | skip)))
    · (with_reducible apply st_ret)
      · rfl
      · simp_all [catchL, orD]
    · refine st_jump rfl (at_jump ⟨rfl, ?_⟩)
      simp only [List.cons_append, List.nil_append]
      repeat' (first
        | ((with_reducible apply st_guard); (· rfl); (· simp only [sbe]; rfl); all_goals (intro h; (try simp only [Bool.not_true, Bool.not_false] at h); first | (cases h; done) | (exact absurd h (by decide)) | (exfalso; simp [IntKind.wrap, IntKind.bits, IntKind.signed] at h; done) | (exfalso; simp only [decide_eq_false_iff_not, decide_eq_true_eq] at h; omega) | (cases h) | (try rw [h])))
        | ((with_reducible apply st_cond); (· rfl); all_goals (intro h; (try simp only [Bool.not_true, Bool.not_false] at h); first | (cases h; done) | (exact absurd h (by decide)) | (exfalso; simp [IntKind.wrap, IntKind.bits, IntKind.signed] at h; done) | (exfalso; simp only [decide_eq_false_iff_not, decide_eq_true_eq] at h; omega) | (cases h) | (try rw [h])))
        | ((with_reducible apply st_callG); (· rfl); (· simp only [sbe]; rfl); all_goals (intro h; (try simp only [Bool.not_true, Bool.not_false] at h); first | (cases h; done) | (exact absurd h (by decide)) | (exfalso; simp [IntKind.wrap, IntKind.bits, IntKind.signed] at h; done) | (exfalso; simp only [decide_eq_false_iff_not, decide_eq_true_eq] at h; omega) | (cases h) | (try rw [h])))
        | ((with_reducible apply st_ev); (· rfl); (· simp only [sbe]; rfl))
        | ((with_reducible apply st_call); (· rfl); (· rfl); (· first | skip); (· rfl); (· simp only [sbe]; rfl))
        | (with_reducible refine st_nil ?_)
        | ((with_reducible apply st_ite); (· rfl); all_goals (intro h; (try simp only [Bool.not_true, Bool.not_false] at h); first | (cases h; done) | (exact absurd h (by decide)) | (exfalso; simp [IntKind.wrap, IntKind.bits, IntKind.signed] at h; done) | (exfalso; simp only [decide_eq_false_iff_not, decide_eq_true_eq] at h; omega) | (cases h) | skip)))
      refine st_jump rfl (at_jump ⟨rfl, ?_⟩)
      simp only [List.cons_append, List.nil_append]
      repeat' (first
        | ((with_reducible apply st_guard); (· rfl); (· simp only [sbe]; rfl); all_goals (intro h; (try simp only [Bool.not_true, Bool.not_false] at h); first | (cases h; done) | (exact absurd h (by decide)) | (exfalso; simp [IntKind.wrap, IntKind.bits, IntKind.signed] at h; done) | (exfalso; simp only [decide_eq_false_iff_not, decide_eq_true_eq] at h; omega) | (cases h) | (try rw [h])))
        | ((with_reducible apply st_cond); (· rfl); all_goals (intro h; (try simp only [Bool.not_true, Bool.not_false] at h); first | (cases h; done) | (exact absurd h (by decide)) | (exfalso; simp [IntKind.wrap, IntKind.bits, IntKind.signed] at h; done) | (exfalso; simp only [decide_eq_false_iff_not, decide_eq_true_eq] at h; omega) | (cases h) | (try rw [h])))
        | ((with_reducible apply st_callG); (· rfl); (· simp only [sbe]; rfl); all_goals (intro h; (try simp only [Bool.not_true, Bool.not_false] at h); first | (cases h; done) | (exact absurd h (by decide)) | (exfalso; simp [IntKind.wrap, IntKind.bits, IntKind.signed] at h; done) | (exfalso; simp only [decide_eq_false_iff_not, decide_eq_true_eq] at h; omega) | (cases h) | (try rw [h])))
        | ((with_reducible apply st_ev); (· rfl); (· simp only [sbe]; rfl))
        | ((with_reducible apply st_call); (· rfl); (· rfl); (· first | skip); (· rfl); (· simp only [sbe]; rfl))
        | (with_reducible refine st_nil ?_)
        | ((with_reducible apply st_ite); (· rfl); all_goals (intro h; (try simp only [Bool.not_true, Bool.not_false] at h); first | (cases h; done) | (exact absurd h (by decide)) | (exfalso; simp [IntKind.wrap, IntKind.bits, IntKind.signed] at h; done) | (exfalso; simp only [decide_eq_false_iff_not, decide_eq_true_eq] at h; omega) | (cases h) | skip)))
      refine st_jump rfl (over_jump (Q := catchL 0 _ _) (by decide) (at_jump ⟨rfl, ?_⟩))
      refine st_ret rfl ?_
      simp_all [orD]

theorem okCode_no {c : Cod} {i : Nat} (h : i < c.arts.length) (hb : okAt c.arts i = false) : okCode c = false := by
  unfold okCode
  rw [Bool.and_eq_false_iff]
  right
  rw [List.all_eq_false]
  exact ⟨i, by simpa using h, by simp [hb]⟩

theorem okCode_yes {c : Cod} (hh : headBad c = false) (h : ∀ j, j < c.arts.length → okAt c.arts j = true) : okCode c = true := by
  unfold okCode
  rw [hh]
  simpa using h

theorem okAt_bad {xs : List Art} {i : Nat} {a : Art} (ha : xs[i]? = some a) (hb : artBad a = true) : okAt xs i = false := by simp [okAt, ha, hb]

theorem bad_at {xs : List Art} {j : Nat} {a b : Art} (ha : xs[j + 1]? = some a) (hb : xs[j]? = some b) (h : artBad a = true ∨ pairBad b a = true) : okAt xs (j + 1) = false := by
  unfold okAt
  rw [ha]
  simp only [hb]
  rcases h with h | h <;> simp [h]

theorem okAt_zero {xs : List Art} {a : Art} (ha : xs[0]? = some a) (hb : artBad a = false) : okAt xs 0 = true := by unfold okAt; rw [ha]; simp [hb]

theorem okAt_succ {xs : List Art} {j : Nat} {a b : Art} (ha : xs[j + 1]? = some a) (hb : xs[j]? = some b) (hA : artBad a = false) : okAt xs (j + 1) = !pairBad b a := by unfold okAt; rw [ha]; simp only [hb, hA]; simp

theorem pair_eq (b a : Art) : pairBad b a = decide (0 ≤ orD (cmpD b.n a.n) (cmpD b.f a.f)) := by
  unfold pairBad orD cmpD
  rw [Bool.eq_iff_iff]
  simp only [Bool.or_eq_true, Bool.and_eq_true, decide_eq_true_eq]
  split <;> split <;> first | omega | (split <;> omega) | (split <;> split <;> omega)

theorem st_sub {P : Program} {t : T} {bs : List Bind} {env env2 : List D} {Q : Sig → Prop} {y z : E} {i : Nat} (hy : y.eval env = some (I (i + 1 : Nat))) (hz : z.eval env = some (I 1)) (hi : i + 1 ≤ 1000000000) (he : env ++ [I i] = env2) (k : den P (wrapBinds bs t) env2 Q) : den P (wrapBinds (.ev (.bin .sub .int y z) :: bs) t) env Q := by
  subst he
  exact ⟨_, by simp only [E.eval, hy, hz, Option.bind_some]; exact sub_one hi, k⟩

theorem st_eaddr {P : Program} {t : T} {bs : List Bind} {env env2 : List D} {Q : Sig → Prop} {y z : E} {i : Nat} {xs : List Art} {a : Art} (hy : y.eval env = some (.lst (xs.map Art.d))) (hz : z.eval env = some (I i)) (ha : xs[i]? = some a) (he : env ++ [.ptr [I a.n, I a.f, I a.l, I a.m]] = env2) (k : den P (wrapBinds bs t) env2 Q) : den P (wrapBinds (.ev (.eaddr 4 y z) :: bs) t) env Q := by
  subst he
  exact ⟨_, by simp only [E.eval, hy, hz, Option.bind_some]; exact eaddr_at ha, k⟩

attribute [local irreducible] inR

theorem c41 (c : Cod) : FSpecR Try.prog 41 (.st bs) [c.d] (I (if okCode c then 0 else 2)) := by
  refine ok41.specR rfl (by kernel_rfl) rfl ?_
  unfold Entry.t e41 t41
  simp only [List.cons_append, List.nil_append]
  repeat' (first
    | ((with_reducible apply st_guard); (· rfl); (· simp only [sbe]; rfl); all_goals (intro h; (try simp only [Bool.not_true, Bool.not_false] at h); first | (cases h; done) | (exact absurd h (by decide)) | (exfalso; simp [IntKind.wrap, IntKind.bits, IntKind.signed] at h; done) | (exfalso; simp only [decide_eq_false_iff_not, decide_eq_true_eq] at h; omega) | (cases h) | (try rw [h])))
    | ((with_reducible apply st_cond); (· rfl); all_goals (intro h; (try simp only [Bool.not_true, Bool.not_false] at h); first | (cases h; done) | (exact absurd h (by decide)) | (exfalso; simp [IntKind.wrap, IntKind.bits, IntKind.signed] at h; done) | (exfalso; simp only [decide_eq_false_iff_not, decide_eq_true_eq] at h; omega) | (cases h) | (try rw [h])))
    | ((with_reducible apply st_callG); (· rfl); (· simp only [sbe]; rfl); all_goals (intro h; (try simp only [Bool.not_true, Bool.not_false] at h); first | (cases h; done) | (exact absurd h (by decide)) | (exfalso; simp [IntKind.wrap, IntKind.bits, IntKind.signed] at h; done) | (exfalso; simp only [decide_eq_false_iff_not, decide_eq_true_eq] at h; omega) | (cases h) | (try rw [h])))
    | ((with_reducible apply st_ev); (· rfl); (· simp only [sbe]; rfl))
    | ((with_reducible apply st_call); (· rfl); (· rfl); (· first | exact c52 _ _ _); (· rfl); (· simp only [sbe]; rfl))
    | (with_reducible refine st_nil ?_)
    | ((with_reducible apply st_ite); (· rfl); all_goals (intro h; (try simp only [Bool.not_true, Bool.not_false] at h); first | (cases h; done) | (exact absurd h (by decide)) | (exfalso; simp [IntKind.wrap, IntKind.bits, IntKind.signed] at h; done) | (exfalso; simp only [decide_eq_false_iff_not, decide_eq_true_eq] at h; omega) | (cases h) | skip)))
  all_goals first | ((with_reducible apply st_ret); (· rfl); simp_all [okCode, headBad]; done) | skip
  have hh : headBad c = false := by simp_all [headBad]
  have hl : c.arts.length ≤ 500 := by
    have : inR (c.arts.length : Int) 1 500 = true := by simp_all
    unfold inR at this
    simp at this
    omega
  refine st_join ?_
  refine st_loop (fun k ds => ∃ i : Nat, ds = [I i] ∧ k = c.arts.length - i ∧ i ≤ c.arts.length ∧ ∀ j, j < i → okAt c.arts j = true) rfl c.arts.length ⟨0, rfl, rfl, Nat.zero_le _, fun _ h => absurd h (Nat.not_lt_zero _)⟩ ?_
  rintro k _ ⟨i, rfl, hk, hi, hall⟩
  refine ⟨rfl, fun R hR => ?_⟩
  simp only [List.cons_append, List.nil_append]
  refine st_ev rfl (by simp only [sbe]; rfl) (st_nil (st_ite rfl (fun hc => ?_) (fun hc => ?_)))
  · have hlt : i < c.arts.length := by simpa using hc
    obtain ⟨a, ha⟩ : ∃ a, c.arts[i]? = some a := ⟨_, List.getElem?_eq_getElem hlt⟩
    refine st_join ?_
    refine st_ev (eaddr_at ha) (by simp only [sbe]; rfl) ?_
    repeat' (first
      | ((with_reducible apply st_guard); (· rfl); (· simp only [sbe]; rfl); all_goals (intro h; (try simp only [Bool.not_true, Bool.not_false] at h); first | (cases h; done) | (exact absurd h (by decide)) | (exfalso; simp [IntKind.wrap, IntKind.bits, IntKind.signed] at h; done) | (exfalso; simp only [decide_eq_false_iff_not, decide_eq_true_eq] at h; omega) | (cases h) | (try rw [h])))
      | ((with_reducible apply st_cond); (· rfl); all_goals (intro h; (try simp only [Bool.not_true, Bool.not_false] at h); first | (cases h; done) | (exact absurd h (by decide)) | (exfalso; simp [IntKind.wrap, IntKind.bits, IntKind.signed] at h; done) | (exfalso; simp only [decide_eq_false_iff_not, decide_eq_true_eq] at h; omega) | (cases h) | (try rw [h])))
      | ((with_reducible apply st_callG); (· rfl); (· simp only [sbe]; rfl); all_goals (intro h; (try simp only [Bool.not_true, Bool.not_false] at h); first | (cases h; done) | (exact absurd h (by decide)) | (exfalso; simp [IntKind.wrap, IntKind.bits, IntKind.signed] at h; done) | (exfalso; simp only [decide_eq_false_iff_not, decide_eq_true_eq] at h; omega) | (cases h) | (try rw [h])))
      | ((with_reducible apply st_ev); (· rfl); (· simp only [sbe]; rfl))
      | ((with_reducible apply st_call); (· rfl); (· rfl); (· first | exact c52 _ _ _); (· rfl); (· simp only [sbe]; rfl))
      | (with_reducible refine st_nil ?_)
      | ((with_reducible apply st_ite); (· rfl); all_goals (intro h; (try simp only [Bool.not_true, Bool.not_false] at h); first | (cases h; done) | (exact absurd h (by decide)) | (exfalso; simp [IntKind.wrap, IntKind.bits, IntKind.signed] at h; done) | (exfalso; simp only [decide_eq_false_iff_not, decide_eq_true_eq] at h; omega) | (cases h) | skip)))
    all_goals first | ((with_reducible apply st_ret); (· rfl); (have hb : okAt c.arts i = false := okAt_bad ha (by simp_all [artBad])); simp only [catchL, okCode_no hlt hb]; rfl) | skip
    · rename_i h
      have hA : artBad a = false := by
        unfold artBad
        have h' : decide (36000000 < a.m) = false := h
        simp_all
      refine st_join ?_
      refine st_ite rfl (fun hp => ?_) (fun hp => ?_)
      · cases i with
        | zero => simp at hp
        | succ j =>
          obtain ⟨b, hb⟩ : ∃ b, c.arts[j]? = some b := ⟨_, List.getElem?_eq_getElem (by omega)⟩
          refine st_ev (sub_one (by omega)) (by simp only [sbe]; rfl) ?_
          refine st_ev (eaddr_at hb) (by simp only [sbe]; rfl) ?_
          repeat' (first
            | ((with_reducible apply st_guard); (· rfl); (· simp only [sbe]; rfl); all_goals (intro h; (try simp only [Bool.not_true, Bool.not_false] at h); first | (cases h; done) | (exact absurd h (by decide)) | (exfalso; simp [IntKind.wrap, IntKind.bits, IntKind.signed] at h; done) | (exfalso; simp only [decide_eq_false_iff_not, decide_eq_true_eq] at h; omega) | (cases h) | (try rw [h])))
            | ((with_reducible apply st_cond); (· rfl); all_goals (intro h; (try simp only [Bool.not_true, Bool.not_false] at h); first | (cases h; done) | (exact absurd h (by decide)) | (exfalso; simp [IntKind.wrap, IntKind.bits, IntKind.signed] at h; done) | (exfalso; simp only [decide_eq_false_iff_not, decide_eq_true_eq] at h; omega) | (cases h) | (try rw [h])))
            | ((with_reducible apply st_callG); (· rfl); (· simp only [sbe]; rfl); all_goals (intro h; (try simp only [Bool.not_true, Bool.not_false] at h); first | (cases h; done) | (exact absurd h (by decide)) | (exfalso; simp [IntKind.wrap, IntKind.bits, IntKind.signed] at h; done) | (exfalso; simp only [decide_eq_false_iff_not, decide_eq_true_eq] at h; omega) | (cases h) | (try rw [h])))
            | ((with_reducible apply st_ev); (· rfl); (· simp only [sbe]; rfl))
            | ((with_reducible apply st_call); (· rfl); (· rfl); (· first | exact c83 _ _ | exact c82 _ _); (· rfl); (· simp only [sbe]; rfl))
            | (with_reducible refine st_nil ?_)
            | ((with_reducible apply st_ite); (· rfl); all_goals (intro h; (try simp only [Bool.not_true, Bool.not_false] at h); first | (cases h; done) | (exact absurd h (by decide)) | (exfalso; simp [IntKind.wrap, IntKind.bits, IntKind.signed] at h; done) | (exfalso; simp only [decide_eq_false_iff_not, decide_eq_true_eq] at h; omega) | (cases h) | skip)))
          · (with_reducible apply st_ret)
            · rfl
            · have h' : decide (0 ≤ orD (cmpD b.n a.n) (cmpD b.f a.f)) = true := h
              have hb2 : okAt c.arts (j + 1) = false := by rw [okAt_succ ha hb hA, pair_eq, h']; rfl
              simp only [catchL, okCode_no hlt hb2]
              rfl
          · have h' : decide (0 ≤ orD (cmpD b.n a.n) (cmpD b.f a.f)) = false := h
            refine st_jump rfl (at_jump ⟨rfl, ?_⟩)
            simp only [List.cons_append, List.nil_append]
            refine st_jump rfl (at_jump ⟨rfl, ?_⟩)
            simp only [List.cons_append, List.nil_append]
            refine st_ev (add_one (i := j + 1) (by omega)) (by simp only [sbe]; rfl) (st_nil (st_jump rfl (at_jump (hR _ _ ?_ ⟨j + 1 + 1, rfl, rfl, by omega, fun q hq => ?_⟩))))
            · omega
            · rcases Nat.lt_or_ge q (j + 1) with h1 | h1
              · exact hall _ h1
              · have e : q = j + 1 := by omega
                rw [e]
                rw [okAt_succ ha hb hA, pair_eq, h']; rfl
      · have hi0 : i = 0 := by simp at hp; omega
        subst hi0
        refine st_jump rfl (at_jump ⟨rfl, ?_⟩)
        simp only [List.cons_append, List.nil_append]
        refine st_jump rfl (at_jump ⟨rfl, ?_⟩)
        simp only [List.cons_append, List.nil_append]
        refine st_ev (add_one (i := 0) (by omega)) (by simp only [sbe]; rfl) (st_nil (st_jump rfl (at_jump (hR _ _ ?_ ⟨0 + 1, rfl, rfl, by omega, fun q hq => ?_⟩))))
        · omega
        · rcases Nat.lt_or_ge q (0) with h1 | h1
          · exact hall _ h1
          · have e : q = 0 := by omega
            rw [e]
            exact okAt_zero ha hA
  · refine st_jump rfl (over_jump (by decide) (at_jump ⟨rfl, ?_⟩))
    refine st_ret rfl ?_
    have hlen : i = c.arts.length := by simp at hc; omega
    rw [okCode_yes hh (by rw [← hlen]; exact hall)]
    rfl

theorem c23 (c : Cod) : FSpecR Try.prog 23 (.st bs) [c.d] (B (okCode c)) := by
  refine ok23.specR rfl (by kernel_rfl) rfl ?_
  unfold Entry.t e23 t23
  simp only [List.cons_append, List.nil_append]
  repeat' (first
    | ((with_reducible apply st_guard); (· rfl); (· simp only [sbe]; rfl); all_goals (intro h; (try simp only [Bool.not_true, Bool.not_false] at h); first | (cases h; done) | (exact absurd h (by decide)) | (exfalso; simp [IntKind.wrap, IntKind.bits, IntKind.signed] at h; done) | (exfalso; simp only [decide_eq_false_iff_not, decide_eq_true_eq] at h; omega) | (cases h) | (try rw [h])))
    | ((with_reducible apply st_cond); (· rfl); all_goals (intro h; (try simp only [Bool.not_true, Bool.not_false] at h); first | (cases h; done) | (exact absurd h (by decide)) | (exfalso; simp [IntKind.wrap, IntKind.bits, IntKind.signed] at h; done) | (exfalso; simp only [decide_eq_false_iff_not, decide_eq_true_eq] at h; omega) | (cases h) | (try rw [h])))
    | ((with_reducible apply st_callG); (· rfl); (· simp only [sbe]; rfl); all_goals (intro h; (try simp only [Bool.not_true, Bool.not_false] at h); first | (cases h; done) | (exact absurd h (by decide)) | (exfalso; simp [IntKind.wrap, IntKind.bits, IntKind.signed] at h; done) | (exfalso; simp only [decide_eq_false_iff_not, decide_eq_true_eq] at h; omega) | (cases h) | (try rw [h])))
    | ((with_reducible apply st_ev); (· rfl); (· simp only [sbe]; rfl))
    | ((with_reducible apply st_call); (· rfl); (· rfl); (· first | exact c55 _ _ _); (· rfl); (· simp only [sbe]; rfl))
    | (with_reducible refine st_nil ?_)
    | ((with_reducible apply st_ite); (· rfl); all_goals (intro h; (try simp only [Bool.not_true, Bool.not_false] at h); first | (cases h; done) | (exact absurd h (by decide)) | (exfalso; simp [IntKind.wrap, IntKind.bits, IntKind.signed] at h; done) | (exfalso; simp only [decide_eq_false_iff_not, decide_eq_true_eq] at h; omega) | (cases h) | skip)))
  all_goals first | ((with_reducible apply st_ret); (· rfl); simp_all [okCode, headBad]; done) | skip
  have hh : headBad c = false := by simp_all [headBad]
  have hl : c.arts.length ≤ 500 := by
    have : inR (c.arts.length : Int) 1 500 = true := by simp_all
    unfold inR at this
    simp at this
    omega
  refine st_join ?_
  refine st_loop (fun k ds => ∃ i : Nat, ds = [I i] ∧ k = c.arts.length - i ∧ i ≤ c.arts.length ∧ ∀ j, j < i → okAt c.arts j = true) rfl c.arts.length ⟨0, rfl, rfl, Nat.zero_le _, fun _ h => absurd h (Nat.not_lt_zero _)⟩ ?_
  rintro k _ ⟨i, rfl, hk, hi, hall⟩
  refine ⟨rfl, fun R hR => ?_⟩
  simp only [List.cons_append, List.nil_append]
  refine st_ev rfl (by simp only [sbe]; rfl) (st_ev rfl (by simp only [sbe]; rfl) (st_nil (st_ite rfl (fun hc => ?_) (fun hc => ?_))))
  · have hlt : i < c.arts.length := by simpa using hc
    obtain ⟨a, ha⟩ : ∃ a, c.arts[i]? = some a := ⟨_, List.getElem?_eq_getElem hlt⟩
    refine st_join ?_
    rcases i with _ | j
    · skip
      repeat' (first
        | ((with_reducible apply st_sub); (· rfl); (· rfl); (· omega); (· simp only [sbe]; rfl))
        | ((with_reducible apply st_eaddr); (· rfl); (· rfl); (· first | exact ha); (· simp only [sbe]; rfl))
        | ((with_reducible apply st_guard); (· rfl); (· simp only [sbe]; rfl); all_goals (intro h; (try simp only [Bool.not_true, Bool.not_false] at h); first | (cases h; done) | (exact absurd h (by decide)) | (exfalso; simp [IntKind.wrap, IntKind.bits, IntKind.signed] at h; done) | (exfalso; simp only [decide_eq_false_iff_not, decide_eq_true_eq] at h; omega) | (cases h) | (try rw [h])))
        | ((with_reducible apply st_cond); (· rfl); all_goals (intro h; (try simp only [Bool.not_true, Bool.not_false] at h); first | (cases h; done) | (exact absurd h (by decide)) | (exfalso; simp [IntKind.wrap, IntKind.bits, IntKind.signed] at h; done) | (exfalso; simp only [decide_eq_false_iff_not, decide_eq_true_eq] at h; omega) | (cases h) | (try rw [h])))
        | ((with_reducible apply st_callG); (· rfl); (· simp only [sbe]; rfl); all_goals (intro h; (try simp only [Bool.not_true, Bool.not_false] at h); first | (cases h; done) | (exact absurd h (by decide)) | (exfalso; simp [IntKind.wrap, IntKind.bits, IntKind.signed] at h; done) | (exfalso; simp only [decide_eq_false_iff_not, decide_eq_true_eq] at h; omega) | (cases h) | (try rw [h])))
        | ((with_reducible apply st_ev); (· rfl); (· simp only [sbe]; rfl))
        | ((with_reducible apply st_call); (· rfl); (· rfl); (· first | exact c55 _ _ _); (· rfl); (· simp only [sbe]; rfl))
        | (with_reducible refine st_nil ?_)
        | ((with_reducible apply st_ite); (· rfl); all_goals (intro h; (try simp only [Bool.not_true, Bool.not_false] at h); first | (cases h; done) | (exact absurd h (by decide)) | (exfalso; simp [IntKind.wrap, IntKind.bits, IntKind.signed] at h; done) | (exfalso; simp only [decide_eq_false_iff_not, decide_eq_true_eq] at h; omega) | (cases h) | skip)))
      all_goals first | ((with_reducible apply st_ret); (· rfl); (have hb2 : okAt c.arts 0 = false := okAt_bad ha (by simp_all [artBad])); simp only [catchL, okCode_no hlt hb2]; (try rfl); done) | skip
      · have hA : artBad a = false := by simp_all [artBad]
        refine st_jump rfl (at_jump ⟨rfl, ?_⟩)
        simp only [List.cons_append, List.nil_append]
        refine st_ev (add_one (i := 0) (by omega)) (by simp only [sbe]; rfl) (st_nil (st_jump rfl (at_jump (hR _ _ ?_ ⟨0 + 1, rfl, rfl, by omega, fun q hq => ?_⟩))))
        · omega
        · rcases Nat.lt_or_ge q (0) with h1 | h1
          · exact hall _ h1
          · have e : q = 0 := by omega
            rw [e]
            exact okAt_zero ha hA

    · obtain ⟨b, hb⟩ : ∃ b, c.arts[j]? = some b := ⟨_, List.getElem?_eq_getElem (by omega)⟩
      repeat' (first
        | ((with_reducible apply st_sub); (· rfl); (· rfl); (· omega); (· simp only [sbe]; rfl))
        | ((with_reducible apply st_eaddr); (· rfl); (· rfl); (· first | exact ha | exact hb); (· simp only [sbe]; rfl))
        | ((with_reducible apply st_guard); (· rfl); (· simp only [sbe]; rfl); all_goals (intro h; (try simp only [Bool.not_true, Bool.not_false] at h); first | (cases h; done) | (exact absurd h (by decide)) | (exfalso; simp [IntKind.wrap, IntKind.bits, IntKind.signed] at h; done) | (exfalso; simp only [decide_eq_false_iff_not, decide_eq_true_eq] at h; omega) | (cases h) | (try rw [h])))
        | ((with_reducible apply st_cond); (· rfl); all_goals (intro h; (try simp only [Bool.not_true, Bool.not_false] at h); first | (cases h; done) | (exact absurd h (by decide)) | (exfalso; simp [IntKind.wrap, IntKind.bits, IntKind.signed] at h; done) | (exfalso; simp only [decide_eq_false_iff_not, decide_eq_true_eq] at h; omega) | (cases h) | (try rw [h])))
        | ((with_reducible apply st_callG); (· rfl); (· simp only [sbe]; rfl); all_goals (intro h; (try simp only [Bool.not_true, Bool.not_false] at h); first | (cases h; done) | (exact absurd h (by decide)) | (exfalso; simp [IntKind.wrap, IntKind.bits, IntKind.signed] at h; done) | (exfalso; simp only [decide_eq_false_iff_not, decide_eq_true_eq] at h; omega) | (cases h) | (try rw [h])))
        | ((with_reducible apply st_ev); (· rfl); (· simp only [sbe]; rfl))
        | ((with_reducible apply st_call); (· rfl); (· rfl); (· first | exact c55 _ _ _); (· rfl); (· simp only [sbe]; rfl))
        | (with_reducible refine st_nil ?_)
        | ((with_reducible apply st_ite); (· rfl); all_goals (intro h; (try simp only [Bool.not_true, Bool.not_false] at h); first | (cases h; done) | (exact absurd h (by decide)) | (exfalso; simp [IntKind.wrap, IntKind.bits, IntKind.signed] at h; done) | (exfalso; simp only [decide_eq_false_iff_not, decide_eq_true_eq] at h; omega) | (cases h) | skip)))
      all_goals first | ((with_reducible apply st_ret); (· rfl); (have hb2 : okAt c.arts (j + 1) = false := bad_at ha hb (by simp_all [artBad, pairBad])); simp only [catchL, okCode_no hlt hb2]; (try rfl); done) | skip
      all_goals have hA : artBad a = false := by simp_all [artBad]
      all_goals have hP : pairBad b a = false := by simp_all [pairBad]
      all_goals (
        refine st_jump rfl (at_jump ⟨rfl, ?_⟩)
        simp only [List.cons_append, List.nil_append]
        refine st_ev (add_one (i := j + 1) (by omega)) (by simp only [sbe]; rfl) (st_nil (st_jump rfl (at_jump (hR _ _ ?_ ⟨j + 1 + 1, rfl, rfl, by omega, fun q hq => ?_⟩))))
        · omega
        · rcases Nat.lt_or_ge q (j + 1) with h1 | h1
          · exact hall _ h1
          · have e : q = j + 1 := by omega
            rw [e]
            rw [okAt_succ ha hb hA, hP]; rfl)
  · refine st_jump rfl (over_jump (by decide) (at_jump ⟨rfl, ?_⟩))
    refine st_ret rfl ?_
    have hlen : i = c.arts.length := by simp at hc; omega
    rw [okCode_yes hh (by rw [← hlen]; exact hall)]

theorem c21 (c : Cod) : FSpecR Try.prog 21 (.st bs) [c.d] (B (decide ((c.arts.length : Int) ≤ 20) || (decide (500 < (c.arts.length : Int)) && decide ((c.arts.length : Int) < 600)))) := by
  refine ok21.specR rfl (by kernel_rfl) rfl ?_
  unfold Entry.t e21 t21
  simp only [List.cons_append, List.nil_append]
  repeat' (first
    | ((with_reducible apply st_guard); (· rfl); (· simp only [sbe]; rfl); all_goals (intro h; (try simp only [Bool.not_true, Bool.not_false] at h); first | (cases h; done) | (exact absurd h (by decide)) | (exfalso; simp [IntKind.wrap, IntKind.bits, IntKind.signed] at h; done) | (exfalso; simp only [decide_eq_false_iff_not, decide_eq_true_eq] at h; omega) | (cases h) | (try rw [h])))
    | ((with_reducible apply st_cond); (· rfl); all_goals (intro h; (try simp only [Bool.not_true, Bool.not_false] at h); first | (cases h; done) | (exact absurd h (by decide)) | (exfalso; simp [IntKind.wrap, IntKind.bits, IntKind.signed] at h; done) | (exfalso; simp only [decide_eq_false_iff_not, decide_eq_true_eq] at h; omega) | (cases h) | (try rw [h])))
    | ((with_reducible apply st_callG); (· rfl); (· simp only [sbe]; rfl); all_goals (intro h; (try simp only [Bool.not_true, Bool.not_false] at h); first | (cases h; done) | (exact absurd h (by decide)) | (exfalso; simp [IntKind.wrap, IntKind.bits, IntKind.signed] at h; done) | (exfalso; simp only [decide_eq_false_iff_not, decide_eq_true_eq] at h; omega) | (cases h) | (try rw [h])))
    | ((with_reducible apply st_ev); (· rfl); (· simp only [sbe]; rfl))
    | ((with_reducible apply st_call); (· rfl); (· rfl); (· first | skip); (· rfl); (· simp only [sbe]; rfl))
    | (with_reducible refine st_nil ?_)
    | ((with_reducible apply st_ite); (· rfl); all_goals (intro h; (try simp only [Bool.not_true, Bool.not_false] at h); first | (cases h; done) | (exact absurd h (by decide)) | (exfalso; simp [IntKind.wrap, IntKind.bits, IntKind.signed] at h; done) | (exfalso; simp only [decide_eq_false_iff_not, decide_eq_true_eq] at h; omega) | (cases h) | skip)))
  all_goals ((with_reducible apply st_ret); (· rfl); simp_all; try (intros; omega))

def hit (n m : Int) (a : Art) : Bool := decide (a.n = n) && decide (a.f ≤ m)

def ver (xs : List Art) (n m : Int) : Nat → Int
  | 0 => -1
  | i + 1 => match xs[i]? with
    | some a => if hit n m a then (i : Int) else ver xs n m i
    | none => ver xs n m i

def verArt (xs : List Art) (n m : Int) : Nat → Option Art
  | 0 => none
  | i + 1 => match xs[i]? with
    | some a => if hit n m a then some a else verArt xs n m i
    | none => verArt xs n m i

theorem ver_spec (xs : List Art) (n m : Int) : ∀ i, (ver xs n m i = -1 ∧ verArt xs n m i = none) ∨ ∃ (j : Nat) (a : Art), ver xs n m i = j ∧ xs[j]? = some a ∧ verArt xs n m i = some a
  | 0 => .inl ⟨rfl, rfl⟩
  | i + 1 => by
    simp only [ver, verArt]
    cases h : xs[i]? with
    | none => exact ver_spec xs n m i
    | some a =>
      simp only
      split
      · exact .inr ⟨i, a, rfl, h, rfl⟩
      · exact ver_spec xs n m i

theorem c81 (c : Cod) (n m : Int) (hl : c.arts.length ≤ 1000) : FSpecR Try.prog 81 (.st bs) [c.d, I n, I m] (.tup [I (ver c.arts n m c.arts.length), B (decide (0 ≤ ver c.arts n m c.arts.length))]) := by
  refine ok81.specR rfl (by kernel_rfl) rfl ?_
  unfold Entry.t e81 t81
  simp only [List.cons_append, List.nil_append]
  repeat' (first
    | ((with_reducible apply st_guard); (· rfl); (· simp only [sbe]; rfl); all_goals (intro h; (try simp only [Bool.not_true, Bool.not_false] at h); first | (cases h; done) | (exact absurd h (by decide)) | (exfalso; simp [IntKind.wrap, IntKind.bits, IntKind.signed] at h; done) | (exfalso; simp only [decide_eq_false_iff_not, decide_eq_true_eq] at h; omega) | (cases h) | (try rw [h])))
    | ((with_reducible apply st_cond); (· rfl); all_goals (intro h; (try simp only [Bool.not_true, Bool.not_false] at h); first | (cases h; done) | (exact absurd h (by decide)) | (exfalso; simp [IntKind.wrap, IntKind.bits, IntKind.signed] at h; done) | (exfalso; simp only [decide_eq_false_iff_not, decide_eq_true_eq] at h; omega) | (cases h) | (try rw [h])))
    | ((with_reducible apply st_callG); (· rfl); (· simp only [sbe]; rfl); all_goals (intro h; (try simp only [Bool.not_true, Bool.not_false] at h); first | (cases h; done) | (exact absurd h (by decide)) | (exfalso; simp [IntKind.wrap, IntKind.bits, IntKind.signed] at h; done) | (exfalso; simp only [decide_eq_false_iff_not, decide_eq_true_eq] at h; omega) | (cases h) | (try rw [h])))
    | ((with_reducible apply st_ev); (· rfl); (· simp only [sbe]; rfl))
    | ((with_reducible apply st_call); (· rfl); (· rfl); (· first | skip); (· rfl); (· simp only [sbe]; rfl))
    | (with_reducible refine st_nil ?_)
    | ((with_reducible apply st_ite); (· rfl); all_goals (intro h; (try simp only [Bool.not_true, Bool.not_false] at h); first | (cases h; done) | (exact absurd h (by decide)) | (exfalso; simp [IntKind.wrap, IntKind.bits, IntKind.signed] at h; done) | (exfalso; simp only [decide_eq_false_iff_not, decide_eq_true_eq] at h; omega) | (cases h) | skip)))
  refine st_join ?_
  refine st_loop (fun k ds => ∃ i : Nat, ds = [I (ver c.arts n m i), I i] ∧ k = c.arts.length - i ∧ i ≤ c.arts.length) rfl c.arts.length ⟨0, rfl, rfl, Nat.zero_le _⟩ ?_
  rintro k _ ⟨i, rfl, hk, hi⟩
  refine ⟨rfl, fun R hR => ?_⟩
  simp only [List.cons_append, List.nil_append]
  refine st_ev rfl (by simp only [sbe]; rfl) (st_nil (st_ite rfl (fun hc => ?_) (fun hc => ?_)))
  · have hlt : i < c.arts.length := by simpa using hc
    obtain ⟨a, ha⟩ : ∃ a, c.arts[i]? = some a := ⟨_, List.getElem?_eq_getElem hlt⟩
    refine st_join ?_
    repeat' (first
      | ((with_reducible apply st_sub); (· rfl); (· rfl); (· omega); (· simp only [sbe]; rfl))
      | ((with_reducible apply st_eaddr); (· rfl); (· rfl); (· first | exact ha); (· simp only [sbe]; rfl))
      | ((with_reducible apply st_guard); (· rfl); (· simp only [sbe]; rfl); all_goals (intro h; (try simp only [Bool.not_true, Bool.not_false] at h); first | (cases h; done) | (exact absurd h (by decide)) | (exfalso; simp [IntKind.wrap, IntKind.bits, IntKind.signed] at h; done) | (exfalso; simp only [decide_eq_false_iff_not, decide_eq_true_eq] at h; omega) | (cases h) | (try rw [h])))
      | ((with_reducible apply st_cond); (· rfl); all_goals (intro h; (try simp only [Bool.not_true, Bool.not_false] at h); first | (cases h; done) | (exact absurd h (by decide)) | (exfalso; simp [IntKind.wrap, IntKind.bits, IntKind.signed] at h; done) | (exfalso; simp only [decide_eq_false_iff_not, decide_eq_true_eq] at h; omega) | (cases h) | (try rw [h])))
      | ((with_reducible apply st_callG); (· rfl); (· simp only [sbe]; rfl); all_goals (intro h; (try simp only [Bool.not_true, Bool.not_false] at h); first | (cases h; done) | (exact absurd h (by decide)) | (exfalso; simp [IntKind.wrap, IntKind.bits, IntKind.signed] at h; done) | (exfalso; simp only [decide_eq_false_iff_not, decide_eq_true_eq] at h; omega) | (cases h) | (try rw [h])))
      | ((with_reducible apply st_ev); (· rfl); (· simp only [sbe]; rfl))
      | ((with_reducible apply st_call); (· rfl); (· rfl); (· first | skip); (· rfl); (· simp only [sbe]; rfl))
      | (with_reducible refine st_nil ?_)
      | ((with_reducible apply st_ite); (· rfl); all_goals (intro h; (try simp only [Bool.not_true, Bool.not_false] at h); first | (cases h; done) | (exact absurd h (by decide)) | (exfalso; simp [IntKind.wrap, IntKind.bits, IntKind.signed] at h; done) | (exfalso; simp only [decide_eq_false_iff_not, decide_eq_true_eq] at h; omega) | (cases h) | skip)))
    all_goals refine st_join ?_
    repeat' (first
      | ((with_reducible apply st_guard); (· rfl); (· simp only [sbe]; rfl); all_goals (intro h; (try simp only [Bool.not_true, Bool.not_false] at h); first | (cases h; done) | (exact absurd h (by decide)) | (exfalso; simp [IntKind.wrap, IntKind.bits, IntKind.signed] at h; done) | (exfalso; simp only [decide_eq_false_iff_not, decide_eq_true_eq] at h; omega) | (cases h) | (try rw [h])))
      | ((with_reducible apply st_cond); (· rfl); all_goals (intro h; (try simp only [Bool.not_true, Bool.not_false] at h); first | (cases h; done) | (exact absurd h (by decide)) | (exfalso; simp [IntKind.wrap, IntKind.bits, IntKind.signed] at h; done) | (exfalso; simp only [decide_eq_false_iff_not, decide_eq_true_eq] at h; omega) | (cases h) | (try rw [h])))
      | ((with_reducible apply st_callG); (· rfl); (· simp only [sbe]; rfl); all_goals (intro h; (try simp only [Bool.not_true, Bool.not_false] at h); first | (cases h; done) | (exact absurd h (by decide)) | (exfalso; simp [IntKind.wrap, IntKind.bits, IntKind.signed] at h; done) | (exfalso; simp only [decide_eq_false_iff_not, decide_eq_true_eq] at h; omega) | (cases h) | (try rw [h])))
      | ((with_reducible apply st_ev); (· rfl); (· simp only [sbe]; rfl))
      | ((with_reducible apply st_call); (· rfl); (· rfl); (· first | skip); (· rfl); (· simp only [sbe]; rfl))
      | (with_reducible refine st_nil ?_)
      | ((with_reducible apply st_ite); (· rfl); all_goals (intro h; (try simp only [Bool.not_true, Bool.not_false] at h); first | (cases h; done) | (exact absurd h (by decide)) | (exfalso; simp [IntKind.wrap, IntKind.bits, IntKind.signed] at h; done) | (exfalso; simp only [decide_eq_false_iff_not, decide_eq_true_eq] at h; omega) | (cases h) | skip)))
    all_goals (
      refine st_jump rfl (at_jump ⟨rfl, ?_⟩)
      simp only [List.cons_append, List.nil_append]
      refine st_jump rfl (at_jump ⟨rfl, ?_⟩)
      simp only [List.cons_append, List.nil_append]
      refine st_ev (add_one (i := i) (by omega)) (by simp only [sbe]; rfl) (st_nil (st_jump rfl (at_jump (hR _ _ ?_ ⟨i + 1, ?_, rfl, by omega⟩))))
      · omega
      · cases hH : hit n m a <;> first | (simp [ver, ha, hH]; done) | (exfalso; simp_all [hit]; (try omega); done))
  · refine st_jump rfl (over_jump (by decide) (at_jump ⟨rfl, ?_⟩))
    simp only [List.cons_append, List.nil_append]
    have hlen : i = c.arts.length := by simp at hc; omega
    subst hlen
    repeat' (first
      | ((with_reducible apply st_guard); (· rfl); (· simp only [sbe]; rfl); all_goals (intro h; (try simp only [Bool.not_true, Bool.not_false] at h); first | (cases h; done) | (exact absurd h (by decide)) | (exfalso; simp [IntKind.wrap, IntKind.bits, IntKind.signed] at h; done) | (exfalso; simp only [decide_eq_false_iff_not, decide_eq_true_eq] at h; omega) | (cases h) | (try rw [h])))
      | ((with_reducible apply st_cond); (· rfl); all_goals (intro h; (try simp only [Bool.not_true, Bool.not_false] at h); first | (cases h; done) | (exact absurd h (by decide)) | (exfalso; simp [IntKind.wrap, IntKind.bits, IntKind.signed] at h; done) | (exfalso; simp only [decide_eq_false_iff_not, decide_eq_true_eq] at h; omega) | (cases h) | (try rw [h])))
      | ((with_reducible apply st_callG); (· rfl); (· simp only [sbe]; rfl); all_goals (intro h; (try simp only [Bool.not_true, Bool.not_false] at h); first | (cases h; done) | (exact absurd h (by decide)) | (exfalso; simp [IntKind.wrap, IntKind.bits, IntKind.signed] at h; done) | (exfalso; simp only [decide_eq_false_iff_not, decide_eq_true_eq] at h; omega) | (cases h) | (try rw [h])))
      | ((with_reducible apply st_ev); (· rfl); (· simp only [sbe]; rfl))
      | ((with_reducible apply st_call); (· rfl); (· rfl); (· first | skip); (· rfl); (· simp only [sbe]; rfl))
      | (with_reducible refine st_nil ?_)
      | ((with_reducible apply st_ite); (· rfl); all_goals (intro h; (try simp only [Bool.not_true, Bool.not_false] at h); first | (cases h; done) | (exact absurd h (by decide)) | (exfalso; simp [IntKind.wrap, IntKind.bits, IntKind.signed] at h; done) | (exfalso; simp only [decide_eq_false_iff_not, decide_eq_true_eq] at h; omega) | (cases h) | skip)))
    refine st_ret rfl ?_
    rfl

def Art.zero : Art := ⟨0, 0, 0, 0⟩

theorem c40 (c : Cod) (n m : Int) (hl : c.arts.length ≤ 1000) : FSpecR Try.prog 40 (.st bs) [c.d, I n, I m] (.tup [((verArt c.arts n m c.arts.length).getD .zero).d, B (verArt c.arts n m c.arts.length).isSome]) := by
  refine ok40.specR rfl (by kernel_rfl) rfl ?_
  unfold Entry.t e40 t40
  simp only [List.cons_append, List.nil_append]
  repeat' (first
    | ((with_reducible apply st_guard); (· rfl); (· simp only [sbe]; rfl); all_goals (intro h; (try simp only [Bool.not_true, Bool.not_false] at h); first | (cases h; done) | (exact absurd h (by decide)) | (exfalso; simp [IntKind.wrap, IntKind.bits, IntKind.signed] at h; done) | (exfalso; simp only [decide_eq_false_iff_not, decide_eq_true_eq] at h; omega) | (cases h) | (try rw [h])))
    | ((with_reducible apply st_cond); (· rfl); all_goals (intro h; (try simp only [Bool.not_true, Bool.not_false] at h); first | (cases h; done) | (exact absurd h (by decide)) | (exfalso; simp [IntKind.wrap, IntKind.bits, IntKind.signed] at h; done) | (exfalso; simp only [decide_eq_false_iff_not, decide_eq_true_eq] at h; omega) | (cases h) | (try rw [h])))
    | ((with_reducible apply st_callG); (· rfl); (· simp only [sbe]; rfl); all_goals (intro h; (try simp only [Bool.not_true, Bool.not_false] at h); first | (cases h; done) | (exact absurd h (by decide)) | (exfalso; simp [IntKind.wrap, IntKind.bits, IntKind.signed] at h; done) | (exfalso; simp only [decide_eq_false_iff_not, decide_eq_true_eq] at h; omega) | (cases h) | (try rw [h])))
    | ((with_reducible apply st_ev); (· rfl); (· simp only [sbe]; rfl))
    | ((with_reducible apply st_call); (· rfl); (· rfl); (· first | skip); (· rfl); (· simp only [sbe]; rfl))
    | (with_reducible refine st_nil ?_)
    | ((with_reducible apply st_ite); (· rfl); all_goals (intro h; (try simp only [Bool.not_true, Bool.not_false] at h); first | (cases h; done) | (exact absurd h (by decide)) | (exfalso; simp [IntKind.wrap, IntKind.bits, IntKind.signed] at h; done) | (exfalso; simp only [decide_eq_false_iff_not, decide_eq_true_eq] at h; omega) | (cases h) | skip)))
  refine st_join ?_
  refine st_loop (fun k ds => ∃ i : Nat, ds = [B (verArt c.arts n m i).isSome, I i, I ((verArt c.arts n m i).getD .zero).n, I ((verArt c.arts n m i).getD .zero).f, I ((verArt c.arts n m i).getD .zero).l, I ((verArt c.arts n m i).getD .zero).m] ∧ k = c.arts.length - i ∧ i ≤ c.arts.length) rfl c.arts.length ⟨0, rfl, rfl, Nat.zero_le _⟩ ?_
  rintro k _ ⟨i, rfl, hk, hi⟩
  refine ⟨rfl, fun R hR => ?_⟩
  simp only [List.cons_append, List.nil_append]
  refine st_ev rfl (by simp only [sbe]; rfl) (st_ev rfl (by simp only [sbe]; rfl) (st_nil (st_ite rfl (fun hc => ?_) (fun hc => ?_))))
  · have hlt : i < c.arts.length := by simpa using hc
    obtain ⟨a, ha⟩ : ∃ a, c.arts[i]? = some a := ⟨_, List.getElem?_eq_getElem hlt⟩
    refine st_join ?_
    repeat' (first
      | ((with_reducible apply st_sub); (· rfl); (· rfl); (· omega); (· simp only [sbe]; rfl))
      | ((with_reducible apply st_eaddr); (· rfl); (· rfl); (· first | exact ha); (· simp only [sbe]; rfl))
      | ((with_reducible apply st_guard); (· rfl); (· simp only [sbe]; rfl); all_goals (intro h; (try simp only [Bool.not_true, Bool.not_false] at h); first | (cases h; done) | (exact absurd h (by decide)) | (exfalso; simp [IntKind.wrap, IntKind.bits, IntKind.signed] at h; done) | (exfalso; simp only [decide_eq_false_iff_not, decide_eq_true_eq] at h; omega) | (cases h) | (try rw [h])))
      | ((with_reducible apply st_cond); (· rfl); all_goals (intro h; (try simp only [Bool.not_true, Bool.not_false] at h); first | (cases h; done) | (exact absurd h (by decide)) | (exfalso; simp [IntKind.wrap, IntKind.bits, IntKind.signed] at h; done) | (exfalso; simp only [decide_eq_false_iff_not, decide_eq_true_eq] at h; omega) | (cases h) | (try rw [h])))
      | ((with_reducible apply st_callG); (· rfl); (· simp only [sbe]; rfl); all_goals (intro h; (try simp only [Bool.not_true, Bool.not_false] at h); first | (cases h; done) | (exact absurd h (by decide)) | (exfalso; simp [IntKind.wrap, IntKind.bits, IntKind.signed] at h; done) | (exfalso; simp only [decide_eq_false_iff_not, decide_eq_true_eq] at h; omega) | (cases h) | (try rw [h])))
      | ((with_reducible apply st_ev); (· rfl); (· simp only [sbe]; rfl))
      | ((with_reducible apply st_call); (· rfl); (· rfl); (· first | skip); (· rfl); (· simp only [sbe]; rfl))
      | (with_reducible refine st_nil ?_)
      | ((with_reducible apply st_ite); (· rfl); all_goals (intro h; (try simp only [Bool.not_true, Bool.not_false] at h); first | (cases h; done) | (exact absurd h (by decide)) | (exfalso; simp [IntKind.wrap, IntKind.bits, IntKind.signed] at h; done) | (exfalso; simp only [decide_eq_false_iff_not, decide_eq_true_eq] at h; omega) | (cases h) | skip)))
    all_goals refine st_join ?_
    repeat' (first
      | ((with_reducible apply st_guard); (· rfl); (· simp only [sbe]; rfl); all_goals (intro h; (try simp only [Bool.not_true, Bool.not_false] at h); first | (cases h; done) | (exact absurd h (by decide)) | (exfalso; simp [IntKind.wrap, IntKind.bits, IntKind.signed] at h; done) | (exfalso; simp only [decide_eq_false_iff_not, decide_eq_true_eq] at h; omega) | (cases h) | (try rw [h])))
      | ((with_reducible apply st_cond); (· rfl); all_goals (intro h; (try simp only [Bool.not_true, Bool.not_false] at h); first | (cases h; done) | (exact absurd h (by decide)) | (exfalso; simp [IntKind.wrap, IntKind.bits, IntKind.signed] at h; done) | (exfalso; simp only [decide_eq_false_iff_not, decide_eq_true_eq] at h; omega) | (cases h) | (try rw [h])))
      | ((with_reducible apply st_callG); (· rfl); (· simp only [sbe]; rfl); all_goals (intro h; (try simp only [Bool.not_true, Bool.not_false] at h); first | (cases h; done) | (exact absurd h (by decide)) | (exfalso; simp [IntKind.wrap, IntKind.bits, IntKind.signed] at h; done) | (exfalso; simp only [decide_eq_false_iff_not, decide_eq_true_eq] at h; omega) | (cases h) | (try rw [h])))
      | ((with_reducible apply st_ev); (· rfl); (· simp only [sbe]; rfl))
      | ((with_reducible apply st_call); (· rfl); (· rfl); (· first | skip); (· rfl); (· simp only [sbe]; rfl))
      | (with_reducible refine st_nil ?_)
      | ((with_reducible apply st_ite); (· rfl); all_goals (intro h; (try simp only [Bool.not_true, Bool.not_false] at h); first | (cases h; done) | (exact absurd h (by decide)) | (exfalso; simp [IntKind.wrap, IntKind.bits, IntKind.signed] at h; done) | (exfalso; simp only [decide_eq_false_iff_not, decide_eq_true_eq] at h; omega) | (cases h) | skip)))
    all_goals (
      refine st_jump rfl (at_jump ⟨rfl, ?_⟩)
      simp only [List.cons_append, List.nil_append]
      refine st_jump rfl (at_jump ⟨rfl, ?_⟩)
      simp only [List.cons_append, List.nil_append]
      refine st_ev (add_one (i := i) (by omega)) (by simp only [sbe]; rfl) (st_nil (st_jump rfl (at_jump (hR _ _ ?_ ⟨i + 1, ?_, rfl, by omega⟩))))
      · omega
      · cases hH : hit n m a <;> first | (simp [verArt, ha, hH]; done) | (exfalso; simp_all [hit]; (try omega); done))
  · refine st_jump rfl (over_jump (by decide) (at_jump ⟨rfl, ?_⟩))
    simp only [List.cons_append, List.nil_append]
    have hlen : i = c.arts.length := by simp at hc; omega
    subst hlen
    refine st_ret rfl ?_
    rfl

def verRes (c : Cod) (n m : Int) : Art × Int :=
  if okCode c && inR n 1 10000 && inR m 0 10000000 then (match verArt c.arts n m c.arts.length with
    | some a => (a, 0)
    | none => (.zero, 5)) else (.zero, 2)

theorem c39 (c : Cod) (n m : Int) (hl : c.arts.length ≤ 1000) : FSpecR Try.prog 39 (.st bs) [c.d, I n, I m] (.tup [(verRes c n m).1.d, I (verRes c n m).2]) := by
  refine ok39.specR rfl (by kernel_rfl) rfl ?_
  unfold Entry.t e39 t39
  simp only [List.cons_append, List.nil_append]
  have k81 := c81 (bs := bs) c n m hl
  rcases ver_spec c.arts n m c.arts.length with ⟨h1, h2⟩ | ⟨j, a, h1, h2, h3⟩
  · rw [h1] at k81
    repeat' (first
      | ((with_reducible apply st_guard); (· rfl); (· simp only [sbe]; rfl); all_goals (intro h; (try simp only [Bool.not_true, Bool.not_false] at h); first | (cases h; done) | (exact absurd h (by decide)) | (exfalso; simp [IntKind.wrap, IntKind.bits, IntKind.signed] at h; done) | (exfalso; simp only [decide_eq_false_iff_not, decide_eq_true_eq] at h; omega) | (cases h) | (try rw [h])))
      | ((with_reducible apply st_cond); (· rfl); all_goals (intro h; (try simp only [Bool.not_true, Bool.not_false] at h); first | (cases h; done) | (exact absurd h (by decide)) | (exfalso; simp [IntKind.wrap, IntKind.bits, IntKind.signed] at h; done) | (exfalso; simp only [decide_eq_false_iff_not, decide_eq_true_eq] at h; omega) | (cases h) | (try rw [h])))
      | ((with_reducible apply st_callG); (· rfl); (· simp only [sbe]; rfl); all_goals (intro h; (try simp only [Bool.not_true, Bool.not_false] at h); first | (cases h; done) | (exact absurd h (by decide)) | (exfalso; simp [IntKind.wrap, IntKind.bits, IntKind.signed] at h; done) | (exfalso; simp only [decide_eq_false_iff_not, decide_eq_true_eq] at h; omega) | (cases h) | (try rw [h])))
      | ((with_reducible apply st_ev); (· rfl); (· simp only [sbe]; rfl))
      | ((with_reducible apply st_call); (· rfl); (· rfl); (· first | exact c41 c | exact c52 _ _ _ | exact k81); (· rfl); (· simp only [sbe]; rfl))
      | (with_reducible refine st_nil ?_)
      | ((with_reducible apply st_ite); (· rfl); all_goals (intro h; (try simp only [Bool.not_true, Bool.not_false] at h); first | (cases h; done) | (exact absurd h (by decide)) | (exfalso; simp [IntKind.wrap, IntKind.bits, IntKind.signed] at h; done) | (exfalso; simp only [decide_eq_false_iff_not, decide_eq_true_eq] at h; omega) | (cases h) | skip)))
    all_goals ((with_reducible apply st_ret); (· rfl); simp_all [verRes, Art.d, Art.zero, D.cells])
  · rw [h1] at k81
    repeat' (first
      | ((with_reducible apply st_sub); (· rfl); (· rfl); (· omega); (· simp only [sbe]; rfl))
      | ((with_reducible apply st_eaddr); (· rfl); (· rfl); (· first | exact h2); (· simp only [sbe]; rfl))
      | ((with_reducible apply st_guard); (· rfl); (· simp only [sbe]; rfl); all_goals (intro h; (try simp only [Bool.not_true, Bool.not_false] at h); first | (cases h; done) | (exact absurd h (by decide)) | (exfalso; simp [IntKind.wrap, IntKind.bits, IntKind.signed] at h; done) | (exfalso; simp only [decide_eq_false_iff_not, decide_eq_true_eq] at h; omega) | (cases h) | (try rw [h])))
      | ((with_reducible apply st_cond); (· rfl); all_goals (intro h; (try simp only [Bool.not_true, Bool.not_false] at h); first | (cases h; done) | (exact absurd h (by decide)) | (exfalso; simp [IntKind.wrap, IntKind.bits, IntKind.signed] at h; done) | (exfalso; simp only [decide_eq_false_iff_not, decide_eq_true_eq] at h; omega) | (cases h) | (try rw [h])))
      | ((with_reducible apply st_callG); (· rfl); (· simp only [sbe]; rfl); all_goals (intro h; (try simp only [Bool.not_true, Bool.not_false] at h); first | (cases h; done) | (exact absurd h (by decide)) | (exfalso; simp [IntKind.wrap, IntKind.bits, IntKind.signed] at h; done) | (exfalso; simp only [decide_eq_false_iff_not, decide_eq_true_eq] at h; omega) | (cases h) | (try rw [h])))
      | ((with_reducible apply st_ev); (· rfl); (· simp only [sbe]; rfl))
      | ((with_reducible apply st_call); (· rfl); (· rfl); (· first | exact c41 c | exact c52 _ _ _ | exact k81); (· rfl); (· simp only [sbe]; rfl))
      | (with_reducible refine st_nil ?_)
      | ((with_reducible apply st_ite); (· rfl); all_goals (intro h; (try simp only [Bool.not_true, Bool.not_false] at h); first | (cases h; done) | (exact absurd h (by decide)) | (exfalso; simp [IntKind.wrap, IntKind.bits, IntKind.signed] at h; done) | (exfalso; simp only [decide_eq_false_iff_not, decide_eq_true_eq] at h; omega) | (cases h) | skip)))
    all_goals ((with_reducible apply st_ret); (· rfl); simp_all [verRes, Art.d, Art.zero, D.cells]; done)

end Go.Am.Ap
