/-
  Acts as data.
-/
import Derived.Test.YtnenlnmfoocpdaaApCodes2
import Derived.Test.YtnenlnmfoocpdaaAmLaw
import Derived.Test.YtnenlnmfoocpdaaAmPlain2
set_option linter.unusedSimpArgs false
set_option linter.unusedVariables false
namespace Go.Am.Ap
open Go.Proofs

/-- an act -/
structure Act where
  kind : Int
  minute : Int
  paper : Int
  cse : Int
  by_ : Int
  against : Int
  article : Int
  at_ : Int
  facts : List Int
  paid : Int
  upheld : Bool
  penalty : Int

/-- a list of numbers -/
abbrev Is (l : List Int) : D := .lst (l.map I)

def Act.cs (a : Act) : List D := [I a.kind, I a.minute, I a.paper, I a.cse, I a.by_, I a.against, I a.article, I a.at_, Is a.facts, I a.paid, B a.upheld, I a.penalty]
def Act.d (a : Act) : D := .agg a.cs

def shArt : Sh := .st [.int .i64, .int .i64, .int .i64, .int .i64]
def shCode : Sh := .st [.int .i64, .sl shArt, .int .i64, .int .i64, .int .i64, .int .i64]
def shAct : Sh := .st [.int .i64, .int .i64, .int .i64, .int .i64, .int .i64, .int .i64, .int .i64, .int .i64, .sl (.int .i64), .int .i64, .bool, .int .i64]

/-- numbers that an 'int' can be -/
def i64 (n : Int) : Prop := -9223372036854775808 ≤ n ∧ n < 9223372036854775808


theorem ofI {ds : List D} (h : OfSh (.int .i64) ds) : ∃ n, ds = [I n] ∧ i64 n := by
  simp only [OfSh] at h
  obtain ⟨n, h, h1, h2⟩ := h
  refine ⟨n, h, ?_⟩
  simp [IntKind.min, IntKind.max, IntKind.bits, IntKind.signed] at h1 h2
  exact ⟨h1, by omega⟩

theorem ofB {ds : List D} (h : OfSh .bool ds) : ∃ b, ds = [B b] := by simpa only [OfSh] using h

theorem ofIs : ∀ {es : List D}, (∀ x, x ∈ es → OfSh (.int .i64) [x]) → ∃ xs : List Int, es = xs.map I ∧ ∀ x, x ∈ xs → i64 x
  | [], _ => ⟨[], rfl, by simp⟩
  | e :: es, h => by
    obtain ⟨n, hn, hb⟩ := ofI (h e (by simp))
    cases hn
    obtain ⟨xs, rfl, hx⟩ := ofIs (es := es) fun x hx => h x (by simp [hx])
    exact ⟨n :: xs, rfl, by simpa using ⟨hb, hx⟩⟩

theorem ofSl {ds : List D} (h : OfSh (.sl (.int .i64)) ds) : ∃ xs : List Int, ds = [Is xs] ∧ (∀ x, x ∈ xs → i64 x) ∧ xs.length ≤ maxLen := by
  simp only [OfSh] at h
  obtain ⟨es, rfl, hl, hes⟩ := h
  obtain ⟨xs, rfl, hx⟩ := ofIs fun x hx => by
    have := (hes x hx).2 rfl
    simpa only [OfSh] using this
  exact ⟨xs, rfl, hx, by simpa using hl⟩

/-- an article's numbers are such -/
def Art.Ok (a : Art) : Prop := i64 a.n ∧ Ap.i64 a.f ∧ Ap.i64 a.l ∧ Ap.i64 a.m

/-- a code's numbers are such -/
def Cod.Ok (c : Cod) : Prop := Ap.i64 c.cars ∧ Ap.i64 c.window ∧ Ap.i64 c.second ∧ Ap.i64 c.fee ∧ Ap.i64 c.price ∧ (∀ a, a ∈ c.arts → a.Ok) ∧ c.arts.length ≤ maxLen

/-- an act's numbers are such -/
structure Act.Ok (a : Act) : Prop where
  kind : i64 a.kind
  minute : i64 a.minute
  paper : i64 a.paper
  cse : i64 a.cse
  by_ : i64 a.by_
  against : i64 a.against
  article : i64 a.article
  at_ : i64 a.at_
  facts : ∀ x, x ∈ a.facts → i64 x
  len : a.facts.length ≤ maxLen
  paid : i64 a.paid
  penalty : i64 a.penalty

theorem ofAct {cs : List D} (h : OfSh shAct cs) : ∃ a : Act, .agg cs = a.d ∧ a.Ok := by
  simp only [shAct, OfSh, OfAll] at h
  obtain ⟨_, _, rfl, h1, _, _, rfl, h2, _, _, rfl, h3, _, _, rfl, h4, _, _, rfl, h5, _, _, rfl, h6, _, _, rfl, h7, _, _, rfl, h8, _, _, rfl, h9, _, _, rfl, h10, _, _, rfl, h11, _, _, rfl, h12, rfl⟩ := h
  have cv : ∀ {ds : List D}, (∃ n : Int, ds = [.v (.int .i64 n)] ∧ IntKind.i64.min ≤ n ∧ n ≤ IntKind.i64.max) → ∃ n, ds = [I n] ∧ i64 n := fun h => ofI (by simpa only [OfSh] using h)
  obtain ⟨n1, rfl, b1⟩ := cv h1
  obtain ⟨n2, rfl, b2⟩ := cv h2
  obtain ⟨n3, rfl, b3⟩ := cv h3
  obtain ⟨n4, rfl, b4⟩ := cv h4
  obtain ⟨n5, rfl, b5⟩ := cv h5
  obtain ⟨n6, rfl, b6⟩ := cv h6
  obtain ⟨n7, rfl, b7⟩ := cv h7
  obtain ⟨n8, rfl, b8⟩ := cv h8
  obtain ⟨xs, rfl, b9, hl⟩ := ofSl (by simpa only [OfSh] using h9)
  obtain ⟨n10, rfl, b10⟩ := cv h10
  obtain ⟨b, rfl⟩ := h11
  obtain ⟨n12, rfl, b12⟩ := cv h12
  exact ⟨⟨n1, n2, n3, n4, n5, n6, n7, n8, xs, n10, b, n12⟩, rfl, ⟨b1, b2, b3, b4, b5, b6, b7, b8, b9, hl, b10, b12⟩⟩

end Go.Am.Ap
