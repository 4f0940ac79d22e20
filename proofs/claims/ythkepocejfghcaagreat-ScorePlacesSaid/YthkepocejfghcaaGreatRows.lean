/-
  No cell of these rows narrows 'for every input' (looked for: loops, veiled, ifaces, maps, wideKeys, modest, calm, conditions, laid).
  DERIVED. THE GIVEN ROWS OF THIS SEAT. 12 by the template 'for every input the law returns true; each argument reads behind the call as it read before'; 0 by the template 'total and deterministic' (their statements: YthkepocejfghcaaGreatTotals.lean).
  GIVEN WITH THE SEED: the statements are not yours to turn. If you find one false, say at which input.
  Laid BY PROGRAM, IN A SANDBOX (cutbox-rows.mjs): the forced cells as the released guide's own fill.sh prints them over the translation 7ae10f861b946708… (all of the seat's roots in one cut). By AI agents, Wed Nov 11 2026. No macro, syntax, notation, axiom, sorry.
-/
import Derived.Test.YthkepocejfghcaaGreatChecked
import GoSem.Claim
import GoSem.ClaimJoined
import GoSem.ClaimMapViews
import Derived.JoinedTies
import Derived.KernelRfl
namespace Go.Proofs.YthkepocejfghcaaGreat
/- THE CELL 'sum', in the pinned program and in every row, IS THE sha256 OF THE DUMP (.gsa) THAT YthkepocejfghcaaGreatProg.lean LOADS. Nothing in Lean hashes anything: it is a label: what it is worth is what the hold of that sum in a sandbox is worth. -/
noncomputable def Tryz.pinned : Pinned := { name := "ythkepocejfghcaagreat", sum := "7ae10f861b9467082d442709397fbf4e0643291ce6422dc17d14be89a50594b4", checked := Tryz.checked }
namespace Rows
def none {H : Type} : Left H := { results := [], args := [] }

/-- 'hairpinlaw08.ScoreChecks': WHATEVER THE INPUT: true; the input reads as it did. -/
def scoreChecksSpec : ChangeSpec := { name := "scoreChecks", fn := fun _ => fun
  | [d1, d2] => { results := [.lit (.bool true)], args := [d1, d2] }
  | _ => none }
def scoreChecksRow : OpenClaim := { program := "ythkepocejfghcaagreat", sum := "7ae10f861b9467082d442709397fbf4e0643291ce6422dc17d14be89a50594b4", func := "hairpin/hairpinlaw08.ScoreChecks", spec := "scoreChecks", unfollowed := true, recurses := true, plainKeys := false, apart := false }
def ScoreChecksSaid : Prop := scoreChecksRow.holds Tryz.pinned (OpenSpec.ofChange scoreChecksSpec)

/-- ITS FALSE NEIGHBOUR: 'it returns false'. Refute it at one input. -/
def scoreChecksWrong : ChangeSpec := { name := "scoreChecks", fn := fun _ => fun
  | [d1, d2] => { results := [.lit (.bool false)], args := [d1, d2] }
  | _ => none }
def ScoreChecksWrongFalsely : Prop := scoreChecksRow.holds Tryz.pinned (OpenSpec.ofChange scoreChecksWrong)

/-- 'hairpinlaw08.ScoreTimes': WHATEVER THE INPUT: true; the input reads as it did. -/
def scoreTimesSpec : ChangeSpec := { name := "scoreTimes", fn := fun _ => fun
  | [d1, d2, d3, d4] => { results := [.lit (.bool true)], args := [d1, d2, d3, d4] }
  | _ => none }
def scoreTimesRow : OpenClaim := { program := "ythkepocejfghcaagreat", sum := "7ae10f861b9467082d442709397fbf4e0643291ce6422dc17d14be89a50594b4", func := "hairpin/hairpinlaw08.ScoreTimes", spec := "scoreTimes", unfollowed := true, recurses := true, plainKeys := false, apart := false }
def ScoreTimesSaid : Prop := scoreTimesRow.holds Tryz.pinned (OpenSpec.ofChange scoreTimesSpec)

/-- ITS FALSE NEIGHBOUR: 'it returns false'. Refute it at one input. -/
def scoreTimesWrong : ChangeSpec := { name := "scoreTimes", fn := fun _ => fun
  | [d1, d2, d3, d4] => { results := [.lit (.bool false)], args := [d1, d2, d3, d4] }
  | _ => none }
def ScoreTimesWrongFalsely : Prop := scoreTimesRow.holds Tryz.pinned (OpenSpec.ofChange scoreTimesWrong)

/-- 'hairpinlaw08.ScoreBounds': WHATEVER THE INPUT: true; the input reads as it did. -/
def scoreBoundsSpec : ChangeSpec := { name := "scoreBounds", fn := fun _ => fun
  | [d1, d2, d3, d4] => { results := [.lit (.bool true)], args := [d1, d2, d3, d4] }
  | _ => none }
def scoreBoundsRow : OpenClaim := { program := "ythkepocejfghcaagreat", sum := "7ae10f861b9467082d442709397fbf4e0643291ce6422dc17d14be89a50594b4", func := "hairpin/hairpinlaw08.ScoreBounds", spec := "scoreBounds", unfollowed := true, recurses := true, plainKeys := false, apart := false }
def ScoreBoundsSaid : Prop := scoreBoundsRow.holds Tryz.pinned (OpenSpec.ofChange scoreBoundsSpec)

/-- ITS FALSE NEIGHBOUR: 'it returns false'. Refute it at one input. -/
def scoreBoundsWrong : ChangeSpec := { name := "scoreBounds", fn := fun _ => fun
  | [d1, d2, d3, d4] => { results := [.lit (.bool false)], args := [d1, d2, d3, d4] }
  | _ => none }
def ScoreBoundsWrongFalsely : Prop := scoreBoundsRow.holds Tryz.pinned (OpenSpec.ofChange scoreBoundsWrong)

/-- 'hairpinlaw08.ScoreResults': WHATEVER THE INPUT: true; the input reads as it did. -/
def scoreResultsSpec : ChangeSpec := { name := "scoreResults", fn := fun _ => fun
  | [d1, d2] => { results := [.lit (.bool true)], args := [d1, d2] }
  | _ => none }
def scoreResultsRow : OpenClaim := { program := "ythkepocejfghcaagreat", sum := "7ae10f861b9467082d442709397fbf4e0643291ce6422dc17d14be89a50594b4", func := "hairpin/hairpinlaw08.ScoreResults", spec := "scoreResults", unfollowed := true, recurses := true, plainKeys := false, apart := false }
def ScoreResultsSaid : Prop := scoreResultsRow.holds Tryz.pinned (OpenSpec.ofChange scoreResultsSpec)

/-- ITS FALSE NEIGHBOUR: 'it returns false'. Refute it at one input. -/
def scoreResultsWrong : ChangeSpec := { name := "scoreResults", fn := fun _ => fun
  | [d1, d2] => { results := [.lit (.bool false)], args := [d1, d2] }
  | _ => none }
def ScoreResultsWrongFalsely : Prop := scoreResultsRow.holds Tryz.pinned (OpenSpec.ofChange scoreResultsWrong)

/-- 'hairpinlaw08.ScoreTurned': WHATEVER THE INPUT: true; the input reads as it did. -/
def scoreTurnedSpec : ChangeSpec := { name := "scoreTurned", fn := fun _ => fun
  | [d1, d2, d3, d4] => { results := [.lit (.bool true)], args := [d1, d2, d3, d4] }
  | _ => none }
def scoreTurnedRow : OpenClaim := { program := "ythkepocejfghcaagreat", sum := "7ae10f861b9467082d442709397fbf4e0643291ce6422dc17d14be89a50594b4", func := "hairpin/hairpinlaw08.ScoreTurned", spec := "scoreTurned", unfollowed := true, recurses := true, plainKeys := false, apart := false }
def ScoreTurnedSaid : Prop := scoreTurnedRow.holds Tryz.pinned (OpenSpec.ofChange scoreTurnedSpec)

/-- ITS FALSE NEIGHBOUR: 'it returns false'. Refute it at one input. -/
def scoreTurnedWrong : ChangeSpec := { name := "scoreTurned", fn := fun _ => fun
  | [d1, d2, d3, d4] => { results := [.lit (.bool false)], args := [d1, d2, d3, d4] }
  | _ => none }
def ScoreTurnedWrongFalsely : Prop := scoreTurnedRow.holds Tryz.pinned (OpenSpec.ofChange scoreTurnedWrong)

/-- 'hairpinlaw08.ScoreChampions': WHATEVER THE INPUT: true; the input reads as it did. -/
def scoreChampionsSpec : ChangeSpec := { name := "scoreChampions", fn := fun _ => fun
  | [d1, d2] => { results := [.lit (.bool true)], args := [d1, d2] }
  | _ => none }
def scoreChampionsRow : OpenClaim := { program := "ythkepocejfghcaagreat", sum := "7ae10f861b9467082d442709397fbf4e0643291ce6422dc17d14be89a50594b4", func := "hairpin/hairpinlaw08.ScoreChampions", spec := "scoreChampions", unfollowed := true, recurses := true, plainKeys := false, apart := false }
def ScoreChampionsSaid : Prop := scoreChampionsRow.holds Tryz.pinned (OpenSpec.ofChange scoreChampionsSpec)

/-- ITS FALSE NEIGHBOUR: 'it returns false'. Refute it at one input. -/
def scoreChampionsWrong : ChangeSpec := { name := "scoreChampions", fn := fun _ => fun
  | [d1, d2] => { results := [.lit (.bool false)], args := [d1, d2] }
  | _ => none }
def ScoreChampionsWrongFalsely : Prop := scoreChampionsRow.holds Tryz.pinned (OpenSpec.ofChange scoreChampionsWrong)

/-- 'hairpinlaw08.ScoreDues': WHATEVER THE INPUT: true; the input reads as it did. -/
def scoreDuesSpec : ChangeSpec := { name := "scoreDues", fn := fun _ => fun
  | [d1, d2, d3] => { results := [.lit (.bool true)], args := [d1, d2, d3] }
  | _ => none }
def scoreDuesRow : OpenClaim := { program := "ythkepocejfghcaagreat", sum := "7ae10f861b9467082d442709397fbf4e0643291ce6422dc17d14be89a50594b4", func := "hairpin/hairpinlaw08.ScoreDues", spec := "scoreDues", unfollowed := true, recurses := true, plainKeys := false, apart := false }
def ScoreDuesSaid : Prop := scoreDuesRow.holds Tryz.pinned (OpenSpec.ofChange scoreDuesSpec)

/-- ITS FALSE NEIGHBOUR: 'it returns false'. Refute it at one input. -/
def scoreDuesWrong : ChangeSpec := { name := "scoreDues", fn := fun _ => fun
  | [d1, d2, d3] => { results := [.lit (.bool false)], args := [d1, d2, d3] }
  | _ => none }
def ScoreDuesWrongFalsely : Prop := scoreDuesRow.holds Tryz.pinned (OpenSpec.ofChange scoreDuesWrong)

/-- 'hairpinlaw08.ScorePlaces': WHATEVER THE INPUT: true; the input reads as it did. -/
def scorePlacesSpec : ChangeSpec := { name := "scorePlaces", fn := fun _ => fun
  | [d1, d2] => { results := [.lit (.bool true)], args := [d1, d2] }
  | _ => none }
def scorePlacesRow : OpenClaim := { program := "ythkepocejfghcaagreat", sum := "7ae10f861b9467082d442709397fbf4e0643291ce6422dc17d14be89a50594b4", func := "hairpin/hairpinlaw08.ScorePlaces", spec := "scorePlaces", unfollowed := true, recurses := true, plainKeys := false, apart := false }
def ScorePlacesSaid : Prop := scorePlacesRow.holds Tryz.pinned (OpenSpec.ofChange scorePlacesSpec)

/-- ITS FALSE NEIGHBOUR: 'it returns false'. Refute it at one input. -/
def scorePlacesWrong : ChangeSpec := { name := "scorePlaces", fn := fun _ => fun
  | [d1, d2] => { results := [.lit (.bool false)], args := [d1, d2] }
  | _ => none }
def ScorePlacesWrongFalsely : Prop := scorePlacesRow.holds Tryz.pinned (OpenSpec.ofChange scorePlacesWrong)

/-- 'hairpinlaw08.ScoreLater': WHATEVER THE INPUT: true; the input reads as it did. -/
def scoreLaterSpec : ChangeSpec := { name := "scoreLater", fn := fun _ => fun
  | [d1, d2, d3, d4] => { results := [.lit (.bool true)], args := [d1, d2, d3, d4] }
  | _ => none }
def scoreLaterRow : OpenClaim := { program := "ythkepocejfghcaagreat", sum := "7ae10f861b9467082d442709397fbf4e0643291ce6422dc17d14be89a50594b4", func := "hairpin/hairpinlaw08.ScoreLater", spec := "scoreLater", unfollowed := true, recurses := true, plainKeys := false, apart := false }
def ScoreLaterSaid : Prop := scoreLaterRow.holds Tryz.pinned (OpenSpec.ofChange scoreLaterSpec)

/-- ITS FALSE NEIGHBOUR: 'it returns false'. Refute it at one input. -/
def scoreLaterWrong : ChangeSpec := { name := "scoreLater", fn := fun _ => fun
  | [d1, d2, d3, d4] => { results := [.lit (.bool false)], args := [d1, d2, d3, d4] }
  | _ => none }
def ScoreLaterWrongFalsely : Prop := scoreLaterRow.holds Tryz.pinned (OpenSpec.ofChange scoreLaterWrong)

/-- 'hairpinlaw08.ScoreHolds': WHATEVER THE INPUT: true; the input reads as it did. -/
def scoreHoldsSpec : ChangeSpec := { name := "scoreHolds", fn := fun _ => fun
  | [d1, d2, d3] => { results := [.lit (.bool true)], args := [d1, d2, d3] }
  | _ => none }
def scoreHoldsRow : OpenClaim := { program := "ythkepocejfghcaagreat", sum := "7ae10f861b9467082d442709397fbf4e0643291ce6422dc17d14be89a50594b4", func := "hairpin/hairpinlaw08.ScoreHolds", spec := "scoreHolds", unfollowed := true, recurses := true, plainKeys := false, apart := false }
def ScoreHoldsSaid : Prop := scoreHoldsRow.holds Tryz.pinned (OpenSpec.ofChange scoreHoldsSpec)

/-- ITS FALSE NEIGHBOUR: 'it returns false'. Refute it at one input. -/
def scoreHoldsWrong : ChangeSpec := { name := "scoreHolds", fn := fun _ => fun
  | [d1, d2, d3] => { results := [.lit (.bool false)], args := [d1, d2, d3] }
  | _ => none }
def ScoreHoldsWrongFalsely : Prop := scoreHoldsRow.holds Tryz.pinned (OpenSpec.ofChange scoreHoldsWrong)

/-- 'hairpinlaw08.ScoreProved': WHATEVER THE INPUT: true; the input reads as it did. -/
def scoreProvedSpec : ChangeSpec := { name := "scoreProved", fn := fun _ => fun
  | [d1, d2, d3, d4] => { results := [.lit (.bool true)], args := [d1, d2, d3, d4] }
  | _ => none }
def scoreProvedRow : OpenClaim := { program := "ythkepocejfghcaagreat", sum := "7ae10f861b9467082d442709397fbf4e0643291ce6422dc17d14be89a50594b4", func := "hairpin/hairpinlaw08.ScoreProved", spec := "scoreProved", unfollowed := true, recurses := true, plainKeys := false, apart := false }
def ScoreProvedSaid : Prop := scoreProvedRow.holds Tryz.pinned (OpenSpec.ofChange scoreProvedSpec)

/-- ITS FALSE NEIGHBOUR: 'it returns false'. Refute it at one input. -/
def scoreProvedWrong : ChangeSpec := { name := "scoreProved", fn := fun _ => fun
  | [d1, d2, d3, d4] => { results := [.lit (.bool false)], args := [d1, d2, d3, d4] }
  | _ => none }
def ScoreProvedWrongFalsely : Prop := scoreProvedRow.holds Tryz.pinned (OpenSpec.ofChange scoreProvedWrong)

/-- 'hairpinlaw08.ScoreDerives': WHATEVER THE INPUT: true; the input reads as it did. -/
def scoreDerivesSpec : ChangeSpec := { name := "scoreDerives", fn := fun _ => fun
  | [d1, d2] => { results := [.lit (.bool true)], args := [d1, d2] }
  | _ => none }
def scoreDerivesRow : OpenClaim := { program := "ythkepocejfghcaagreat", sum := "7ae10f861b9467082d442709397fbf4e0643291ce6422dc17d14be89a50594b4", func := "hairpin/hairpinlaw08.ScoreDerives", spec := "scoreDerives", unfollowed := true, recurses := true, plainKeys := false, apart := false }
def ScoreDerivesSaid : Prop := scoreDerivesRow.holds Tryz.pinned (OpenSpec.ofChange scoreDerivesSpec)

/-- ITS FALSE NEIGHBOUR: 'it returns false'. Refute it at one input. -/
def scoreDerivesWrong : ChangeSpec := { name := "scoreDerives", fn := fun _ => fun
  | [d1, d2] => { results := [.lit (.bool false)], args := [d1, d2] }
  | _ => none }
def ScoreDerivesWrongFalsely : Prop := scoreDerivesRow.holds Tryz.pinned (OpenSpec.ofChange scoreDerivesWrong)

/- THE SECOND FORM. 'bulk': how many values and letters a reading holds, each counted each time it is reached (what is shared counts as often as it is met; a slice's spare places count too). A statement '..UptoSaid' is the law's where the arguments, and the package variables that the reading takes, are together of bulk at most 1048576: NARROWER than '..Said'. Prove '..Said' where nothing that the law and all that it calls make is longer than what came in: it says more and counts as full. Else prove '..UptoSaid'. A law counts once. -/
mutual
def uptoBulk {H : Type} : DataW H → Nat
  | .lit (.string bytes) => bytes.length + 1
  | .lit _ => 1
  | .nil => 1
  | .ptr d => uptoBulk d + 1
  | .slice elems spare => uptoBulkAll elems + uptoBulkAll spare + 1
  | .agg parts => uptoBulkAll parts + 1
  | .iface _ d => uptoBulk d + 1
  | .map entries => uptoBulkEntries entries + 1
  | .held _ => 1
def uptoBulkAll {H : Type} : List (DataW H) → Nat
  | [] => 0
  | d :: r => uptoBulk d + uptoBulkAll r
def uptoBulkEntries {H : Type} : List (Lit × DataW H) → Nat
  | [] => 0
  | x :: r => uptoBulkEntry x + uptoBulkEntries r
def uptoBulkEntry {H : Type} : Lit × DataW H → Nat
  | (.string bytes, d) => bytes.length + uptoBulk d + 1
  | (_, d) => uptoBulk d + 1
 end
def uptoSmall : (H : Type) → List (DataW H) → Bool := fun _ ds => decide (uptoBulkAll ds ≤ 1048576)
def OpenSpec.upto (s : _root_.Go.ChangeSpec) : _root_.Go.OpenSpec := { _root_.Go.OpenSpec.ofChange s with cond := some uptoSmall }

/-- 'hairpinlaw08.ScoreChecks', WHERE WHAT IT READS IS OF BULK AT MOST 1048576: true; the input reads as it did. -/
def scoreChecksUptoRow : OpenClaim := { program := "ythkepocejfghcaagreat", sum := "7ae10f861b9467082d442709397fbf4e0643291ce6422dc17d14be89a50594b4", func := "hairpin/hairpinlaw08.ScoreChecks", spec := "scoreChecks", unfollowed := true, recurses := true, plainKeys := false, apart := false, narrowed := true }
def ScoreChecksUptoSaid : Prop := scoreChecksUptoRow.holds Tryz.pinned (OpenSpec.upto scoreChecksSpec)

/-- 'hairpinlaw08.ScoreTimes', WHERE WHAT IT READS IS OF BULK AT MOST 1048576: true; the input reads as it did. -/
def scoreTimesUptoRow : OpenClaim := { program := "ythkepocejfghcaagreat", sum := "7ae10f861b9467082d442709397fbf4e0643291ce6422dc17d14be89a50594b4", func := "hairpin/hairpinlaw08.ScoreTimes", spec := "scoreTimes", unfollowed := true, recurses := true, plainKeys := false, apart := false, narrowed := true }
def ScoreTimesUptoSaid : Prop := scoreTimesUptoRow.holds Tryz.pinned (OpenSpec.upto scoreTimesSpec)

/-- 'hairpinlaw08.ScoreBounds', WHERE WHAT IT READS IS OF BULK AT MOST 1048576: true; the input reads as it did. -/
def scoreBoundsUptoRow : OpenClaim := { program := "ythkepocejfghcaagreat", sum := "7ae10f861b9467082d442709397fbf4e0643291ce6422dc17d14be89a50594b4", func := "hairpin/hairpinlaw08.ScoreBounds", spec := "scoreBounds", unfollowed := true, recurses := true, plainKeys := false, apart := false, narrowed := true }
def ScoreBoundsUptoSaid : Prop := scoreBoundsUptoRow.holds Tryz.pinned (OpenSpec.upto scoreBoundsSpec)

/-- 'hairpinlaw08.ScoreResults', WHERE WHAT IT READS IS OF BULK AT MOST 1048576: true; the input reads as it did. -/
def scoreResultsUptoRow : OpenClaim := { program := "ythkepocejfghcaagreat", sum := "7ae10f861b9467082d442709397fbf4e0643291ce6422dc17d14be89a50594b4", func := "hairpin/hairpinlaw08.ScoreResults", spec := "scoreResults", unfollowed := true, recurses := true, plainKeys := false, apart := false, narrowed := true }
def ScoreResultsUptoSaid : Prop := scoreResultsUptoRow.holds Tryz.pinned (OpenSpec.upto scoreResultsSpec)

/-- 'hairpinlaw08.ScoreTurned', WHERE WHAT IT READS IS OF BULK AT MOST 1048576: true; the input reads as it did. -/
def scoreTurnedUptoRow : OpenClaim := { program := "ythkepocejfghcaagreat", sum := "7ae10f861b9467082d442709397fbf4e0643291ce6422dc17d14be89a50594b4", func := "hairpin/hairpinlaw08.ScoreTurned", spec := "scoreTurned", unfollowed := true, recurses := true, plainKeys := false, apart := false, narrowed := true }
def ScoreTurnedUptoSaid : Prop := scoreTurnedUptoRow.holds Tryz.pinned (OpenSpec.upto scoreTurnedSpec)

/-- 'hairpinlaw08.ScoreChampions', WHERE WHAT IT READS IS OF BULK AT MOST 1048576: true; the input reads as it did. -/
def scoreChampionsUptoRow : OpenClaim := { program := "ythkepocejfghcaagreat", sum := "7ae10f861b9467082d442709397fbf4e0643291ce6422dc17d14be89a50594b4", func := "hairpin/hairpinlaw08.ScoreChampions", spec := "scoreChampions", unfollowed := true, recurses := true, plainKeys := false, apart := false, narrowed := true }
def ScoreChampionsUptoSaid : Prop := scoreChampionsUptoRow.holds Tryz.pinned (OpenSpec.upto scoreChampionsSpec)

/-- 'hairpinlaw08.ScoreDues', WHERE WHAT IT READS IS OF BULK AT MOST 1048576: true; the input reads as it did. -/
def scoreDuesUptoRow : OpenClaim := { program := "ythkepocejfghcaagreat", sum := "7ae10f861b9467082d442709397fbf4e0643291ce6422dc17d14be89a50594b4", func := "hairpin/hairpinlaw08.ScoreDues", spec := "scoreDues", unfollowed := true, recurses := true, plainKeys := false, apart := false, narrowed := true }
def ScoreDuesUptoSaid : Prop := scoreDuesUptoRow.holds Tryz.pinned (OpenSpec.upto scoreDuesSpec)

/-- 'hairpinlaw08.ScorePlaces', WHERE WHAT IT READS IS OF BULK AT MOST 1048576: true; the input reads as it did. -/
def scorePlacesUptoRow : OpenClaim := { program := "ythkepocejfghcaagreat", sum := "7ae10f861b9467082d442709397fbf4e0643291ce6422dc17d14be89a50594b4", func := "hairpin/hairpinlaw08.ScorePlaces", spec := "scorePlaces", unfollowed := true, recurses := true, plainKeys := false, apart := false, narrowed := true }
def ScorePlacesUptoSaid : Prop := scorePlacesUptoRow.holds Tryz.pinned (OpenSpec.upto scorePlacesSpec)

/-- 'hairpinlaw08.ScoreLater', WHERE WHAT IT READS IS OF BULK AT MOST 1048576: true; the input reads as it did. -/
def scoreLaterUptoRow : OpenClaim := { program := "ythkepocejfghcaagreat", sum := "7ae10f861b9467082d442709397fbf4e0643291ce6422dc17d14be89a50594b4", func := "hairpin/hairpinlaw08.ScoreLater", spec := "scoreLater", unfollowed := true, recurses := true, plainKeys := false, apart := false, narrowed := true }
def ScoreLaterUptoSaid : Prop := scoreLaterUptoRow.holds Tryz.pinned (OpenSpec.upto scoreLaterSpec)

/-- 'hairpinlaw08.ScoreHolds', WHERE WHAT IT READS IS OF BULK AT MOST 1048576: true; the input reads as it did. -/
def scoreHoldsUptoRow : OpenClaim := { program := "ythkepocejfghcaagreat", sum := "7ae10f861b9467082d442709397fbf4e0643291ce6422dc17d14be89a50594b4", func := "hairpin/hairpinlaw08.ScoreHolds", spec := "scoreHolds", unfollowed := true, recurses := true, plainKeys := false, apart := false, narrowed := true }
def ScoreHoldsUptoSaid : Prop := scoreHoldsUptoRow.holds Tryz.pinned (OpenSpec.upto scoreHoldsSpec)

/-- 'hairpinlaw08.ScoreProved', WHERE WHAT IT READS IS OF BULK AT MOST 1048576: true; the input reads as it did. -/
def scoreProvedUptoRow : OpenClaim := { program := "ythkepocejfghcaagreat", sum := "7ae10f861b9467082d442709397fbf4e0643291ce6422dc17d14be89a50594b4", func := "hairpin/hairpinlaw08.ScoreProved", spec := "scoreProved", unfollowed := true, recurses := true, plainKeys := false, apart := false, narrowed := true }
def ScoreProvedUptoSaid : Prop := scoreProvedUptoRow.holds Tryz.pinned (OpenSpec.upto scoreProvedSpec)

/-- 'hairpinlaw08.ScoreDerives', WHERE WHAT IT READS IS OF BULK AT MOST 1048576: true; the input reads as it did. -/
def scoreDerivesUptoRow : OpenClaim := { program := "ythkepocejfghcaagreat", sum := "7ae10f861b9467082d442709397fbf4e0643291ce6422dc17d14be89a50594b4", func := "hairpin/hairpinlaw08.ScoreDerives", spec := "scoreDerives", unfollowed := true, recurses := true, plainKeys := false, apart := false, narrowed := true }
def ScoreDerivesUptoSaid : Prop := scoreDerivesUptoRow.holds Tryz.pinned (OpenSpec.upto scoreDerivesSpec)

end Rows
end Go.Proofs.YthkepocejfghcaaGreat
