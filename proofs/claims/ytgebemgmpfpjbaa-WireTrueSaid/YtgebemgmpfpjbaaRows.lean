/-
  No cell of these rows narrows 'for every input' (looked for: loops, veiled, ifaces, maps, wideKeys, modest, calm, conditions, laid).
  DERIVED. THE GIVEN ROWS OF THIS SEAT. 13 by the template 'for every input the law returns true; each argument reads behind the call as it read before'; 0 by the template 'total and deterministic' (their statements: YtgebemgmpfpjbaaTotals.lean).
  GIVEN WITH THE SEED: the statements are not yours to turn. If you find one false, say at which input.
  Laid BY PROGRAM, IN A SANDBOX (cutbox-rows.mjs): the forced cells as the released guide's own fill.sh prints them over the translation bce7eb62f0f13290… (all of the seat's roots in one cut). By AI agents, Wed Nov 11 2026. No macro, syntax, notation, axiom, sorry.
-/
import Derived.Test.YtgebemgmpfpjbaaChecked
import GoSem.Claim
import GoSem.ClaimJoined
import GoSem.ClaimMapViews
import Derived.JoinedTies
import Derived.KernelRfl
namespace Go.Proofs.Ytgebemgmpfpjbaa
/- THE CELL 'sum', in the pinned program and in every row, IS THE sha256 OF THE DUMP (.gsa) THAT YtgebemgmpfpjbaaProg.lean LOADS. Nothing in Lean hashes anything: it is a label: what it is worth is what the hold of that sum in a sandbox is worth. -/
noncomputable def Try.pinned : Pinned := { name := "ytgebemgmpfpjbaa", sum := "bce7eb62f0f1329019e0bde47e757de588914cc9472f9cac15d688c7825c7f1f", checked := Try.checked }
namespace Rows
def none {H : Type} : Left H := { results := [], args := [] }

/-- 'hairpinlaw07.WireReports': WHATEVER THE INPUT: true; the input reads as it did. -/
def wireReportsSpec : ChangeSpec := { name := "wireReports", fn := fun _ => fun
  | [d1, d2] => { results := [.lit (.bool true)], args := [d1, d2] }
  | _ => none }
def wireReportsRow : OpenClaim := { program := "ytgebemgmpfpjbaa", sum := "bce7eb62f0f1329019e0bde47e757de588914cc9472f9cac15d688c7825c7f1f", func := "hairpin/hairpinlaw07.WireReports", spec := "wireReports", inPlace := ["maps.clone"], unfollowed := true, recurses := true, plainKeys := false, apart := false }
def WireReportsSaid : Prop := wireReportsRow.holds Try.pinned (OpenSpec.ofChange wireReportsSpec)

/-- ITS FALSE NEIGHBOUR: 'it returns false'. Refute it at one input. -/
def wireReportsWrong : ChangeSpec := { name := "wireReports", fn := fun _ => fun
  | [d1, d2] => { results := [.lit (.bool false)], args := [d1, d2] }
  | _ => none }
def WireReportsWrongFalsely : Prop := wireReportsRow.holds Try.pinned (OpenSpec.ofChange wireReportsWrong)

/-- 'hairpinlaw07.WireMany': WHATEVER THE INPUT: true; the input reads as it did. -/
def wireManySpec : ChangeSpec := { name := "wireMany", fn := fun _ => fun
  | [d1, d2, d3] => { results := [.lit (.bool true)], args := [d1, d2, d3] }
  | _ => none }
def wireManyRow : OpenClaim := { program := "ytgebemgmpfpjbaa", sum := "bce7eb62f0f1329019e0bde47e757de588914cc9472f9cac15d688c7825c7f1f", func := "hairpin/hairpinlaw07.WireMany", spec := "wireMany", inPlace := ["maps.clone"], unfollowed := true, recurses := true, plainKeys := false, apart := false }
def WireManySaid : Prop := wireManyRow.holds Try.pinned (OpenSpec.ofChange wireManySpec)

/-- ITS FALSE NEIGHBOUR: 'it returns false'. Refute it at one input. -/
def wireManyWrong : ChangeSpec := { name := "wireMany", fn := fun _ => fun
  | [d1, d2, d3] => { results := [.lit (.bool false)], args := [d1, d2, d3] }
  | _ => none }
def WireManyWrongFalsely : Prop := wireManyRow.holds Try.pinned (OpenSpec.ofChange wireManyWrong)

/-- 'hairpinlaw07.WireKnown': WHATEVER THE INPUT: true; the input reads as it did. -/
def wireKnownSpec : ChangeSpec := { name := "wireKnown", fn := fun _ => fun
  | [d1, d2, d3] => { results := [.lit (.bool true)], args := [d1, d2, d3] }
  | _ => none }
def wireKnownRow : OpenClaim := { program := "ytgebemgmpfpjbaa", sum := "bce7eb62f0f1329019e0bde47e757de588914cc9472f9cac15d688c7825c7f1f", func := "hairpin/hairpinlaw07.WireKnown", spec := "wireKnown", inPlace := ["maps.clone"], unfollowed := true, recurses := true, plainKeys := false, apart := false }
def WireKnownSaid : Prop := wireKnownRow.holds Try.pinned (OpenSpec.ofChange wireKnownSpec)

/-- ITS FALSE NEIGHBOUR: 'it returns false'. Refute it at one input. -/
def wireKnownWrong : ChangeSpec := { name := "wireKnown", fn := fun _ => fun
  | [d1, d2, d3] => { results := [.lit (.bool false)], args := [d1, d2, d3] }
  | _ => none }
def WireKnownWrongFalsely : Prop := wireKnownRow.holds Try.pinned (OpenSpec.ofChange wireKnownWrong)

/-- 'hairpinlaw07.WireQuarrels': WHATEVER THE INPUT: true; the input reads as it did. -/
def wireQuarrelsSpec : ChangeSpec := { name := "wireQuarrels", fn := fun _ => fun
  | [d1, d2, d3] => { results := [.lit (.bool true)], args := [d1, d2, d3] }
  | _ => none }
def wireQuarrelsRow : OpenClaim := { program := "ytgebemgmpfpjbaa", sum := "bce7eb62f0f1329019e0bde47e757de588914cc9472f9cac15d688c7825c7f1f", func := "hairpin/hairpinlaw07.WireQuarrels", spec := "wireQuarrels", inPlace := ["maps.clone"], unfollowed := true, recurses := true, plainKeys := false, apart := false }
def WireQuarrelsSaid : Prop := wireQuarrelsRow.holds Try.pinned (OpenSpec.ofChange wireQuarrelsSpec)

/-- ITS FALSE NEIGHBOUR: 'it returns false'. Refute it at one input. -/
def wireQuarrelsWrong : ChangeSpec := { name := "wireQuarrels", fn := fun _ => fun
  | [d1, d2, d3] => { results := [.lit (.bool false)], args := [d1, d2, d3] }
  | _ => none }
def WireQuarrelsWrongFalsely : Prop := wireQuarrelsRow.holds Try.pinned (OpenSpec.ofChange wireQuarrelsWrong)

/-- 'hairpinlaw07.WireAgrees': WHATEVER THE INPUT: true; the input reads as it did. -/
def wireAgreesSpec : ChangeSpec := { name := "wireAgrees", fn := fun _ => fun
  | [d1, d2, d3] => { results := [.lit (.bool true)], args := [d1, d2, d3] }
  | _ => none }
def wireAgreesRow : OpenClaim := { program := "ytgebemgmpfpjbaa", sum := "bce7eb62f0f1329019e0bde47e757de588914cc9472f9cac15d688c7825c7f1f", func := "hairpin/hairpinlaw07.WireAgrees", spec := "wireAgrees", inPlace := ["maps.clone"], unfollowed := true, recurses := true, plainKeys := false, apart := false }
def WireAgreesSaid : Prop := wireAgreesRow.holds Try.pinned (OpenSpec.ofChange wireAgreesSpec)

/-- ITS FALSE NEIGHBOUR: 'it returns false'. Refute it at one input. -/
def wireAgreesWrong : ChangeSpec := { name := "wireAgrees", fn := fun _ => fun
  | [d1, d2, d3] => { results := [.lit (.bool false)], args := [d1, d2, d3] }
  | _ => none }
def WireAgreesWrongFalsely : Prop := wireAgreesRow.holds Try.pinned (OpenSpec.ofChange wireAgreesWrong)

/-- 'hairpinlaw07.WireOn': WHATEVER THE INPUT: true; the input reads as it did. -/
def wireOnSpec : ChangeSpec := { name := "wireOn", fn := fun _ => fun
  | [d1, d2, d3, d4] => { results := [.lit (.bool true)], args := [d1, d2, d3, d4] }
  | _ => none }
def wireOnRow : OpenClaim := { program := "ytgebemgmpfpjbaa", sum := "bce7eb62f0f1329019e0bde47e757de588914cc9472f9cac15d688c7825c7f1f", func := "hairpin/hairpinlaw07.WireOn", spec := "wireOn", inPlace := ["maps.clone"], unfollowed := true, recurses := true, plainKeys := false, apart := false }
def WireOnSaid : Prop := wireOnRow.holds Try.pinned (OpenSpec.ofChange wireOnSpec)

/-- ITS FALSE NEIGHBOUR: 'it returns false'. Refute it at one input. -/
def wireOnWrong : ChangeSpec := { name := "wireOn", fn := fun _ => fun
  | [d1, d2, d3, d4] => { results := [.lit (.bool false)], args := [d1, d2, d3, d4] }
  | _ => none }
def WireOnWrongFalsely : Prop := wireOnRow.holds Try.pinned (OpenSpec.ofChange wireOnWrong)

/-- 'hairpinlaw07.WireTrue': WHATEVER THE INPUT: true; the input reads as it did. -/
def wireTrueSpec : ChangeSpec := { name := "wireTrue", fn := fun _ => fun
  | [d1, d2, d3, d4, d5] => { results := [.lit (.bool true)], args := [d1, d2, d3, d4, d5] }
  | _ => none }
def wireTrueRow : OpenClaim := { program := "ytgebemgmpfpjbaa", sum := "bce7eb62f0f1329019e0bde47e757de588914cc9472f9cac15d688c7825c7f1f", func := "hairpin/hairpinlaw07.WireTrue", spec := "wireTrue", inPlace := ["maps.clone"], unfollowed := true, recurses := true, plainKeys := false, apart := false }
def WireTrueSaid : Prop := wireTrueRow.holds Try.pinned (OpenSpec.ofChange wireTrueSpec)

/-- ITS FALSE NEIGHBOUR: 'it returns false'. Refute it at one input. -/
def wireTrueWrong : ChangeSpec := { name := "wireTrue", fn := fun _ => fun
  | [d1, d2, d3, d4, d5] => { results := [.lit (.bool false)], args := [d1, d2, d3, d4, d5] }
  | _ => none }
def WireTrueWrongFalsely : Prop := wireTrueRow.holds Try.pinned (OpenSpec.ofChange wireTrueWrong)

/-- 'hairpinlaw07.WireNarrows': WHATEVER THE INPUT: true; the input reads as it did. -/
def wireNarrowsSpec : ChangeSpec := { name := "wireNarrows", fn := fun _ => fun
  | [d1, d2, d3, d4, d5] => { results := [.lit (.bool true)], args := [d1, d2, d3, d4, d5] }
  | _ => none }
def wireNarrowsRow : OpenClaim := { program := "ytgebemgmpfpjbaa", sum := "bce7eb62f0f1329019e0bde47e757de588914cc9472f9cac15d688c7825c7f1f", func := "hairpin/hairpinlaw07.WireNarrows", spec := "wireNarrows", inPlace := ["maps.clone"], unfollowed := true, recurses := true, plainKeys := false, apart := false }
def WireNarrowsSaid : Prop := wireNarrowsRow.holds Try.pinned (OpenSpec.ofChange wireNarrowsSpec)

/-- ITS FALSE NEIGHBOUR: 'it returns false'. Refute it at one input. -/
def wireNarrowsWrong : ChangeSpec := { name := "wireNarrows", fn := fun _ => fun
  | [d1, d2, d3, d4, d5] => { results := [.lit (.bool false)], args := [d1, d2, d3, d4, d5] }
  | _ => none }
def WireNarrowsWrongFalsely : Prop := wireNarrowsRow.holds Try.pinned (OpenSpec.ofChange wireNarrowsWrong)

/-- 'hairpinlaw07.WireCounts': WHATEVER THE INPUT: true; the input reads as it did. -/
def wireCountsSpec : ChangeSpec := { name := "wireCounts", fn := fun _ => fun
  | [d1, d2, d3] => { results := [.lit (.bool true)], args := [d1, d2, d3] }
  | _ => none }
def wireCountsRow : OpenClaim := { program := "ytgebemgmpfpjbaa", sum := "bce7eb62f0f1329019e0bde47e757de588914cc9472f9cac15d688c7825c7f1f", func := "hairpin/hairpinlaw07.WireCounts", spec := "wireCounts", inPlace := ["maps.clone"], unfollowed := true, recurses := true, plainKeys := false, apart := false }
def WireCountsSaid : Prop := wireCountsRow.holds Try.pinned (OpenSpec.ofChange wireCountsSpec)

/-- ITS FALSE NEIGHBOUR: 'it returns false'. Refute it at one input. -/
def wireCountsWrong : ChangeSpec := { name := "wireCounts", fn := fun _ => fun
  | [d1, d2, d3] => { results := [.lit (.bool false)], args := [d1, d2, d3] }
  | _ => none }
def WireCountsWrongFalsely : Prop := wireCountsRow.holds Try.pinned (OpenSpec.ofChange wireCountsWrong)

/-- 'hairpinlaw07.WireOthers': WHATEVER THE INPUT: true; the input reads as it did. -/
def wireOthersSpec : ChangeSpec := { name := "wireOthers", fn := fun _ => fun
  | [d1, d2] => { results := [.lit (.bool true)], args := [d1, d2] }
  | _ => none }
def wireOthersRow : OpenClaim := { program := "ytgebemgmpfpjbaa", sum := "bce7eb62f0f1329019e0bde47e757de588914cc9472f9cac15d688c7825c7f1f", func := "hairpin/hairpinlaw07.WireOthers", spec := "wireOthers", inPlace := ["maps.clone"], unfollowed := true, recurses := true, plainKeys := false, apart := false }
def WireOthersSaid : Prop := wireOthersRow.holds Try.pinned (OpenSpec.ofChange wireOthersSpec)

/-- ITS FALSE NEIGHBOUR: 'it returns false'. Refute it at one input. -/
def wireOthersWrong : ChangeSpec := { name := "wireOthers", fn := fun _ => fun
  | [d1, d2] => { results := [.lit (.bool false)], args := [d1, d2] }
  | _ => none }
def WireOthersWrongFalsely : Prop := wireOthersRow.holds Try.pinned (OpenSpec.ofChange wireOthersWrong)

/-- 'hairpinlaw07.WireMerges': WHATEVER THE INPUT: true; the input reads as it did. -/
def wireMergesSpec : ChangeSpec := { name := "wireMerges", fn := fun _ => fun
  | [d1, d2, d3, d4] => { results := [.lit (.bool true)], args := [d1, d2, d3, d4] }
  | _ => none }
def wireMergesRow : OpenClaim := { program := "ytgebemgmpfpjbaa", sum := "bce7eb62f0f1329019e0bde47e757de588914cc9472f9cac15d688c7825c7f1f", func := "hairpin/hairpinlaw07.WireMerges", spec := "wireMerges", inPlace := ["maps.clone"], unfollowed := true, recurses := true, plainKeys := false, apart := false }
def WireMergesSaid : Prop := wireMergesRow.holds Try.pinned (OpenSpec.ofChange wireMergesSpec)

/-- ITS FALSE NEIGHBOUR: 'it returns false'. Refute it at one input. -/
def wireMergesWrong : ChangeSpec := { name := "wireMerges", fn := fun _ => fun
  | [d1, d2, d3, d4] => { results := [.lit (.bool false)], args := [d1, d2, d3, d4] }
  | _ => none }
def WireMergesWrongFalsely : Prop := wireMergesRow.holds Try.pinned (OpenSpec.ofChange wireMergesWrong)

/-- 'hairpinlaw07.WireTimes': WHATEVER THE INPUT: true; the input reads as it did. -/
def wireTimesSpec : ChangeSpec := { name := "wireTimes", fn := fun _ => fun
  | [d1, d2, d3, d4] => { results := [.lit (.bool true)], args := [d1, d2, d3, d4] }
  | _ => none }
def wireTimesRow : OpenClaim := { program := "ytgebemgmpfpjbaa", sum := "bce7eb62f0f1329019e0bde47e757de588914cc9472f9cac15d688c7825c7f1f", func := "hairpin/hairpinlaw07.WireTimes", spec := "wireTimes", inPlace := ["maps.clone"], unfollowed := true, recurses := true, plainKeys := false, apart := false }
def WireTimesSaid : Prop := wireTimesRow.holds Try.pinned (OpenSpec.ofChange wireTimesSpec)

/-- ITS FALSE NEIGHBOUR: 'it returns false'. Refute it at one input. -/
def wireTimesWrong : ChangeSpec := { name := "wireTimes", fn := fun _ => fun
  | [d1, d2, d3, d4] => { results := [.lit (.bool false)], args := [d1, d2, d3, d4] }
  | _ => none }
def WireTimesWrongFalsely : Prop := wireTimesRow.holds Try.pinned (OpenSpec.ofChange wireTimesWrong)

/-- 'hairpinlaw07.WireNil': WHATEVER THE INPUT: true; the input reads as it did. -/
def wireNilSpec : ChangeSpec := { name := "wireNil", fn := fun _ => fun
  | [d1, d2, d3] => { results := [.lit (.bool true)], args := [d1, d2, d3] }
  | _ => none }
def wireNilRow : OpenClaim := { program := "ytgebemgmpfpjbaa", sum := "bce7eb62f0f1329019e0bde47e757de588914cc9472f9cac15d688c7825c7f1f", func := "hairpin/hairpinlaw07.WireNil", spec := "wireNil", inPlace := ["maps.clone"], unfollowed := true, recurses := true, plainKeys := false, apart := false }
def WireNilSaid : Prop := wireNilRow.holds Try.pinned (OpenSpec.ofChange wireNilSpec)

/-- ITS FALSE NEIGHBOUR: 'it returns false'. Refute it at one input. -/
def wireNilWrong : ChangeSpec := { name := "wireNil", fn := fun _ => fun
  | [d1, d2, d3] => { results := [.lit (.bool false)], args := [d1, d2, d3] }
  | _ => none }
def WireNilWrongFalsely : Prop := wireNilRow.holds Try.pinned (OpenSpec.ofChange wireNilWrong)

/- THE SECOND FORM. 'bulk': how many values and letters a reading holds, each counted each time it is reached (what is shared counts as often as it is met; a slice's spare places count too). A statement '..UptoSaid' is the law's where the arguments, and the package variables that the reading takes, are together of bulk at most 1048576: NARROWER than '..Said'. Prove '..Said' where nothing that the law and all that it calls make is longer than what came in: it says more and counts as full. Else prove '..UptoSaid'. A law counts once. -/
mutual
def uptoBulk {H : Type} : DataW H → Nat
  | .lit (.string bytes) => bytes.length + 1
  | .lit _ => 1
  | .nil => 1
  | .ptr d => uptoBulk d + 1
  | .slice elems spare => uptoBulkAll elems + uptoBulkAll spare + 1
  | .agg parts => uptoBulkAll parts + 1
  | .iface _ d => uptoBulk d + 1
  | .map entries => uptoBulkEntries entries + 1
  | .held _ => 1
def uptoBulkAll {H : Type} : List (DataW H) → Nat
  | [] => 0
  | d :: r => uptoBulk d + uptoBulkAll r
def uptoBulkEntries {H : Type} : List (Lit × DataW H) → Nat
  | [] => 0
  | x :: r => uptoBulkEntry x + uptoBulkEntries r
def uptoBulkEntry {H : Type} : Lit × DataW H → Nat
  | (.string bytes, d) => bytes.length + uptoBulk d + 1
  | (_, d) => uptoBulk d + 1
 end
def uptoSmall : (H : Type) → List (DataW H) → Bool := fun _ ds => decide (uptoBulkAll ds ≤ 1048576)
def OpenSpec.upto (s : _root_.Go.ChangeSpec) : _root_.Go.OpenSpec := { _root_.Go.OpenSpec.ofChange s with cond := some uptoSmall }

/-- 'hairpinlaw07.WireReports', WHERE WHAT IT READS IS OF BULK AT MOST 1048576: true; the input reads as it did. -/
def wireReportsUptoRow : OpenClaim := { program := "ytgebemgmpfpjbaa", sum := "bce7eb62f0f1329019e0bde47e757de588914cc9472f9cac15d688c7825c7f1f", func := "hairpin/hairpinlaw07.WireReports", spec := "wireReports", inPlace := ["maps.clone"], unfollowed := true, recurses := true, plainKeys := false, apart := false, narrowed := true }
def WireReportsUptoSaid : Prop := wireReportsUptoRow.holds Try.pinned (OpenSpec.upto wireReportsSpec)

/-- 'hairpinlaw07.WireMany', WHERE WHAT IT READS IS OF BULK AT MOST 1048576: true; the input reads as it did. -/
def wireManyUptoRow : OpenClaim := { program := "ytgebemgmpfpjbaa", sum := "bce7eb62f0f1329019e0bde47e757de588914cc9472f9cac15d688c7825c7f1f", func := "hairpin/hairpinlaw07.WireMany", spec := "wireMany", inPlace := ["maps.clone"], unfollowed := true, recurses := true, plainKeys := false, apart := false, narrowed := true }
def WireManyUptoSaid : Prop := wireManyUptoRow.holds Try.pinned (OpenSpec.upto wireManySpec)

/-- 'hairpinlaw07.WireKnown', WHERE WHAT IT READS IS OF BULK AT MOST 1048576: true; the input reads as it did. -/
def wireKnownUptoRow : OpenClaim := { program := "ytgebemgmpfpjbaa", sum := "bce7eb62f0f1329019e0bde47e757de588914cc9472f9cac15d688c7825c7f1f", func := "hairpin/hairpinlaw07.WireKnown", spec := "wireKnown", inPlace := ["maps.clone"], unfollowed := true, recurses := true, plainKeys := false, apart := false, narrowed := true }
def WireKnownUptoSaid : Prop := wireKnownUptoRow.holds Try.pinned (OpenSpec.upto wireKnownSpec)

/-- 'hairpinlaw07.WireQuarrels', WHERE WHAT IT READS IS OF BULK AT MOST 1048576: true; the input reads as it did. -/
def wireQuarrelsUptoRow : OpenClaim := { program := "ytgebemgmpfpjbaa", sum := "bce7eb62f0f1329019e0bde47e757de588914cc9472f9cac15d688c7825c7f1f", func := "hairpin/hairpinlaw07.WireQuarrels", spec := "wireQuarrels", inPlace := ["maps.clone"], unfollowed := true, recurses := true, plainKeys := false, apart := false, narrowed := true }
def WireQuarrelsUptoSaid : Prop := wireQuarrelsUptoRow.holds Try.pinned (OpenSpec.upto wireQuarrelsSpec)

/-- 'hairpinlaw07.WireAgrees', WHERE WHAT IT READS IS OF BULK AT MOST 1048576: true; the input reads as it did. -/
def wireAgreesUptoRow : OpenClaim := { program := "ytgebemgmpfpjbaa", sum := "bce7eb62f0f1329019e0bde47e757de588914cc9472f9cac15d688c7825c7f1f", func := "hairpin/hairpinlaw07.WireAgrees", spec := "wireAgrees", inPlace := ["maps.clone"], unfollowed := true, recurses := true, plainKeys := false, apart := false, narrowed := true }
def WireAgreesUptoSaid : Prop := wireAgreesUptoRow.holds Try.pinned (OpenSpec.upto wireAgreesSpec)

/-- 'hairpinlaw07.WireOn', WHERE WHAT IT READS IS OF BULK AT MOST 1048576: true; the input reads as it did. -/
def wireOnUptoRow : OpenClaim := { program := "ytgebemgmpfpjbaa", sum := "bce7eb62f0f1329019e0bde47e757de588914cc9472f9cac15d688c7825c7f1f", func := "hairpin/hairpinlaw07.WireOn", spec := "wireOn", inPlace := ["maps.clone"], unfollowed := true, recurses := true, plainKeys := false, apart := false, narrowed := true }
def WireOnUptoSaid : Prop := wireOnUptoRow.holds Try.pinned (OpenSpec.upto wireOnSpec)

/-- 'hairpinlaw07.WireTrue', WHERE WHAT IT READS IS OF BULK AT MOST 1048576: true; the input reads as it did. -/
def wireTrueUptoRow : OpenClaim := { program := "ytgebemgmpfpjbaa", sum := "bce7eb62f0f1329019e0bde47e757de588914cc9472f9cac15d688c7825c7f1f", func := "hairpin/hairpinlaw07.WireTrue", spec := "wireTrue", inPlace := ["maps.clone"], unfollowed := true, recurses := true, plainKeys := false, apart := false, narrowed := true }
def WireTrueUptoSaid : Prop := wireTrueUptoRow.holds Try.pinned (OpenSpec.upto wireTrueSpec)

/-- 'hairpinlaw07.WireNarrows', WHERE WHAT IT READS IS OF BULK AT MOST 1048576: true; the input reads as it did. -/
def wireNarrowsUptoRow : OpenClaim := { program := "ytgebemgmpfpjbaa", sum := "bce7eb62f0f1329019e0bde47e757de588914cc9472f9cac15d688c7825c7f1f", func := "hairpin/hairpinlaw07.WireNarrows", spec := "wireNarrows", inPlace := ["maps.clone"], unfollowed := true, recurses := true, plainKeys := false, apart := false, narrowed := true }
def WireNarrowsUptoSaid : Prop := wireNarrowsUptoRow.holds Try.pinned (OpenSpec.upto wireNarrowsSpec)

/-- 'hairpinlaw07.WireCounts', WHERE WHAT IT READS IS OF BULK AT MOST 1048576: true; the input reads as it did. -/
def wireCountsUptoRow : OpenClaim := { program := "ytgebemgmpfpjbaa", sum := "bce7eb62f0f1329019e0bde47e757de588914cc9472f9cac15d688c7825c7f1f", func := "hairpin/hairpinlaw07.WireCounts", spec := "wireCounts", inPlace := ["maps.clone"], unfollowed := true, recurses := true, plainKeys := false, apart := false, narrowed := true }
def WireCountsUptoSaid : Prop := wireCountsUptoRow.holds Try.pinned (OpenSpec.upto wireCountsSpec)

/-- 'hairpinlaw07.WireOthers', WHERE WHAT IT READS IS OF BULK AT MOST 1048576: true; the input reads as it did. -/
def wireOthersUptoRow : OpenClaim := { program := "ytgebemgmpfpjbaa", sum := "bce7eb62f0f1329019e0bde47e757de588914cc9472f9cac15d688c7825c7f1f", func := "hairpin/hairpinlaw07.WireOthers", spec := "wireOthers", inPlace := ["maps.clone"], unfollowed := true, recurses := true, plainKeys := false, apart := false, narrowed := true }
def WireOthersUptoSaid : Prop := wireOthersUptoRow.holds Try.pinned (OpenSpec.upto wireOthersSpec)

/-- 'hairpinlaw07.WireMerges', WHERE WHAT IT READS IS OF BULK AT MOST 1048576: true; the input reads as it did. -/
def wireMergesUptoRow : OpenClaim := { program := "ytgebemgmpfpjbaa", sum := "bce7eb62f0f1329019e0bde47e757de588914cc9472f9cac15d688c7825c7f1f", func := "hairpin/hairpinlaw07.WireMerges", spec := "wireMerges", inPlace := ["maps.clone"], unfollowed := true, recurses := true, plainKeys := false, apart := false, narrowed := true }
def WireMergesUptoSaid : Prop := wireMergesUptoRow.holds Try.pinned (OpenSpec.upto wireMergesSpec)

/-- 'hairpinlaw07.WireTimes', WHERE WHAT IT READS IS OF BULK AT MOST 1048576: true; the input reads as it did. -/
def wireTimesUptoRow : OpenClaim := { program := "ytgebemgmpfpjbaa", sum := "bce7eb62f0f1329019e0bde47e757de588914cc9472f9cac15d688c7825c7f1f", func := "hairpin/hairpinlaw07.WireTimes", spec := "wireTimes", inPlace := ["maps.clone"], unfollowed := true, recurses := true, plainKeys := false, apart := false, narrowed := true }
def WireTimesUptoSaid : Prop := wireTimesUptoRow.holds Try.pinned (OpenSpec.upto wireTimesSpec)

/-- 'hairpinlaw07.WireNil', WHERE WHAT IT READS IS OF BULK AT MOST 1048576: true; the input reads as it did. -/
def wireNilUptoRow : OpenClaim := { program := "ytgebemgmpfpjbaa", sum := "bce7eb62f0f1329019e0bde47e757de588914cc9472f9cac15d688c7825c7f1f", func := "hairpin/hairpinlaw07.WireNil", spec := "wireNil", inPlace := ["maps.clone"], unfollowed := true, recurses := true, plainKeys := false, apart := false, narrowed := true }
def WireNilUptoSaid : Prop := wireNilUptoRow.holds Try.pinned (OpenSpec.upto wireNilSpec)

end Rows
end Go.Proofs.Ytgebemgmpfpjbaa
