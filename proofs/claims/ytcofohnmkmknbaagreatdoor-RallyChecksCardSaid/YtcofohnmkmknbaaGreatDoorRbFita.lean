/-
  The row of a law fits the program: closed facts.
-/
import Derived.Test.YtcofohnmkmknbaaGreatDoorRows
import Derived.ProofKit
import Derived.Stop.Joined
set_option linter.unusedSimpArgs false
set_option linter.unusedVariables false
namespace Go.Proofs.YtcofohnmkmknbaaGreatDoor
theorem n0 : (Rows.rallyChecksRow.wf (OpenSpec.ofChange Rows.rallyChecksSpec)) = true := by kernel_rfl
theorem n1 : (laidOutB Tryz.prog) = true := by kernel_rfl
theorem n2 : (mapsRowed Tryz.prog) = true := by kernel_rfl
theorem n3 : (Tryz.f3.params.all (Tryz.prog.readableRec ·)) = true := by kernel_rfl
theorem n4 : (namedTie Tryz.prog Rows.rallyChecksRow.named Rows.rallyChecksSpec.vars) = true := by kernel_rfl
theorem n5 : ((Rows.rallyChecksRow.stops == [])) = true := by kernel_rfl
theorem n6 : ((Tryz.prog.stops == [])) = true := by kernel_rfl
theorem n7 : ((Rows.rallyChecksRow.knobs == [])) = true := by kernel_rfl
theorem n8 : ((Tryz.prog.stopKnobs == [])) = true := by kernel_rfl
theorem n13 : ((Rows.rallyChecksRow.maps == (Tryz.f3.params.toList ++ Rows.rallyChecksSpec.plain.varTypes Tryz.prog).any (Tryz.prog.mapsRec ·))) = true := by kernel_rfl
theorem n14 : ((Rows.rallyChecksRow.ifaces == (Tryz.f3.params.toList ++ Rows.rallyChecksSpec.plain.varTypes Tryz.prog).any (Tryz.prog.ifacesRec ·))) = true := by kernel_rfl
theorem n15 : ((Rows.rallyChecksRow.mapsOut == Tryz.prog.mapsAmong Tryz.f3.resultTypes.toList)) = true := by kernel_rfl
theorem n16 : ((Rows.rallyChecksRow.loops == (Tryz.f3.params.toList ++ Rows.rallyChecksSpec.plain.varTypes Tryz.prog).any (Tryz.prog.loopsFrom ·))) = true := by kernel_rfl
theorem n17 : ((Rows.rallyChecksRow.wideKeys == (Tryz.f3.params.toList ++ Rows.rallyChecksSpec.plain.varTypes Tryz.prog ++ Tryz.f3.resultTypes.toList).any (Tryz.prog.wideKeysFrom ·))) = true := by kernel_rfl
theorem n18 : (Rows.rallyChecksSpec.vars.all (Tryz.prog.varReadable ·)) = true := by kernel_rfl
theorem n19 : (Tryz.f3.resultTypes.all (fun t => Tryz.prog.readableRec t && decide (t < Tryz.prog.types.size))) = true := by kernel_rfl
theorem n20 : ((Rows.rallyChecksRow.ifacesOut == Tryz.f3.resultTypes.toList.any (Tryz.prog.ifacesRec ·))) = true := by kernel_rfl
theorem n21 : ((Rows.rallyChecksRow.loopsOut == Tryz.f3.resultTypes.toList.any (Tryz.prog.loopsFrom ·))) = true := by kernel_rfl
theorem n23 : (Rows.rallyChecksRow.shortTexts.isNone) = true := by kernel_rfl
theorem n24 : (Tryz.prog.stopsHeard) = true := by kernel_rfl
theorem n25 : (Tryz.prog.mayEnter) = true := by kernel_rfl
theorem n26 : ((Rows.rallyChecksRow.lifted == Tryz.prog.liftsFinal)) = true := by kernel_rfl
theorem n27 : ((Tryz.prog.make == some Rows.rallyChecksRow.make)) = true := by kernel_rfl
theorem n28 : ((Rows.rallyChecksRow.kinds == (if Rows.rallyChecksRow.domain.isEmpty then [] else Tryz.f3.params.toList.map fun t => match Tryz.prog.underlying t with | some (.int k) => some k | _ => none))) = true := by kernel_rfl
theorem n29 : ((Rows.rallyChecksRow.pinned == Rows.rallyChecksRow.pinnedBy)) = true := by kernel_rfl
theorem n30 : ((Rows.rallyChecksRow.veiled == (Tryz.f3.params.toList ++ Rows.rallyChecksSpec.plain.varTypes Tryz.prog ++ Tryz.f3.resultTypes.toList).any (Tryz.prog.veiledRec ·))) = true := by kernel_rfl
theorem n31 : (Rows.rallyChecksRow.veiledFits Tryz.prog Tryz.f3.params.toList (Tryz.f3.params.toList ++ Rows.rallyChecksSpec.plain.varTypes Tryz.prog ++ Tryz.f3.resultTypes.toList)) = true := by kernel_rfl
theorem aiS : Tryz.pinned.checked.prog.funcNamed Rows.rallyChecksRow.func = some 3 := by kernel_rfl
theorem anV : Tryz.f3.isInstance Tryz.pinned.checked.prog Rows.rallyChecksRow.origin Rows.rallyChecksRow.targs := of_decide_eq_true (by kernel_rfl)
end Go.Proofs.YtcofohnmkmknbaaGreatDoor
