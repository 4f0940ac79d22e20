/- Texts. -/
import Derived.Test.YtjnipnanfjglpaaGreatDoorRows
import Derived.ProofKit
import Derived.Stop.Joined
set_option linter.unusedSimpArgs false
set_option linter.unusedVariables false
namespace Go.Proofs.YtjnipnanfjglpaaGreatDoor
theorem n0 : (Rows.topWitnessRow.wf (OpenSpec.ofChange Rows.topWitnessSpec)) = true := by kernel_rfl
theorem n1 : (laidOutB Tryz.prog) = true := by kernel_rfl
theorem n2 : (mapsRowed Tryz.prog) = true := by kernel_rfl
theorem n3 : (Tryz.f3.params.all (Tryz.prog.readableRec ·)) = true := by kernel_rfl
theorem n4 : (namedTie Tryz.prog Rows.topWitnessRow.named Rows.topWitnessSpec.vars) = true := by kernel_rfl
theorem n5 : ((Rows.topWitnessRow.stops == [])) = true := by kernel_rfl
theorem n6 : ((Tryz.prog.stops == [])) = true := by kernel_rfl
theorem n7 : ((Rows.topWitnessRow.knobs == [])) = true := by kernel_rfl
theorem n8 : ((Tryz.prog.stopKnobs == [])) = true := by kernel_rfl
theorem n13 : ((Rows.topWitnessRow.maps == (Tryz.f3.params.toList ++ Rows.topWitnessSpec.plain.varTypes Tryz.prog).any (Tryz.prog.mapsRec ·))) = true := by kernel_rfl
theorem n14 : ((Rows.topWitnessRow.ifaces == (Tryz.f3.params.toList ++ Rows.topWitnessSpec.plain.varTypes Tryz.prog).any (Tryz.prog.ifacesRec ·))) = true := by kernel_rfl
theorem n15 : ((Rows.topWitnessRow.mapsOut == Tryz.prog.mapsAmong Tryz.f3.resultTypes.toList)) = true := by kernel_rfl
theorem n16 : ((Rows.topWitnessRow.loops == (Tryz.f3.params.toList ++ Rows.topWitnessSpec.plain.varTypes Tryz.prog).any (Tryz.prog.loopsFrom ·))) = true := by kernel_rfl
theorem n17 : ((Rows.topWitnessRow.wideKeys == (Tryz.f3.params.toList ++ Rows.topWitnessSpec.plain.varTypes Tryz.prog ++ Tryz.f3.resultTypes.toList).any (Tryz.prog.wideKeysFrom ·))) = true := by kernel_rfl
theorem n18 : (Rows.topWitnessSpec.vars.all (Tryz.prog.varReadable ·)) = true := by kernel_rfl
theorem n19 : (Tryz.f3.resultTypes.all (fun t => Tryz.prog.readableRec t && decide (t < Tryz.prog.types.size))) = true := by kernel_rfl
theorem n20 : ((Rows.topWitnessRow.ifacesOut == Tryz.f3.resultTypes.toList.any (Tryz.prog.ifacesRec ·))) = true := by kernel_rfl
theorem n21 : ((Rows.topWitnessRow.loopsOut == Tryz.f3.resultTypes.toList.any (Tryz.prog.loopsFrom ·))) = true := by kernel_rfl
theorem n23 : (Rows.topWitnessRow.shortTexts.isNone) = true := by kernel_rfl
theorem n24 : (Tryz.prog.stopsHeard) = true := by kernel_rfl
theorem n25 : (Tryz.prog.mayEnter) = true := by kernel_rfl
theorem n26 : ((Rows.topWitnessRow.lifted == Tryz.prog.liftsFinal)) = true := by kernel_rfl
theorem n27 : ((Tryz.prog.make == some Rows.topWitnessRow.make)) = true := by kernel_rfl
theorem n28 : ((Rows.topWitnessRow.kinds == (if Rows.topWitnessRow.domain.isEmpty then [] else Tryz.f3.params.toList.map fun t => match Tryz.prog.underlying t with | some (.int k) => some k | _ => none))) = true := by kernel_rfl
theorem n29 : ((Rows.topWitnessRow.pinned == Rows.topWitnessRow.pinnedBy)) = true := by kernel_rfl
theorem n30 : ((Rows.topWitnessRow.veiled == (Tryz.f3.params.toList ++ Rows.topWitnessSpec.plain.varTypes Tryz.prog ++ Tryz.f3.resultTypes.toList).any (Tryz.prog.veiledRec ·))) = true := by kernel_rfl
theorem n31 : (Rows.topWitnessRow.veiledFits Tryz.prog Tryz.f3.params.toList (Tryz.f3.params.toList ++ Rows.topWitnessSpec.plain.varTypes Tryz.prog ++ Tryz.f3.resultTypes.toList)) = true := by kernel_rfl
theorem Xz : Tryz.pinned.checked.prog.funcNamed Rows.topWitnessRow.func = some 3 := by kernel_rfl
theorem abp : Tryz.f3.isInstance Tryz.pinned.checked.prog Rows.topWitnessRow.origin Rows.topWitnessRow.targs := of_decide_eq_true (by kernel_rfl)
end Go.Proofs.YtjnipnanfjglpaaGreatDoor
