/-
  The row of a law fits the program: closed facts.
-/
import Derived.Test.YtdljkokeieeafaaGreatDoorRows
import Derived.ProofKit
import Derived.Stop.Joined
set_option linter.unusedSimpArgs false
set_option linter.unusedVariables false
namespace Go.Proofs.YtdljkokeieeafaaGreatDoor
theorem n0 : (Rows.rallyNilRow.wf (OpenSpec.ofChange Rows.rallyNilSpec)) = true := by kernel_rfl
theorem n1 : (laidOutB Tryz.prog) = true := by kernel_rfl
theorem n2 : (mapsRowed Tryz.prog) = true := by kernel_rfl
theorem n3 : (Tryz.f4.params.all (Tryz.prog.readableRec ·)) = true := by kernel_rfl
theorem n4 : (namedTie Tryz.prog Rows.rallyNilRow.named Rows.rallyNilSpec.vars) = true := by kernel_rfl
theorem n5 : ((Rows.rallyNilRow.stops == [])) = true := by kernel_rfl
theorem n6 : ((Tryz.prog.stops == [])) = true := by kernel_rfl
theorem n7 : ((Rows.rallyNilRow.knobs == [])) = true := by kernel_rfl
theorem n8 : ((Tryz.prog.stopKnobs == [])) = true := by kernel_rfl
theorem n13 : ((Rows.rallyNilRow.maps == (Tryz.f4.params.toList ++ Rows.rallyNilSpec.plain.varTypes Tryz.prog).any (Tryz.prog.mapsRec ·))) = true := by kernel_rfl
theorem n14 : ((Rows.rallyNilRow.ifaces == (Tryz.f4.params.toList ++ Rows.rallyNilSpec.plain.varTypes Tryz.prog).any (Tryz.prog.ifacesRec ·))) = true := by kernel_rfl
theorem n15 : ((Rows.rallyNilRow.mapsOut == Tryz.prog.mapsAmong Tryz.f4.resultTypes.toList)) = true := by kernel_rfl
theorem n16 : ((Rows.rallyNilRow.loops == (Tryz.f4.params.toList ++ Rows.rallyNilSpec.plain.varTypes Tryz.prog).any (Tryz.prog.loopsFrom ·))) = true := by kernel_rfl
theorem n17 : ((Rows.rallyNilRow.wideKeys == (Tryz.f4.params.toList ++ Rows.rallyNilSpec.plain.varTypes Tryz.prog ++ Tryz.f4.resultTypes.toList).any (Tryz.prog.wideKeysFrom ·))) = true := by kernel_rfl
theorem n18 : (Rows.rallyNilSpec.vars.all (Tryz.prog.varReadable ·)) = true := by kernel_rfl
theorem n19 : (Tryz.f4.resultTypes.all (fun t => Tryz.prog.readableRec t && decide (t < Tryz.prog.types.size))) = true := by kernel_rfl
theorem n20 : ((Rows.rallyNilRow.ifacesOut == Tryz.f4.resultTypes.toList.any (Tryz.prog.ifacesRec ·))) = true := by kernel_rfl
theorem n21 : ((Rows.rallyNilRow.loopsOut == Tryz.f4.resultTypes.toList.any (Tryz.prog.loopsFrom ·))) = true := by kernel_rfl
theorem n23 : (Rows.rallyNilRow.shortTexts.isNone) = true := by kernel_rfl
theorem n24 : (Tryz.prog.stopsHeard) = true := by kernel_rfl
theorem n25 : (Tryz.prog.mayEnter) = true := by kernel_rfl
theorem n26 : ((Rows.rallyNilRow.lifted == Tryz.prog.liftsFinal)) = true := by kernel_rfl
theorem n27 : ((Tryz.prog.make == some Rows.rallyNilRow.make)) = true := by kernel_rfl
theorem n28 : ((Rows.rallyNilRow.kinds == (if Rows.rallyNilRow.domain.isEmpty then [] else Tryz.f4.params.toList.map fun t => match Tryz.prog.underlying t with | some (.int k) => some k | _ => none))) = true := by kernel_rfl
theorem n29 : ((Rows.rallyNilRow.pinned == Rows.rallyNilRow.pinnedBy)) = true := by kernel_rfl
theorem n30 : ((Rows.rallyNilRow.veiled == (Tryz.f4.params.toList ++ Rows.rallyNilSpec.plain.varTypes Tryz.prog ++ Tryz.f4.resultTypes.toList).any (Tryz.prog.veiledRec ·))) = true := by kernel_rfl
theorem n31 : (Rows.rallyNilRow.veiledFits Tryz.prog Tryz.f4.params.toList (Tryz.f4.params.toList ++ Rows.rallyNilSpec.plain.varTypes Tryz.prog ++ Tryz.f4.resultTypes.toList)) = true := by kernel_rfl
theorem n_named : Tryz.pinned.checked.prog.funcNamed Rows.rallyNilRow.func = some 4 := by kernel_rfl
theorem n_inst : Tryz.f4.isInstance Tryz.pinned.checked.prog Rows.rallyNilRow.origin Rows.rallyNilRow.targs := of_decide_eq_true (by kernel_rfl)
end Go.Proofs.YtdljkokeieeafaaGreatDoor
