/-
 The row of a law fits the program: closed facts.
-/
import Derived.Test.YtjnipnanfjglpaaGreatDoorRows
import Derived.ProofKit
import Derived.Stop.Joined
set_option linter.unusedSimpArgs false
set_option linter.unusedVariables false
namespace Go.Proofs.YtjnipnanfjglpaaGreatDoor
theorem n0:(Rows.topWatchedRow.wf (OpenSpec.ofChange Rows.topWatchedSpec))=true:=by kernel_rfl
theorem n1:(laidOutB Tryz.prog)=true:=by kernel_rfl
theorem n2:(mapsRowed Tryz.prog)=true:=by kernel_rfl
theorem n3:(Tryz.f4.params.all (Tryz.prog.readableRec ·))=true:=by kernel_rfl
theorem n4:(namedTie Tryz.prog Rows.topWatchedRow.named Rows.topWatchedSpec.vars)=true:=by kernel_rfl
theorem n5:((Rows.topWatchedRow.stops==[]))=true:=by kernel_rfl
theorem n6:((Tryz.prog.stops==[]))=true:=by kernel_rfl
theorem n7:((Rows.topWatchedRow.knobs==[]))=true:=by kernel_rfl
theorem n8:((Tryz.prog.stopKnobs==[]))=true:=by kernel_rfl
theorem n13:((Rows.topWatchedRow.maps==(Tryz.f4.params.toList++Rows.topWatchedSpec.plain.varTypes Tryz.prog).any (Tryz.prog.mapsRec ·)))=true:=by kernel_rfl
theorem n14:((Rows.topWatchedRow.ifaces==(Tryz.f4.params.toList++Rows.topWatchedSpec.plain.varTypes Tryz.prog).any (Tryz.prog.ifacesRec ·)))=true:=by kernel_rfl
theorem n15:((Rows.topWatchedRow.mapsOut==Tryz.prog.mapsAmong Tryz.f4.resultTypes.toList))=true:=by kernel_rfl
theorem n16:((Rows.topWatchedRow.loops==(Tryz.f4.params.toList++Rows.topWatchedSpec.plain.varTypes Tryz.prog).any (Tryz.prog.loopsFrom ·)))=true:=by kernel_rfl
theorem n17:((Rows.topWatchedRow.wideKeys==(Tryz.f4.params.toList++Rows.topWatchedSpec.plain.varTypes Tryz.prog++Tryz.f4.resultTypes.toList).any (Tryz.prog.wideKeysFrom ·)))=true:=by kernel_rfl
theorem n18:(Rows.topWatchedSpec.vars.all (Tryz.prog.varReadable ·))=true:=by kernel_rfl
theorem n19:(Tryz.f4.resultTypes.all (fun t=>Tryz.prog.readableRec t&&decide (t<Tryz.prog.types.size)))=true:=by kernel_rfl
theorem n20:((Rows.topWatchedRow.ifacesOut==Tryz.f4.resultTypes.toList.any (Tryz.prog.ifacesRec ·)))=true:=by kernel_rfl
theorem n21:((Rows.topWatchedRow.loopsOut==Tryz.f4.resultTypes.toList.any (Tryz.prog.loopsFrom ·)))=true:=by kernel_rfl
theorem n23:(Rows.topWatchedRow.shortTexts.isNone)=true:=by kernel_rfl
theorem n24:(Tryz.prog.stopsHeard)=true:=by kernel_rfl
theorem n25:(Tryz.prog.mayEnter)=true:=by kernel_rfl
theorem n26:((Rows.topWatchedRow.lifted==Tryz.prog.liftsFinal))=true:=by kernel_rfl
theorem n27:((Tryz.prog.make==some Rows.topWatchedRow.make))=true:=by kernel_rfl
theorem n28:((Rows.topWatchedRow.kinds==(if Rows.topWatchedRow.domain.isEmpty then[] else Tryz.f4.params.toList.map fun t=>match Tryz.prog.underlying t with | some (.int k)=>some k | _=>none)))=true:=by kernel_rfl
theorem n29:((Rows.topWatchedRow.pinned==Rows.topWatchedRow.pinnedBy))=true:=by kernel_rfl
theorem n30:((Rows.topWatchedRow.veiled==(Tryz.f4.params.toList++Rows.topWatchedSpec.plain.varTypes Tryz.prog++Tryz.f4.resultTypes.toList).any (Tryz.prog.veiledRec ·)))=true:=by kernel_rfl
theorem n31:(Rows.topWatchedRow.veiledFits Tryz.prog Tryz.f4.params.toList (Tryz.f4.params.toList++Rows.topWatchedSpec.plain.varTypes Tryz.prog++Tryz.f4.resultTypes.toList))=true:=by kernel_rfl
theorem Pt:Tryz.pinned.checked.prog.funcNamed Rows.topWatchedRow.func=some 4:=by kernel_rfl
theorem SC:Tryz.f4.isInstance Tryz.pinned.checked.prog Rows.topWatchedRow.origin Rows.topWatchedRow.targs:=of_decide_eq_true (by kernel_rfl)
end Go.Proofs.YtjnipnanfjglpaaGreatDoor
