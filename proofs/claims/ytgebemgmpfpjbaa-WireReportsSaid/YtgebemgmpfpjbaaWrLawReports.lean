/-
 WireReports holds.
-/
import Derived.Test.YtgebemgmpfpjbaaRows
import Derived.Test.YtgebemgmpfpjbaaWrR6toWrI2
set_option linter.unusedSimpArgs false
set_option linter.unusedVariables false
namespace Go.Proofs.Ytgebemgmpfpjbaa
open Go.Am Go.Am.Wr

theorem argsOf {dd:List D}(h:ArgsSh [Wr.shPla,(.sl Wr.shRep)] dd):∃(y0:Pla) (y1:List Rep),dd=[y0.d,.lst (y1.map Rep.d)]∧Pla.Ok y0∧RepsOk y1:=by
 obtain⟨x0,_,rfl,h0,x1,_,rfl,h1,rfl⟩:=h
 obtain⟨y0,rfl,k0⟩:=argPla h0
 obtain⟨y1,rfl,k1⟩:=argReps h1
 exact⟨y0,y1,rfl,k0,k1⟩

theorem own:ownKnob Try.prog.godebug=none:=by kernel_rfl

set_option maxRecDepth 100000 in
theorem proved:Rows.WireReportsSaid:=
 OpenClaim.holds_of_wide 3 Try.f3 rfl rfl rfl rfl rfl rfl rfl ⟨rfl,rfl,rfl,rfl,rfl⟩ rfl rfl rfl rfl rfl (by kernel_rfl) Try.func3 (by kernel_rfl) (of_decide_eq_true (by kernel_rfl)) (by unfold Func.isWrapper;first | (rw[if_pos (by decide +kernel)];kernel_rfl) | (rw[if_neg (by decide +kernel)];exact⟨rfl,rfl⟩))
  (fun _ started _ _ _=>returnsInHanded_of_change (C:=Try.checked) own started (by kernel_rfl) Try.func3
   (ChangeSpec.witness6 false ⟨#[],#[.agg #[.int .i64 0,.int .i64 0,.slice none 0 0,.slice none 0 0,.slice none 0 0],.slice none 0 0],[]⟩ 8 (by kernel_rfl) (by kernel_rfl) (by kernel_rfl) (by kernel_rfl))
   (fun _ base args ds gs before hval hW _ _=>law_contract (fn:=Try.f3) (s:=Rows.wireReportsSpec) (n:=8) (shs:=[Wr.shPla,(.sl Wr.shRep)]) (by kernel_rfl) (by kernel_rfl) rfl rfl (by kernel_rfl) (by kernel_rfl)
    (fun ds h=>by
     match ds,h with
     | [_,_],_=>rfl)
    (fun dd h=>by
     obtain⟨y0,y1,rfl,k0,k1⟩:=argsOf h
     exact c3 k0 y1) base args ds gs before hval hW))

end Go.Proofs.Ytgebemgmpfpjbaa
