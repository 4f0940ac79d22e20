/-
 WireTrue holds.
-/
import Derived.Test.YtgebemgmpfpjbaaRows
import Derived.Test.YtgebemgmpfpjbaaWrR6toWrI1
set_option linter.unusedSimpArgs false
set_option linter.unusedVariables false
namespace Go.Proofs.Ytgebemgmpfpjbaa
open Go.Am Go.Am.Wr

theorem argsOf {dd:List D}(h:ArgsSh [Wr.shPla,(.sl (.sl (.int .i64))),.int .i64,.int .i64,.int .i64] dd):∃(y0:Pla) (y1:List (List Int)) (y2:Int) (y3:Int) (y4:Int),dd=[y0.d,.lst (y1.map Is),I y2,I y3,I y4]∧Pla.Ok y0∧TmsOk y1∧i64 y2∧i64 y3∧i64 y4:=by
 obtain⟨x0,_,rfl,h0,x1,_,rfl,h1,x2,_,rfl,h2,x3,_,rfl,h3,x4,_,rfl,h4,rfl⟩:=h
 obtain⟨y0,rfl,k0⟩:=argPla h0
 obtain⟨y1,rfl,k1⟩:=argTms h1
 obtain⟨y2,rfl,k2⟩:=argInt h2
 obtain⟨y3,rfl,k3⟩:=argInt h3
 obtain⟨y4,rfl,k4⟩:=argInt h4
 exact⟨y0,y1,y2,y3,y4,rfl,k0,k1,k2,k3,k4⟩

theorem own:ownKnob Try.prog.godebug=none:=by kernel_rfl

set_option maxRecDepth 100000 in
theorem proved:Rows.WireTrueSaid:=
 OpenClaim.holds_of_wide 9 Try.f9 rfl rfl rfl rfl rfl rfl rfl ⟨rfl,rfl,rfl,rfl,rfl⟩ rfl rfl rfl rfl rfl (by kernel_rfl) Try.func9 (by kernel_rfl) (of_decide_eq_true (by kernel_rfl)) (by unfold Func.isWrapper;first | (rw[if_pos (by decide +kernel)];kernel_rfl) | (rw[if_neg (by decide +kernel)];exact⟨rfl,rfl⟩))
  (fun _ started _ _ _=>returnsInHanded_of_change (C:=Try.checked) own started (by kernel_rfl) Try.func9
   (ChangeSpec.witness6 false ⟨#[],#[.agg #[.int .i64 0,.int .i64 0,.slice none 0 0,.slice none 0 0,.slice none 0 0],.slice none 0 0,.int .i64 0,.int .i64 0,.int .i64 0],[]⟩ 8 (by kernel_rfl) (by kernel_rfl) (by kernel_rfl) (by kernel_rfl))
   (fun _ base args ds gs before hval hW _ _=>law_contract (fn:=Try.f9) (s:=Rows.wireTrueSpec) (n:=8) (shs:=[Wr.shPla,(.sl (.sl (.int .i64))),.int .i64,.int .i64,.int .i64]) (by kernel_rfl) (by kernel_rfl) rfl rfl (by kernel_rfl) (by kernel_rfl)
    (fun ds h=>by
     match ds,h with
     | [_,_,_,_,_],_=>rfl)
    (fun dd h=>by
     obtain⟨y0,y1,y2,y3,y4,rfl,k0,k1,k2,k3,k4⟩:=argsOf h
     exact c9 k0 k1 y2 y3 y4) base args ds gs before hval hW))

end Go.Proofs.Ytgebemgmpfpjbaa
