/-
 ScorePlaces holds.
-/
import Derived.Test.YthkepocejfghcaaGreatRows
import Derived.Test.YthkepocejfghcaaGreatScCfgtoScAct
import Derived.Test.YthkepocejfghcaaGreatScR7toScL10
set_option linter.unusedSimpArgs false
set_option linter.unusedVariables false
namespace Go.Proofs.YthkepocejfghcaaGreat
open Go.Am Go.Am.Sc

theorem kF {dd:List D}(h:ot [Sc.jA,(.sl Sc.jb)] dd):∃(y0:aL) (y1:List aS),dd=[y0.d,dM y1]∧aL.Ok y0∧Qbz y1:=by
 obtain⟨x0,_,rfl,h0,x1,_,rfl,h1,rfl⟩:=h
 obtain⟨y0,rfl,k0⟩:=Qcv h0
 obtain⟨y1,rfl,k1⟩:=sq h1
 exact⟨y0,y1,rfl,k0,k1⟩

theorem own:ownKnob Tryz.prog.godebug=none:=by kernel_rfl

set_option maxRecDepth 100000 in
theorem proved:Rows.ScorePlacesSaid:=
 OpenClaim.holds_of_wide 10 Tryz.f10 rfl rfl rfl rfl rfl rfl rfl ⟨rfl,rfl,rfl,rfl,rfl⟩ rfl rfl rfl rfl rfl (by kernel_rfl) Tryz.func10 (by kernel_rfl) (of_decide_eq_true (by kernel_rfl)) (by unfold Func.isWrapper;first | (rw[if_pos (by decide +kernel)];kernel_rfl) | (rw[if_neg (by decide +kernel)];exact⟨rfl,rfl⟩))
  (fun _ started _ _ _=>returnsInHanded_of_change (C:=Tryz.checked) own started (by kernel_rfl) Tryz.func10
   (ChangeSpec.witness6 false ⟨#[],#[.agg #[.slice none 0 0,.int .i64 0,.int .i64 0,.int .i64 0,.int .i64 0,.int .i64 0,.slice none 0 0,.bool false,.int .i64 0,.int .i64 0,.int .i64 0,.int .i64 0,.slice none 0 0,.slice none 0 0],.slice none 0 0],[]⟩ 8 (by kernel_rfl) (by kernel_rfl) (by kernel_rfl) (by kernel_rfl))
   (fun _ base args ds gs before hval hW _ _=>gY (fn:=Tryz.f10) (s:=Rows.scorePlacesSpec) (n:=8) (Mw:=[Sc.jA,(.sl Sc.jb)]) (by kernel_rfl) (by kernel_rfl) rfl rfl (by kernel_rfl) (by kernel_rfl)
    (fun ds h=>by
     match ds,h with
     | [_,_],_=>rfl)
    (fun dd h=>by
     obtain⟨y0,y1,rfl,k0,k1⟩:=kF h
     exact⟨_,c10 (iz _) k0 k1⟩) base args ds gs before hval hW))

end Go.Proofs.YthkepocejfghcaaGreat
