/-
 ScoreProved holds.
-/
import Derived.Test.YthkepocejfghcaaGreatRows
import Derived.Test.YthkepocejfghcaaGreatScCfgtoScAct
import Derived.Test.YthkepocejfghcaaGreatScT3toScHd
set_option linter.unusedSimpArgs false
set_option linter.unusedVariables false
namespace Go.Proofs.YthkepocejfghcaaGreat
open Go.Am Go.Am.Sc

theorem kF {dd:List D}(h:ot [Sc.jA,(.sl Sc.jb),(.sl Sc.ae8),.int .i64] dd):∃(y0:aL) (y1:List aS) (y2:List Tal) (y3:Int),dd=[y0.d,dM y1,abE y2,I y3]∧aL.Ok y0∧Qbz y1∧acH y2∧i64 y3:=by
 obtain⟨x0,_,rfl,h0,x1,_,rfl,h1,x2,_,rfl,h2,x3,_,rfl,h3,rfl⟩:=h
 obtain⟨y0,rfl,k0⟩:=Qcv h0
 obtain⟨y1,rfl,k1⟩:=sq h1
 obtain⟨y2,rfl,k2⟩:=ah8 h2
 obtain⟨y3,rfl,k3⟩:=q6 h3
 exact⟨y0,y1,y2,y3,rfl,k0,k1,k2,k3⟩

theorem own:ownKnob Tryz.prog.godebug=none:=by kernel_rfl

set_option maxRecDepth 100000 in
theorem proved:Rows.ScoreProvedSaid:=
 OpenClaim.holds_of_wide 13 Tryz.f13 rfl rfl rfl rfl rfl rfl rfl ⟨rfl,rfl,rfl,rfl,rfl⟩ rfl rfl rfl rfl rfl (by kernel_rfl) Tryz.func13 (by kernel_rfl) (of_decide_eq_true (by kernel_rfl)) (by unfold Func.isWrapper;first | (rw[if_pos (by decide +kernel)];kernel_rfl) | (rw[if_neg (by decide +kernel)];exact⟨rfl,rfl⟩))
  (fun _ started _ _ _=>returnsInHanded_of_change (C:=Tryz.checked) own started (by kernel_rfl) Tryz.func13
   (ChangeSpec.witness6 false ⟨#[],#[.agg #[.slice none 0 0,.int .i64 0,.int .i64 0,.int .i64 0,.int .i64 0,.int .i64 0,.slice none 0 0,.bool false,.int .i64 0,.int .i64 0,.int .i64 0,.int .i64 0,.slice none 0 0,.slice none 0 0],.slice none 0 0,.slice none 0 0,.int .i64 0],[]⟩ 8 (by kernel_rfl) (by kernel_rfl) (by kernel_rfl) (by kernel_rfl))
   (fun _ base args ds gs before hval hW _ _=>gY (fn:=Tryz.f13) (s:=Rows.scoreProvedSpec) (n:=8) (Mw:=[Sc.jA,(.sl Sc.jb),(.sl Sc.ae8),.int .i64]) (by kernel_rfl) (by kernel_rfl) rfl rfl (by kernel_rfl) (by kernel_rfl)
    (fun ds h=>by
     match ds,h with
     | [_,_,_,_],_=>rfl)
    (fun dd h=>by
     obtain⟨y0,y1,y2,y3,rfl,k0,k1,k2,k3⟩:=kF h
     exact⟨_,c13 (iz _) k0 k1 k2 _⟩) base args ds gs before hval hW))

end Go.Proofs.YthkepocejfghcaaGreat
