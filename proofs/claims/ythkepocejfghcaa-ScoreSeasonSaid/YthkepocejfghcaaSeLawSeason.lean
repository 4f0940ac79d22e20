/-
 ScoreSeason holds.
-/
import Derived.Test.YthkepocejfghcaaRows
import Derived.Test.YthkepocejfghcaaSeLentoScAct
import Derived.Test.YthkepocejfghcaaSeShelfFtoSeL3
set_option linter.unusedSimpArgs false
set_option linter.unusedVariables false
namespace Go.Proofs.Ythkepocejfghcaa
open Go.Am Go.Am.Sc

theorem argsOf {dd:List D}(h:ArgsSh [(.sl (.sl (.int .i64))),.int .i64] dd):∃(y0:List (List Int)) (y1:Int),dd=[.lst (y0.map Is),I y1]∧TmsOk y0∧i64 y1:=by
 obtain⟨x0,_,rfl,h0,x1,_,rfl,h1,rfl⟩:=h
 obtain⟨y0,rfl,k0⟩:=argTms h0
 obtain⟨y1,rfl,k1⟩:=argInt h1
 exact⟨y0,y1,rfl,k0,k1⟩

theorem own:ownKnob Try.prog.godebug=none:=by kernel_rfl

set_option maxRecDepth 100000 in
theorem proved:Rows.ScoreSeasonSaid:=
 OpenClaim.holds_of_wide 3 Try.f3 rfl rfl rfl rfl rfl rfl rfl ⟨rfl,rfl,rfl,rfl,rfl⟩ rfl rfl rfl rfl rfl (by kernel_rfl) Try.func3 (by kernel_rfl) (of_decide_eq_true (by kernel_rfl)) (by unfold Func.isWrapper;first | (rw[if_pos (by decide +kernel)];kernel_rfl) | (rw[if_neg (by decide +kernel)];exact⟨rfl,rfl⟩))
  (fun _ started _ _ _=>returnsInHanded_of_change (C:=Try.checked) own started (by kernel_rfl) Try.func3
   (ChangeSpec.witness6 false ⟨#[],#[.slice none 0 0,.int .i64 0],[]⟩ 8 (by kernel_rfl) (by kernel_rfl) (by kernel_rfl) (by kernel_rfl))
   (fun _ base args ds gs before hval hW _ _=>law_contract (fn:=Try.f3) (s:=Rows.scoreSeasonSpec) (n:=8) (shs:=[(.sl (.sl (.int .i64))),.int .i64]) (by kernel_rfl) (by kernel_rfl) rfl rfl (by kernel_rfl) (by kernel_rfl)
    (fun ds h=>by
     match ds,h with
     | [_,_],_=>rfl)
    (fun dd h=>by
     obtain⟨y0,y1,rfl,k0,k1⟩:=argsOf h
     exact⟨_,c3 (known_spec _) k0 y1⟩) base args ds gs before hval hW))

end Go.Proofs.Ythkepocejfghcaa
