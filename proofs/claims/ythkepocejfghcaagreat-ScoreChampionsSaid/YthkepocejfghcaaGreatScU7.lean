/-
 Stable sorting,as texts.
-/
import Derived.Test.YthkepocejfghcaaGreatAmSortUtoAmSort5
import Derived.Test.YthkepocejfghcaaGreatAmFntoAmSt2
import Derived.Test.YthkepocejfghcaaGreatScCfg
import Derived.Test.YthkepocejfghcaaGreatScLentoScAct
set_option linter.unusedSimpArgs false
set_option linter.unusedVariables false
namespace Go.Am.Sc
open Go.Proofs Srt

theorem ks76:UOk Tryz.prog 76 .plain (scf false [] [] Tryz.f76) [true,true] (uSrt 116):=UOk.plain Tryz.func76 (by kernel_rfl) (by kernel_rfl)
theorem ks116:UOk Tryz.prog 116 .plain (scf false [] [] Tryz.f116) [true,true,true] (uStb 128 138):=UOk.plain Tryz.func116 (by kernel_rfl) (by kernel_rfl)
theorem ks138:UOk Tryz.prog 138 .plain (scf false [] [] Tryz.f138) [true,true,true,true,true] (uSym 154 138):=UOk.plain Tryz.func138 (by kernel_rfl) (by kernel_rfl)
theorem ks154:UOk Tryz.prog 154 .plain (scf false [] [] Tryz.f154) [true,true,true,true,true] (uRot 159):=UOk.plain Tryz.func154 (by kernel_rfl) (by kernel_rfl)
theorem ks159:UOk Tryz.prog 159 .plain (scf false [] [] Tryz.f159) [true,true,true,true,true] uSwp:=UOk.plain Tryz.func159 (by kernel_rfl) (by kernel_rfl)
theorem ks128:UOk Tryz.prog 128 .plain (scf false [] [] Tryz.f128) [true,true,true,true] uIns:=UOk.plain Tryz.func128 (by kernel_rfl) (by kernel_rfl)

end Go.Am.Sc
