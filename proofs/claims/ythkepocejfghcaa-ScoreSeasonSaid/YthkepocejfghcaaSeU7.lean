/-
 Stable sorting,as texts.
-/
import Derived.Test.YthkepocejfghcaaAmSortUtoAmSort5
import Derived.Test.YthkepocejfghcaaAmFntoAmSt2
import Derived.Test.YthkepocejfghcaaSeCfg
import Derived.Test.YthkepocejfghcaaSeLentoScAct
set_option linter.unusedSimpArgs false
set_option linter.unusedVariables false
namespace Go.Am.Sc
open Go.Proofs Srt

theorem ks76:UOk Try.prog 19 .plain (scf false [] [] Try.f19) [true,true] (uSrt 48):=UOk.plain Try.func19 (by kernel_rfl) (by kernel_rfl)
theorem ks116:UOk Try.prog 48 .plain (scf false [] [] Try.f48) [true,true,true] (uStb 66 76):=UOk.plain Try.func48 (by kernel_rfl) (by kernel_rfl)
theorem ks138:UOk Try.prog 76 .plain (scf false [] [] Try.f76) [true,true,true,true,true] (uSym 87 76):=UOk.plain Try.func76 (by kernel_rfl) (by kernel_rfl)
theorem ks154:UOk Try.prog 87 .plain (scf false [] [] Try.f87) [true,true,true,true,true] (uRot 99):=UOk.plain Try.func87 (by kernel_rfl) (by kernel_rfl)
theorem ks159:UOk Try.prog 99 .plain (scf false [] [] Try.f99) [true,true,true,true,true] uSwp:=UOk.plain Try.func99 (by kernel_rfl) (by kernel_rfl)
theorem ks128:UOk Try.prog 66 .plain (scf false [] [] Try.f66) [true,true,true,true] uIns:=UOk.plain Try.func66 (by kernel_rfl) (by kernel_rfl)

end Go.Am.Sc
