/-
 Stable sorting,as texts.
-/
import Derived.Test.YthkepocejfghcaaGreatAmSort2toAmSort5
import Derived.Test.YthkepocejfghcaaGreatAmFntoAmTabK
import Derived.Test.YthkepocejfghcaaGreatScCfgtoScAct
set_option linter.unusedSimpArgs false
set_option linter.unusedVariables false
namespace Go.Am.Sc
open Go.Proofs jy

theorem X5:cm Tryz.prog 76 .plain (bE false [] [] Tryz.f76) [true,true] (MR 116):=cm.plain Tryz.func76 (by kernel_rfl) (by kernel_rfl)
theorem UD:cm Tryz.prog 116 .plain (bE false [] [] Tryz.f116) [true,true,true] (MQ 128 138):=cm.plain Tryz.func116 (by kernel_rfl) (by kernel_rfl)
theorem Zi:cm Tryz.prog 138 .plain (bE false [] [] Tryz.f138) [true,true,true,true,true] (Tq 154 138):=cm.plain Tryz.func138 (by kernel_rfl) (by kernel_rfl)
theorem Zh:cm Tryz.prog 154 .plain (bE false [] [] Tryz.f154) [true,true,true,true,true] (QJ 159):=cm.plain Tryz.func154 (by kernel_rfl) (by kernel_rfl)
theorem Zg:cm Tryz.prog 159 .plain (bE false [] [] Tryz.f159) [true,true,true,true,true] MP:=cm.plain Tryz.func159 (by kernel_rfl) (by kernel_rfl)
theorem UC:cm Tryz.prog 128 .plain (bE false [] [] Tryz.f128) [true,true,true,true] MS:=cm.plain Tryz.func128 (by kernel_rfl) (by kernel_rfl)

end Go.Am.Sc
