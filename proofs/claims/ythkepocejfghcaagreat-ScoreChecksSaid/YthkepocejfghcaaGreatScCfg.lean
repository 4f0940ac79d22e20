/-
  How the functions of the score are read.
-/
import Derived.Test.YthkepocejfghcaaGreatAmFntoAmSt2
set_option linter.unusedSimpArgs false
set_option linter.unusedVariables false
namespace Go.Am.Sc
def WRS : List Nat := [68,76,96,82,112,116,128,129,130,131,132,133,134,135,138,149,152,153,154,158,159,125,140,141,142,143,144,145,147,148,155,156,157,160]
def scf (ro : Bool) (wr more : List Nat) (fn : Func) : StCfg := autoCfg ro (wr ++ WRS) [] more [] fn
def scg (wr pubs : List Nat) (nils : Bool) (frzs : List (Nat × Nat)) (fn : Func) : StCfg := { autoCfg false (wr ++ WRS) [] [] frzs fn with pubs := pubs, nils := nils }


end Go.Am.Sc
