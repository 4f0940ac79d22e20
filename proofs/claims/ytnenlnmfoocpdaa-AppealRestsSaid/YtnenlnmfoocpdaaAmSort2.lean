/-
 Stable sorting: insertion.
-/
import Derived.Test.YtnenlnmfoocpdaaAmSortUtoAmSetL
import Derived.Test.YtnenlnmfoocpdaaAmKill
set_option linter.unusedSimpArgs false
set_option linter.unusedVariables false
namespace Go.Am.Srt
set_option maxRecDepth 100000
set_option maxHeartbeats 4000000

theorem loop_exitK {P : Program} {u : U} {env : List D} {Q : Sig → Prop} {K : List D → Prop} {n : Nat} (K' : List D → Prop) (h : denU P u env (catchL n K' (fun _ => False))) (k : ∀ ds, K' ds → K ds) : denU P u env (catchL n K Q) :=
 denU_mono (fun s hs => by
  cases s with
  | jump l' ds =>
   simp only [catchL] at hs ⊢
   split
   ·rename_i e; rw [if_pos e] at hs; exact k _ hs
   ·rename_i e; rw [if_neg e] at hs; exact hs.elim
  | ret d => exact hs.elim
  | pan d st sl kd => exact hs.elim) h

variable {P : Program} {bs : List D} {b : Nat} {e : TypeId} {cf cf132 cf131 cf129 cf128 cf122 cf108 : StCfg} {f132 f131 f129 f128 f122 f108 g : FuncId} {c : Int → Int → Int} {dom : Int → Prop} {us cs : List D}

end Go.Am.Srt
