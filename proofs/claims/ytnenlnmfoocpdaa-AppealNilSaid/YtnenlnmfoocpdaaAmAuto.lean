/-
  Which variables are data, which lie in the store: a guess out of the function's text (nothing hangs on it).
-/
import Derived.Test.YtnenlnmfoocpdaaAmFn
set_option linter.unusedSimpArgs false
set_option linter.unusedVariables false
namespace Go.Am

def codeOps : Code → List Oper
  | .region _ ops _ => ops.toList
  | .seq a b | .cond _ a b => codeOps a ++ codeOps b
  | .block _ b | .loop b | .scope b => codeOps b
  | .rangeFunc _ _ a b => codeOps a ++ codeOps b
  | _ => []

def tmpsOf (xs : List Operand) : List Nat := xs.filterMap fun | .tmp t => some t | _ => none

/-- the slots that closures capture -/
def captured (os : List Oper) : List Nat := os.flatMap fun o => match o.op with
  | .makeFunc _ _ cs => tmpsOf cs.toList
  | _ => []

def storedTo (os : List Oper) : List Nat := os.flatMap fun o => match o.op with
  | .store _ (.tmp t) _ => [t]
  | _ => []

def boxed (os : List Oper) : List Nat := os.filterMap fun o => match o.op with
  | .box _ _ => o.dst
  | _ => none

def alloced (os : List Oper) : List Nat := os.filterMap fun o => match o.op with
  | .alloc _ => o.dst
  | _ => none

/-- the slots that calls get -/
def handed (os : List Oper) : List Nat := os.flatMap fun o => match o.op with
  | .call c => tmpsOf c.args.toList
  | _ => []

/-- the operations of the rounds of loops over functions -/
def rangeOps : Code → List Oper
  | .seq a b | .cond _ a b => rangeOps a ++ rangeOps b
  | .block _ b | .loop b | .scope b => rangeOps b
  | .rangeFunc _ _ a b => codeOps a ++ codeOps b
  | _ => []

def autoCfg (ro : Bool) (wr pan more : List Nat) (frzs : List (Nat × Nat)) (fn : Func) : StCfg :=
  let os := match fn.body with | some c => codeOps c | none => []
  let cap := captured os ++ (match fn.body with | some c => (rangeOps c).flatMap (fun o => tmpsOf o.op.operands.toList) | none => [])
  let st := storedTo os
  { ro := ro, wr := wr, pan := pan, frzs := frzs,
    dats := (boxed os).filter fun d => cap.contains d && !st.contains d && !more.contains d,
    pubs := ((boxed os).filter fun d => cap.contains d && st.contains d) ++ ((alloced os).filter fun d => (cap.contains d || (handed os).contains d) && !(frzs.map (·.2)).contains d) ++ more }

end Go.Am
