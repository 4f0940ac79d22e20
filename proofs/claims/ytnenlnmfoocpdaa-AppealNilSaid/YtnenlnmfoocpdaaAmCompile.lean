/-
  From the model's code to the small language.
-/
import Derived.Test.YtnenlnmfoocpdaaAmMatch
import Derived.Test.YtnenlnmfoocpdaaAmDraw4
import Derived.Test.YtnenlnmfoocpdaaAmRetok
import Derived.Test.YtnenlnmfoocpdaaAmSeq
import Derived.Test.YtnenlnmfoocpdaaAmFrz
import Derived.LoopN
set_option linter.unusedSimpArgs false
set_option linter.unusedVariables false
namespace Go.Am

/-! ## forgetting an object -/

def SV.purge (d : Nat) (sv : SV) : SV := if sv.avoids d then sv else .junk

def SObj.purge (d : Nat) : SObj → SObj
  | .box cs => .box (cs.map (SV.purge d))
  | x => x

def SState.purge (d : Nat) (σ : SState) : SState := if d = HID then σ else { tmps := σ.tmps.map (SV.purge d), mem := (σ.mem.map fun x => x.map (SObj.purge d)).set d none, hs := σ.hs.map (SObj.purge d) }

def sites (ops : Array Oper) : List Nat := ops.toList.filterMap fun o => if isNew o then o.dst else none

def purgeAll (ds : List Nat) (σ : SState) : SState := ds.foldl (fun σ d => σ.purge d) σ

def opsOk (σ : SState) (ops : Array Oper) : Bool := ops.all fun o => match o.dst with | some d => decide (d < σ.tmps.length) | none => true

/-- a region whose order is drawn -/
def dregion (P : Program) (ops : Array Oper) (σ : SState) (u : Nat) : Option (SState × List Bind) :=
  match drun P ops ops.toList σ u with
  | some x => if orderOk ops x.2.2 σ = true ∧ P.follows .mixedOrders = true then (extras P ops x.2.2 σ).map fun xs => (x.1, x.2.1 ++ xs.map .ev) else none
  | none => none

/-- a region, and the text behind it -/
def regionT (P : Program) (ops : Array Oper) (draw : Bool) (σ : SState) (u : Nat) (k : SKont) : Option T :=
  let σ1 := purgeAll (sites ops) σ
  if !opsOk σ1 ops then none else
  if draw then
    match dregion P ops σ1 u with
    | some x => (k x.1 (u + x.2.length)).map (wrapBinds x.2)
    | none => if 0 < ops.size ∧ lastOk ops = true then match ops[ops.size - 1]?, dregion P ops.pop σ1 u with
        | some o, some x => (match sopOf P o x.1 with
          | some s => if dstOk x.1 o then (sopT s o x.1 (u + x.2.length) k).map (wrapBinds x.2) else none
          | none => none)
        | _, _ => none
      else none
  else segs P ops ops.toList σ1 u k

/-- only the state behind it -/
def regionC (P : Program) (ops : Array Oper) (draw : Bool) (σ : SState) (u : Nat) : Option (Option (Nat × SState)) :=
  let σ1 := purgeAll (sites ops) σ
  if draw then
    match dregion P ops σ1 u with
    | some x => some (some (u + x.2.length, x.1))
    | none => match ops[ops.size - 1]?, dregion P ops.pop σ1 u with
      | some o, some x => segsC P ops [o] x.1 (u + x.2.length)
      | _, _ => none
  else segsC P ops ops.toList σ1 u

/-! ## tokens get the pattern's names -/

def tokPairs : List SV → List SV → List (Nat × Nat)
  | .own _ k :: ts, .own _ k' :: ss => (k', k) :: tokPairs ts ss
  | _ :: ts, _ :: ss => tokPairs ts ss
  | _, _ => []

def retoks (ps : List (Nat × Nat)) (σ : SState) : SState := ps.foldl (fun σ p => σ.retok p.1 p.2) σ

/-- dead tokens are data -/
def undead (σ : SState) : SV → SV
  | .own x k => match σ.obj k with | some (.tok _ _) => .own x k | _ => .e x true
  | sv => sv

def SState.undead (σ : SState) : SState := { σ with tmps := σ.tmps.map (Go.Am.undead σ) }

def matchR (base : Nat) (tm σ : SState) : Option (List E) := matchS base tm (retoks (tokPairs tm.tmps σ.undead.tmps) σ.undead)

/-! ## patterns for the places where ways meet (nothing hangs on how they are found: 'matchS' looks) -/

def isScal : SV → Bool
  | .e _ true => true
  | .own _ _ => true
  | _ => false

def ownOf : SV → Option Nat
  | .own _ k => some k
  | _ => none

def mergeSV (base n : Nat) (svs : List SV) : SV × Nat :=
  match svs with
  | [] => (.junk, n)
  | .cond _ _ :: _ => (.junk, n)
  | s :: r =>
    if s.same .junk then (.junk, n)
    else if r.all (s.same ·) && s.upto base then (s, n)
    else match ownOf s with
      | some k => if r.all (fun x => (ownOf x).isSome) then (.own (.sym (base + n)) k, n + 1) else if r.all (fun x => x.toE.isSome) then (.e (.sym (base + n)) (r.all isScal), n + 1) else (.junk, n)
      | none => if (s :: r).all (fun x => x.toE.isSome) then (.e (.sym (base + n)) ((s :: r).all isScal), n + 1) else (.junk, n)

def mergeSVs (base : Nat) : List SV → List (List SV) → Nat → List SV × Nat
  | [], _, n => ([], n)
  | s :: r, others, n =>
    let (m, n1) := mergeSV base n (s :: others.filterMap List.head?)
    let (ms, n2) := mergeSVs base r (others.map List.tail) n1
    (m :: ms, n2)

def boxesOf : List (Option SObj) → Option (List (List SV))
  | [] => some []
  | some (.box cs) :: r => (boxesOf r).map (cs :: ·)
  | _ => none

def rowsOf (sz : Nat) : List (Option SObj) → Option (List E)
  | [] => some []
  | some (.row x sz') :: r => if sz = sz' then (rowsOf sz r).map (x :: ·) else none
  | _ => none

def toksOf (e sz : Nat) : List (Option SObj) → Bool
  | [] => true
  | some (.tok e' sz') :: r => decide (e = e') && decide (sz = sz') && toksOf e sz r
  | _ => false

def mergeMem (base : Nat) : List (Option SObj) → List (List (Option SObj)) → Nat → List (Option SObj) × Nat
  | [], _, n => ([], n)
  | x :: r, others, n =>
    let hs := others.filterMap List.head?
    let (m, n1) : Option SObj × Nat := match x with
      | some (.box cs) => (match boxesOf hs with
        | some css => let (ms, n1) := mergeSVs base cs css n; (some (.box ms), n1)
        | none => (none, n))
      | some (.row y sz) => (match rowsOf sz hs with
        | some ys => if ys.all (y.same ·) && y.upto base then (some (.row y sz), n) else (some (.row (.sym (base + n)) sz), n + 1)
        | none => (none, n))
      | some (.tok e sz) => if toksOf e sz hs then (some (.tok e sz), n) else (none, n)
      | _ => (none, n)
    let (ms, n2) := mergeMem base r (others.map List.tail) n1
    (m :: ms, n2)

def storesOf (cf : StCfg) : List (Option SObj) → Option (List E)
  | [] => some []
  | some (.store cf' x) :: r => if cf = cf' then (storesOf cf r).map (x :: ·) else none
  | _ => none

def mergeH (base : Nat) (x : Option SObj) (others : List (Option SObj)) (n : Nat) : Option SObj × Nat :=
  match x with
  | some (.store cf y) => (match storesOf cf others with
    | some ys => if ys.all (y.same ·) && y.upto base then (some (.store cf y), n) else (some (.store cf (.sym (base + n))), n + 1)
    | none => (none, n))
  | _ => (none, n)

/-- a later state's tokens get the first one's names -/
def alignTo (σ0 σ : SState) : SState := retoks (tokPairs σ0.tmps σ.undead.tmps) σ.undead

def mergeS (base : Nat) (σs : List SState) : SState × Nat :=
  match (match σs with | [] => [] | σ :: r => σ.undead :: r.map (alignTo σ.undead)) with
  | [] => ({ tmps := [], mem := [], hs := none }, 0)
  | σ :: r =>
    let (ts, n) := mergeSVs base σ.tmps (r.map (·.tmps)) 0
    let (ms, n) := mergeMem base σ.mem (r.map (·.mem)) n
    let (hs, n) := mergeH base σ.hs (r.map (·.hs)) n
    ({ tmps := ts, mem := ms, hs := hs }, n)

/-- may the code end at its end? -/
def completes : Code → Bool
  | .exit _ | .ret | .goto _ | .refuse _ | .loop _ => false
  | .seq a b => completes a && completes b
  | .cond _ a b => completes a || completes b
  | _ => true

structure Outs where
  normal : Option (Nat × SState)
  exits : List (Nat × SState)

def fixTm (body : Nat → SState → Option Outs) (u : Nat) (σ0 : SState) : Nat → SState × Nat → Option (SState × Nat)
  | 0, tm => some tm
  | k + 1, tm => match body (u + tm.2) tm.1 with
    | none => none
    | some o =>
      let tm' := mergeS u (σ0 :: (match o.normal with | some x => [x.2] | none => []))
      if tm'.2 = tm.2 then some tm' else fixTm body u σ0 k tm'

def collect (P : Program) : Code → Nat → SState → Option Outs
  | .skip, u, σ | .label _, u, σ => some ⟨some (u, σ), []⟩
  | .region id ops draw, u, σ => (regionC P ops draw (frzAt id σ) u).bind fun x => match x with
    | none => some ⟨none, []⟩
    | some (u, σ) => forceS σ fun σ => some ⟨some (u, σ), []⟩
  | .seq a b, u, σ => (collect P a u σ).bind fun r1 => match r1.normal with
    | none => some r1
    | some (u1, σ1) => (collect P b u1 σ1).map fun r2 => ⟨r2.normal, r1.exits ++ r2.exits⟩
  | .cond _ a b, u, σ => (collect P a u σ).bind fun ra => (collect P b u σ).map fun rb => match ra.normal, rb.normal with
    | some x, some y => let (tm, n) := mergeS u [x.2, y.2]; ⟨some (u + n, tm), ra.exits ++ rb.exits⟩
    | some x, none => ⟨some x, ra.exits ++ rb.exits⟩
    | none, y => ⟨y, ra.exits ++ rb.exits⟩
  | .block id body, u, σ => (collect P body u σ).map fun r =>
    let outs := (match r.normal with | some x => [x.2] | none => []) ++ (r.exits.filter (·.1 == id)).map (·.2)
    let rest := r.exits.filter (·.1 != id)
    match outs with
    | [] => ⟨none, rest⟩
    | outs => let (tm, n) := mergeS u outs; ⟨some (u + n, tm), rest⟩
  | .loop body, u, σ => (fixTm (fun u σ => collect P body u σ) u σ 8 (σ, 0)).bind fun (tm, n) => (collect P body (u + n) tm).map fun r => ⟨none, r.exits⟩
  | .exit id, _, σ => some ⟨none, [(id, σ)]⟩
  | .ret, _, _ => some ⟨none, []⟩
  | .rangeFunc _ _ _ _, u, σ => some ⟨some (u + 1, setH σ (.sym u)), []⟩
  | _, _, _ => none

structure Ex where
  lab : Nat
  tm : SState
  base : Nat

abbrev Kont := Nat → Nat → SState → Option T

def exOf : List (Nat × Ex) → Nat → Option Ex
  | [], _ => none
  | (i, e) :: r, id => if i = id then some e else exOf r id

def Outs.normals (r : Outs) : List SState := match r.normal with | some x => [x.2] | none => []
def Outs.at (r : Outs) (id : Nat) : List SState := r.normals ++ (r.exits.filter (·.1 == id)).map (·.2)

/-- the continuation that jumps -/
def jumpTo (dp u : Nat) (tm : SState) : Kont := fun _ _ σ' => (matchR u tm σ').map (T.jump dp)

def joinAt (dp u : Nat) (m : SState × Nat) (body : Option T) (k : Kont) : Option T :=
  match body, k dp (u + m.2) m.1 with
  | some tb, some tr => some (.join dp m.2 tb tr)
  | _, _ => none

def iteOf (x : E) (a b : Option T) : Option T :=
  match a, b with
  | some ta, some tb => some (.ite x ta tb)
  | _, _ => none

def loopAt (dp u : Nat) (m : SState × Nat) (σ : SState) (body : Option T) : Option T :=
  match matchR u m.1 σ, body with
  | some inits, some tb => if inits.length = m.2 then some (.loop dp inits tb) else none
  | _, _ => none

/-- the slots of a state that are data -/
def dataSlots : Nat → List SV → List (Nat × E)
  | _, [] => []
  | i, .e x _ :: r => (i, x) :: dataSlots (i + 1) r
  | i, _ :: r => dataSlots (i + 1) r

/-- only data -/
def SV.data : SV → SV
  | .e x s => .e x s
  | _ => .junk

/-- the slots get what is handed to a round -/
def putArgs : Nat → List Tmp → List SV → List SV
  | _, [], σs => σs
  | u, p :: ps, σs => putArgs (u + 1) ps (σs.set p (.e (.sym u) false))

/-- how a round begins: the store's name is u, the names behind it are those of what is handed to the round -/
def roundState (σ : SState) (cf : StCfg) (u : Nat) (ps : List Tmp) : SState :=
  { tmps := putArgs (u + 1) ps (σ.tmps.map SV.data), mem := List.replicate σ.mem.length none, hs := some (.store cf (.sym u)) }

/-- how it ends -/
def roundEnd (dp : Nat) : Kont := fun _ _ σ => match σ.hs with | some (.store _ h) => some (.jump dp [h]) | _ => none

/-- no loops over functions -/
def noRange : Code → Bool
  | .seq a b | .cond _ a b => noRange a && noRange b
  | .block _ b | .loop b => noRange b
  | .rangeFunc _ _ _ _ => false
  | _ => true

def compile (P : Program) (rv : SState → Option E) : Code → Nat → Nat → SState → List (Nat × Ex) → Kont → Option T
  | .skip, dp, u, σ, _, k | .label _, dp, u, σ, _, k => k dp u σ
  | .region id ops draw, dp, u, σ, _, k => regionT P ops draw (frzAt id σ) u fun σ u => forceS σ fun σ => k dp u σ
  | .seq a b, dp, u, σ, ex, k => compile P rv a dp u σ ex fun dp u σ => compile P rv b dp u σ ex k
  | .cond c a b, dp, u, σ, ex, k => (σ.opd c).toE.bind fun x =>
      if completes a && completes b then
        (collect P a u σ).bind fun ra => (collect P b u σ).bind fun rb =>
          joinAt dp u (mergeS u (ra.normals ++ rb.normals))
            (iteOf x (compile P rv a (dp + 1) u σ ex (jumpTo dp u (mergeS u (ra.normals ++ rb.normals)).1)) (compile P rv b (dp + 1) u σ ex (jumpTo dp u (mergeS u (ra.normals ++ rb.normals)).1))) k
      else iteOf x (compile P rv a dp u σ ex k) (compile P rv b dp u σ ex k)
  | .block id body, dp, u, σ, ex, k => (collect P body u σ).bind fun r =>
      if (r.at id).isEmpty then compile P rv body dp u σ (ex.filter (·.1 != id)) (fun _ _ _ => none)
      else joinAt dp u (mergeS u (r.at id)) (compile P rv body (dp + 1) u σ ((id, ⟨dp, (mergeS u (r.at id)).1, u⟩) :: ex) (jumpTo dp u (mergeS u (r.at id)).1)) k
  | .loop body, dp, u, σ, ex, _ => (fixTm (fun u σ => collect P body u σ) u σ 8 (σ, 0)).bind fun m =>
      loopAt dp u m σ (compile P rv body (dp + 1) (u + m.2) m.1 ex (jumpTo dp u m.1))
  | .exit id, _, _, σ, ex, _ => (exOf ex id).bind fun e => (matchR e.base e.tm σ).map (T.jump e.lab)
  | .ret, _, _, σ, _, _ => (rv σ).map T.ret
  | .rangeFunc g ps asg body, dp, u, σ, _, k => match (σ.opd g).toE, σ.hs with
    | some x, some (.store cf h) => if cf.ro = true then none else
      match compile P (fun _ => none) asg (dp + 1) (u + 1 + ps.size) (roundState σ cf u ps.toList) [] (fun dp' u' σ' => compile P (fun _ => none) body dp' u' σ' [] (roundEnd dp)), k dp (u + 1) (setH σ (.sym u)) with
      | some tb, some tr => some (.rfor x h ((dataSlots 0 σ.tmps).map (·.1)) ((dataSlots 0 σ.tmps).map (·.2)) ps.size dp tb tr)
      | _, _ => none
    | _, _ => none
  | _, _, _, _, _, _ => none

end Go.Am
