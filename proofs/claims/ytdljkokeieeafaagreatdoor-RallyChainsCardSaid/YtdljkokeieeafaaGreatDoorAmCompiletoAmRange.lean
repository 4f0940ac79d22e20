/-
  Several texts, one behind the other.
-/
import Derived.Test.YtdljkokeieeafaaGreatDoorAmBuildXtoAmRetok
import Derived.LoopN
set_option linter.unusedSimpArgs false
set_option linter.unusedVariables false
/-
 From the model's code to the small language.
-/
namespace Go.Am
noncomputable section

/-! ## forgetting an object -/

def SV.purge (d:Nat)(sv:SV):SV:=
 match sv with
 | .junk=>.junk
 | .e x s=>.e x s
 | sv=>if sv.avoids d then sv else .junk

theorem SV.purge_def (d:Nat)(sv:SV):sv.purge d=if sv.avoids d then sv else .junk:=by
 cases sv <;> first | rfl | simp[SV.purge,SV.avoids]

def SObj.purge (d:Nat):SObj→SObj
 | .box cs=>.box (cs.map (SV.purge d))
 | x=>x

def SState.purge (d:Nat)(σ:SState):SState:=if d=HID then σ else { tmps:=rmap (SV.purge d) σ.tmps,mem:=rset none (rmap (fun x=>x.map (SObj.purge d)) σ.mem) d,hs:=σ.hs.map (SObj.purge d) }

theorem SState.purge_def (d:Nat)(σ:SState):σ.purge d=if d=HID then σ else { tmps:=σ.tmps.map (SV.purge d),mem:=(σ.mem.map fun x=>x.map (SObj.purge d)).set d none,hs:=σ.hs.map (SObj.purge d) }:=by
 unfold SState.purge
 rw[rmap_eq,rset_eq,rmap_eq]

def sites (ops:Array Oper):List Nat:=ops.toList.filterMap fun o=>if isNew o then o.dst else none

def purgeAll (ds:List Nat)(σ:SState):SState:=ds.foldl (fun σ d=>σ.purge d) σ

def opsOk (σ:SState)(ops:Array Oper):Bool:=ops.all fun o=>match o.dst with | some d=>decide (d<σ.tmps.length) | none=>true

def dregion (P:Program)(ops:Array Oper)(σ:SState)(u:Nat):Option (SState×List Bind):=
 match drun P ops ops.toList σ u with
 | some x=>if P.follows .mixedOrders=true then(if orderOk ops x.2.2 σ=true then extras P ops x.2.2 σ else extras2 P ops x.2.2 σ (u+x.2.1.length)).map fun xs=>(x.1,x.2.1++xs.map .ev) else none
 | none=>none

def panLast (P:Program)(ops:Array Oper)(σ:SState)(u:Nat):Bool:=
 match ops[ops.size-1]?,σ.hs with
 | some o,some (.store cf _)=>(match o.guard,o.op with
  | none,.call c=>(match c.callee with
   | .value f=>(match σ.opd f with
    | .func (.func f) []=>cf.pan.contains f&&lastOk ops&&(dregion P ops.pop σ u).isSome
    | _=>cf.pan.contains (1000000+o.dst.getD 999999)&&lastOk ops&&(dregion P ops.pop σ u).isSome)
   | _=>false)
  | _,_=>false)
 | _,_=>false

def dregionN (P:Program)(ops:Array Oper)(σ:SState)(u:Nat):Option (SState×List Bind):=if panLast P ops σ u=true then none else dregion P ops σ u

theorem dregionN_some {P:Program}{ops:Array Oper}{σ:SState}{u:Nat}{x:SState×List Bind}(h:dregionN P ops σ u=some x):dregion P ops σ u=some x:=by
 unfold dregionN at h
 split at h
 ·cases h
 ·exact h

def regionT (P:Program)(ops:Array Oper)(draw:Bool)(σ:SState)(u:Nat)(k:SKont):Option T:=
 let σ1:=purgeAll (sites ops) σ
 if !opsOk σ1 ops then none else
 if draw then
  match dregionN P ops σ1 u with
  | some x=>(k x.1 (u+x.2.length)).map (wrapBinds x.2)
  | none=>if 0<ops.size∧lastOk ops=true then match ops[ops.size-1]?,dregion P ops.pop σ1 u with
    | some o,some x=>(match sopOf P o x.1 with
     | some s=>if dstOk x.1 o then(sopT s o x.1 (u+x.2.length) k).map (wrapBinds x.2) else none
     | none=>none)
    | _,_=>none
   else none
 else segs P ops ops.toList σ1 u k

def panLastC (P:Program)(ops:Array Oper)(σ:SState):Bool:=
 match ops[ops.size-1]?,σ.hs with
 | some o,some (.store cf _)=>(match o.guard,o.op with
  | none,.call c=>(match c.callee with
   | .value f=>(match σ.opd f with
    | .func (.func f) []=>cf.pan.contains f
    | _=>cf.pan.contains (1000000+o.dst.getD 999999))
   | _=>false)
  | _,_=>false)
 | _,_=>false

def regionC (P:Program)(ops:Array Oper)(draw:Bool)(σ:SState)(u:Nat):Option (Option (Nat×SState)):=
 let σ1:=purgeAll (sites ops) σ
 if draw then
  match(if panLastC P ops σ1 then none else drun P ops ops.toList σ1 u) with
  | some x=>some (some (u+x.2.1.length,x.1))
  | none=>match ops[ops.size-1]?,drun P ops.pop ops.pop.toList σ1 u with
   | some o,some x=>segsC P ops [o] x.1 (u+x.2.1.length)
   | _,_=>none
 else segsC P ops ops.toList σ1 u

/-! ## tokens get the pattern's names -/

def tokPairs (ts:List SV):List SV→List (Nat×Nat):=
 List.rec (motive:=fun _=>List SV→List (Nat×Nat)) (fun _=>[]) (fun t _ ih ss=>match ss with
  | []=>[]
  | x :: ss=>match t with
   | .own _ k=>(match x with
    | .own _ k'=>(k',k) :: ih ss
    | _=>ih ss)
   | _=>ih ss) ts

def retoks (ps:List (Nat×Nat))(σ:SState):SState:=ps.foldl (fun σ p=>σ.retok p.1 p.2) σ

def undead (σ:SState):SV→SV
 | .own x k=>match σ.obj k with | some (.tok _ _)=>.own x k | _=>.e x true
 | sv=>sv

def SState.undead (σ:SState):SState:={ σ with tmps:=rmap (Go.Am.undead σ) σ.tmps }

theorem SState.undead_def (σ:SState):σ.undead={ σ with tmps:=σ.tmps.map (Go.Am.undead σ) }:=by
 unfold SState.undead
 rw[rmap_eq]

def matchR (base:Nat)(tm σ:SState):Option (List E):=matchS base tm (retoks (tokPairs tm.tmps σ.undead.tmps) σ.undead)

/-! ## patterns for the places where ways meet (nothing hangs on how they are found: 'matchS' looks) -/

def isScal:SV→Bool
 | .e _ true=>true
 | .own _ _=>true
 | _=>false

def ownOf:SV→Option Nat
 | .own _ k=>some k
 | _=>none

def isJunk:SV→Bool
 | .junk=>true
 | _=>false

def headsL (l:List (List SV)):List SV:=List.rec (motive:=fun _=>List SV) [] (fun x _ ih=>match x with
 | []=>ih
 | y :: _=>y :: ih) l

def tailL (l:List SV):List SV:=
 match l with
 | []=>[]
 | _ :: r=>r

def anyJunk (l:List SV):Bool:=List.rec (motive:=fun _=>Bool) false (fun x _ ih=>match x with
 | .junk=>true
 | _=>ih) l

def mergeSV (base n:Nat)(svs:List SV):SV×Nat:=
 match svs with
 | []=>(.junk,n)
 | .cond _ _ :: _=>(.junk,n)
 | s :: r=>
  if isJunk s||anyJunk r then(.junk,n)
  else if r.all (s.same ·)&&s.upto base then(s,n)
  else match ownOf s with
   | some k=>if r.all (fun x=>(ownOf x).isSome) then(.own (.sym (base+n)) k,n+1) else if r.all (fun x=>x.toE.isSome) then(.e (.sym (base+n)) (r.all isScal),n+1) else(.junk,n)
   | none=>if(s :: r).all (fun x=>x.toE.isSome) then(.e (.sym (base+n)) ((s :: r).all isScal),n+1) else(.junk,n)

def mergeSVs (base:Nat)(l:List SV):List (List SV)→Nat→List SV×Nat:=
 List.rec (motive:=fun _=>List (List SV)→Nat→List SV×Nat) (fun _ n=>([],n)) (fun s _ ih others n=>
  match mergeSV base n (s :: headsL others) with
 |(m,n1)=>match ih (rmap tailL others) n1 with
  |(ms,n2)=>(m :: ms,n2)) l

def boxesOf:List (Option SObj)→Option (List (List SV))
 | []=>some []
 | some (.box cs) :: r=>(boxesOf r).map (cs :: ·)
 | _=>none

def rowsOf (sz:Nat):List (Option SObj)→Option (List E)
 | []=>some []
 | some (.row x sz') :: r=>if sz=sz' then(rowsOf sz r).map (x :: ·) else none
 | _=>none

def toksOf (e sz:Nat):List (Option SObj)→Bool
 | []=>true
 | some (.tok e' sz') :: r=>decide (e=e')&&decide (sz=sz')&&toksOf e sz r
 | _=>false

def mergeMem (base:Nat):List (Option SObj)→List (List (Option SObj))→Nat→List (Option SObj)×Nat
 | [],_,n=>([],n)
 | x :: r,others,n=>
  let hs:=others.filterMap List.head?
  let (m,n1):Option SObj×Nat:=match x with
   | some (.box cs)=>(match boxesOf hs with
    | some css=>let (ms,n1):=mergeSVs base cs css n;(some (.box ms),n1)
    | none=>(none,n))
   | some (.row y sz)=>(match rowsOf sz hs with
    | some ys=>if ys.all (y.same ·)&&y.upto base then(some (.row y sz),n) else(some (.row (.sym (base+n)) sz),n+1)
    | none=>(none,n))
   | some (.tok e sz)=>if toksOf e sz hs then(some (.tok e sz),n) else(none,n)
   | _=>(none,n)
  let (ms,n2):=mergeMem base r (others.map List.tail) n1
  (m :: ms,n2)

def storesOf (cf:StCfg):List (Option SObj)→Option (List E)
 | []=>some []
 | some (.store cf' x) :: r=>if cf=cf' then(storesOf cf r).map (x :: ·) else none
 | _=>none

def mergeH (base:Nat)(x:Option SObj)(others:List (Option SObj))(n:Nat):Option SObj×Nat:=
 match x with
 | some (.store cf y)=>(match storesOf cf others with
  | some ys=>if ys.all (y.same ·)&&y.upto base then(some (.store cf y),n) else(some (.store cf (.sym (base+n))),n+1)
  | none=>(none,n))
 | _=>(none,n)

def alignTo (σ0 σ:SState):SState:=retoks (tokPairs σ0.tmps σ.undead.tmps) σ.undead

def mergeS (base:Nat)(σs:List SState):SState×Nat:=
 match(match σs with | []=>[] | σ :: r=>σ.undead :: r.map (alignTo σ.undead)) with
 | []=>({ tmps:=[],mem:=[],hs:=none },0)
 | σ :: r=>
  let (ts,n):=mergeSVs base σ.tmps (r.map (·.tmps)) 0
  let (ms,n):=mergeMem base σ.mem (r.map (·.mem)) n
  let (hs,n):=mergeH base σ.hs (r.map (·.hs)) n
  ({ tmps:=ts,mem:=ms,hs:=hs },n)

def completes:Code→Bool
 | .exit _ | .ret | .goto _ | .refuse _ | .loop _=>false
 | .seq a b=>completes a&&completes b
 | .cond _ a b=>completes a||completes b
 | _=>true

/-! ## all is evaluated ahead of use (so the kernel sees the same question twice) -/

def deepN {β:Type}(n:Nat)(K:Nat→β):β:=
 match n with
 | 0=>K 0
 | n+1=>K (Nat.succ n)

theorem deepN_eq {β:Type}(n:Nat)(K:Nat→β):deepN n K=K n:=by cases n <;> rfl

def deepB {β:Type}(b:Bool)(K:Bool→β):β:=
 match b with
 | true=>K true
 | false=>K false

theorem deepB_eq {β:Type}(b:Bool)(K:Bool→β):deepB b K=K b:=by cases b <;> rfl

def deepE {β:Type}(x:E):(E→β)→β:=
 E.rec (motive:=fun _=>(E→β)→β)
  (fun k K=>deepN k fun k=>K (.sym k))
  (fun d K=>K (.const d))
  (fun op kd a b iha ihb K=>iha fun a=>ihb fun b=>K (.bin op kd a b))
  (fun op a iha K=>iha fun a=>K (.un op a))
  (fun k a iha K=>iha fun a=>K (.conv k a))
  (fun a iha K=>iha fun a=>K (.lenL a))
  (fun a iha K=>iha fun a=>K (.lenS a))
  (fun a iha K=>iha fun a=>K (.scal a))
  (fun i a iha K=>deepN i fun i=>iha fun a=>K (.cell i a))
  (fun i n a iha K=>deepN i fun i=>deepN n fun n=>iha fun a=>K (.cells i n a))
  (fun n a iha K=>deepN n fun n=>iha fun a=>K (.aggN n a))
  (fun a i iha ihi K=>iha fun a=>ihi fun i=>K (.idx a i))
  (fun n a i iha ihi K=>deepN n fun n=>iha fun a=>ihi fun i=>K (.idxN n a i))
  (fun K=>K .nil)
  (fun a b iha ihb K=>iha fun a=>ihb fun b=>K (.cons a b))
  (fun a iha K=>iha fun a=>K (.one a))
  (fun size bytes a b iha ihb K=>deepN size fun size=>deepN bytes fun bytes=>iha fun a=>ihb fun b=>K (.app size bytes a b))
  (fun a b iha ihb K=>iha fun a=>ihb fun b=>K (.lcons a b))
  (fun a iha K=>iha fun a=>K (.mkptr a))
  (fun f a b iha ihb K=>iha fun a=>ihb fun b=>K (.mkfn f a b))
  (fun size a lo hi iha ihlo ihhi K=>deepN size fun size=>iha fun a=>ihlo fun lo=>ihhi fun hi=>K (.sub size a lo hi))
  (fun a i off x iha ihi ihx K=>iha fun a=>ihi fun i=>deepN off fun off=>ihx fun x=>K (.set a i off x))
  (fun c a b ihc iha ihb K=>ihc fun c=>iha fun a=>ihb fun b=>K (.ite c a b))
  (fun c want a ihc iha K=>ihc fun c=>deepB want fun want=>iha fun a=>K (.guard c want a))
  (fun K=>K .tnil)
  (fun a b iha ihb K=>iha fun a=>ihb fun b=>K (.tcons a b))
  (fun i a iha K=>deepN i fun i=>iha fun a=>K (.tget i a))
  (fun bytes n d ihn K=>deepN bytes fun bytes=>ihn fun n=>K (.rep bytes n d))
  (fun a iha K=>iha fun a=>K (.deref a))
  (fun t a iha K=>iha fun a=>K (.ifc t a))
  (fun max a b iha ihb K=>deepB max fun max=>iha fun a=>ihb fun b=>K (.mm max a b))
  (fun off a iha K=>deepN off fun off=>iha fun a=>K (.padd off a))
  (fun a iha K=>iha fun a=>K (.nn a))
  (fun size a i iha ihi K=>deepN size fun size=>iha fun a=>ihi fun i=>K (.eaddr size a i))
  (fun agg n h p ihh ihp K=>deepB agg fun agg=>deepN n fun n=>ihh fun h=>ihp fun p=>K (.ld agg n h p))
  (fun n h p y ihh ihp ihy K=>deepN n fun n=>ihh fun h=>ihp fun p=>ihy fun y=>K (.sto n h p y))
  (fun e sz h y ihh ihy K=>deepN sz fun sz=>ihh fun h=>ihy fun y=>K (.newb e sz h y))
  (fun h ihh K=>ihh fun h=>K (.fstid h))
  (fun e sz h l ihh ihl K=>deepN sz fun sz=>ihh fun h=>ihl fun l=>K (.newv e sz h l))
  (fun h l ihh ihl K=>ihh fun h=>ihl fun l=>K (.fstsl h l))
  (fun e sz bytes h x y ihh ihx ihy K=>deepN sz fun sz=>deepN bytes fun bytes=>ihh fun h=>ihx fun x=>ihy fun y=>K (.apph e sz bytes h x y))
  (fun h x y ihh ihx ihy K=>ihh fun h=>ihx fun x=>ihy fun y=>K (.apps h x y))
  (fun agg h x ihh ihx K=>deepB agg fun agg=>ihh fun h=>ihx fun x=>K (.frzv agg h x))
  (fun h x ihh ihx K=>ihh fun h=>ihx fun x=>K (.frzh h x))
  (fun op a b c d iha ihb ihc ihd K=>iha fun a=>ihb fun b=>ihc fun c=>ihd fun d=>K (.m4 op a b c d)) x

theorem deepE_sym {β:Type}(k:Nat)(K:E→β):deepE (.sym k) K=deepN k fun k=>K (.sym k):=rfl
theorem deepE_const {β:Type}(d:D)(K:E→β):deepE (.const d) K=K (.const d):=rfl
theorem deepE_bin {β:Type}(op:BinOp)(kd:Kd)(a:E)(b:E)(K:E→β):deepE (.bin op kd a b) K=deepE a fun a=>deepE b fun b=>K (.bin op kd a b):=rfl
theorem deepE_un {β:Type}(op:UnOp)(a:E)(K:E→β):deepE (.un op a) K=deepE a fun a=>K (.un op a):=rfl
theorem deepE_conv {β:Type}(k:IntKind)(a:E)(K:E→β):deepE (.conv k a) K=deepE a fun a=>K (.conv k a):=rfl
theorem deepE_lenL {β:Type}(a:E)(K:E→β):deepE (.lenL a) K=deepE a fun a=>K (.lenL a):=rfl
theorem deepE_lenS {β:Type}(a:E)(K:E→β):deepE (.lenS a) K=deepE a fun a=>K (.lenS a):=rfl
theorem deepE_scal {β:Type}(a:E)(K:E→β):deepE (.scal a) K=deepE a fun a=>K (.scal a):=rfl
theorem deepE_cell {β:Type}(i:Nat)(a:E)(K:E→β):deepE (.cell i a) K=deepN i fun i=>deepE a fun a=>K (.cell i a):=rfl
theorem deepE_cells {β:Type}(i:Nat)(n:Nat)(a:E)(K:E→β):deepE (.cells i n a) K=deepN i fun i=>deepN n fun n=>deepE a fun a=>K (.cells i n a):=rfl
theorem deepE_aggN {β:Type}(n:Nat)(a:E)(K:E→β):deepE (.aggN n a) K=deepN n fun n=>deepE a fun a=>K (.aggN n a):=rfl
theorem deepE_idx {β:Type}(a:E)(i:E)(K:E→β):deepE (.idx a i) K=deepE a fun a=>deepE i fun i=>K (.idx a i):=rfl
theorem deepE_idxN {β:Type}(n:Nat)(a:E)(i:E)(K:E→β):deepE (.idxN n a i) K=deepN n fun n=>deepE a fun a=>deepE i fun i=>K (.idxN n a i):=rfl
theorem deepE_nil {β:Type}(K:E→β):deepE .nil K=K .nil:=rfl
theorem deepE_cons {β:Type}(a:E)(b:E)(K:E→β):deepE (.cons a b) K=deepE a fun a=>deepE b fun b=>K (.cons a b):=rfl
theorem deepE_one {β:Type}(a:E)(K:E→β):deepE (.one a) K=deepE a fun a=>K (.one a):=rfl
theorem deepE_app {β:Type}(size:Nat)(bytes:Nat)(a:E)(b:E)(K:E→β):deepE (.app size bytes a b) K=deepN size fun size=>deepN bytes fun bytes=>deepE a fun a=>deepE b fun b=>K (.app size bytes a b):=rfl
theorem deepE_lcons {β:Type}(a:E)(b:E)(K:E→β):deepE (.lcons a b) K=deepE a fun a=>deepE b fun b=>K (.lcons a b):=rfl
theorem deepE_mkptr {β:Type}(a:E)(K:E→β):deepE (.mkptr a) K=deepE a fun a=>K (.mkptr a):=rfl
theorem deepE_mkfn {β:Type}(f:FuncId)(a:E)(b:E)(K:E→β):deepE (.mkfn f a b) K=deepE a fun a=>deepE b fun b=>K (.mkfn f a b):=rfl
theorem deepE_sub {β:Type}(size:Nat)(a:E)(lo:E)(hi:E)(K:E→β):deepE (.sub size a lo hi) K=deepN size fun size=>deepE a fun a=>deepE lo fun lo=>deepE hi fun hi=>K (.sub size a lo hi):=rfl
theorem deepE_set {β:Type}(a:E)(i:E)(off:Nat)(x:E)(K:E→β):deepE (.set a i off x) K=deepE a fun a=>deepE i fun i=>deepN off fun off=>deepE x fun x=>K (.set a i off x):=rfl
theorem deepE_ite {β:Type}(c:E)(a:E)(b:E)(K:E→β):deepE (.ite c a b) K=deepE c fun c=>deepE a fun a=>deepE b fun b=>K (.ite c a b):=rfl
theorem deepE_guard {β:Type}(c:E)(want:Bool)(a:E)(K:E→β):deepE (.guard c want a) K=deepE c fun c=>deepB want fun want=>deepE a fun a=>K (.guard c want a):=rfl
theorem deepE_tnil {β:Type}(K:E→β):deepE .tnil K=K .tnil:=rfl
theorem deepE_tcons {β:Type}(a:E)(b:E)(K:E→β):deepE (.tcons a b) K=deepE a fun a=>deepE b fun b=>K (.tcons a b):=rfl
theorem deepE_tget {β:Type}(i:Nat)(a:E)(K:E→β):deepE (.tget i a) K=deepN i fun i=>deepE a fun a=>K (.tget i a):=rfl
theorem deepE_rep {β:Type}(bytes:Nat)(n:E)(d:D)(K:E→β):deepE (.rep bytes n d) K=deepN bytes fun bytes=>deepE n fun n=>K (.rep bytes n d):=rfl
theorem deepE_deref {β:Type}(a:E)(K:E→β):deepE (.deref a) K=deepE a fun a=>K (.deref a):=rfl
theorem deepE_ifc {β:Type}(t:TypeId)(a:E)(K:E→β):deepE (.ifc t a) K=deepE a fun a=>K (.ifc t a):=rfl
theorem deepE_mm {β:Type}(max:Bool)(a:E)(b:E)(K:E→β):deepE (.mm max a b) K=deepB max fun max=>deepE a fun a=>deepE b fun b=>K (.mm max a b):=rfl
theorem deepE_padd {β:Type}(off:Nat)(a:E)(K:E→β):deepE (.padd off a) K=deepN off fun off=>deepE a fun a=>K (.padd off a):=rfl
theorem deepE_nn {β:Type}(a:E)(K:E→β):deepE (.nn a) K=deepE a fun a=>K (.nn a):=rfl
theorem deepE_eaddr {β:Type}(size:Nat)(a:E)(i:E)(K:E→β):deepE (.eaddr size a i) K=deepN size fun size=>deepE a fun a=>deepE i fun i=>K (.eaddr size a i):=rfl
theorem deepE_ld {β:Type}(agg:Bool)(n:Nat)(h:E)(p:E)(K:E→β):deepE (.ld agg n h p) K=deepB agg fun agg=>deepN n fun n=>deepE h fun h=>deepE p fun p=>K (.ld agg n h p):=rfl
theorem deepE_sto {β:Type}(n:Nat)(h:E)(p:E)(y:E)(K:E→β):deepE (.sto n h p y) K=deepN n fun n=>deepE h fun h=>deepE p fun p=>deepE y fun y=>K (.sto n h p y):=rfl
theorem deepE_newb {β:Type}(e:TypeId)(sz:Nat)(h:E)(y:E)(K:E→β):deepE (.newb e sz h y) K=deepN sz fun sz=>deepE h fun h=>deepE y fun y=>K (.newb e sz h y):=rfl
theorem deepE_fstid {β:Type}(h:E)(K:E→β):deepE (.fstid h) K=deepE h fun h=>K (.fstid h):=rfl
theorem deepE_newv {β:Type}(e:TypeId)(sz:Nat)(h:E)(l:E)(K:E→β):deepE (.newv e sz h l) K=deepN sz fun sz=>deepE h fun h=>deepE l fun l=>K (.newv e sz h l):=rfl
theorem deepE_fstsl {β:Type}(h:E)(l:E)(K:E→β):deepE (.fstsl h l) K=deepE h fun h=>deepE l fun l=>K (.fstsl h l):=rfl
theorem deepE_apph {β:Type}(e:TypeId)(sz:Nat)(bytes:Nat)(h:E)(x:E)(y:E)(K:E→β):deepE (.apph e sz bytes h x y) K=deepN sz fun sz=>deepN bytes fun bytes=>deepE h fun h=>deepE x fun x=>deepE y fun y=>K (.apph e sz bytes h x y):=rfl
theorem deepE_apps {β:Type}(h:E)(x:E)(y:E)(K:E→β):deepE (.apps h x y) K=deepE h fun h=>deepE x fun x=>deepE y fun y=>K (.apps h x y):=rfl
theorem deepE_frzv {β:Type}(agg:Bool)(h:E)(x:E)(K:E→β):deepE (.frzv agg h x) K=deepB agg fun agg=>deepE h fun h=>deepE x fun x=>K (.frzv agg h x):=rfl
theorem deepE_frzh {β:Type}(h:E)(x:E)(K:E→β):deepE (.frzh h x) K=deepE h fun h=>deepE x fun x=>K (.frzh h x):=rfl
theorem deepE_m4 {β:Type}(op:MOp)(a:E)(b:E)(c:E)(d:E)(K:E→β):deepE (.m4 op a b c d) K=deepE a fun a=>deepE b fun b=>deepE c fun c=>deepE d fun d=>K (.m4 op a b c d):=rfl

theorem deepE_eq {β : Type} (x : E) : ∀ K : E → β, deepE x K = K x := by
  induction x <;> intro K <;> simp only [deepN_eq, deepB_eq, deepE_sym, deepE_const, deepE_bin, deepE_un, deepE_conv, deepE_lenL, deepE_lenS, deepE_scal, deepE_cell, deepE_cells, deepE_aggN, deepE_idx, deepE_idxN, deepE_nil, deepE_cons, deepE_one, deepE_app, deepE_lcons, deepE_mkptr, deepE_mkfn, deepE_sub, deepE_set, deepE_ite, deepE_guard, deepE_tnil, deepE_tcons, deepE_tget, deepE_rep, deepE_deref, deepE_ifc, deepE_mm, deepE_padd, deepE_nn, deepE_eaddr, deepE_ld, deepE_sto, deepE_newb, deepE_fstid, deepE_newv, deepE_fstsl, deepE_apph, deepE_apps, deepE_frzv, deepE_frzh, deepE_m4, *]

def deepAct {β : Type} : List (E × Bool) → (List (E × Bool) → β) → β
  | [], K => K []
  | (x, b) :: r, K => deepE x fun x => deepB b fun b => deepAct r fun r => K ((x, b) :: r)

theorem deepAct_eq {β : Type} : ∀ (l : List (E × Bool)) (K : List (E × Bool) → β), deepAct l K = K l
  | [], _ => rfl
  | (x, b) :: r, K => by simp only [deepAct, deepE_eq, deepB_eq, deepAct_eq r]

mutual
def deepSV {β:Type}:SV→(SV→β)→β
 | .junk,K=>K .junk
 | .e x s,K=>deepE x fun x=>deepB s fun s=>K (.e x s)
 | .agg cs,K=>deepSVs cs fun cs=>K (.agg cs)
 | .tup vs,K=>deepSVs vs fun vs=>K (.tup vs)
 | .addr o off,K=>deepN o fun o=>deepN off fun off=>K (.addr o off)
 | .eaddr o i s off,K=>deepN o fun o=>deepE i fun i=>deepN s fun s=>deepN off fun off=>K (.eaddr o i s off)
 | .iptr x off,K=>deepE x fun x=>deepN off fun off=>K (.iptr x off)
 | .own x n,K=>deepE x fun x=>deepN n fun n=>K (.own x n)
 | .slc o,K=>deepN o fun o=>K (.slc o)
 | .func fn cap,K=>deepSVs cap fun cap=>K (.func fn cap)
 | .cond act sv,K=>deepAct act fun act=>deepSV sv fun sv=>K (.cond act sv)
def deepSVs {β:Type}:List SV→(List SV→β)→β
 | [],K=>K []
 | x :: r,K=>deepSV x fun x=>deepSVs r fun r=>K (x :: r)
end

mutual
theorem deepSV_eq {β:Type}:∀(x:SV) (K:SV→β),deepSV x K=K x
 | .junk,K=>by simp only[deepSV]
 | .e x s,K=>by simp only[deepSV,deepE_eq,deepB_eq]
 | .agg cs,K=>by simp only[deepSV,deepSVs_eq cs]
 | .tup vs,K=>by simp only[deepSV,deepSVs_eq vs]
 | .addr o off,K=>by simp only[deepSV,deepN_eq]
 | .eaddr o i s off,K=>by simp only[deepSV,deepN_eq,deepE_eq]
 | .iptr x off,K=>by simp only[deepSV,deepN_eq,deepE_eq]
 | .own x n,K=>by simp only[deepSV,deepN_eq,deepE_eq]
 | .slc o,K=>by simp only[deepSV,deepN_eq]
 | .func fn cap,K=>by simp only[deepSV,deepSVs_eq cap]
 | .cond act sv,K=>by simp only[deepSV,deepAct_eq,deepSV_eq sv]
theorem deepSVs_eq {β:Type}:∀(l:List SV) (K:List SV→β),deepSVs l K=K l
 | [],K=>by simp only[deepSVs]
 | x :: r,K=>by simp only[deepSVs,deepSV_eq x,deepSVs_eq r]
end

def deepV {β:Type}(x:SV)(K:SV→β):β:=
 match x with
 | .junk=>K .junk
 | .e x s=>deepE x fun x=>deepB s fun s=>K (.e x s)
 | x=>deepSV x K

theorem deepV_eq {β:Type}(x:SV)(K:SV→β):deepV x K=K x:=by
 cases x <;> first | rfl | simp only[deepV,deepE_eq,deepB_eq,deepSV_eq]

def deepL {α β:Type}(f:α→(α→β)→β)(l:List α):(List α→β)→β:=List.rec (motive:=fun _=>(List α→β)→β) (fun K=>K []) (fun x _ ih K=>f x fun x=>ih fun r=>K (x :: r)) l

theorem deepL_eq {α β:Type}{f:α→(α→β)→β}(hf:∀x k,f x k=k x):∀(l:List α) (K:List α→β),deepL f l K=K l
 | [],_=>rfl
 | x :: r,K=>by
  show(f x fun x=>deepL f r fun r=>K (x :: r))=_
  rw[hf,deepL_eq hf r]

def deepObj {β:Type}(x:Option SObj)(K:Option SObj→β):β:=
 match x with
 | none=>K none
 | some (.box cs)=>deepSVs cs fun cs=>K (some (.box cs))
 | some (.row x n)=>deepE x fun x=>deepN n fun n=>K (some (.row x n))
 | some (.tok e n)=>deepN e fun e=>deepN n fun n=>K (some (.tok e n))
 | some (.store cf h)=>deepE h fun h=>K (some (.store cf h))

theorem deepObj_eq {β:Type}(x:Option SObj)(K:Option SObj→β):deepObj x K=K x:=by
 cases x with
 | none=>rfl
 | some y=>cases y <;> simp only[deepObj,deepSVs_eq,deepE_eq,deepN_eq]

def deepS {β:Type}(u:Nat)(σ:SState)(K:Nat→SState→β):β:=
 deepN u fun u=>deepL deepV σ.tmps fun ts=>deepL deepObj σ.mem fun ms=>deepObj σ.hs fun hs=>K u { tmps:=ts,mem:=ms,hs:=hs }

theorem deepS_eq {β:Type}(u:Nat)(σ:SState)(K:Nat→SState→β):deepS u σ K=K u σ:=by
 unfold deepS
 rw[deepN_eq,deepL_eq deepV_eq,deepL_eq deepObj_eq,deepObj_eq]

structure Outs where
 normal:Option (Nat×SState)
 exits:List (Nat×SState)

def quitOf:Code→List (Option Nat)
 | .seq a b | .cond _ a b=>quitOf a++(quitOf b).filter fun q=>!(quitOf a).contains q
 | .block id b=>(quitOf b).filter (·!= some id)
 | .loop b | .rangeFunc _ _ _ b=>quitOf b
 | .exit id=>[some id]
 | .ret=>[none]
 | _=>[]

def qCode:Option Nat→Code
 | none=>.ret
 | some id=>.exit id

def fixTm (body:Nat→SState→Option Outs)(u:Nat)(σ0:SState):Nat→SState×Nat→Option (SState×Nat)
 | 0,tm=>some tm
 | k+1,tm=>deepS (u+tm.2) tm.1 fun u1 σ1=>match body u1 σ1 with
  | none=>none
  | some o=>
   let tm':=mergeS u (σ0 :: (match o.normal with | some x=>[x.2] | none=>[]))
   if tm'.2=tm.2 then some tm' else fixTm body u σ0 k tm'

def SState.stk (σ:SState):Bool:=match σ.hs with
 | some (.store cf _)=>cf.stk
 | _=>false

def stuckT:T:=.ret (.deref .nil)

def orStuck (σ:SState):Option T→Option T
 | some t=>some t
 | none=>if σ.stk=true then some stuckT else none

def orEnd {α:Type}(σ:SState):Option (Option α)→Option (Option α)
 | some x=>some x
 | none=>if σ.stk=true then some none else none

def collect (P:Program):Code→Nat→SState→Option Outs
 | .skip,u,σ | .label _,u,σ=>some ⟨some (u,σ),[]⟩
 | .region id ops draw,u,σ=>(orEnd σ (regionC P ops draw (frzAt id σ) u)).bind fun x=>match x with
  | none=>some ⟨none,[]⟩
  | some (u,σ)=>deepS u σ fun u σ=>some ⟨some (u,σ),[]⟩
 | .seq a b,u,σ=>(collect P a u σ).bind fun r1=>match r1.normal with
  | none=>some r1
  | some (u1,σ1)=>(collect P b u1 σ1).map fun r2=>⟨r2.normal,r1.exits++r2.exits⟩
 | .cond _ a b,u,σ=>deepS u σ fun u σ=>(collect P a u σ).bind fun ra=>(collect P b u σ).map fun rb=>match ra.normal,rb.normal with
  | some x,some y=>let (tm,n):=mergeS u [x.2,y.2];⟨some (u+n,tm),ra.exits++rb.exits⟩
  | some x,none=>⟨some x,ra.exits++rb.exits⟩
  | none,y=>⟨y,ra.exits++rb.exits⟩
 | .block id body,u,σ=>deepS u σ fun u σ=>(collect P body u σ).map fun r=>
  let outs:=(match r.normal with | some x=>[x.2] | none=>[])++(r.exits.filter (·.1==id)).map (·.2)
  let rest:=r.exits.filter (·.1 != id)
  match outs with
  | []=>⟨none,rest⟩
  | outs=>let (tm,n):=mergeS u outs;⟨some (u+n,tm),rest⟩
 | .loop body,u,σ=>deepS u σ fun u σ=>(fixTm (fun u σ=>collect P body u σ) u σ 8 (σ,0)).bind fun(tm,n)=>deepS (u+n) tm fun u1 tm=>(collect P body u1 tm).map fun r=>⟨none,r.exits⟩
 | .exit id,_,σ=>some ⟨none,[(id,σ)]⟩
 | .ret,_,_=>some ⟨none,[]⟩
 | .rangeFunc _ _ _ body,u,σ=>some ⟨some (u+1,setH σ (.sym u)),match quitOf body with | [some id]=>[(id,setH σ (.sym u))] | _=>[]⟩
 | .refuse _,_,σ=>if σ.stk=true then some ⟨none,[]⟩ else none
 | _,_,_=>none

structure Ex where
 lab:Nat
 tm:SState
 base:Nat

abbrev Kont:=Nat→Nat→SState→Option T

def exOf : List (Nat × Ex) → Nat → Option Ex
  | [], _ => none
  | (i, e) :: r, id => if i = id then some e else exOf r id

def Outs.normals (r:Outs):List SState:=match r.normal with | some x=>[x.2] | none=>[]
def Outs.at (r:Outs)(id:Nat):List SState:=r.normals++(r.exits.filter (·.1==id)).map (·.2)

def jumpTo (dp u:Nat)(tm:SState):Kont:=fun _ _ σ'=>(matchR u tm σ').map (T.jump dp)

def joinAt (dp u:Nat)(m:SState×Nat)(body:Option T)(k:Kont):Option T:=
 match body,k dp (u+m.2) m.1 with
 | some tb,some tr=>some (.join dp m.2 tb tr)
 | _,_=>none

def iteOf (x:E)(a b:Option T):Option T:=
 match a,b with
 | some ta,some tb=>some (.ite x ta tb)
 | _,_=>none

def loopAt (dp u:Nat)(m:SState×Nat)(σ:SState)(body:Option T):Option T:=
 match matchR u m.1 σ,body with
 | some inits,some tb=>if inits.length=m.2 then some (.loop dp inits tb) else none
 | _,_=>none

def dataSlots:Nat→List SV→List (Nat×E)
 | _,[]=>[]
 | i,.e x _ :: r=>(i,x) :: dataSlots (i+1) r
 | i,_ :: r=>dataSlots (i+1) r

def SV.data:SV→SV
 | .e x s=>.e x s
 | _=>.junk

def putArgs:Nat→List Tmp→List SV→List SV
 | _,[],σs=>σs
 | u,p :: ps,σs=>putArgs (u+1) ps (σs.set p (.e (.sym u) false))

def roundState (σ:SState)(cf:StCfg)(u:Nat)(ps:List Tmp):SState:=
 { tmps:=putArgs (u+1) ps (σ.tmps.map SV.data),mem:=List.replicate σ.mem.length none,hs:=some (.store cf (.sym u)) }

def roundEnd (dp:Nat):Kont:=fun _ _ σ=>match σ.hs with | some (.store _ h)=>some (.jump dp [h]) | _=>none

def roundRet (q:Option Nat)(σ:SState):Option E:=match q,σ.hs with | none,some (.store _ h)=>some h | _,_=>none

def roundEx (dp base:Nat)(σ:SState)(cf:StCfg)(q:Option Nat):List (Nat×Ex):=match q with
 | none=>[]
 | some id=>[(id,⟨dp+1,{ tmps:=List.replicate σ.tmps.length .junk,mem:=List.replicate σ.mem.length none,hs:=some (.store cf (.sym base)) },base⟩)]

def noRange:Code→Bool
 | .seq a b | .cond _ a b=>noRange a&&noRange b
 | .block _ b | .loop b=>noRange b
 | .rangeFunc _ _ _ _=>false
 | _=>true

def compile (P:Program)(rv:SState→Option E):Code→Nat→Nat→SState→List (Nat×Ex)→Kont→Option T
 | .skip,dp,u,σ,_,k | .label _,dp,u,σ,_,k=>k dp u σ
 | .region id ops draw,dp,u,σ,_,k=>orStuck σ (regionT P ops draw (frzAt id σ) u fun σ u=>deepS u σ fun u σ=>k dp u σ)
 | .seq a b,dp,u,σ,ex,k=>compile P rv a dp u σ ex fun dp u σ=>compile P rv b dp u σ ex k
 | .cond c a b,dp,u,σ,ex,k=>deepS u σ fun u σ=>(σ.opd c).toE.bind fun x=>
   if completes a&&completes b then
    (collect P a u σ).bind fun ra=>(collect P b u σ).bind fun rb=>
     joinAt dp u (mergeS u (ra.normals++rb.normals))
      (iteOf x (compile P rv a (dp+1) u σ ex (jumpTo dp u (mergeS u (ra.normals++rb.normals)).1)) (compile P rv b (dp+1) u σ ex (jumpTo dp u (mergeS u (ra.normals++rb.normals)).1))) k
   else iteOf x (compile P rv a dp u σ ex k) (compile P rv b dp u σ ex k)
 | .block id body,dp,u,σ,ex,k=>deepS u σ fun u σ=>(collect P body u σ).bind fun r=>
   if(r.at id).isEmpty then compile P rv body dp u σ (ex.filter (·.1 != id)) (fun _ _ _=>none)
   else joinAt dp u (mergeS u (r.at id)) (compile P rv body (dp+1) u σ ((id,⟨dp,(mergeS u (r.at id)).1,u⟩) :: ex) (jumpTo dp u (mergeS u (r.at id)).1)) k
 | .loop body,dp,u,σ,ex,_=>deepS u σ fun u σ=>(fixTm (fun u σ=>collect P body u σ) u σ 8 (σ,0)).bind fun m=>
   loopAt dp u m σ (deepS (u+m.2) m.1 fun u1 tm=>compile P rv body (dp+1) u1 tm ex (jumpTo dp u m.1))
 | .exit id,_,_,σ,ex,_=>(exOf ex id).bind fun e=>(matchR e.base e.tm σ).map (T.jump e.lab)
 | .ret,_,_,σ,_,_=>(rv σ).map T.ret
 | .rangeFunc g ps asg body,dp,u,σ,ex,k=>match(σ.opd g).toE,σ.hs with
  | some x,some (.store cf h)=>if cf.ro=true then none else match quitOf body with
   | [q]=>match compile P (fun _=>none) asg (dp+2) (u+1+ps.size) (roundState σ cf u ps.toList) [] (fun dp' u' σ'=>compile P (roundRet q) body dp' u' σ' (roundEx dp (u+1+ps.size) σ cf q) (roundEnd dp)),k dp (u+1) (setH σ (.sym u)),
     (match q with | none=>(rv (setH σ (.sym u))).map T.ret | some id=>(exOf ex id).bind fun e=>(matchR e.base e.tm (setH σ (.sym u))).map (T.jump e.lab)) with
    | some tb,some tr,some tq=>some (.rforx x h ((dataSlots 0 σ.tmps).map (·.1)) ((dataSlots 0 σ.tmps).map (·.2)) ps.size dp q tb tr tq)
    | _,_,_=>none
   | _=>match compile P (fun _=>none) asg (dp+1) (u+1+ps.size) (roundState σ cf u ps.toList) [] (fun dp' u' σ'=>compile P (fun _=>none) body dp' u' σ' [] (roundEnd dp)),k dp (u+1) (setH σ (.sym u)) with
   | some tb,some tr=>some (.rfor x h ((dataSlots 0 σ.tmps).map (·.1)) ((dataSlots 0 σ.tmps).map (·.2)) ps.size dp tb tr)
   | _,_=>none
  | _,_=>none
 | .refuse _,_,_,σ,_,_=>orStuck σ none
 | _,_,_,_,_,_=>none

end
end Go.Am

/-
 A loop over a function: what a round does,and where a run goes on from.
-/
namespace Go.Am
noncomputable section

section
variable {P:Program}

theorem cell_putObj {w:World}{l:Nat}{r:Loop}(h:w.heap[l]? = some (.loop r))(r':Loop)(b o:Nat):(w.putObj l (.loop r')).cell? ⟨b,o,none⟩=w.cell? ⟨b,o,none⟩:=by
 by_cases e:b=l
 ·subst e
  have h1:w.cell? ⟨b,o,none⟩=none:=by simp[World.cell?,h]
  have h2:=World.putObj_heap_same (o:=.loop r') (Array.getElem?_eq_some_iff.1 h).1
  rw[h1]
  simp[World.cell?,h2]
 ·exact World.cell?_of_block (a:=⟨b,o,none⟩) (World.putObj_heap_other e)

theorem Keeps.putObj {w:World}{S:Sets}{l:Nat}{r:Loop}(h:w.heap[l]? = some (.loop r))(r':Loop):Keeps S w (w.putObj l (.loop r')):=fun b o _=>cell_putObj h r' b o

def PartOf (d x:D):Prop:=(∃(e:TypeId) (sz:Nat) (cs:List D) (j:Nat),x=.blk e sz cs∧cs[j]? = some d)∨(∃(kvs:List D) (j:Nat) (d1 d2:D),x=.mblk kvs∧(D.kept kvs)[j]? = some (D.tup [d1,d2])∧(d=d1∨d=d2))

theorem StOk.to {w w':World} {S S':Sets} {foot:Nat→Prop} {bs:List D} (h:StOk w S foot bs) (hS:S.Like S') (hm:∀b o,S' b o→S b o) (hb:∀b,foot b→w'.heap[b]? = w.heap[b]?)
  (hr:∀(v:Value) (d:D) (i:Nat) (x:D),bs[i]? = some x→PartOf d x→RdD w S v d→RdD w' S' v d):StOk w' S' foot bs:=by
 refine⟨hS.n.symm.trans h.n,fun i e sz cs hi=>?_,fun b off hf hs=>h.nos b off hf (hm _ _ hs),fun i kvs hi=>?_,fun i j x y hi hj hx hy e=>h.inj i j x y hi hj hx hy (by rw[←hS.loc,←hS.loc];exact e),fun i z hi hz=>?_⟩
 ·obtain⟨hf,vs,g1,g2,g3,g4,g5,g6⟩:=h.cells i e sz cs hi
  rw[hS.loc,hS.cap]
  exact⟨hf,vs,g1.to (hb _ hf),g2,g3,g4,fun j v d hv hd=>hr v d i _ hi (.inl ⟨e,sz,cs,j,rfl,hd⟩) (g5 j v d hv hd),fun off hs=>g6 off (hm _ _ hs)⟩
 ·obtain⟨hf,es,clock,g1,g2,g3,g4⟩:=h.maps i kvs hi
  rw[hS.loc]
  refine⟨hf,es,clock,(hb _ hf).trans g1,g2,fun off hs=>g3 off (hm _ _ hs),fun j e kv he hkv=>?_⟩
  obtain⟨dk,dv,rfl,g6,g7⟩:=g4 j e kv he hkv
  exact⟨dk,dv,rfl,hr _ _ i _ hi (.inr ⟨kvs,j,dk,dv,rfl,hkv,.inl rfl⟩) g6,hr _ _ i _ hi (.inr ⟨kvs,j,dk,dv,rfl,hkv,.inr rfl⟩) g7⟩
 ·obtain⟨hf,g1,g3⟩:=h.its i z hi hz
  rw[hS.loc,hb _ hf]
  exact⟨hf,g1.to (by rw[hS.n];exact Nat.le_refl _) (fun i _=>hS.loc i) (hS.lrec i) (by rw[h.n];exact(List.getElem?_eq_some_iff.1 hi).1),fun off hs=>g3 off (hm _ _ hs)⟩

theorem StOk.drop {w:World}{S:Sets}{foot:Nat→Prop}{bs:List D}{i:Nat}{z:D}(h:StOk w S foot bs)(hz:bs[i]? = some z)(hl:z.live=true):StOk w S (fun b=>foot b∧b≠S.loc i) (bs.set i (.tup [])):=by
 have hc:∀{j:Nat} {x:D},(bs.set i (.tup []))[j]? = some x→x.live=true→bs[j]? = some x∧S.loc j≠S.loc i:=by
  intro j x hj hx
  rw[List.getElem?_set] at hj
  split at hj
  ·split at hj
   ·cases hj;cases hx
   ·cases hj
  ·rename_i hij
   exact⟨hj,fun e=>hij (h.inj j i _ _ hj hz hx hl e).symm⟩
 refine⟨by rw[h.n];simp,fun j e sz cs hj=>?_,fun b off hf=>h.nos b off hf.1,fun j kvs hj=>?_,fun j k x y hj hk hx hy e=>h.inj j k x y (hc hj hx).1 (hc hk hy).1 hx hy e,fun j x hj hx=>?_⟩
 ·obtain⟨g,hne⟩:=hc hj rfl
  obtain⟨g1,g2⟩:=h.cells j e sz cs g
  exact⟨⟨g1,hne⟩,g2⟩
 ·obtain⟨g,hne⟩:=hc hj rfl
  obtain⟨g1,g2⟩:=h.maps j kvs g
  exact⟨⟨g1,hne⟩,g2⟩
 ·obtain⟨g,hne⟩:=hc hj (D.isIt_live hx)
  obtain⟨g1,g2⟩:=h.its j x g hx
  exact⟨⟨g1,hne⟩,g2⟩

theorem StOk.revive {w w':World}{S:Sets}{foot:Nat→Prop}{bs:List D}{i:Nat}{z:D}(h:StOk w S foot bs)(hz:bs[i]? = some (.tup []))(hi:z.isIt=true)(hob:ItOk S i w'.heap[S.loc i]? z)(hf:¬foot (S.loc i))(hn:∀off,¬S (S.loc i) off)(hk:Keeps S w w')(hb:∀b,foot b→w'.heap[b]? = w.heap[b]?) :
  StOk w' S (fun b=>foot b∨b=S.loc i) (bs.set i z):=by
 have hc:∀{j:Nat} {x:D},(bs.set i z)[j]? = some x→x.live=true→(j=i∧x=z)∨(bs[j]? = some x∧foot (S.loc j)∧w'.heap[S.loc j]? = w.heap[S.loc j]?):=by
  intro j x hj hx
  rw[List.getElem?_set] at hj
  split at hj
  ·rename_i hij
   subst hij
   rw[if_pos (List.getElem?_eq_some_iff.1 hz).1] at hj
   cases hj
   exact .inl ⟨rfl,rfl⟩
  ·have:=h.live_foot hj hx
   exact .inr ⟨hj,this,hb _ this⟩
 refine⟨by rw[h.n];simp,fun j e sz cs hj=>?_,fun b off hfb=>hfb.elim (h.nos b off) fun e=>e ▸ hn off,fun j kvs hj=>?_,fun j k x y hj hk' hx hy e=>?_,fun j x hj hx=>?_⟩
 ·rcases hc hj rfl with⟨rfl,e1⟩ | ⟨g,g0,gh⟩
  ·subst e1;cases hi
  ·obtain⟨_,vs,g1,g2,g3,g4,g5,g6⟩:=h.cells j e sz cs g
   exact⟨.inl g0,vs,g1.to gh,g2,g3,g4,fun k v d hv hd=>(g5 k v d hv hd).keep hk (Sets.le_refl _),g6⟩
 ·rcases hc hj rfl with⟨rfl,e1⟩ | ⟨g,g0,gh⟩
  ·subst e1;cases hi
  ·obtain⟨_,es,clock,g1,g2,g3,g4⟩:=h.maps j kvs g
   refine⟨.inl g0,es,clock,gh.trans g1,g2,g3,fun k e kv he hkv=>?_⟩
   obtain⟨dk,dv,k1,k2,k3⟩:=g4 k e kv he hkv
   exact⟨dk,dv,k1,k2.keep hk (Sets.le_refl _),k3.keep hk (Sets.le_refl _)⟩
 ·rcases hc hj hx with⟨rfl,_⟩ | ⟨g,g0,_⟩ <;> rcases hc hk' hy with⟨rfl,_⟩ | ⟨g',g0',_⟩
  ·rfl
  ·exact absurd (e ▸ g0') hf
  ·exact absurd (e ▸ g0) hf
  ·exact h.inj j k x y g g' hx hy e
 ·rcases hc hj (D.isIt_live hx) with⟨rfl,e1⟩ | ⟨g,g0,gh⟩
  ·subst e1;exact⟨.inr rfl,hob,hn⟩
  ·obtain⟨_,g1,g2⟩:=h.its j x g hx
   rw[gh]
   exact⟨.inl g0,g1,g2⟩

theorem noyl_part {bs:List D}(h:noyls bs=true){d:D}{i:Nat}{x:D}(hi:bs[i]? = some x)(hp:PartOf d x):d.noyl=true:=by
 have hx:=noyls_get h hi
 rcases hp with⟨e,sz,cs,j,rfl,hj⟩ | ⟨kvs,j,d1,d2,rfl,hj,hd⟩
 ·exact noyls_get (by simpa[D.noyl] using hx) hj
 ·have hk:noyls (D.kept kvs)=true:=by
   have h1:noyls kvs=true:=by simpa[D.noyl] using hx
   unfold D.kept
   split
   ·simpa[noyls,D.noyl] using h1
   ·exact h1
  have:=noyls_get hk hj
  simp[D.noyl,noyls] at this
  rcases hd with rfl | rfl
  ·exact this.1
  ·exact this.2

def Sets.under (S:Sets)(h:Nat→Option Loop):Sets:={ S with hold:=h }

theorem Sets.like_under (S:Sets)(h:Nat→Option Loop):S.Like (S.under h):=⟨fun _ _ h=>h,rfl,fun _=>rfl,fun _=>rfl,fun _=>rfl⟩

theorem dataSlots_get:∀{l:List SV} {k i s:Nat} {x:E},(dataSlots k l)[i]? = some (s,x)→k≤s∧∃b,l[s-k]? = some (.e x b)
 | [],_,_,_,_,h=>by simp[dataSlots] at h
 | sv :: r,k,i,s,x,h=>by
  have rest:∀{i:Nat},(dataSlots (k+1) r)[i]? = some (s,x)→k≤s∧∃b,(sv :: r)[s-k]? = some (.e x b):=by
   intro i h
   obtain⟨h1,b,h2⟩:=dataSlots_get h
   refine⟨by omega,b,?_⟩
   rw[show s-k=(s-(k+1))+1 from by omega]
   simpa using h2
  cases sv with
  | e y b=>
   simp only[dataSlots] at h
   cases i with
   | zero=>simp at h;obtain⟨rfl,rfl⟩:=h;exact⟨Nat.le_refl _,b,by simp⟩
   | succ i=>exact rest (by simpa using h)
  | _=>
   simp only[dataSlots] at h
   exact rest h

theorem dataSlots_mem:∀{l:List SV} {k s:Nat} {x:E} {b:Bool},l[s]? = some (.e x b)→∃i:Nat,(dataSlots k l)[i]? = some (k+s,x)
 | [],_,_,_,_,h=>by simp at h
 | sv :: r,k,0,x,b,h=>by
  simp at h
  subst h
  exact⟨0,by simp[dataSlots]⟩
 | sv :: r,k,s+1,x,b,h=>by
  obtain⟨i,hi⟩:=dataSlots_mem (k:=k+1) (l:=r) (s:=s) (by simpa using h)
  rw[show k+1+s=k+(s+1) from by omega] at hi
  cases sv with
  | e y c=>exact⟨i+1,by simpa[dataSlots] using hi⟩
  | _=>exact⟨i,by simpa[dataSlots] using hi⟩

structure Ext (w0:World)(X:Ent)(w1:World)(X1:Ent):Prop where
 sub:X.S≤X1.S
 os:w1.os=w0.os
 tape:TL w1 w0
 output:w1.output=w0.output
 size:w0.heap.size≤w1.heap.size
 old:∀b,b<w0.heap.size→¬X.may b→w1.heap[b]? = w0.heap[b]?
 may:∀b,X1.may b→X.may b∨w0.heap.size≤b
 foot:∀b,X1.foot b→X.foot b∨X.may b∨w0.heap.size≤b
 new:∀b o,X1.S b o→X.S b o∨w0.heap.size≤b∨X.may b
 dfs:∃cs:List Nat,X1.dfs=(cs.map fun D=>({ target:=.collected D,args:=#[] }:Deferred))++X.dfs∧cs.Nodup∧∀D,D∈cs→w1.heap[D]? = some (.deferred (some []))∧¬X1.may D∧¬X1.foot D∧w0.heap.size≤D

theorem Ext.refl (w0:World)(X:Ent):Ext w0 X w0 X:=⟨Sets.le_refl _,rfl,.refl _,rfl,Nat.le_refl _,fun _ _ _=>rfl,fun _ h=>.inl h,fun _ h=>.inl h,fun _ _ h=>.inl h,[],rfl,List.nodup_nil,by simp⟩

theorem Ext.trans {w0 w1 w2:World}{X X1 X2:Ent}(h:Ext w0 X w1 X1)(k:Ext w1 X1 w2 X2):Ext w0 X w2 X2:=by
 have hm:∀b,b<w0.heap.size→¬X.may b→¬X1.may b:=fun b hb hn hx=>(h.may b hx).elim hn fun g=>by omega
 refine⟨Sets.le_trans h.sub k.sub,k.os.trans h.os,k.tape.trans h.tape,k.output.trans h.output,Nat.le_trans h.size k.size,fun b hb hn=>(k.old b (Nat.lt_of_lt_of_le hb h.size) (hm b hb hn)).trans (h.old b hb hn),
  fun b hb=>(k.may b hb).elim (h.may b) fun g=>.inr (Nat.le_trans h.size g),fun b hb=>?_,fun b o hs=>?_,?_⟩
 ·rcases k.foot b hb with g | g | g
  ·exact h.foot b g
  ·exact .inr (h.may b g)
  ·exact .inr (.inr (Nat.le_trans h.size g))
 ·rcases k.new b o hs with g | g | g
  ·exact h.new b o g
  ·exact .inr (.inl (Nat.le_trans h.size g))
  ·exact .inr ((h.may b g).elim .inr .inl)
 ·obtain⟨cs,h1,h2,h3⟩:=h.dfs
  obtain⟨ds,k1,k2,k3⟩:=k.dfs
  refine⟨ds++cs,by rw[k1,h1];simp,?_,fun D hD=>?_⟩
  ·rw[List.nodup_append]
   refine⟨k2,h2,fun a ha b hb e=>?_⟩
   subst e
   have g1:=(k3 a ha).2.2.2
   have g2:=(Array.getElem?_eq_some_iff.1 (h3 a hb).1).1
   omega
  ·rcases List.mem_append.1 hD with hD | hD
   ·obtain⟨g1,g2,g3,g4⟩:=k3 D hD
    exact⟨g1,g2,g3,Nat.le_trans h.size g4⟩
   ·obtain⟨g1,g2,g3,g4⟩:=h3 D hD
    have hlt:=(Array.getElem?_eq_some_iff.1 g1).1
    exact⟨(k.old D hlt g2).trans g1,fun hx=>(k.may D hx).elim g2 fun g=>by omega,fun hx=>(k.foot D hx).elim g3 fun g=>g.elim g2 fun g=>by omega,g4⟩

theorem Ext.rep {w0 w1 w:World}{X X1:Ent}{a:Act}{σ:SState}{env:List D}{ρ:Rho}(h:Ext w0 X w1 X1)(hr:Rep w1 X1 w a σ env ρ)(hh:∀l rec,X.S.hold l=some rec→w0.heap[l]? = some (.loop rec)∧¬X.may l∧¬X.foot l):Rep w0 { X with dfs:=X1.dfs } w a σ env ρ:=by
 have hm:∀b,b<w0.heap.size→¬X.may b→¬X1.may b:=fun b hb hn hx=>(h.may b hx).elim hn fun g=>by omega
 refine⟨hr.size,hr.tmps,hr.objs,hr.inj,fun o x b hx hb=>?_,hr.cells,hr.os.trans h.os,hr.tape.trans h.tape,hr.output.trans h.output,Nat.le_trans h.size hr.grown,fun b hb hn=>(hr.old b (Nat.lt_of_lt_of_le hb h.size) (hm b hb hn)).trans (h.old b hb hn),Sets.le_trans h.sub hr.sub,fun b o hs=>?_,hr.nod,hh⟩
 ·obtain⟨g,hlt⟩:=hr.own o x b hx hb
  refine⟨?_,hlt⟩
  rcases g with g | g | g
  ·rcases h.foot b g.2 with k | k | k
   ·exact .inl ⟨g.1,k⟩
   ·exact .inr (.inr k)
   ·exact .inr (.inl k)
  ·exact .inr (.inl (Nat.le_trans h.size g))
  ·rcases h.may b g with k | k
   ·exact .inr (.inr k)
   ·exact .inr (.inl k)
 ·rcases hr.new b o hs with g | g | g
  ·exact h.new b o g
  ·exact .inr (.inl (Nat.le_trans h.size g))
  ·exact .inr ((h.may b g).elim .inr .inl)

theorem left_of_rep {w w':World}{a:Act}{σ:SState}{env:List D}{ρ:Rho}{S:Sets}{foot may:Nat→Prop}{dfs:List Deferred}{bs:List D}(h:Rep w ⟨may,S,foot,dfs⟩ w' a σ env ρ)(hst:StOk w' ρ.S ρ.foot bs)(hob:∃cf x,σ.obj HID=some (.store cf x))(hmay2:∀b,may b→foot b):Left w S foot may w' ρ.S ρ.foot bs:=by
 obtain⟨cf,x,hob⟩:=hob
 refine⟨hst,h.sub,h.os,h.tape,h.output,h.grown,h.old,fun b hb=>?_,fun b o hs=>?_,h.cells⟩
 ·obtain⟨g1,g2⟩:=h.own HID _ b hob hb
  refine⟨?_,g2⟩
  rcases g1 with g1 | g1 | g1
  ·exact .inl g1.2
  ·exact .inr g1
  ·exact .inl (hmay2 b g1)
 ·rcases h.new b o hs with g | g | g
  ·exact .inl g
  ·exact .inr (.inr g)
  ·exact .inr (.inl g)

theorem evalAll_get {env:List D}:∀{l:List E} {ds:List D} {i:Nat} {x:E},evalAll env l=some ds→l[i]? = some x→∃d,ds[i]? = some d∧x.eval env=some d
 | [],_,_,_,_,h=>by simp at h
 | y :: r,ds,i,x,h,hi=>by
  simp only[evalAll,Option.bind_eq_some_iff,Option.map_eq_some_iff] at h
  obtain⟨d,h1,ds',h2,rfl⟩:=h
  cases i with
  | zero=>simp at hi;subst hi;exact⟨d,rfl,h1⟩
  | succ i=>
   obtain⟨d',g1,g2⟩:=evalAll_get (i:=i) h2 (by simpa using hi)
   exact⟨d',by simpa using g1,g2⟩

theorem putArgs_rd {w:World}{ρ:Rho}{env:List D}:∀{ps:List Tmp} {vs:List Value} {u:Nat} {tm:Array Value} {svs:List SV},tm.size=svs.length→ps.length=vs.length→(∀t,SRd w ρ env (tm.getD t undef) (svs.getD t .junk))→(∀(i:Nat) (v:Value),vs[i]? = some v→∃d,env[u+i]? = some d∧RdD w ρ.S v d) →
  ((ps.zip vs).foldl (fun tmps (x:Tmp×Value)=>tmps.setIfInBounds x.1 x.2) tm).size=(putArgs u ps svs).length∧∀t,SRd w ρ env (((ps.zip vs).foldl (fun tmps (x:Tmp×Value)=>tmps.setIfInBounds x.1 x.2) tm).getD t undef) ((putArgs u ps svs).getD t .junk)
 | [],[],u,tm,svs,hs,_,h,_=>⟨hs,h⟩
 | [],_ :: _,_,_,_,_,hl,_,_=>by simp at hl
 | _ :: _,[],_,_,_,_,hl,_,_=>by simp at hl
 | p :: ps,v :: vs,u,tm,svs,hs,hl,h,hv=>by
  simp only[List.zip_cons_cons,List.foldl_cons,putArgs]
  refine putArgs_rd (by simp[hs]) (by simpa using hl) (fun t=>?_) fun i v' hi=>?_
  ·by_cases hp:p<svs.length
   ·simp only[Array.getD_eq_getD_getElem?,Array.getElem?_setIfInBounds,List.getD_eq_getElem?_getD,List.getElem?_set]
    by_cases e:p=t
    ·subst e
     obtain⟨d,hd,hr⟩:=hv 0 v rfl
     simp only[if_true,hs,hp]
     exact .e (by simpa[E.eval] using hd) hr (fun hh=>by cases hh)
    ·simp only[e,if_false]
     have:=h t
     simpa only[Array.getD_eq_getD_getElem?,List.getD_eq_getElem?_getD] using this
   ·have hge:svs.length≤p:=Nat.le_of_not_lt hp
    rw[Array.setIfInBounds_eq_of_size_le (by rw[hs];exact hge),List.set_eq_of_length_le hge]
    exact h t
  ·obtain⟨d,h1,h2⟩:=hv (i+1) v' (by simpa using hi)
   exact⟨d,by rw[show u+1+i=u+(i+1) from by omega];exact h1,h2⟩

theorem putArgs_length:∀(ps:List Tmp) (u:Nat) (svs:List SV),(putArgs u ps svs).length=svs.length
 | [],_,_=>rfl
 | p :: ps,u,svs=>by simp[putArgs,putArgs_length ps]

/-! ## a function leaves that has had loops over functions -/

structure Marked (w w':World)(cs:List Nat):Prop where
 other:∀b,b∉cs→w'.heap[b]? = w.heap[b]?
 size:w'.heap.size=w.heap.size
 os:w'.os=w.os
 tape:TL w' w
 output:w'.output=w.output
 cell:∀b o,w'.cell? ⟨b,o,none⟩=w.cell? ⟨b,o,none⟩

theorem cell_unmark {w:World}{l:Nat}{x:Option (List Deferred)}(h:w.heap[l]? = some (.deferred x))(y:Option (List Deferred))(b o:Nat):(w.putObj l (.deferred y)).cell? ⟨b,o,none⟩=w.cell? ⟨b,o,none⟩:=by
 by_cases e:b=l
 ·subst e
  have h1:w.cell? ⟨b,o,none⟩=none:=by simp[World.cell?,h]
  have h2:=World.putObj_heap_same (o:=.deferred y) (Array.getElem?_eq_some_iff.1 h).1
  rw[h1]
  simp[World.cell?,h2]
 ·exact World.cell?_of_block (a:=⟨b,o,none⟩) (World.putObj_heap_other e)

theorem leaves_marks {F:Fence}{n:Nat}{fn:Func}{tmps:Array Value}{R:Ending→World→Prop}{u:FrameMode}(hu:u≠.run):∀(cs:List Nat) (w:World),cs.Nodup→(∀D,D∈cs→w.heap[D]? = some (.deferred (some []))) →
  (∀w',Marked w w' cs→LeavesIn F n P fn tmps R [] u w')→LeavesInM F n P fn tmps R (cs.map fun D=>({ target:=.collected D,args:=#[] }:Deferred)) u w
 | [],w,_,_,h=>h w ⟨fun _ _=>rfl,rfl,rfl,.refl _,rfl,fun _ _=>rfl⟩
 | D :: cs,w,hn,hD,h=>by
  rw[List.nodup_cons] at hn
  have hd:=hD D (by simp)
  refine⟨hu,.inl ⟨D,_,rfl,run_takeDeferred hd,leaves_marks hu cs _ hn.2 (fun D' hD'=>?_) fun w' hm=>h w' ?_⟩⟩
  ·rw[World.putObj_heap_other (fun e=>by subst e;exact hn.1 hD')]
   exact hD D' (by simp[hD'])
  ·refine⟨fun b hb=>?_,hm.size.trans (by simp),hm.os,⟨hm.tape.tape,hm.tape.dr⟩,hm.output,fun b o=>(hm.cell b o).trans (cell_unmark hd _ b o)⟩
   simp only[List.mem_cons,not_or] at hb
   rw[hm.other b hb.2,World.putObj_heap_other hb.1]

theorem Rep.marked {w0 w1 w w':World}{X0 X1:Ent}{a:Act}{σ:SState}{env:List D}{ρ:Rho}{cs:List Nat}(h:Rep w1 X1 w a σ env ρ)(h0:Rep w0 X0 w a σ env ρ)(hc:∀D,D∈cs→D<w1.heap.size∧¬X1.may D∧¬X1.foot D∧w0.heap.size≤D)(hm:Marked w w' cs):Rep w0 X0 w' a σ env ρ:=
 h0.move (fun b o _=>hm.cell b o) (Rho.More.refl ρ _) (fun o x b hx hb=>hm.other b fun hD=>by
  obtain⟨h1,h2,h3,_⟩:=hc b hD
  rcases(h.own o x b hx hb).1 with g | g | g
  ·exact h3 g.2
  ·omega
  ·exact h2 g) (fun _ _ _ _ _ _ hs=>hs) (fun b o hs=>by rw[hm.size];exact h0.cells b o hs) hm.os hm.tape hm.output (by rw[hm.size];exact Nat.le_refl _) (fun b hb _=>hm.other b fun hD=>by have:=(hc b hD).2.2.2;omega) fun b o hs=>.inl hs

theorem Rep.putBoth {w0 w:World}{X:Ent}{a:Act}{σ:SState}{env:List D}{ρ:Rho}(h:Rep w0 X w a σ env ρ){m:Nat}{r r':Loop}(hm:w0.heap[m]? = some (.loop r))(hn1:¬X.may m)(hn2:¬X.foot m)(hh:X.S.hold m=none) :
  w.heap[m]? = some (.loop r)∧Rep (w0.putObj m (.loop r')) X (w.putObj m (.loop r')) a σ env ρ:=by
 have hlt:m<w0.heap.size:=(Array.getElem?_eq_some_iff.1 hm).1
 have hw:w.heap[m]? = some (.loop r):=(h.old m hlt hn1).trans hm
 have hlt':m<w.heap.size:=(Array.getElem?_eq_some_iff.1 hw).1
 have hb:∀o x b,σ.obj o=some x→objBlk ρ o x b→b≠m:=fun o x b hx hb e=>by
  subst e
  rcases(h.own o x b hx hb).1 with g | g | g
  ·exact hn2 g.2
  ·omega
  ·exact hn1 g
 have h1:Rep w0 X w a σ env ρ:=h
 refine⟨hw,h.size,fun t=>(h.tmps t).keep (Keeps.putObj hw r') (Rho.More.refl ρ (fun _=>False)) fun _ hf=>hf.elim,fun o x hx=>(h.objs o x hx).keep (Keeps.putObj hw r') (Rho.More.refl ρ (fun _=>False)) id (fun _ hf=>hf.elim) (fun b hb'=>World.putObj_heap_other (hb o x b hx hb')) (fun _ _ _ hs=>hs),h.inj,fun o x b hx hb'=>?_,fun b o hs=>?_,h.os,⟨h.tape.tape,h.tape.dr⟩,h.output,?_,fun b hb1 hb2=>?_,h.sub,fun b o hs=>?_,h.nod,fun l rec hl=>?_⟩
 ·simp only[World.putObj_size]
  exact h.own o x b hx hb'
 ·simp only[World.putObj_size]
  exact h.cells b o hs
 ·simp only[World.putObj_size]
  exact h.grown
 ·simp only[World.putObj_size] at hb1
  by_cases e:b=m
  ·subst e
   rw[World.putObj_heap_same hlt,World.putObj_heap_same hlt']
  ·rw[World.putObj_heap_other e,World.putObj_heap_other e]
   exact h.old b hb1 hb2
 ·simp only[World.putObj_size]
  exact h.new b o hs
 ·obtain⟨g1,g2,g3⟩:=h.hold l rec hl
  have e:l≠m:=fun e=>by
   subst e
   rw[hh] at hl
   cases hl
  exact⟨by rw[World.putObj_heap_other e];exact g1,g2,g3⟩

end
end
end Go.Am
