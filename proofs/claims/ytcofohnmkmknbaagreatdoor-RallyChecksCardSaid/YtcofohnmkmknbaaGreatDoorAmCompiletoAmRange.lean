/-
  Several texts, one behind the other.
-/
import Derived.Test.YtcofohnmkmknbaaGreatDoorAmBuildXtoAmRetok
import Derived.LoopN
set_option linter.unusedSimpArgs false
set_option linter.unusedVariables false
namespace Go.Am
section
noncomputable section

/-! ## forgetting an object -/

def SV.iY (d:Nat)(sv:SV):SV:=
 match sv with
 | .cE=>.cE
 | .e x s=>.e x s
 | sv=>if sv.aT d then sv else .cE

theorem SV.o9 (d:Nat)(sv:SV):sv.iY d=if sv.aT d then sv else .cE:=by
 cases sv <;> first | rfl | simp[SV.iY,SV.aT]

def bl.iY (d:Nat):bl→bl
 | .box cs=>.box (cs.map (SV.iY d))
 | x=>x

def af.iY (d:Nat)(σ:af):af:=if d=bN then σ else { tmps:=Q9 (SV.iY d) σ.tmps,mem:=T2 none (Q9 (fun x=>x.map (bl.iY d)) σ.mem) d,hs:=σ.hs.map (bl.iY d) }

theorem af.o9 (d:Nat)(σ:af):σ.iY d=if d=bN then σ else { tmps:=σ.tmps.map (SV.iY d),mem:=(σ.mem.map fun x=>x.map (bl.iY d)).set d none,hs:=σ.hs.map (bl.iY d) }:=by
 unfold af.iY
 rw[Cp,Co,Cp]

def sites (ops:Array Oper):List Nat:=ops.toList.filterMap fun o=>if jL o then o.dst else none

def iO (ds:List Nat)(σ:af):af:=ds.foldl (fun σ d=>σ.iY d) σ

def ad3 (σ:af)(ops:Array Oper):Bool:=ops.all fun o=>match o.dst with | some d=>decide (d<σ.tmps.length) | none=>true

def Qcw (P:Program)(ops:Array Oper)(σ:af)(u:Nat):Option (af×List Bind):=
 match AZ P ops ops.toList σ u with
 | some x=>if P.follows .mixedOrders=true then(if qt ops x.2.2 σ=true then extras P ops x.2.2 σ else CJ P ops x.2.2 σ (u+x.2.1.length)).map fun xs=>(x.1,x.2.1++xs.map .ev) else none
 | none=>none

def XN (P:Program)(ops:Array Oper)(σ:af)(u:Nat):Bool:=
 match ops[ops.size-1]?,σ.hs with
 | some o,some (.store cf _)=>(match o.guard,o.op with
  | none,.call c=>(match c.callee with
   | .value f=>(match σ.zS f with
    | .func (.func f) []=>cf.fc.contains f&&Iu ops&&(Qcw P ops.pop σ u).isSome
    | _=>cf.fc.contains (1000000+o.dst.getD 999999)&&Iu ops&&(Qcw P ops.pop σ u).isSome)
   | _=>false)
  | _,_=>false)
 | _,_=>false

def EO (P:Program)(ops:Array Oper)(σ:af)(u:Nat):Option (af×List Bind):=if XN P ops σ u=true then none else Qcw P ops σ u

theorem FU {P:Program}{ops:Array Oper}{σ:af}{u:Nat}{x:af×List Bind}(h:EO P ops σ u=some x):Qcw P ops σ u=some x:=by
 unfold EO at h
 split at h
 ·cases h
 ·exact h

def Cs (P:Program)(ops:Array Oper)(draw:Bool)(σ:af)(u:Nat)(k:QG):Option T:=
 let σ1:=iO (sites ops) σ
 if !ad3 σ1 ops then none else
 if draw then
  match EO P ops σ1 u with
  | some x=>(k x.1 (u+x.2.length)).map (Qrz x.2)
  | none=>if 0<ops.size∧Iu ops=true then match ops[ops.size-1]?,Qcw P ops.pop σ1 u with
    | some o,some x=>(match J5 P o x.1 with
     | some s=>if qB x.1 o then(HL s o x.1 (u+x.2.length) k).map (Qrz x.2) else none
     | none=>none)
    | _,_=>none
   else none
 else J_ P ops ops.toList σ1 u k

def Ub (P:Program)(ops:Array Oper)(σ:af):Bool:=
 match ops[ops.size-1]?,σ.hs with
 | some o,some (.store cf _)=>(match o.guard,o.op with
  | none,.call c=>(match c.callee with
   | .value f=>(match σ.zS f with
    | .func (.func f) []=>cf.fc.contains f
    | _=>cf.fc.contains (1000000+o.dst.getD 999999))
   | _=>false)
  | _,_=>false)
 | _,_=>false

def HU (P:Program)(ops:Array Oper)(draw:Bool)(σ:af)(u:Nat):Option (Option (Nat×af)):=
 let σ1:=iO (sites ops) σ
 if draw then
  match(if Ub P ops σ1 then none else AZ P ops ops.toList σ1 u) with
  | some x=>some (some (u+x.2.1.length,x.1))
  | none=>match ops[ops.size-1]?,AZ P ops.pop ops.pop.toList σ1 u with
   | some o,some x=>yx P ops [o] x.1 (u+x.2.1.length)
   | _,_=>none
 else yx P ops ops.toList σ1 u

/-! ## tokens get Qiw pattern's names -/

def ya (ts:List SV):List SV→List (Nat×Nat):=
 List.rec (motive:=fun _=>List SV→List (Nat×Nat)) (fun _=>[]) (fun t _ ih ss=>match ss with
  | []=>[]
  | x :: ss=>match t with
   | .own _ k=>(match x with
    | .own _ k'=>(k',k) :: ih ss
    | _=>ih ss)
   | _=>ih ss) ts

def um (ps:List (Nat×Nat))(σ:af):af:=ps.foldl (fun σ p=>σ.je p.1 p.2) σ

def i_ (σ:af):SV→SV
 | .own x k=>match σ.obj k with | some (.tok _ _)=>.own x k | _=>.e x true
 | sv=>sv

def af.i_ (σ:af):af:={ σ with tmps:=Q9 (Go.Am.i_ σ) σ.tmps }

theorem af.wZ (σ:af):σ.i_={ σ with tmps:=σ.tmps.map (Go.Am.i_ σ) }:=by
 unfold af.i_
 rw[Cp]

def pU (base:Nat)(tm σ:af):Option (List E):=Nx base tm (um (ya tm.tmps σ.i_.tmps) σ.i_)

/-! ## patterns for Qiw places where ways meet (nothing hangs on how they are found: 'matchS' looks) -/

def UK:SV→Bool
 | .e _ true=>true
 | .own _ _=>true
 | _=>false

def Y7:SV→Option Nat
 | .own _ k=>some k
 | _=>none

def aaT:SV→Bool
 | .cE=>true
 | _=>false

def abm (l:List (List SV)):List SV:=List.rec (motive:=fun _=>List SV) [] (fun x _ ih=>match x with
 | []=>ih
 | y :: _=>y :: ih) l

def adx (l:List SV):List SV:=
 match l with
 | []=>[]
 | _ :: r=>r

def YT (l:List SV):Bool:=List.rec (motive:=fun _=>Bool) false (fun x _ ih=>match x with
 | .cE=>true
 | _=>ih) l

def XX (base n:Nat)(wD:List SV):SV×Nat:=
 match wD with
 | []=>(.cE,n)
 | .cond _ _ :: _=>(.cE,n)
 | s :: r=>
  if aaT s||YT r then(.cE,n)
  else if r.all (s.same ·)&&s.upto base then(s,n)
  else match Y7 s with
   | some k=>if r.all (fun x=>(Y7 x).isSome) then(.own (.sym (base+n)) k,n+1) else if r.all (fun x=>x.jx.isSome) then(.e (.sym (base+n)) (r.all UK),n+1) else(.cE,n)
   | none=>if(s :: r).all (fun x=>x.jx.isSome) then(.e (.sym (base+n)) ((s :: r).all UK),n+1) else(.cE,n)

def Ky (base:Nat)(l:List SV):List (List SV)→Nat→List SV×Nat:=
 List.rec (motive:=fun _=>List (List SV)→Nat→List SV×Nat) (fun _ n=>([],n)) (fun s _ ih others n=>
  match XX base n (s :: abm others) with
 |(m,n1)=>match ih (Q9 adx others) n1 with
  |(ms,n2)=>(m :: ms,n2)) l

def Qv:List (Option bl)→Option (List (List SV))
 | []=>some []
 | some (.box cs) :: r=>(Qv r).map (cs :: ·)
 | _=>none

def rowsOf (sz:Nat):List (Option bl)→Option (List E)
 | []=>some []
 | some (.row x sz') :: r=>if sz=sz' then(rowsOf sz r).map (x :: ·) else none
 | _=>none

def Tv (e sz:Nat):List (Option bl)→Bool
 | []=>true
 | some (.tok e' sz') :: r=>decide (e=e')&&decide (sz=sz')&&Tv e sz r
 | _=>false

def Kz (base:Nat):List (Option bl)→List (List (Option bl))→Nat→List (Option bl)×Nat
 | [],_,n=>([],n)
 | x :: r,others,n=>
  let hs:=others.filterMap List.head?
  let (m,n1):Option bl×Nat:=match x with
   | some (.box cs)=>(match Qv hs with
    | some css=>let (ms,n1):=Ky base cs css n;(some (.box ms),n1)
    | none=>(none,n))
   | some (.row y sz)=>(match rowsOf sz hs with
    | some ys=>if ys.all (y.same ·)&&y.upto base then(some (.row y sz),n) else(some (.row (.sym (base+n)) sz),n+1)
    | none=>(none,n))
   | some (.tok e sz)=>if Tv e sz hs then(some (.tok e sz),n) else(none,n)
   | _=>(none,n)
  let (ms,n2):=Kz base r (others.map List.tail) n1
  (m :: ms,n2)

def JZ (cf:cz):List (Option bl)→Option (List E)
 | []=>some []
 | some (.store Qdy x) :: r=>if cf=Qdy then(JZ cf r).map (x :: ·) else none
 | _=>none

def aaD (base:Nat)(x:Option bl)(others:List (Option bl))(n:Nat):Option bl×Nat:=
 match x with
 | some (.store cf y)=>(match JZ cf others with
  | some ys=>if ys.all (y.same ·)&&y.upto base then(some (.store cf y),n) else(some (.store cf (.sym (base+n))),n+1)
  | none=>(none,n))
 | _=>(none,n)

def YW (σ0 σ:af):af:=um (ya σ0.tmps σ.i_.tmps) σ.i_

def nq (base:Nat)(σs:List af):af×Nat:=
 match(match σs with | []=>[] | σ :: r=>σ.i_ :: r.map (YW σ.i_)) with
 | []=>({ tmps:=[],mem:=[],hs:=none },0)
 | σ :: r=>
  let (ts,n):=Ky base σ.tmps (r.map (·.tmps)) 0
  let (ms,n):=Kz base σ.mem (r.map (·.mem)) n
  let (hs,n):=aaD base σ.hs (r.map (·.hs)) n
  ({ tmps:=ts,mem:=ms,hs:=hs },n)

def mh:Code→Bool
 | .exit _ | .ret | .goto _ | .refuse _ | .loop _=>false
 | .seq a b=>mh a&&mh b
 | .cond _ a b=>mh a||mh b
 | _=>true

/-! ## all is evaluated ahead of use (so Qiw kernel sees Qiw same au0 az8) -/

def cg {β:Type}(n:Nat)(K:Nat→β):β:=
 match n with
 | 0=>K 0
 | n+1=>K (Nat.succ n)

theorem eW {β:Type}(n:Nat)(K:Nat→β):cg n K=K n:=by cases n <;> rfl

def jY {β:Type}(b:Bool)(K:Bool→β):β:=
 match b with
 | true=>K true
 | false=>K false

theorem mR {β:Type}(b:Bool)(K:Bool→β):jY b K=K b:=by cases b <;> rfl

def aQ {β:Type}(x:E):(E→β)→β:=
 E.rec (motive:=fun _=>(E→β)→β)
  (fun k K=>cg k fun k=>K (.sym k))
  (fun d K=>K (.const d))
  (fun op kd a b iha ihb K=>iha fun a=>ihb fun b=>K (.bin op kd a b))
  (fun op a iha K=>iha fun a=>K (.un op a))
  (fun k a iha K=>iha fun a=>K (.conv k a))
  (fun a iha K=>iha fun a=>K (.aR a))
  (fun a iha K=>iha fun a=>K (.uJ a))
  (fun a iha K=>iha fun a=>K (.bt a))
  (fun i a iha K=>cg i fun i=>iha fun a=>K (.cell i a))
  (fun i n a iha K=>cg i fun i=>cg n fun n=>iha fun a=>K (.cells i n a))
  (fun n a iha K=>cg n fun n=>iha fun a=>K (.bB n a))
  (fun a i iha ihi K=>iha fun a=>ihi fun i=>K (.idx a i))
  (fun n a i iha ihi K=>cg n fun n=>iha fun a=>ihi fun i=>K (.uS n a i))
  (fun K=>K .nil)
  (fun a b iha ihb K=>iha fun a=>ihb fun b=>K (.cons a b))
  (fun a iha K=>iha fun a=>K (.one a))
  (fun size bytes a b iha ihb K=>cg size fun size=>cg bytes fun bytes=>iha fun a=>ihb fun b=>K (.app size bytes a b))
  (fun a b iha ihb K=>iha fun a=>ihb fun b=>K (.bz a b))
  (fun a iha K=>iha fun a=>K (.gE a))
  (fun f a b iha ihb K=>iha fun a=>ihb fun b=>K (.gV f a b))
  (fun size a lo hi iha akU akV K=>cg size fun size=>iha fun a=>akU fun lo=>akV fun hi=>K (.sub size a lo hi))
  (fun a i off x iha ihi Qf K=>iha fun a=>ihi fun i=>cg off fun off=>Qf fun x=>K (.set a i off x))
  (fun c a b NZ iha ihb K=>NZ fun c=>iha fun a=>ihb fun b=>K (.ite c a b))
  (fun c want a NZ iha K=>NZ fun c=>jY want fun want=>iha fun a=>K (.guard c want a))
  (fun K=>K .ax)
  (fun a b iha ihb K=>iha fun a=>ihb fun b=>K (.aa a b))
  (fun i a iha K=>cg i fun i=>iha fun a=>K (.Qrx i a))
  (fun bytes n d ihn K=>cg bytes fun bytes=>ihn fun n=>K (.rep bytes n d))
  (fun a iha K=>iha fun a=>K (.deref a))
  (fun t a iha K=>iha fun a=>K (.oO t a))
  (fun max a b iha ihb K=>jY max fun max=>iha fun a=>ihb fun b=>K (.mm max a b))
  (fun off a iha K=>cg off fun off=>iha fun a=>K (.ay off a))
  (fun a iha K=>iha fun a=>K (.nn a))
  (fun size a i iha ihi K=>cg size fun size=>iha fun a=>ihi fun i=>K (.aj size a i))
  (fun agg n h p IG ihp K=>jY agg fun agg=>cg n fun n=>IG fun h=>ihp fun p=>K (.ld agg n h p))
  (fun n h p y IG ihp S6 K=>cg n fun n=>IG fun h=>ihp fun p=>S6 fun y=>K (.gQ n h p y))
  (fun e sz h y IG S6 K=>cg sz fun sz=>IG fun h=>S6 fun y=>K (.cI e sz h y))
  (fun h IG K=>IG fun h=>K (.aU h))
  (fun e sz h l IG ihl K=>cg sz fun sz=>IG fun h=>ihl fun l=>K (.a_ e sz h l))
  (fun h l IG ihl K=>IG fun h=>ihl fun l=>K (.bO h l))
  (fun e sz bytes h x y IG Qf S6 K=>cg sz fun sz=>cg bytes fun bytes=>IG fun h=>Qf fun x=>S6 fun y=>K (.fU e sz bytes h x y))
  (fun h x y IG Qf S6 K=>IG fun h=>Qf fun x=>S6 fun y=>K (.apps h x y))
  (fun agg h x IG Qf K=>jY agg fun agg=>IG fun h=>Qf fun x=>K (.ve agg h x))
  (fun h x IG Qf K=>IG fun h=>Qf fun x=>K (.vf h x))
  (fun op a b c d iha ihb NZ ihd K=>iha fun a=>ihb fun b=>NZ fun c=>ihd fun d=>K (.m4 op a b c d)) x

theorem Si {β:Type}(k:Nat)(K:E→β):aQ (.sym k) K=cg k fun k=>K (.sym k):=rfl
theorem L3 {β:Type}(d:D)(K:E→β):aQ (.const d) K=K (.const d):=rfl
theorem Sv {β:Type}(op:BinOp)(kd:Kd)(a:E)(b:E)(K:E→β):aQ (.bin op kd a b) K=aQ a fun a=>aQ b fun b=>K (.bin op kd a b):=rfl
theorem V_ {β:Type}(op:UnOp)(a:E)(K:E→β):aQ (.un op a) K=aQ a fun a=>K (.un op a):=rfl
theorem OQ {β:Type}(k:IntKind)(a:E)(K:E→β):aQ (.conv k a) K=aQ a fun a=>K (.conv k a):=rfl
theorem OM {β:Type}(a:E)(K:E→β):aQ (.aR a) K=aQ a fun a=>K (.aR a):=rfl
theorem OL {β:Type}(a:E)(K:E→β):aQ (.uJ a) K=aQ a fun a=>K (.uJ a):=rfl
theorem OG {β:Type}(a:E)(K:E→β):aQ (.bt a) K=aQ a fun a=>K (.bt a):=rfl
theorem OS {β:Type}(i:Nat)(a:E)(K:E→β):aQ (.cell i a) K=cg i fun i=>aQ a fun a=>K (.cell i a):=rfl
theorem L4 {β:Type}(i:Nat)(n:Nat)(a:E)(K:E→β):aQ (.cells i n a) K=cg i fun i=>cg n fun n=>aQ a fun a=>K (.cells i n a):=rfl
theorem OV {β:Type}(n:Nat)(a:E)(K:E→β):aQ (.bB n a) K=cg n fun n=>aQ a fun a=>K (.bB n a):=rfl
theorem Su {β:Type}(a:E)(i:E)(K:E→β):aQ (.idx a i) K=aQ a fun a=>aQ i fun i=>K (.idx a i):=rfl
theorem ON {β:Type}(n:Nat)(a:E)(i:E)(K:E→β):aQ (.uS n a i) K=cg n fun n=>aQ a fun a=>aQ i fun i=>K (.uS n a i):=rfl
theorem Sq {β:Type}(K:E→β):aQ .nil K=K .nil:=rfl
theorem OR {β:Type}(a:E)(b:E)(K:E→β):aQ (.cons a b) K=aQ a fun a=>aQ b fun b=>K (.cons a b):=rfl
theorem Sn {β:Type}(a:E)(K:E→β):aQ (.one a) K=aQ a fun a=>K (.one a):=rfl
theorem Sw {β:Type}(size:Nat)(bytes:Nat)(a:E)(b:E)(K:E→β):aQ (.app size bytes a b) K=cg size fun size=>cg bytes fun bytes=>aQ a fun a=>aQ b fun b=>K (.app size bytes a b):=rfl
theorem LX {β:Type}(a:E)(b:E)(K:E→β):aQ (.bz a b) K=aQ a fun a=>aQ b fun b=>K (.bz a b):=rfl
theorem LW {β:Type}(a:E)(K:E→β):aQ (.gE a) K=aQ a fun a=>K (.gE a):=rfl
theorem OK {β:Type}(f:FuncId)(a:E)(b:E)(K:E→β):aQ (.gV f a b) K=aQ a fun a=>aQ b fun b=>K (.gV f a b):=rfl
theorem Sj {β:Type}(size:Nat)(a:E)(lo:E)(hi:E)(K:E→β):aQ (.sub size a lo hi) K=cg size fun size=>aQ a fun a=>aQ lo fun lo=>aQ hi fun hi=>K (.sub size a lo hi):=rfl
theorem Sl {β:Type}(a:E)(i:E)(off:Nat)(x:E)(K:E→β):aQ (.set a i off x) K=aQ a fun a=>aQ i fun i=>cg off fun off=>aQ x fun x=>K (.set a i off x):=rfl
theorem Qgx {β:Type}(c:E)(a:E)(b:E)(K:E→β):aQ (.ite c a b) K=aQ c fun c=>aQ a fun a=>aQ b fun b=>K (.ite c a b):=rfl
theorem LY {β:Type}(c:E)(want:Bool)(a:E)(K:E→β):aQ (.guard c want a) K=aQ c fun c=>jY want fun want=>aQ a fun a=>K (.guard c want a):=rfl
theorem OE {β:Type}(K:E→β):aQ .ax K=K .ax:=rfl
theorem LV {β:Type}(a:E)(b:E)(K:E→β):aQ (.aa a b) K=aQ a fun a=>aQ b fun b=>K (.aa a b):=rfl
theorem OF {β:Type}(i:Nat)(a:E)(K:E→β):aQ (.Qrx i a) K=cg i fun i=>aQ a fun a=>K (.Qrx i a):=rfl
theorem Sm {β:Type}(bytes:Nat)(n:E)(d:D)(K:E→β):aQ (.rep bytes n d) K=cg bytes fun bytes=>aQ n fun n=>K (.rep bytes n d):=rfl
theorem L2 {β:Type}(a:E)(K:E→β):aQ (.deref a) K=aQ a fun a=>K (.deref a):=rfl
theorem Qgj {β:Type}(t:TypeId)(a:E)(K:E→β):aQ (.oO t a) K=aQ a fun a=>K (.oO t a):=rfl
theorem Wb {β:Type}(max:Bool)(a:E)(b:E)(K:E→β):aQ (.mm max a b) K=jY max fun max=>aQ a fun a=>aQ b fun b=>K (.mm max a b):=rfl
theorem OH {β:Type}(off:Nat)(a:E)(K:E→β):aQ (.ay off a) K=cg off fun off=>aQ a fun a=>K (.ay off a):=rfl
theorem Wa {β:Type}(a:E)(K:E→β):aQ (.nn a) K=aQ a fun a=>K (.nn a):=rfl
theorem L1 {β:Type}(size:Nat)(a:E)(i:E)(K:E→β):aQ (.aj size a i) K=cg size fun size=>aQ a fun a=>aQ i fun i=>K (.aj size a i):=rfl
theorem We {β:Type}(agg:Bool)(n:Nat)(h:E)(p:E)(K:E→β):aQ (.ld agg n h p) K=jY agg fun agg=>cg n fun n=>aQ h fun h=>aQ p fun p=>K (.ld agg n h p):=rfl
theorem Sk {β:Type}(n:Nat)(h:E)(p:E)(y:E)(K:E→β):aQ (.gQ n h p y) K=cg n fun n=>aQ h fun h=>aQ p fun p=>aQ y fun y=>K (.gQ n h p y):=rfl
theorem OJ {β:Type}(e:TypeId)(sz:Nat)(h:E)(y:E)(K:E→β):aQ (.cI e sz h y) K=cg sz fun sz=>aQ h fun h=>aQ y fun y=>K (.cI e sz h y):=rfl
theorem L0 {β:Type}(h:E)(K:E→β):aQ (.aU h) K=aQ h fun h=>K (.aU h):=rfl
theorem OI {β:Type}(e:TypeId)(sz:Nat)(h:E)(l:E)(K:E→β):aQ (.a_ e sz h l) K=cg sz fun sz=>aQ h fun h=>aQ l fun l=>K (.a_ e sz h l):=rfl
theorem LZ {β:Type}(h:E)(l:E)(K:E→β):aQ (.bO h l) K=aQ h fun h=>aQ l fun l=>K (.bO h l):=rfl
theorem OU {β:Type}(e:TypeId)(sz:Nat)(bytes:Nat)(h:E)(x:E)(y:E)(K:E→β):aQ (.fU e sz bytes h x y) K=cg sz fun sz=>cg bytes fun bytes=>aQ h fun h=>aQ x fun x=>aQ y fun y=>K (.fU e sz bytes h x y):=rfl
theorem OT {β:Type}(h:E)(x:E)(y:E)(K:E→β):aQ (.apps h x y) K=aQ h fun h=>aQ x fun x=>aQ y fun y=>K (.apps h x y):=rfl
theorem OO {β:Type}(agg:Bool)(h:E)(x:E)(K:E→β):aQ (.ve agg h x) K=jY agg fun agg=>aQ h fun h=>aQ x fun x=>K (.ve agg h x):=rfl
theorem OP {β:Type}(h:E)(x:E)(K:E→β):aQ (.vf h x) K=aQ h fun h=>aQ x fun x=>K (.vf h x):=rfl
theorem Wd {β:Type}(op:MOp)(a:E)(b:E)(c:E)(d:E)(K:E→β):aQ (.m4 op a b c d) K=aQ a fun a=>aQ b fun b=>aQ c fun c=>aQ d fun d=>K (.m4 op a b c d):=rfl

theorem cD {β : Type} (x : E) : ∀ K : E → β, aQ x K = K x := by
  induction x <;> intro K <;> simp only [eW, mR, Si, L3, Sv, V_, OQ, OM, OL, OG, OS, L4, OV, Su, ON, Sq, OR, Sn, Sw, LX, LW, OK, Sj, Sl, Qgx, LY, OE, LV, OF, Sm, L2, Qgj, Wb, OH, Wa, L1, We, Sk, OJ, L0, OI, LZ, OU, OT, OO, OP, Wd, *]

def qE {β : Type} : List (E × Bool) → (List (E × Bool) → β) → β
  | [], K => K []
  | (x, b) :: r, K => aQ x fun x => jY b fun b => qE r fun r => K ((x, b) :: r)

theorem xN {β : Type} : ∀ (l : List (E × Bool)) (K : List (E × Bool) → β), qE l K = K l
  | [], _ => rfl
  | (x, b) :: r, K => by simp only [qE, cD, mR, xN r]

mutual
def lZ {β:Type}:SV→(SV→β)→β
 | .cE,K=>K .cE
 | .e x s,K=>aQ x fun x=>jY s fun s=>K (.e x s)
 | .agg cs,K=>qD cs fun cs=>K (.agg cs)
 | .bh vs,K=>qD vs fun vs=>K (.bh vs)
 | .addr o off,K=>cg o fun o=>cg off fun off=>K (.addr o off)
 | .aj o i s off,K=>cg o fun o=>aQ i fun i=>cg s fun s=>cg off fun off=>K (.aj o i s off)
 | .iV x off,K=>aQ x fun x=>cg off fun off=>K (.iV x off)
 | .own x n,K=>aQ x fun x=>cg n fun n=>K (.own x n)
 | .oc o,K=>cg o fun o=>K (.oc o)
 | .func fn cap,K=>qD cap fun cap=>K (.func fn cap)
 | .cond act sv,K=>qE act fun act=>lZ sv fun sv=>K (.cond act sv)
def qD {β:Type}:List SV→(List SV→β)→β
 | [],K=>K []
 | x :: r,K=>lZ x fun x=>qD r fun r=>K (x :: r)
end

mutual
theorem A0 {β:Type}:∀(x:SV) (K:SV→β),lZ x K=K x
 | .cE,K=>by simp only[lZ]
 | .e x s,K=>by simp only[lZ,cD,mR]
 | .agg cs,K=>by simp only[lZ,p8 cs]
 | .bh vs,K=>by simp only[lZ,p8 vs]
 | .addr o off,K=>by simp only[lZ,eW]
 | .aj o i s off,K=>by simp only[lZ,eW,cD]
 | .iV x off,K=>by simp only[lZ,eW,cD]
 | .own x n,K=>by simp only[lZ,eW,cD]
 | .oc o,K=>by simp only[lZ,eW]
 | .func fn cap,K=>by simp only[lZ,p8 cap]
 | .cond act sv,K=>by simp only[lZ,xN,A0 sv]
theorem p8 {β:Type}:∀(l:List SV) (K:List SV→β),qD l K=K l
 | [],K=>by simp only[qD]
 | x :: r,K=>by simp only[qD,A0 x,p8 r]
end

def V9 {β:Type}(x:SV)(K:SV→β):β:=
 match x with
 | .cE=>K .cE
 | .e x s=>aQ x fun x=>jY s fun s=>K (.e x s)
 | x=>lZ x K

theorem V8 {β:Type}(x:SV)(K:SV→β):V9 x K=K x:=by
 cases x <;> first | rfl | simp only[V9,cD,mR,A0]

def dS {α β:Type}(f:α→(α→β)→β)(l:List α):(List α→β)→β:=List.rec (motive:=fun _=>(List α→β)→β) (fun K=>K []) (fun x _ ih K=>f x fun x=>ih fun r=>K (x :: r)) l

theorem ed {α β:Type}{f:α→(α→β)→β}(hf:∀x k,f x k=k x):∀(l:List α) (K:List α→β),dS f l K=K l
 | [],_=>rfl
 | x :: r,K=>by
  show(f x fun x=>dS f r fun r=>K (x :: r))=_
  rw[hf,ed hf r]

def CK {β:Type}(x:Option bl)(K:Option bl→β):β:=
 match x with
 | none=>K none
 | some (.box cs)=>qD cs fun cs=>K (some (.box cs))
 | some (.row x n)=>aQ x fun x=>cg n fun n=>K (some (.row x n))
 | some (.tok e n)=>cg e fun e=>cg n fun n=>K (some (.tok e n))
 | some (.store cf h)=>aQ h fun h=>K (some (.store cf h))

theorem ES {β:Type}(x:Option bl)(K:Option bl→β):CK x K=K x:=by
 cases x with
 | none=>rfl
 | some y=>cases y <;> simp only[CK,p8,cD,eW]

def r9 {β:Type}(u:Nat)(σ:af)(K:Nat→af→β):β:=
 cg u fun u=>dS V9 σ.tmps fun ts=>dS CK σ.mem fun ms=>CK σ.hs fun hs=>K u { tmps:=ts,mem:=ms,hs:=hs }

theorem mQ {β:Type}(u:Nat)(σ:af)(K:Nat→af→β):r9 u σ K=K u σ:=by
 unfold r9
 rw[eW,ed V8,ed ES,ES]

structure Pe where
 normal:Option (Nat×af)
 kA:List (Nat×af)

def uz:Code→List (Option Nat)
 | .seq a b | .cond _ a b=>uz a++(uz b).filter fun q=>!(uz a).contains q
 | .block id b=>(uz b).filter (·!= some id)
 | .loop b | .rangeFunc _ _ _ b=>uz b
 | .exit id=>[some id]
 | .ret=>[none]
 | _=>[]

def wH:Option Nat→Code
 | none=>.ret
 | some id=>.exit id

def LI (body:Nat→af→Option Pe)(u:Nat)(σ0:af):Nat→af×Nat→Option (af×Nat)
 | 0,tm=>some tm
 | k+1,tm=>r9 (u+tm.2) tm.1 fun u1 σ1=>match body u1 σ1 with
  | none=>none
  | some o=>
   let tm':=nq u (σ0 :: (match o.normal with | some x=>[x.2] | none=>[]))
   if tm'.2=tm.2 then some tm' else LI body u σ0 k tm'

def af.bC (σ:af):Bool:=match σ.hs with
 | some (.store cf _)=>cf.bC
 | _=>false

def anC:T:=.ret (.deref .nil)

def Qpz (σ:af):Option T→Option T
 | some t=>some t
 | none=>if σ.bC=true then some anC else none

def au2 {α:Type}(σ:af):Option (Option α)→Option (Option α)
 | some x=>some x
 | none=>if σ.bC=true then some none else none

def collect (P:Program):Code→Nat→af→Option Pe
 | .skip,u,σ | .label _,u,σ=>some ⟨some (u,σ),[]⟩
 | .region id ops draw,u,σ=>(au2 σ (HU P ops draw (rW id σ) u)).bind fun x=>match x with
  | none=>some ⟨none,[]⟩
  | some (u,σ)=>r9 u σ fun u σ=>some ⟨some (u,σ),[]⟩
 | .seq a b,u,σ=>(collect P a u σ).bind fun r1=>match r1.normal with
  | none=>some r1
  | some (u1,σ1)=>(collect P b u1 σ1).map fun r2=>⟨r2.normal,r1.kA++r2.kA⟩
 | .cond _ a b,u,σ=>r9 u σ fun u σ=>(collect P a u σ).bind fun ra=>(collect P b u σ).map fun rb=>match ra.normal,rb.normal with
  | some x,some y=>let (tm,n):=nq u [x.2,y.2];⟨some (u+n,tm),ra.kA++rb.kA⟩
  | some x,none=>⟨some x,ra.kA++rb.kA⟩
  | none,y=>⟨y,ra.kA++rb.kA⟩
 | .block id body,u,σ=>r9 u σ fun u σ=>(collect P body u σ).map fun r=>
  let outs:=(match r.normal with | some x=>[x.2] | none=>[])++(r.kA.filter (·.1==id)).map (·.2)
  let rest:=r.kA.filter (·.1 != id)
  match outs with
  | []=>⟨none,rest⟩
  | outs=>let (tm,n):=nq u outs;⟨some (u+n,tm),rest⟩
 | .loop body,u,σ=>r9 u σ fun u σ=>(LI (fun u σ=>collect P body u σ) u σ 8 (σ,0)).bind fun(tm,n)=>r9 (u+n) tm fun u1 tm=>(collect P body u1 tm).map fun r=>⟨none,r.kA⟩
 | .exit id,_,σ=>some ⟨none,[(id,σ)]⟩
 | .ret,_,_=>some ⟨none,[]⟩
 | .rangeFunc _ _ _ body,u,σ=>some ⟨some (u+1,mo σ (.sym u)),match uz body with | [some id]=>[(id,mo σ (.sym u))] | _=>[]⟩
 | .refuse _,_,σ=>if σ.bC=true then some ⟨none,[]⟩ else none
 | _,_,_=>none

structure Ex where
 lab:Nat
 tm:af
 base:Nat

abbrev Mt:=Nat→Nat→af→Option T

def lK : List (Nat × Ex) → Nat → Option Ex
  | [], _ => none
  | (i, e) :: r, id => if i = id then some e else lK r id

def Pe.oH (r:Pe):List af:=match r.normal with | some x=>[x.2] | none=>[]
def Pe.at (r:Pe)(id:Nat):List af:=r.oH++(r.kA.filter (·.1==id)).map (·.2)

def Eb (dp u:Nat)(tm:af):Mt:=fun _ _ σ'=>(pU u tm σ').map (T.jump dp)

def Iy (dp u:Nat)(m:af×Nat)(body:Option T)(k:Mt):Option T:=
 match body,k dp (u+m.2) m.1 with
 | some tb,some tr=>some (.join dp m.2 tb tr)
 | _,_=>none

def Qb (x:E)(a b:Option T):Option T:=
 match a,b with
 | some ta,some tb=>some (.ite x ta tb)
 | _,_=>none

def NA (dp u:Nat)(m:af×Nat)(σ:af)(body:Option T):Option T:=
 match pU u m.1 σ,body with
 | some inits,some tb=>if inits.length=m.2 then some (.loop dp inits tb) else none
 | _,_=>none

def cK:Nat→List SV→List (Nat×E)
 | _,[]=>[]
 | i,.e x _ :: r=>(i,x) :: cK (i+1) r
 | i,_ :: r=>cK (i+1) r

def SV.data:SV→SV
 | .e x s=>.e x s
 | _=>.cE

def sR:Nat→List Tmp→List SV→List SV
 | _,[],σs=>σs
 | u,p :: ps,σs=>sR (u+1) ps (σs.set p (.e (.sym u) false))

def d_ (σ:af)(cf:cz)(u:Nat)(ps:List Tmp):af:=
 { tmps:=sR (u+1) ps (σ.tmps.map SV.data),mem:=List.replicate σ.mem.length none,hs:=some (.store cf (.sym u)) }

def iv (dp:Nat):Mt:=fun _ _ σ=>match σ.hs with | some (.store _ h)=>some (.jump dp [h]) | _=>none

def lu (q:Option Nat)(σ:af):Option E:=match q,σ.hs with | none,some (.store _ h)=>some h | _,_=>none

def mw (dp base:Nat)(σ:af)(cf:cz)(q:Option Nat):List (Nat×Ex):=match q with
 | none=>[]
 | some id=>[(id,⟨dp+1,{ tmps:=List.replicate σ.tmps.length .cE,mem:=List.replicate σ.mem.length none,hs:=some (.store cf (.sym base)) },base⟩)]

def gN:Code→Bool
 | .seq a b | .cond _ a b=>gN a&&gN b
 | .block _ b | .loop b=>gN b
 | .rangeFunc _ _ _ _=>false
 | _=>true

def compile (P:Program)(rv:af→Option E):Code→Nat→Nat→af→List (Nat×Ex)→Mt→Option T
 | .skip,dp,u,σ,_,k | .label _,dp,u,σ,_,k=>k dp u σ
 | .region id ops draw,dp,u,σ,_,k=>Qpz σ (Cs P ops draw (rW id σ) u fun σ u=>r9 u σ fun u σ=>k dp u σ)
 | .seq a b,dp,u,σ,ex,k=>compile P rv a dp u σ ex fun dp u σ=>compile P rv b dp u σ ex k
 | .cond c a b,dp,u,σ,ex,k=>r9 u σ fun u σ=>(σ.zS c).jx.bind fun x=>
   if mh a&&mh b then
    (collect P a u σ).bind fun ra=>(collect P b u σ).bind fun rb=>
     Iy dp u (nq u (ra.oH++rb.oH))
      (Qb x (compile P rv a (dp+1) u σ ex (Eb dp u (nq u (ra.oH++rb.oH)).1)) (compile P rv b (dp+1) u σ ex (Eb dp u (nq u (ra.oH++rb.oH)).1))) k
   else Qb x (compile P rv a dp u σ ex k) (compile P rv b dp u σ ex k)
 | .block id body,dp,u,σ,ex,k=>r9 u σ fun u σ=>(collect P body u σ).bind fun r=>
   if(r.at id).isEmpty then compile P rv body dp u σ (ex.filter (·.1 != id)) (fun _ _ _=>none)
   else Iy dp u (nq u (r.at id)) (compile P rv body (dp+1) u σ ((id,⟨dp,(nq u (r.at id)).1,u⟩) :: ex) (Eb dp u (nq u (r.at id)).1)) k
 | .loop body,dp,u,σ,ex,_=>r9 u σ fun u σ=>(LI (fun u σ=>collect P body u σ) u σ 8 (σ,0)).bind fun m=>
   NA dp u m σ (r9 (u+m.2) m.1 fun u1 tm=>compile P rv body (dp+1) u1 tm ex (Eb dp u m.1))
 | .exit id,_,_,σ,ex,_=>(lK ex id).bind fun e=>(pU e.base e.tm σ).map (T.jump e.lab)
 | .ret,_,_,σ,_,_=>(rv σ).map T.ret
 | .rangeFunc g ps wq body,dp,u,σ,ex,k=>match(σ.zS g).jx,σ.hs with
  | some x,some (.store cf h)=>if cf.ro=true then none else match uz body with
   | [q]=>match compile P (fun _=>none) wq (dp+2) (u+1+ps.size) (d_ σ cf u ps.toList) [] (fun MF u' σ'=>compile P (lu q) body MF u' σ' (mw dp (u+1+ps.size) σ cf q) (iv dp)),k dp (u+1) (mo σ (.sym u)),
     (match q with | none=>(rv (mo σ (.sym u))).map T.ret | some id=>(lK ex id).bind fun e=>(pU e.base e.tm (mo σ (.sym u))).map (T.jump e.lab)) with
    | some tb,some tr,some tq=>some (.lz x h ((cK 0 σ.tmps).map (·.1)) ((cK 0 σ.tmps).map (·.2)) ps.size dp q tb tr tq)
    | _,_,_=>none
   | _=>match compile P (fun _=>none) wq (dp+1) (u+1+ps.size) (d_ σ cf u ps.toList) [] (fun MF u' σ'=>compile P (fun _=>none) body MF u' σ' [] (iv dp)),k dp (u+1) (mo σ (.sym u)) with
   | some tb,some tr=>some (.Qsz x h ((cK 0 σ.tmps).map (·.1)) ((cK 0 σ.tmps).map (·.2)) ps.size dp tb tr)
   | _,_=>none
  | _,_=>none
 | .refuse _,_,_,σ,_,_=>Qpz σ none
 | _,_,_,_,_,_=>none

end
end

section
noncomputable section

section
variable {P:Program}

theorem Mf {w:World}{l:Nat}{r:Loop}(h:w.heap[l]? = some (.loop r))(r':Loop)(b o:Nat):(w.putObj l (.loop r')).cell? ⟨b,o,none⟩=w.cell? ⟨b,o,none⟩:=by
 by_cases e:b=l
 ·subst e
  have h1:w.cell? ⟨b,o,none⟩=none:=by simp[World.cell?,h]
  have h2:=World.putObj_heap_same (o:=.loop r') (Array.getElem?_eq_some_iff.1 h).1
  rw[h1]
  simp[World.cell?,h2]
 ·exact World.cell?_of_block (a:=⟨b,o,none⟩) (World.putObj_heap_other e)

theorem bW.putObj {w:World}{S:Sets}{l:Nat}{r:Loop}(h:w.heap[l]? = some (.loop r))(r':Loop):bW S w (w.putObj l (.loop r')):=fun b o _=>Mf h r' b o

def WT (d x:D):Prop:=(∃(e:TypeId) (sz:Nat) (cs:List D) (j:Nat),x=.aE e sz cs∧cs[j]? = some d)∨(∃(dL:List D) (j:Nat) (d1 d2:D),x=.iE dL∧(D.kept dL)[j]? = some (D.bh [d1,d2])∧(d=d1∨d=d2))

theorem dF.to {w w':World} {S S':Sets} {aJ:Nat→Prop} {bs:List D} (h:dF w S aJ bs) (hS:S.SR S') (hm:∀b o,S' b o→S b o) (hb:∀b,aJ b→w'.heap[b]? = w.heap[b]?)
  (hr:∀(v:Value) (d:D) (i:Nat) (x:D),bs[i]? = some x→WT d x→bU w S v d→bU w' S' v d):dF w' S' aJ bs:=by
 refine⟨hS.n.symm.trans h.n,fun i e sz cs hi=>?_,fun b off hf hs=>h.Cw b off hf (hm _ _ hs),fun i dL hi=>?_,fun i j x y hi hj hx hy e=>h.inj i j x y hi hj hx hy (by rw[←hS.loc,←hS.loc];exact e),fun i z hi hz=>?_⟩
 ·obtain⟨hf,vs,g1,g2,g3,g4,g5,g6⟩:=h.cells i e sz cs hi
  rw[hS.loc,hS.cap]
  exact⟨hf,vs,g1.to (hb _ hf),g2,g3,g4,fun j v d hv hd=>hr v d i _ hi (.inl ⟨e,sz,cs,j,rfl,hd⟩) (g5 j v d hv hd),fun off hs=>g6 off (hm _ _ hs)⟩
 ·obtain⟨hf,es,clock,g1,g2,g3,g4⟩:=h.maps i dL hi
  rw[hS.loc]
  refine⟨hf,es,clock,(hb _ hf).trans g1,g2,fun off hs=>g3 off (hm _ _ hs),fun j e kv he hkv=>?_⟩
  obtain⟨dk,dv,rfl,g6,g7⟩:=g4 j e kv he hkv
  exact⟨dk,dv,rfl,hr _ _ i _ hi (.inr ⟨dL,j,dk,dv,rfl,hkv,.inl rfl⟩) g6,hr _ _ i _ hi (.inr ⟨dL,j,dk,dv,rfl,hkv,.inr rfl⟩) g7⟩
 ·obtain⟨hf,g1,g3⟩:=h.FJ i z hi hz
  rw[hS.loc,hb _ hf]
  exact⟨hf,g1.to (by rw[hS.n];exact Nat.le_refl _) (fun i _=>hS.loc i) (hS.mH i) (by rw[h.n];exact(List.getElem?_eq_some_iff.1 hi).1),fun off hs=>g3 off (hm _ _ hs)⟩

theorem dF.drop {w:World}{S:Sets}{aJ:Nat→Prop}{bs:List D}{i:Nat}{z:D}(h:dF w S aJ bs)(hz:bs[i]? = some z)(hl:z.live=true):dF w S (fun b=>aJ b∧b≠S.loc i) (bs.set i (.bh [])):=by
 have hc:∀{j:Nat} {x:D},(bs.set i (.bh []))[j]? = some x→x.live=true→bs[j]? = some x∧S.loc j≠S.loc i:=by
  intro j x hj hx
  rw[List.getElem?_set] at hj
  split at hj
  ·split at hj
   ·cases hj;cases hx
   ·cases hj
  ·rename_i hij
   exact⟨hj,fun e=>hij (h.inj j i _ _ hj hz hx hl e).symm⟩
 refine⟨by rw[h.n];simp,fun j e sz cs hj=>?_,fun b off hf=>h.Cw b off hf.1,fun j dL hj=>?_,fun j k x y hj hk hx hy e=>h.inj j k x y (hc hj hx).1 (hc hk hy).1 hx hy e,fun j x hj hx=>?_⟩
 ·obtain⟨g,hne⟩:=hc hj rfl
  obtain⟨g1,g2⟩:=h.cells j e sz cs g
  exact⟨⟨g1,hne⟩,g2⟩
 ·obtain⟨g,hne⟩:=hc hj rfl
  obtain⟨g1,g2⟩:=h.maps j dL g
  exact⟨⟨g1,hne⟩,g2⟩
 ·obtain⟨g,hne⟩:=hc hj (D.jQ hx)
  obtain⟨g1,g2⟩:=h.FJ j x g hx
  exact⟨⟨g1,hne⟩,g2⟩

theorem dF.aaq {w w':World}{S:Sets}{aJ:Nat→Prop}{bs:List D}{i:Nat}{z:D}(h:dF w S aJ bs)(hz:bs[i]? = some (.bh []))(hi:z.isIt=true)(dN:A8 S i w'.heap[S.loc i]? z)(hf:¬aJ (S.loc i))(hn:∀off,¬S (S.loc i) off)(hk:bW S w w')(hb:∀b,aJ b→w'.heap[b]? = w.heap[b]?) :
  dF w' S (fun b=>aJ b∨b=S.loc i) (bs.set i z):=by
 have hc:∀{j:Nat} {x:D},(bs.set i z)[j]? = some x→x.live=true→(j=i∧x=z)∨(bs[j]? = some x∧aJ (S.loc j)∧w'.heap[S.loc j]? = w.heap[S.loc j]?):=by
  intro j x hj hx
  rw[List.getElem?_set] at hj
  split at hj
  ·rename_i hij
   subst hij
   rw[if_pos (List.getElem?_eq_some_iff.1 hz).1] at hj
   cases hj
   exact .inl ⟨rfl,rfl⟩
  ·have:=h.jl hj hx
   exact .inr ⟨hj,this,hb _ this⟩
 refine⟨by rw[h.n];simp,fun j e sz cs hj=>?_,fun b off W5=>W5.elim (h.Cw b off) fun e=>e ▸ hn off,fun j dL hj=>?_,fun j k x y hj hk' hx hy e=>?_,fun j x hj hx=>?_⟩
 ·rcases hc hj rfl with⟨rfl,e1⟩ | ⟨g,g0,gh⟩
  ·subst e1;cases hi
  ·obtain⟨_,vs,g1,g2,g3,g4,g5,g6⟩:=h.cells j e sz cs g
   exact⟨.inl g0,vs,g1.to gh,g2,g3,g4,fun k v d hv hd=>(g5 k v d hv hd).keep hk (Sets.le_refl _),g6⟩
 ·rcases hc hj rfl with⟨rfl,e1⟩ | ⟨g,g0,gh⟩
  ·subst e1;cases hi
  ·obtain⟨_,es,clock,g1,g2,g3,g4⟩:=h.maps j dL g
   refine⟨.inl g0,es,clock,gh.trans g1,g2,g3,fun k e kv he hkv=>?_⟩
   obtain⟨dk,dv,k1,k2,k3⟩:=g4 k e kv he hkv
   exact⟨dk,dv,k1,k2.keep hk (Sets.le_refl _),k3.keep hk (Sets.le_refl _)⟩
 ·rcases hc hj hx with⟨rfl,_⟩ | ⟨g,g0,_⟩ <;> rcases hc hk' hy with⟨rfl,_⟩ | ⟨g',g0',_⟩
  ·rfl
  ·exact absurd (e ▸ g0') hf
  ·exact absurd (e ▸ g0) hf
  ·exact h.inj j k x y g g' hx hy e
 ·rcases hc hj (D.jQ hx) with⟨rfl,e1⟩ | ⟨g,g0,gh⟩
  ·subst e1;exact⟨.inr rfl,dN,hn⟩
  ·obtain⟨_,g1,g2⟩:=h.FJ j x g hx
   rw[gh]
   exact⟨.inl g0,g1,g2⟩

theorem Gv {bs:List D}(h:cN bs=true){d:D}{i:Nat}{x:D}(hi:bs[i]? = some x)(hp:WT d x):d.gK=true:=by
 have hx:=gm h hi
 rcases hp with⟨e,sz,cs,j,rfl,hj⟩ | ⟨dL,j,d1,d2,rfl,hj,hd⟩
 ·exact gm (by simpa[D.gK] using hx) hj
 ·have hk:cN (D.kept dL)=true:=by
   have h1:cN dL=true:=by simpa[D.gK] using hx
   unfold D.kept
   split
   ·simpa[cN,D.gK] using h1
   ·exact h1
  have:=gm hk hj
  simp[D.gK,cN] at this
  rcases hd with rfl | rfl
  ·exact this.1
  ·exact this.2

def Sets.under (S:Sets)(h:Nat→Option Loop):Sets:={ S with hold:=h }

theorem Sets.nw (S:Sets)(h:Nat→Option Loop):S.SR (S.under h):=⟨fun _ _ h=>h,rfl,fun _=>rfl,fun _=>rfl,fun _=>rfl⟩

theorem qZ:∀{l:List SV} {k i s:Nat} {x:E},(cK k l)[i]? = some (s,x)→k≤s∧∃b,l[s-k]? = some (.e x b)
 | [],_,_,_,_,h=>by simp[cK] at h
 | sv :: r,k,i,s,x,h=>by
  have rest:∀{i:Nat},(cK (k+1) r)[i]? = some (s,x)→k≤s∧∃b,(sv :: r)[s-k]? = some (.e x b):=by
   intro i h
   obtain⟨h1,b,h2⟩:=qZ h
   refine⟨by omega,b,?_⟩
   rw[show s-k=(s-(k+1))+1 from by omega]
   simpa using h2
  cases sv with
  | e y b=>
   simp only[cK] at h
   cases i with
   | zero=>simp at h;obtain⟨rfl,rfl⟩:=h;exact⟨Nat.le_refl _,b,by simp⟩
   | succ i=>exact rest (by simpa using h)
  | _=>
   simp only[cK] at h
   exact rest h

theorem qY:∀{l:List SV} {k s:Nat} {x:E} {b:Bool},l[s]? = some (.e x b)→∃i:Nat,(cK k l)[i]? = some (k+s,x)
 | [],_,_,_,_,h=>by simp at h
 | sv :: r,k,0,x,b,h=>by
  simp at h
  subst h
  exact⟨0,by simp[cK]⟩
 | sv :: r,k,s+1,x,b,h=>by
  obtain⟨i,hi⟩:=qY (k:=k+1) (l:=r) (s:=s) (by simpa using h)
  rw[show k+1+s=k+(s+1) from by omega] at hi
  cases sv with
  | e y c=>exact⟨i+1,by simpa[cK] using hi⟩
  | _=>exact⟨i,by simpa[cK] using hi⟩

structure Ext (w0:World)(X:kG)(w1:World)(X1:kG):Prop where
 sub:X.S≤X1.S
 os:w1.os=w0.os
 tape:TL w1 w0
 output:w1.output=w0.output
 size:w0.heap.size≤w1.heap.size
 old:∀b,b<w0.heap.size→¬X.may b→w1.heap[b]? = w0.heap[b]?
 may:∀b,X1.may b→X.may b∨w0.heap.size≤b
 aJ:∀b,X1.aJ b→X.aJ b∨X.may b∨w0.heap.size≤b
 new:∀b o,X1.S b o→X.S b o∨w0.heap.size≤b∨X.may b
 G7:∃cs:List Nat,X1.G7=(cs.map fun D=>({ target:=.collected D,args:=#[] }:Deferred))++X.G7∧cs.Nodup∧∀D,D∈cs→w1.heap[D]? = some (.deferred (some []))∧¬X1.may D∧¬X1.aJ D∧w0.heap.size≤D

theorem Ext.refl (w0:World)(X:kG):Ext w0 X w0 X:=⟨Sets.le_refl _,rfl,.refl _,rfl,Nat.le_refl _,fun _ _ _=>rfl,fun _ h=>.inl h,fun _ h=>.inl h,fun _ _ h=>.inl h,[],rfl,List.nodup_nil,by simp⟩

theorem Ext.trans {w0 w1 w2:World}{X X1 X2:kG}(h:Ext w0 X w1 X1)(k:Ext w1 X1 w2 X2):Ext w0 X w2 X2:=by
 have hm:∀b,b<w0.heap.size→¬X.may b→¬X1.may b:=fun b hb hn hx=>(h.may b hx).elim hn fun g=>by omega
 refine⟨Sets.le_trans h.sub k.sub,k.os.trans h.os,k.tape.trans h.tape,k.output.trans h.output,Nat.le_trans h.size k.size,fun b hb hn=>(k.old b (Nat.lt_of_lt_of_le hb h.size) (hm b hb hn)).trans (h.old b hb hn),
  fun b hb=>(k.may b hb).elim (h.may b) fun g=>.inr (Nat.le_trans h.size g),fun b hb=>?_,fun b o hs=>?_,?_⟩
 ·rcases k.aJ b hb with g | g | g
  ·exact h.aJ b g
  ·exact .inr (h.may b g)
  ·exact .inr (.inr (Nat.le_trans h.size g))
 ·rcases k.new b o hs with g | g | g
  ·exact h.new b o g
  ·exact .inr (.inl (Nat.le_trans h.size g))
  ·exact .inr ((h.may b g).elim .inr .inl)
 ·obtain⟨cs,h1,h2,h3⟩:=h.G7
  obtain⟨ds,k1,k2,k3⟩:=k.G7
  refine⟨ds++cs,by rw[k1,h1];simp,?_,fun D hD=>?_⟩
  ·rw[List.nodup_append]
   refine⟨k2,h2,fun a ha b hb e=>?_⟩
   subst e
   have g1:=(k3 a ha).2.2.2
   have g2:=(Array.getElem?_eq_some_iff.1 (h3 a hb).1).1
   omega
  ·rcases List.mem_append.1 hD with hD | hD
   ·obtain⟨g1,g2,g3,g4⟩:=k3 D hD
    exact⟨g1,g2,g3,Nat.le_trans h.size g4⟩
   ·obtain⟨g1,g2,g3,g4⟩:=h3 D hD
    have hlt:=(Array.getElem?_eq_some_iff.1 g1).1
    exact⟨(k.old D hlt g2).trans g1,fun hx=>(k.may D hx).elim g2 fun g=>by omega,fun hx=>(k.aJ D hx).elim g3 fun g=>g.elim g2 fun g=>by omega,g4⟩

theorem Ext.rep {w0 w1 w:World}{X X1:kG}{a:Act}{σ:af}{env:List D}{ρ:dJ}(h:Ext w0 X w1 X1)(hr:cu w1 X1 w a σ env ρ)(hh:∀l rec,X.S.hold l=some rec→w0.heap[l]? = some (.loop rec)∧¬X.may l∧¬X.aJ l):cu w0 { X with G7:=X1.G7 } w a σ env ρ:=by
 have hm:∀b,b<w0.heap.size→¬X.may b→¬X1.may b:=fun b hb hn hx=>(h.may b hx).elim hn fun g=>by omega
 refine⟨hr.size,hr.tmps,hr.dO,hr.inj,fun o x b hx hb=>?_,hr.cells,hr.os.trans h.os,hr.tape.trans h.tape,hr.output.trans h.output,Nat.le_trans h.size hr.grown,fun b hb hn=>(hr.old b (Nat.lt_of_lt_of_le hb h.size) (hm b hb hn)).trans (h.old b hb hn),Sets.le_trans h.sub hr.sub,fun b o hs=>?_,hr.zT,hh⟩
 ·obtain⟨g,hlt⟩:=hr.own o x b hx hb
  refine⟨?_,hlt⟩
  rcases g with g | g | g
  ·rcases h.aJ b g.2 with k | k | k
   ·exact .inl ⟨g.1,k⟩
   ·exact .inr (.inr k)
   ·exact .inr (.inl k)
  ·exact .inr (.inl (Nat.le_trans h.size g))
  ·rcases h.may b g with k | k
   ·exact .inr (.inr k)
   ·exact .inr (.inl k)
 ·rcases hr.new b o hs with g | g | g
  ·exact h.new b o g
  ·exact .inr (.inl (Nat.le_trans h.size g))
  ·exact .inr ((h.may b g).elim .inr .inl)

theorem nW {w w':World}{a:Act}{σ:af}{env:List D}{ρ:dJ}{S:Sets}{aJ may:Nat→Prop}{G7:List Deferred}{bs:List D}(h:cu w ⟨may,S,aJ,G7⟩ w' a σ env ρ)(hst:dF w' ρ.S ρ.aJ bs)(dN:∃cf x,σ.obj bN=some (.store cf x))(uX:∀b,may b→aJ b):Left w S aJ may w' ρ.S ρ.aJ bs:=by
 obtain⟨cf,x,dN⟩:=dN
 refine⟨hst,h.sub,h.os,h.tape,h.output,h.grown,h.old,fun b hb=>?_,fun b o hs=>?_,h.cells⟩
 ·obtain⟨g1,g2⟩:=h.own bN _ b dN hb
  refine⟨?_,g2⟩
  rcases g1 with g1 | g1 | g1
  ·exact .inl g1.2
  ·exact .inr g1
  ·exact .inl (uX b g1)
 ·rcases h.new b o hs with g | g | g
  ·exact .inl g
  ·exact .inr (.inr g)
  ·exact .inr (.inl g)

theorem n_ {env:List D}:∀{l:List E} {ds:List D} {i:Nat} {x:E},aM env l=some ds→l[i]? = some x→∃d,ds[i]? = some d∧x.eval env=some d
 | [],_,_,_,_,h=>by simp at h
 | y :: r,ds,i,x,h,hi=>by
  simp only[aM,Option.bind_eq_some_iff,Option.map_eq_some_iff] at h
  obtain⟨d,h1,ds',h2,rfl⟩:=h
  cases i with
  | zero=>simp at hi;subst hi;exact⟨d,rfl,h1⟩
  | succ i=>
   obtain⟨d',g1,g2⟩:=n_ (i:=i) h2 (by simpa using hi)
   exact⟨d',by simpa using g1,g2⟩

theorem xf {w:World}{ρ:dJ}{env:List D}:∀{ps:List Tmp} {vs:List Value} {u:Nat} {tm:Array Value} {wD:List SV},tm.size=wD.length→ps.length=vs.length→(∀t,ef w ρ env (tm.getD t undef) (wD.getD t .cE))→(∀(i:Nat) (v:Value),vs[i]? = some v→∃d,env[u+i]? = some d∧bU w ρ.S v d) →
  ((ps.zip vs).foldl (fun tmps (x:Tmp×Value)=>tmps.setIfInBounds x.1 x.2) tm).size=(sR u ps wD).length∧∀t,ef w ρ env (((ps.zip vs).foldl (fun tmps (x:Tmp×Value)=>tmps.setIfInBounds x.1 x.2) tm).getD t undef) ((sR u ps wD).getD t .cE)
 | [],[],u,tm,wD,hs,_,h,_=>⟨hs,h⟩
 | [],_ :: _,_,_,_,_,hl,_,_=>by simp at hl
 | _ :: _,[],_,_,_,_,hl,_,_=>by simp at hl
 | p :: ps,v :: vs,u,tm,wD,hs,hl,h,hv=>by
  simp only[List.zip_cons_cons,List.foldl_cons,sR]
  refine xf (by simp[hs]) (by simpa using hl) (fun t=>?_) fun i v' hi=>?_
  ·by_cases hp:p<wD.length
   ·simp only[Array.getD_eq_getD_getElem?,Array.getElem?_setIfInBounds,List.getD_eq_getElem?_getD,List.getElem?_set]
    by_cases e:p=t
    ·subst e
     obtain⟨d,hd,hr⟩:=hv 0 v rfl
     simp only[if_true,hs,hp]
     exact .e (by simpa[E.eval] using hd) hr (fun hh=>by cases hh)
    ·simp only[e,if_false]
     have:=h t
     simpa only[Array.getD_eq_getD_getElem?,List.getD_eq_getElem?_getD] using this
   ·have hge:wD.length≤p:=Nat.le_of_not_lt hp
    rw[Array.setIfInBounds_eq_of_size_le (by rw[hs];exact hge),List.set_eq_of_length_le hge]
    exact h t
  ·obtain⟨d,h1,h2⟩:=hv (i+1) v' (by simpa using hi)
   exact⟨d,by rw[show u+1+i=u+(i+1) from by omega];exact h1,h2⟩

theorem pP:∀(ps:List Tmp) (u:Nat) (wD:List SV),(sR u ps wD).length=wD.length
 | [],_,_=>rfl
 | p :: ps,u,wD=>by simp[sR,pP ps]

/-! ## a function leaves aiY has had loops over functions -/

structure WU (w w':World)(cs:List Nat):Prop where
 other:∀b,b∉cs→w'.heap[b]? = w.heap[b]?
 size:w'.heap.size=w.heap.size
 os:w'.os=w.os
 tape:TL w' w
 output:w'.output=w.output
 cell:∀b o,w'.cell? ⟨b,o,none⟩=w.cell? ⟨b,o,none⟩

theorem Me {w:World}{l:Nat}{x:Option (List Deferred)}(h:w.heap[l]? = some (.deferred x))(y:Option (List Deferred))(b o:Nat):(w.putObj l (.deferred y)).cell? ⟨b,o,none⟩=w.cell? ⟨b,o,none⟩:=by
 by_cases e:b=l
 ·subst e
  have h1:w.cell? ⟨b,o,none⟩=none:=by simp[World.cell?,h]
  have h2:=World.putObj_heap_same (o:=.deferred y) (Array.getElem?_eq_some_iff.1 h).1
  rw[h1]
  simp[World.cell?,h2]
 ·exact World.cell?_of_block (a:=⟨b,o,none⟩) (World.putObj_heap_other e)

theorem yW {F:Fence}{n:Nat}{fn:Func}{tmps:Array Value}{R:Ending→World→Prop}{u:FrameMode}(hu:u≠.run):∀(cs:List Nat) (w:World),cs.Nodup→(∀D,D∈cs→w.heap[D]? = some (.deferred (some []))) →
  (∀w',WU w w' cs→LeavesIn F n P fn tmps R [] u w')→LeavesInM F n P fn tmps R (cs.map fun D=>({ target:=.collected D,args:=#[] }:Deferred)) u w
 | [],w,_,_,h=>h w ⟨fun _ _=>rfl,rfl,rfl,.refl _,rfl,fun _ _=>rfl⟩
 | D :: cs,w,hn,hD,h=>by
  rw[List.nodup_cons] at hn
  have hd:=hD D (by simp)
  refine⟨hu,.inl ⟨D,_,rfl,run_takeDeferred hd,yW hu cs _ hn.2 (fun D' hD'=>?_) fun w' hm=>h w' ?_⟩⟩
  ·rw[World.putObj_heap_other (fun e=>by subst e;exact hn.1 hD')]
   exact hD D' (by simp[hD'])
  ·refine⟨fun b hb=>?_,hm.size.trans (by simp),hm.os,⟨hm.tape.tape,hm.tape.dr⟩,hm.output,fun b o=>(hm.cell b o).trans (Me hd _ b o)⟩
   simp only[List.mem_cons,not_or] at hb
   rw[hm.other b hb.2,World.putObj_heap_other hb.1]

theorem cu.marked {w0 w1 w w':World}{X0 X1:kG}{a:Act}{σ:af}{env:List D}{ρ:dJ}{cs:List Nat}(h:cu w1 X1 w a σ env ρ)(h0:cu w0 X0 w a σ env ρ)(hc:∀D,D∈cs→D<w1.heap.size∧¬X1.may D∧¬X1.aJ D∧w0.heap.size≤D)(hm:WU w w' cs):cu w0 X0 w' a σ env ρ:=
 h0.move (fun b o _=>hm.cell b o) (dJ.vB.refl ρ _) (fun o x b hx hb=>hm.other b fun hD=>by
  obtain⟨h1,h2,h3,_⟩:=hc b hD
  rcases(h.own o x b hx hb).1 with g | g | g
  ·exact h3 g.2
  ·omega
  ·exact h2 g) (fun _ _ _ _ _ _ hs=>hs) (fun b o hs=>by rw[hm.size];exact h0.cells b o hs) hm.os hm.tape hm.output (by rw[hm.size];exact Nat.le_refl _) (fun b hb _=>hm.other b fun hD=>by have:=(hc b hD).2.2.2;omega) fun b o hs=>.inl hs

theorem cu.PV {w0 w:World}{X:kG}{a:Act}{σ:af}{env:List D}{ρ:dJ}(h:cu w0 X w a σ env ρ){m:Nat}{r r':Loop}(hm:w0.heap[m]? = some (.loop r))(hn1:¬X.may m)(hn2:¬X.aJ m)(hh:X.S.hold m=none) :
  w.heap[m]? = some (.loop r)∧cu (w0.putObj m (.loop r')) X (w.putObj m (.loop r')) a σ env ρ:=by
 have hlt:m<w0.heap.size:=(Array.getElem?_eq_some_iff.1 hm).1
 have hw:w.heap[m]? = some (.loop r):=(h.old m hlt hn1).trans hm
 have hlt':m<w.heap.size:=(Array.getElem?_eq_some_iff.1 hw).1
 have hb:∀o x b,σ.obj o=some x→bY ρ o x b→b≠m:=fun o x b hx hb e=>by
  subst e
  rcases(h.own o x b hx hb).1 with g | g | g
  ·exact hn2 g.2
  ·omega
  ·exact hn1 g
 have h1:cu w0 X w a σ env ρ:=h
 refine⟨hw,h.size,fun t=>(h.tmps t).keep (bW.putObj hw r') (dJ.vB.refl ρ (fun _=>False)) fun _ hf=>hf.elim,fun o x hx=>(h.dO o x hx).keep (bW.putObj hw r') (dJ.vB.refl ρ (fun _=>False)) id (fun _ hf=>hf.elim) (fun b hb'=>World.putObj_heap_other (hb o x b hx hb')) (fun _ _ _ hs=>hs),h.inj,fun o x b hx hb'=>?_,fun b o hs=>?_,h.os,⟨h.tape.tape,h.tape.dr⟩,h.output,?_,fun b tM tK=>?_,h.sub,fun b o hs=>?_,h.zT,fun l rec hl=>?_⟩
 ·simp only[World.putObj_size]
  exact h.own o x b hx hb'
 ·simp only[World.putObj_size]
  exact h.cells b o hs
 ·simp only[World.putObj_size]
  exact h.grown
 ·simp only[World.putObj_size] at tM
  by_cases e:b=m
  ·subst e
   rw[World.putObj_heap_same hlt,World.putObj_heap_same hlt']
  ·rw[World.putObj_heap_other e,World.putObj_heap_other e]
   exact h.old b tM tK
 ·simp only[World.putObj_size]
  exact h.new b o hs
 ·obtain⟨g1,g2,g3⟩:=h.hold l rec hl
  have e:l≠m:=fun e=>by
   subst e
   rw[hh] at hl
   cases hl
  exact⟨by rw[World.putObj_heap_other e];exact g1,g2,g3⟩

end
end
end
end Go.Am
