/-
  Several texts, one behind the other.
-/
import Derived.Test.YtjnipnanfjglpaaGreatDoorAmBuildXtoAmRetok
import Derived.LoopN
set_option linter.unusedSimpArgs false
set_option linter.unusedVariables false
namespace Go.Am
section
noncomputable section

/-! ## forgetting an object -/

def SV.fV (d:Nat)(sv:SV):SV:=
 match sv with
 | .bS=>.bS
 | .e x s=>.e x s
 | sv=>if sv.aB d then sv else .bS

theorem SV.lB (d:Nat)(sv:SV):sv.fV d=if sv.aB d then sv else .bS:=by
 cases sv <;> first | rfl | simp[SV.fV,SV.aB]

def aE.fV (d:Nat):aE→aE
 | .box cs=>.box (cs.map (SV.fV d))
 | x=>x

def af.fV (d:Nat)(σ:af):af:=if d=aO then σ else { tmps:=JD (SV.fV d) σ.tmps,mem:=LP none (JD (fun x=>x.map (aE.fV d)) σ.mem) d,hs:=σ.hs.map (aE.fV d) }

theorem af.lB (d:Nat)(σ:af):σ.fV d=if d=aO then σ else { tmps:=σ.tmps.map (SV.fV d),mem:=(σ.mem.map fun x=>x.map (aE.fV d)).set d none,hs:=σ.hs.map (aE.fV d) }:=by
 unfold af.fV
 rw[wH,wF,wH]

def sites (ops:Array Oper):List Nat:=ops.toList.filterMap fun o=>if fe o then o.dst else none

def f_ (ds:List Nat)(σ:af):af:=ds.foldl (fun σ d=>σ.fV d) σ

def QY (σ:af)(ops:Array Oper):Bool:=ops.all fun o=>match o.dst with | some d=>decide (d<σ.tmps.length) | none=>true

def k9 (P:Program)(ops:Array Oper)(σ:af)(u:Nat):Option (af×List Bind):=
 match vf P ops ops.toList σ u with
 | some x=>if P.follows .mixedOrders=true then(if mj ops x.2.2 σ=true then extras P ops x.2.2 σ else w6 P ops x.2.2 σ (u+x.2.1.length)).map fun xs=>(x.1,x.2.1++xs.map .ev) else none
 | none=>none

def Pj (P:Program)(ops:Array Oper)(σ:af)(u:Nat):Bool:=
 match ops[ops.size-1]?,σ.hs with
 | some o,some (.store cf _)=>(match o.guard,o.op with
  | none,.call c=>(match c.callee with
   | .value f=>(match σ.uG f with
    | .func (.func f) []=>cf.dI.contains f&&yL ops&&(k9 P ops.pop σ u).isSome
    | _=>cf.dI.contains (1000000+o.dst.getD 999999)&&yL ops&&(k9 P ops.pop σ u).isSome)
   | _=>false)
  | _,_=>false)
 | _,_=>false

def zH (P:Program)(ops:Array Oper)(σ:af)(u:Nat):Option (af×List Bind):=if Pj P ops σ u=true then none else k9 P ops σ u

theorem AN {P:Program}{ops:Array Oper}{σ:af}{u:Nat}{x:af×List Bind}(h:zH P ops σ u=some x):k9 P ops σ u=some x:=by
 unfold zH at h
 split at h
 ·cases h
 ·exact h

def B4 (P:Program)(ops:Array Oper)(draw:Bool)(σ:af)(u:Nat)(k:Jm):Option T:=
 let σ1:=f_ (sites ops) σ
 if !QY σ1 ops then none else
 if draw then
  match zH P ops σ1 u with
  | some x=>(k x.1 (u+x.2.length)).map (aa x.2)
  | none=>if 0<ops.size∧yL ops=true then match ops[ops.size-1]?,k9 P ops.pop σ1 u with
    | some o,some x=>(match Dx P o x.1 with
     | some s=>if mz x.1 o then(BU s o x.1 (u+x.2.length) k).map (aa x.2) else none
     | none=>none)
    | _,_=>none
   else none
 else DA P ops ops.toList σ1 u k

def L1 (P:Program)(ops:Array Oper)(σ:af):Bool:=
 match ops[ops.size-1]?,σ.hs with
 | some o,some (.store cf _)=>(match o.guard,o.op with
  | none,.call c=>(match c.callee with
   | .value f=>(match σ.uG f with
    | .func (.func f) []=>cf.dI.contains f
    | _=>cf.dI.contains (1000000+o.dst.getD 999999))
   | _=>false)
  | _,_=>false)
 | _,_=>false

def Pd (P:Program)(ops:Array Oper)(draw:Bool)(σ:af)(u:Nat):Option (Option (Nat×af)):=
 let σ1:=f_ (sites ops) σ
 if draw then
  match(if L1 P ops σ1 then none else vf P ops ops.toList σ1 u) with
  | some x=>some (some (u+x.2.1.length,x.1))
  | none=>match ops[ops.size-1]?,vf P ops.pop ops.pop.toList σ1 u with
   | some o,some x=>sG P ops [o] x.1 (u+x.2.1.length)
   | _,_=>none
 else sG P ops ops.toList σ1 u

/-! ## tokens get the pattern's names -/

def sB (ts:List SV):List SV→List (Nat×Nat):=
 List.rec (motive:=fun _=>List SV→List (Nat×Nat)) (fun _=>[]) (fun t _ ih ss=>match ss with
  | []=>[]
  | x :: ss=>match t with
   | .own _ k=>(match x with
    | .own _ k'=>(k',k) :: ih ss
    | _=>ih ss)
   | _=>ih ss) ts

def pM (ps:List (Nat×Nat))(σ:af):af:=ps.foldl (fun σ p=>σ.fZ p.1 p.2) σ

def fY (σ:af):SV→SV
 | .own x k=>match σ.obj k with | some (.tok _ _)=>.own x k | _=>.e x true
 | sv=>sv

def af.fY (σ:af):af:={ σ with tmps:=JD (Go.Am.fY σ) σ.tmps }

theorem af.rC (σ:af):σ.fY={ σ with tmps:=σ.tmps.map (Go.Am.fY σ) }:=by
 unfold af.fY
 rw[wH]

def uJ (base:Nat)(tm σ:af):Option (List E):=Gx base tm (pM (sB tm.tmps σ.fY.tmps) σ.fY)

/-! ## patterns for the places where ways meet (nothing hangs on how they are found: 'matchS' looks) -/

def ME:SV→Bool
 | .e _ true=>true
 | .own _ _=>true
 | _=>false

def QX:SV→Option Nat
 | .own _ k=>some k
 | _=>none

def SR:SV→Bool
 | .bS=>true
 | _=>false

def Tz (l:List (List SV)):List SV:=List.rec (motive:=fun _=>List SV) [] (fun x _ ih=>match x with
 | []=>ih
 | y :: _=>y :: ih) l

def VA (l:List SV):List SV:=
 match l with
 | []=>[]
 | _ :: r=>r

def QD (l:List SV):Bool:=List.rec (motive:=fun _=>Bool) false (fun x _ ih=>match x with
 | .bS=>true
 | _=>ih) l

def Pv (base n:Nat)(nP:List SV):SV×Nat:=
 match nP with
 | []=>(.bS,n)
 | .cond _ _ :: _=>(.bS,n)
 | s :: r=>
  if SR s||QD r then(.bS,n)
  else if r.all (s.same ·)&&s.upto base then(s,n)
  else match QX s with
   | some k=>if r.all (fun x=>(QX x).isSome) then(.own (.sym (base+n)) k,n+1) else if r.all (fun x=>x.toE.isSome) then(.e (.sym (base+n)) (r.all ME),n+1) else(.bS,n)
   | none=>if(s :: r).all (fun x=>x.toE.isSome) then(.e (.sym (base+n)) ((s :: r).all ME),n+1) else(.bS,n)

def DT (base:Nat)(l:List SV):List (List SV)→Nat→List SV×Nat:=
 List.rec (motive:=fun _=>List (List SV)→Nat→List SV×Nat) (fun _ n=>([],n)) (fun s _ ih others n=>
  match Pv base n (s :: Tz others) with
|(m,n1)=>match ih (JD VA others) n1 with
 |(ms,n2)=>(m :: ms,n2)) l

def Jj:List (Option aE)→Option (List (List SV))
 | []=>some []
 | some (.box cs) :: r=>(Jj r).map (cs :: ·)
 | _=>none

def rowsOf (sz:Nat):List (Option aE)→Option (List E)
 | []=>some []
 | some (.row x sz') :: r=>if sz=sz' then(rowsOf sz r).map (x :: ·) else none
 | _=>none

def Lx (e sz:Nat):List (Option aE)→Bool
 | []=>true
 | some (.tok e' sz') :: r=>decide (e=e')&&decide (sz=sz')&&Lx e sz r
 | _=>false

def DU (base:Nat):List (Option aE)→List (List (Option aE))→Nat→List (Option aE)×Nat
 | [],_,n=>([],n)
 | x :: r,others,n=>
  let hs:=others.filterMap List.head?
  let (m,n1):Option aE×Nat:=match x with
   | some (.box cs)=>(match Jj hs with
    | some css=>let (ms,n1):=DT base cs css n;(some (.box ms),n1)
    | none=>(none,n))
   | some (.row y sz)=>(match rowsOf sz hs with
    | some ys=>if ys.all (y.same ·)&&y.upto base then(some (.row y sz),n) else(some (.row (.sym (base+n)) sz),n+1)
    | none=>(none,n))
   | some (.tok e sz)=>if Lx e sz hs then(some (.tok e sz),n) else(none,n)
   | _=>(none,n)
  let (ms,n2):=DU base r (others.map List.tail) n1
  (m :: ms,n2)

def Dv (cf:bV):List (Option aE)→Option (List E)
 | []=>some []
 | some (.store tP x) :: r=>if cf=tP then(Dv cf r).map (x :: ·) else none
 | _=>none

def SF (base:Nat)(x:Option aE)(others:List (Option aE))(n:Nat):Option aE×Nat:=
 match x with
 | some (.store cf y)=>(match Dv cf others with
  | some ys=>if ys.all (y.same ·)&&y.upto base then(some (.store cf y),n) else(some (.store cf (.sym (base+n))),n+1)
  | none=>(none,n))
 | _=>(none,n)

def QG (σ0 σ:af):af:=pM (sB σ0.tmps σ.fY.tmps) σ.fY

def oD (base:Nat)(σs:List af):af×Nat:=
 match(match σs with | []=>[] | σ :: r=>σ.fY :: r.map (QG σ.fY)) with
 | []=>({ tmps:=[],mem:=[],hs:=none },0)
 | σ :: r=>
  let (ts,n):=DT base σ.tmps (r.map (·.tmps)) 0
  let (ms,n):=DU base σ.mem (r.map (·.mem)) n
  let (hs,n):=SF base σ.hs (r.map (·.hs)) n
  ({ tmps:=ts,mem:=ms,hs:=hs },n)

def lG:Code→Bool
 | .exit _ | .ret | .goto _ | .refuse _ | .loop _=>false
 | .seq a b=>lG a&&lG b
 | .cond _ a b=>lG a||lG b
 | _=>true

/-! ## all is evaluated ahead of use (so the kernel sees the same question twice) -/

def bB {β:Type}(n:Nat)(K:Nat→β):β:=
 match n with
 | 0=>K 0
 | n+1=>K (Nat.succ n)

theorem dM {β:Type}(n:Nat)(K:Nat→β):bB n K=K n:=by cases n <;> rfl

def gM {β:Type}(b:Bool)(K:Bool→β):β:=
 match b with
 | true=>K true
 | false=>K false

theorem jz {β:Type}(b:Bool)(K:Bool→β):gM b K=K b:=by cases b <;> rfl

def ax {β:Type}(x:E):(E→β)→β:=
 E.rec (motive:=fun _=>(E→β)→β)
  (fun k K=>bB k fun k=>K (.sym k))
  (fun d K=>K (.const d))
  (fun op kd a b iha ihb K=>iha fun a=>ihb fun b=>K (.bin op kd a b))
  (fun op a iha K=>iha fun a=>K (.un op a))
  (fun k a iha K=>iha fun a=>K (.conv k a))
  (fun a iha K=>iha fun a=>K (.bD a))
  (fun a iha K=>iha fun a=>K (.fP a))
  (fun a iha K=>iha fun a=>K (.aV a))
  (fun i a iha K=>bB i fun i=>iha fun a=>K (.cell i a))
  (fun i n a iha K=>bB i fun i=>bB n fun n=>iha fun a=>K (.cells i n a))
  (fun n a iha K=>bB n fun n=>iha fun a=>K (.br n a))
  (fun a i iha SW K=>iha fun a=>SW fun i=>K (.idx a i))
  (fun n a i iha SW K=>bB n fun n=>iha fun a=>SW fun i=>K (.qK n a i))
  (fun K=>K .nil)
  (fun a b iha ihb K=>iha fun a=>ihb fun b=>K (.cons a b))
  (fun a iha K=>iha fun a=>K (.one a))
  (fun size bytes a b iha ihb K=>bB size fun size=>bB bytes fun bytes=>iha fun a=>ihb fun b=>K (.app size bytes a b))
  (fun a b iha ihb K=>iha fun a=>ihb fun b=>K (.bP a b))
  (fun a iha K=>iha fun a=>K (.dL a))
  (fun f a b iha ihb K=>iha fun a=>ihb fun b=>K (.dO f a b))
  (fun size a lo hi iha adm adn K=>bB size fun size=>iha fun a=>adm fun lo=>adn fun hi=>K (.sub size a lo hi))
  (fun a i off x iha SW IX K=>iha fun a=>SW fun i=>bB off fun off=>IX fun x=>K (.set a i off x))
  (fun c a b GZ iha ihb K=>GZ fun c=>iha fun a=>ihb fun b=>K (.ite c a b))
  (fun c want a GZ iha K=>GZ fun c=>gM want fun want=>iha fun a=>K (.guard c want a))
  (fun K=>K .ai)
  (fun a b iha ihb K=>iha fun a=>ihb fun b=>K (.ah a b))
  (fun i a iha K=>bB i fun i=>iha fun a=>K (.au i a))
  (fun bytes n d ihn K=>bB bytes fun bytes=>ihn fun n=>K (.rep bytes n d))
  (fun a iha K=>iha fun a=>K (.deref a))
  (fun t a iha K=>iha fun a=>K (.fq t a))
  (fun max a b iha ihb K=>gM max fun max=>iha fun a=>ihb fun b=>K (.mm max a b))
  (fun off a iha K=>bB off fun off=>iha fun a=>K (.aD off a))
  (fun a iha K=>iha fun a=>K (.nn a))
  (fun size a i iha SW K=>bB size fun size=>iha fun a=>SW fun i=>K (.av size a i))
  (fun agg n h p CB ihp K=>gM agg fun agg=>bB n fun n=>CB fun h=>ihp fun p=>K (.ld agg n h p))
  (fun n h p y CB ihp K1 K=>bB n fun n=>CB fun h=>ihp fun p=>K1 fun y=>K (.eY n h p y))
  (fun e sz h y CB K1 K=>bB sz fun sz=>CB fun h=>K1 fun y=>K (.fK e sz h y))
  (fun h CB K=>CB fun h=>K (.aC h))
  (fun e sz h l CB ihl K=>bB sz fun sz=>CB fun h=>ihl fun l=>K (.dR e sz h l))
  (fun h l CB ihl K=>CB fun h=>ihl fun l=>K (.cY h l))
  (fun e sz bytes h x y CB IX K1 K=>bB sz fun sz=>bB bytes fun bytes=>CB fun h=>IX fun x=>K1 fun y=>K (.fC e sz bytes h x y))
  (fun h x y CB IX K1 K=>CB fun h=>IX fun x=>K1 fun y=>K (.apps h x y))
  (fun agg h x CB IX K=>gM agg fun agg=>CB fun h=>IX fun x=>K (.qL agg h x))
  (fun h x CB IX K=>CB fun h=>IX fun x=>K (.qM h x))
  (fun op a b c d iha ihb GZ ihd K=>iha fun a=>ihb fun b=>GZ fun c=>ihd fun d=>K (.m4 op a b c d)) x

theorem KF {β:Type}(k:Nat)(K:E→β):ax (.sym k) K=bB k fun k=>K (.sym k):=rfl
theorem Fg {β:Type}(d:D)(K:E→β):ax (.const d) K=K (.const d):=rfl
theorem KQ {β:Type}(op:BinOp)(kd:Kd)(a:E)(b:E)(K:E→β):ax (.bin op kd a b) K=ax a fun a=>ax b fun b=>K (.bin op kd a b):=rfl
theorem N5 {β:Type}(op:UnOp)(a:E)(K:E→β):ax (.un op a) K=ax a fun a=>K (.un op a):=rfl
theorem HP {β:Type}(k:IntKind)(a:E)(K:E→β):ax (.conv k a) K=ax a fun a=>K (.conv k a):=rfl
theorem HL {β:Type}(a:E)(K:E→β):ax (.bD a) K=ax a fun a=>K (.bD a):=rfl
theorem HK {β:Type}(a:E)(K:E→β):ax (.fP a) K=ax a fun a=>K (.fP a):=rfl
theorem HF {β:Type}(a:E)(K:E→β):ax (.aV a) K=ax a fun a=>K (.aV a):=rfl
theorem HR {β:Type}(i:Nat)(a:E)(K:E→β):ax (.cell i a) K=bB i fun i=>ax a fun a=>K (.cell i a):=rfl
theorem Fh {β:Type}(i:Nat)(n:Nat)(a:E)(K:E→β):ax (.cells i n a) K=bB i fun i=>bB n fun n=>ax a fun a=>K (.cells i n a):=rfl
theorem HU {β:Type}(n:Nat)(a:E)(K:E→β):ax (.br n a) K=bB n fun n=>ax a fun a=>K (.br n a):=rfl
theorem KP {β:Type}(a:E)(i:E)(K:E→β):ax (.idx a i) K=ax a fun a=>ax i fun i=>K (.idx a i):=rfl
theorem HM {β:Type}(n:Nat)(a:E)(i:E)(K:E→β):ax (.qK n a i) K=bB n fun n=>ax a fun a=>ax i fun i=>K (.qK n a i):=rfl
theorem KM {β:Type}(K:E→β):ax .nil K=K .nil:=rfl
theorem HQ {β:Type}(a:E)(b:E)(K:E→β):ax (.cons a b) K=ax a fun a=>ax b fun b=>K (.cons a b):=rfl
theorem KL {β:Type}(a:E)(K:E→β):ax (.one a) K=ax a fun a=>K (.one a):=rfl
theorem KR {β:Type}(size:Nat)(bytes:Nat)(a:E)(b:E)(K:E→β):ax (.app size bytes a b) K=bB size fun size=>bB bytes fun bytes=>ax a fun a=>ax b fun b=>K (.app size bytes a b):=rfl
theorem E_ {β:Type}(a:E)(b:E)(K:E→β):ax (.bP a b) K=ax a fun a=>ax b fun b=>K (.bP a b):=rfl
theorem E9 {β:Type}(a:E)(K:E→β):ax (.dL a) K=ax a fun a=>K (.dL a):=rfl
theorem HJ {β:Type}(f:FuncId)(a:E)(b:E)(K:E→β):ax (.dO f a b) K=ax a fun a=>ax b fun b=>K (.dO f a b):=rfl
theorem KG {β:Type}(size:Nat)(a:E)(lo:E)(hi:E)(K:E→β):ax (.sub size a lo hi) K=bB size fun size=>ax a fun a=>ax lo fun lo=>ax hi fun hi=>K (.sub size a lo hi):=rfl
theorem KI {β:Type}(a:E)(i:E)(off:Nat)(x:E)(K:E→β):ax (.set a i off x) K=ax a fun a=>ax i fun i=>bB off fun off=>ax x fun x=>K (.set a i off x):=rfl
theorem KN {β:Type}(c:E)(a:E)(b:E)(K:E→β):ax (.ite c a b) K=ax c fun c=>ax a fun a=>ax b fun b=>K (.ite c a b):=rfl
theorem Fa {β:Type}(c:E)(want:Bool)(a:E)(K:E→β):ax (.guard c want a) K=ax c fun c=>gM want fun want=>ax a fun a=>K (.guard c want a):=rfl
theorem HD {β:Type}(K:E→β):ax .ai K=K .ai:=rfl
theorem E8 {β:Type}(a:E)(b:E)(K:E→β):ax (.ah a b) K=ax a fun a=>ax b fun b=>K (.ah a b):=rfl
theorem HE {β:Type}(i:Nat)(a:E)(K:E→β):ax (.au i a) K=bB i fun i=>ax a fun a=>K (.au i a):=rfl
theorem KK {β:Type}(bytes:Nat)(n:E)(d:D)(K:E→β):ax (.rep bytes n d) K=bB bytes fun bytes=>ax n fun n=>K (.rep bytes n d):=rfl
theorem Ff {β:Type}(a:E)(K:E→β):ax (.deref a) K=ax a fun a=>K (.deref a):=rfl
theorem KO {β:Type}(t:TypeId)(a:E)(K:E→β):ax (.fq t a) K=ax a fun a=>K (.fq t a):=rfl
theorem N7 {β:Type}(max:Bool)(a:E)(b:E)(K:E→β):ax (.mm max a b) K=gM max fun max=>ax a fun a=>ax b fun b=>K (.mm max a b):=rfl
theorem HG {β:Type}(off:Nat)(a:E)(K:E→β):ax (.aD off a) K=bB off fun off=>ax a fun a=>K (.aD off a):=rfl
theorem N6 {β:Type}(a:E)(K:E→β):ax (.nn a) K=ax a fun a=>K (.nn a):=rfl
theorem Fe {β:Type}(size:Nat)(a:E)(i:E)(K:E→β):ax (.av size a i) K=bB size fun size=>ax a fun a=>ax i fun i=>K (.av size a i):=rfl
theorem N9 {β:Type}(agg:Bool)(n:Nat)(h:E)(p:E)(K:E→β):ax (.ld agg n h p) K=gM agg fun agg=>bB n fun n=>ax h fun h=>ax p fun p=>K (.ld agg n h p):=rfl
theorem KH {β:Type}(n:Nat)(h:E)(p:E)(y:E)(K:E→β):ax (.eY n h p y) K=bB n fun n=>ax h fun h=>ax p fun p=>ax y fun y=>K (.eY n h p y):=rfl
theorem HI {β:Type}(e:TypeId)(sz:Nat)(h:E)(y:E)(K:E→β):ax (.fK e sz h y) K=bB sz fun sz=>ax h fun h=>ax y fun y=>K (.fK e sz h y):=rfl
theorem Fc {β:Type}(h:E)(K:E→β):ax (.aC h) K=ax h fun h=>K (.aC h):=rfl
theorem HH {β:Type}(e:TypeId)(sz:Nat)(h:E)(l:E)(K:E→β):ax (.dR e sz h l) K=bB sz fun sz=>ax h fun h=>ax l fun l=>K (.dR e sz h l):=rfl
theorem Fb {β:Type}(h:E)(l:E)(K:E→β):ax (.cY h l) K=ax h fun h=>ax l fun l=>K (.cY h l):=rfl
theorem HT {β:Type}(e:TypeId)(sz:Nat)(bytes:Nat)(h:E)(x:E)(y:E)(K:E→β):ax (.fC e sz bytes h x y) K=bB sz fun sz=>bB bytes fun bytes=>ax h fun h=>ax x fun x=>ax y fun y=>K (.fC e sz bytes h x y):=rfl
theorem HS {β:Type}(h:E)(x:E)(y:E)(K:E→β):ax (.apps h x y) K=ax h fun h=>ax x fun x=>ax y fun y=>K (.apps h x y):=rfl
theorem HN {β:Type}(agg:Bool)(h:E)(x:E)(K:E→β):ax (.qL agg h x) K=gM agg fun agg=>ax h fun h=>ax x fun x=>K (.qL agg h x):=rfl
theorem HO {β:Type}(h:E)(x:E)(K:E→β):ax (.qM h x) K=ax h fun h=>ax x fun x=>K (.qM h x):=rfl
theorem N8 {β:Type}(op:MOp)(a:E)(b:E)(c:E)(d:E)(K:E→β):ax (.m4 op a b c d) K=ax a fun a=>ax b fun b=>ax c fun c=>ax d fun d=>K (.m4 op a b c d):=rfl

theorem bO {β : Type} (x : E) : ∀ K : E → β, ax x K = K x := by
  induction x <;> intro K <;> simp only [dM, jz, KF, Fg, KQ, N5, HP, HL, HK, HF, HR, Fh, HU, KP, HM, KM, HQ, KL, KR, E_, E9, HJ, KG, KI, KN, Fa, HD, E8, HE, KK, Ff, KO, N7, HG, N6, Fe, N9, KH, HI, Fc, HH, Fb, HT, HS, HN, HO, N8, *]

def mB {β : Type} : List (E × Bool) → (List (E × Bool) → β) → β
  | [], K => K []
  | (x, b) :: r, K => ax x fun x => gM b fun b => mB r fun r => K ((x, b) :: r)

theorem r5 {β : Type} : ∀ (l : List (E × Bool)) (K : List (E × Bool) → β), mB l K = K l
  | [], _ => rfl
  | (x, b) :: r, K => by simp only [mB, bO, jz, r5 r]

mutual
def i_ {β:Type}:SV→(SV→β)→β
 | .bS,K=>K .bS
 | .e x s,K=>ax x fun x=>gM s fun s=>K (.e x s)
 | .agg cs,K=>mA cs fun cs=>K (.agg cs)
 | .aM vs,K=>mA vs fun vs=>K (.aM vs)
 | .addr o off,K=>bB o fun o=>bB off fun off=>K (.addr o off)
 | .av o i s off,K=>bB o fun o=>ax i fun i=>bB s fun s=>bB off fun off=>K (.av o i s off)
 | .fT x off,K=>ax x fun x=>bB off fun off=>K (.fT x off)
 | .own x n,K=>ax x fun x=>bB n fun n=>K (.own x n)
 | .kF o,K=>bB o fun o=>K (.kF o)
 | .func fn cap,K=>mA cap fun cap=>K (.func fn cap)
 | .cond act sv,K=>mB act fun act=>i_ sv fun sv=>K (.cond act sv)
def mA {β:Type}:List SV→(List SV→β)→β
 | [],K=>K []
 | x :: r,K=>i_ x fun x=>mA r fun r=>K (x :: r)
end

mutual
theorem vk {β:Type}:∀(x:SV) (K:SV→β),i_ x K=K x
 | .bS,K=>by simp only[i_]
 | .e x s,K=>by simp only[i_,bO,jz]
 | .agg cs,K=>by simp only[i_,lV cs]
 | .aM vs,K=>by simp only[i_,lV vs]
 | .addr o off,K=>by simp only[i_,dM]
 | .av o i s off,K=>by simp only[i_,dM,bO]
 | .fT x off,K=>by simp only[i_,dM,bO]
 | .own x n,K=>by simp only[i_,dM,bO]
 | .kF o,K=>by simp only[i_,dM]
 | .func fn cap,K=>by simp only[i_,lV cap]
 | .cond act sv,K=>by simp only[i_,r5,vk sv]
theorem lV {β:Type}:∀(l:List SV) (K:List SV→β),mA l K=K l
 | [],K=>by simp only[mA]
 | x :: r,K=>by simp only[mA,vk x,lV r]
end

def N4 {β:Type}(x:SV)(K:SV→β):β:=
 match x with
 | .bS=>K .bS
 | .e x s=>ax x fun x=>gM s fun s=>K (.e x s)
 | x=>i_ x K

theorem N3 {β:Type}(x:SV)(K:SV→β):N4 x K=K x:=by
 cases x <;> first | rfl | simp only[N4,bO,jz,vk]

def cH {α β:Type}(f:α→(α→β)→β)(l:List α):(List α→β)→β:=List.rec (motive:=fun _=>(List α→β)→β) (fun K=>K []) (fun x _ ih K=>f x fun x=>ih fun r=>K (x :: r)) l

theorem cQ {α β:Type}{f:α→(α→β)→β}(hf:∀x k,f x k=k x):∀(l:List α) (K:List α→β),cH f l K=K l
 | [],_=>rfl
 | x :: r,K=>by
  show(f x fun x=>cH f r fun r=>K (x :: r))=_
  rw[hf,cQ hf r]

def w8 {β:Type}(x:Option aE)(K:Option aE→β):β:=
 match x with
 | none=>K none
 | some (.box cs)=>mA cs fun cs=>K (some (.box cs))
 | some (.row x n)=>ax x fun x=>bB n fun n=>K (some (.row x n))
 | some (.tok e n)=>bB e fun e=>bB n fun n=>K (some (.tok e n))
 | some (.store cf h)=>ax h fun h=>K (some (.store cf h))

theorem zM {β:Type}(x:Option aE)(K:Option aE→β):w8 x K=K x:=by
 cases x with
 | none=>rfl
 | some y=>cases y <;> simp only[w8,lV,bO,dM]

def nE {β:Type}(u:Nat)(σ:af)(K:Nat→af→β):β:=
 bB u fun u=>cH N4 σ.tmps fun ts=>cH w8 σ.mem fun ms=>w8 σ.hs fun hs=>K u { tmps:=ts,mem:=ms,hs:=hs }

theorem jy {β:Type}(u:Nat)(σ:af)(K:Nat→af→β):nE u σ K=K u σ:=by
 unfold nE
 rw[dM,cQ N3,cQ zM,zM]

structure KX where
 normal:Option (Nat×af)
 oZ:List (Nat×af)

def rF:Code→List (Option Nat)
 | .seq a b | .cond _ a b=>rF a++(rF b).filter fun q=>!(rF a).contains q
 | .block id b=>(rF b).filter (·!= some id)
 | .loop b | .rangeFunc _ _ _ b=>rF b
 | .exit id=>[some id]
 | .ret=>[none]
 | _=>[]

def qR:Option Nat→Code
 | none=>.ret
 | some id=>.exit id

def NM (body:Nat→af→Option KX)(u:Nat)(σ0:af):Nat→af×Nat→Option (af×Nat)
 | 0,tm=>some tm
 | k+1,tm=>nE (u+tm.2) tm.1 fun u1 σ1=>match body u1 σ1 with
  | none=>none
  | some o=>
   let tm':=oD u (σ0 :: (match o.normal with | some x=>[x.2] | none=>[]))
   if tm'.2=tm.2 then some tm' else NM body u σ0 k tm'

def af.cE (σ:af):Bool:=match σ.hs with
 | some (.store cf _)=>cf.cE
 | _=>false

def F0:T:=.ret (.deref .nil)

def wL (σ:af):Option T→Option T
 | some t=>some t
 | none=>if σ.cE=true then some F0 else none

def V4 {α:Type}(σ:af):Option (Option α)→Option (Option α)
 | some x=>some x
 | none=>if σ.cE=true then some none else none

def collect (P:Program):Code→Nat→af→Option KX
 | .skip,u,σ | .label _,u,σ=>some ⟨some (u,σ),[]⟩
 | .region id ops draw,u,σ=>(V4 σ (Pd P ops draw (tG id σ) u)).bind fun x=>match x with
  | none=>some ⟨none,[]⟩
  | some (u,σ)=>nE u σ fun u σ=>some ⟨some (u,σ),[]⟩
 | .seq a b,u,σ=>(collect P a u σ).bind fun r1=>match r1.normal with
  | none=>some r1
  | some (u1,σ1)=>(collect P b u1 σ1).map fun r2=>⟨r2.normal,r1.oZ++r2.oZ⟩
 | .cond _ a b,u,σ=>nE u σ fun u σ=>(collect P a u σ).bind fun ra=>(collect P b u σ).map fun rb=>match ra.normal,rb.normal with
  | some x,some y=>let (tm,n):=oD u [x.2,y.2];⟨some (u+n,tm),ra.oZ++rb.oZ⟩
  | some x,none=>⟨some x,ra.oZ++rb.oZ⟩
  | none,y=>⟨y,ra.oZ++rb.oZ⟩
 | .block id body,u,σ=>nE u σ fun u σ=>(collect P body u σ).map fun r=>
  let outs:=(match r.normal with | some x=>[x.2] | none=>[])++(r.oZ.filter (·.1==id)).map (·.2)
  let rest:=r.oZ.filter (·.1 != id)
  match outs with
  | []=>⟨none,rest⟩
  | outs=>let (tm,n):=oD u outs;⟨some (u+n,tm),rest⟩
 | .loop body,u,σ=>nE u σ fun u σ=>(NM (fun u σ=>collect P body u σ) u σ 8 (σ,0)).bind fun(tm,n)=>nE (u+n) tm fun u1 tm=>(collect P body u1 tm).map fun r=>⟨none,r.oZ⟩
 | .exit id,_,σ=>some ⟨none,[(id,σ)]⟩
 | .ret,_,_=>some ⟨none,[]⟩
 | .rangeFunc _ _ _ body,u,σ=>some ⟨some (u+1,jG σ (.sym u)),match rF body with | [some id]=>[(id,jG σ (.sym u))] | _=>[]⟩
 | .refuse _,_,σ=>if σ.cE=true then some ⟨none,[]⟩ else none
 | _,_,_=>none

structure Ex where
 lab:Nat
 tm:af
 base:Nat

abbrev Fy:=Nat→Nat→af→Option T

def iZ : List (Nat × Ex) → Nat → Option Ex
  | [], _ => none
  | (i, e) :: r, id => if i = id then some e else iZ r id

def KX.oz (r:KX):List af:=match r.normal with | some x=>[x.2] | none=>[]
def KX.at (r:KX)(id:Nat):List af:=r.oz++(r.oZ.filter (·.1==id)).map (·.2)

def yR (dp u:Nat)(tm:af):Fy:=fun _ _ σ'=>(uJ u tm σ').map (T.jump dp)

def Cv (dp u:Nat)(m:af×Nat)(body:Option T)(k:Fy):Option T:=
 match body,k dp (u+m.2) m.1 with
 | some tb,some tr=>some (.join dp m.2 tb tr)
 | _,_=>none

def IU (x:E)(a b:Option T):Option T:=
 match a,b with
 | some ta,some tb=>some (.ite x ta tb)
 | _,_=>none

def GB (dp u:Nat)(m:af×Nat)(σ:af)(body:Option T):Option T:=
 match uJ u m.1 σ,body with
 | some inits,some tb=>if inits.length=m.2 then some (.loop dp inits tb) else none
 | _,_=>none

def bU:Nat→List SV→List (Nat×E)
 | _,[]=>[]
 | i,.e x _ :: r=>(i,x) :: bU (i+1) r
 | i,_ :: r=>bU (i+1) r

def SV.data:SV→SV
 | .e x s=>.e x s
 | _=>.bS

def om:Nat→List Tmp→List SV→List SV
 | _,[],σs=>σs
 | u,p :: ps,σs=>om (u+1) ps (σs.set p (.e (.sym u) false))

def dB (σ:af)(cf:bV)(u:Nat)(ps:List Tmp):af:=
 { tmps:=om (u+1) ps (σ.tmps.map SV.data),mem:=List.replicate σ.mem.length none,hs:=some (.store cf (.sym u)) }

def fG (dp:Nat):Fy:=fun _ _ σ=>match σ.hs with | some (.store _ h)=>some (.jump dp [h]) | _=>none

def jr (q:Option Nat)(σ:af):Option E:=match q,σ.hs with | none,some (.store _ h)=>some h | _,_=>none

def j7 (dp base:Nat)(σ:af)(cf:bV)(q:Option Nat):List (Nat×Ex):=match q with
 | none=>[]
 | some id=>[(id,⟨dp+1,{ tmps:=List.replicate σ.tmps.length .bS,mem:=List.replicate σ.mem.length none,hs:=some (.store cf (.sym base)) },base⟩)]

def fJ:Code→Bool
 | .seq a b | .cond _ a b=>fJ a&&fJ b
 | .block _ b | .loop b=>fJ b
 | .rangeFunc _ _ _ _=>false
 | _=>true

def compile (P:Program)(rv:af→Option E):Code→Nat→Nat→af→List (Nat×Ex)→Fy→Option T
 | .skip,dp,u,σ,_,k | .label _,dp,u,σ,_,k=>k dp u σ
 | .region id ops draw,dp,u,σ,_,k=>wL σ (B4 P ops draw (tG id σ) u fun σ u=>nE u σ fun u σ=>k dp u σ)
 | .seq a b,dp,u,σ,ex,k=>compile P rv a dp u σ ex fun dp u σ=>compile P rv b dp u σ ex k
 | .cond c a b,dp,u,σ,ex,k=>nE u σ fun u σ=>(σ.uG c).toE.bind fun x=>
   if lG a&&lG b then
    (collect P a u σ).bind fun ra=>(collect P b u σ).bind fun rb=>
     Cv dp u (oD u (ra.oz++rb.oz))
      (IU x (compile P rv a (dp+1) u σ ex (yR dp u (oD u (ra.oz++rb.oz)).1)) (compile P rv b (dp+1) u σ ex (yR dp u (oD u (ra.oz++rb.oz)).1))) k
   else IU x (compile P rv a dp u σ ex k) (compile P rv b dp u σ ex k)
 | .block id body,dp,u,σ,ex,k=>nE u σ fun u σ=>(collect P body u σ).bind fun r=>
   if(r.at id).isEmpty then compile P rv body dp u σ (ex.filter (·.1 != id)) (fun _ _ _=>none)
   else Cv dp u (oD u (r.at id)) (compile P rv body (dp+1) u σ ((id,⟨dp,(oD u (r.at id)).1,u⟩) :: ex) (yR dp u (oD u (r.at id)).1)) k
 | .loop body,dp,u,σ,ex,_=>nE u σ fun u σ=>(NM (fun u σ=>collect P body u σ) u σ 8 (σ,0)).bind fun m=>
   GB dp u m σ (nE (u+m.2) m.1 fun u1 tm=>compile P rv body (dp+1) u1 tm ex (yR dp u m.1))
 | .exit id,_,_,σ,ex,_=>(iZ ex id).bind fun e=>(uJ e.base e.tm σ).map (T.jump e.lab)
 | .ret,_,_,σ,_,_=>(rv σ).map T.ret
 | .rangeFunc g ps tT body,dp,u,σ,ex,k=>match(σ.uG g).toE,σ.hs with
  | some x,some (.store cf h)=>if cf.ro=true then none else match rF body with
   | [q]=>match compile P (fun _=>none) tT (dp+2) (u+1+ps.size) (dB σ cf u ps.toList) [] (fun Jf u' σ'=>compile P (jr q) body Jf u' σ' (j7 dp (u+1+ps.size) σ cf q) (fG dp)),k dp (u+1) (jG σ (.sym u)),
     (match q with | none=>(rv (jG σ (.sym u))).map T.ret | some id=>(iZ ex id).bind fun e=>(uJ e.base e.tm (jG σ (.sym u))).map (T.jump e.lab)) with
    | some tb,some tr,some tq=>some (.kK x h ((bU 0 σ.tmps).map (·.1)) ((bU 0 σ.tmps).map (·.2)) ps.size dp q tb tr tq)
    | _,_,_=>none
   | _=>match compile P (fun _=>none) tT (dp+1) (u+1+ps.size) (dB σ cf u ps.toList) [] (fun Jf u' σ'=>compile P (fun _=>none) body Jf u' σ' [] (fG dp)),k dp (u+1) (jG σ (.sym u)) with
   | some tb,some tr=>some (.lZ x h ((bU 0 σ.tmps).map (·.1)) ((bU 0 σ.tmps).map (·.2)) ps.size dp tb tr)
   | _,_=>none
  | _,_=>none
 | .refuse _,_,_,σ,_,_=>wL σ none
 | _,_,_,_,_,_=>none

end
end

section
noncomputable section

section
variable {P:Program}

theorem Fs {w:World}{l:Nat}{r:Loop}(h:w.heap[l]? = some (.loop r))(r':Loop)(b o:Nat):(w.putObj l (.loop r')).cell? ⟨b,o,none⟩=w.cell? ⟨b,o,none⟩:=by
 by_cases e:b=l
 ·subst e
  have h1:w.cell? ⟨b,o,none⟩=none:=by simp[World.cell?,h]
  have h2:=World.putObj_heap_same (o:=.loop r') (A0h.1 h).1
  rw[h1]
  simp[World.cell?,h2]
 ·exact World.cell?_of_block (a:=⟨b,o,none⟩) (World.putObj_heap_other e)

theorem bp.putObj {w:World}{S:Sets}{l:Nat}{r:Loop}(h:w.heap[l]? = some (.loop r))(r':Loop):bp S w (w.putObj l (.loop r')):=fun b o _=>Fs h r' b o

def OD (d x:D):Prop:=(∃(e:TypeId) (sz:Nat) (cs:List D) (j:Nat),x=.bh e sz cs∧cs[j]? = some d)∨(∃(bH:List D) (j:Nat) (d1 d2:D),x=.fm bH∧(D.kept bH)[j]? = some (D.aM [d1,d2])∧(d=d1∨d=d2))

theorem ck.to {w w':World} {S S':Sets} {an:Nat→Prop} {bs:List D} (h:ck w S an bs) (hS:S.KY S') (hm:∀b o,S' b o→S b o) (hb:∀b,an b→w'.heap[b]? = w.heap[b]?)
  (hr:∀(v:Value) (d:D) (i:Nat) (x:D),bs[i]? = some x→OD d x→aZ w S v d→aZ w' S' v d):ck w' S' an bs:=by
 refine⟨hS.n.symm.trans h.n,fun i e sz cs hi=>?_,fun b off hf hs=>h.rH b off hf (hm _ _ hs),fun i bH hi=>?_,fun i j x y hi hj hx hy e=>h.inj i j x y hi hj hx hy (by rw[←hS.loc,←hS.loc];exact e),fun i z hi hz=>?_⟩
 ·obtain⟨hf,vs,g1,g2,g3,g4,g5,g6⟩:=h.cells i e sz cs hi
  rw[hS.loc,hS.cap]
  exact⟨hf,vs,g1.to (hb _ hf),g2,g3,g4,fun j v d hv hd=>hr v d i _ hi (.inl ⟨e,sz,cs,j,rfl,hd⟩) (g5 j v d hv hd),fun off hs=>g6 off (hm _ _ hs)⟩
 ·obtain⟨hf,es,clock,g1,g2,g3,g4⟩:=h.maps i bH hi
  rw[hS.loc]
  refine⟨hf,es,clock,(hb _ hf).trans g1,g2,fun off hs=>g3 off (hm _ _ hs),fun j e kv he hkv=>?_⟩
  obtain⟨dk,dv,rfl,g6,g7⟩:=g4 j e kv he hkv
  exact⟨dk,dv,rfl,hr _ _ i _ hi (.inr ⟨bH,j,dk,dv,rfl,hkv,.inl rfl⟩) g6,hr _ _ i _ hi (.inr ⟨bH,j,dk,dv,rfl,hkv,.inr rfl⟩) g7⟩
 ·obtain⟨hf,g1,g3⟩:=h.pV i z hi hz
  rw[hS.loc,hb _ hf]
  exact⟨hf,g1.to (by rw[hS.n];exact A0m _) (fun i _=>hS.loc i) (hS.jt i) (by rw[h.n];exact(A0a.1 hi).1),fun off hs=>g3 off (hm _ _ hs)⟩

theorem ck.drop {w:World}{S:Sets}{an:Nat→Prop}{bs:List D}{i:Nat}{z:D}(h:ck w S an bs)(hz:bs[i]? = some z)(hl:z.live=true):ck w S (fun b=>an b∧b≠S.loc i) (bs.set i (.aM [])):=by
 have hc:∀{j:Nat} {x:D},(bs.set i (.aM []))[j]? = some x→x.live=true→bs[j]? = some x∧S.loc j≠S.loc i:=by
  intro j x hj hx
  rw[A0x] at hj
  split at hj
  ·split at hj
   ·cases hj;cases hx
   ·cases hj
  ·rename_i hij
   exact⟨hj,fun e=>hij (h.inj j i _ _ hj hz hx hl e).symm⟩
 refine⟨by rw[h.n];simp,fun j e sz cs hj=>?_,fun b off hf=>h.rH b off hf.1,fun j bH hj=>?_,fun j k x y hj hk hx hy e=>h.inj j k x y (hc hj hx).1 (hc hk hy).1 hx hy e,fun j x hj hx=>?_⟩
 ·obtain⟨g,hne⟩:=hc hj rfl
  obtain⟨g1,g2⟩:=h.cells j e sz cs g
  exact⟨⟨g1,hne⟩,g2⟩
 ·obtain⟨g,hne⟩:=hc hj rfl
  obtain⟨g1,g2⟩:=h.maps j bH g
  exact⟨⟨g1,hne⟩,g2⟩
 ·obtain⟨g,hne⟩:=hc hj (D.ff hx)
  obtain⟨g1,g2⟩:=h.pV j x g hx
  exact⟨⟨g1,hne⟩,g2⟩

theorem ck.Sk {w w':World}{S:Sets}{an:Nat→Prop}{bs:List D}{i:Nat}{z:D}(h:ck w S an bs)(hz:bs[i]? = some (.aM []))(hi:z.isIt=true)(bW:qm S i w'.heap[S.loc i]? z)(hf:¬an (S.loc i))(hn:∀off,¬S (S.loc i) off)(hk:bp S w w')(hb:∀b,an b→w'.heap[b]? = w.heap[b]?) :
  ck w' S (fun b=>an b∨b=S.loc i) (bs.set i z):=by
 have hc:∀{j:Nat} {x:D},(bs.set i z)[j]? = some x→x.live=true→(j=i∧x=z)∨(bs[j]? = some x∧an (S.loc j)∧w'.heap[S.loc j]? = w.heap[S.loc j]?):=by
  intro j x hj hx
  rw[A0x] at hj
  split at hj
  ·rename_i hij
   subst hij
   rw[if_pos (A0a.1 hz).1] at hj
   cases hj
   exact .inl ⟨rfl,rfl⟩
  ·have:=h.gF hj hx
   exact .inr ⟨hj,this,hb _ this⟩
 refine⟨by rw[h.n];simp,fun j e sz cs hj=>?_,fun b off OP=>OP.elim (h.rH b off) fun e=>e ▸ hn off,fun j bH hj=>?_,fun j k x y hj hk' hx hy e=>?_,fun j x hj hx=>?_⟩
 ·rcases hc hj rfl with⟨rfl,e1⟩ | ⟨g,g0,gh⟩
  ·subst e1;cases hi
  ·obtain⟨_,vs,g1,g2,g3,g4,g5,g6⟩:=h.cells j e sz cs g
   exact⟨.inl g0,vs,g1.to gh,g2,g3,g4,fun k v d hv hd=>(g5 k v d hv hd).keep hk (Sets.le_refl _),g6⟩
 ·rcases hc hj rfl with⟨rfl,e1⟩ | ⟨g,g0,gh⟩
  ·subst e1;cases hi
  ·obtain⟨_,es,clock,g1,g2,g3,g4⟩:=h.maps j bH g
   refine⟨.inl g0,es,clock,gh.trans g1,g2,g3,fun k e kv he hkv=>?_⟩
   obtain⟨dk,dv,k1,k2,k3⟩:=g4 k e kv he hkv
   exact⟨dk,dv,k1,k2.keep hk (Sets.le_refl _),k3.keep hk (Sets.le_refl _)⟩
 ·rcases hc hj hx with⟨rfl,_⟩ | ⟨g,g0,_⟩ <;> rcases hc hk' hy with⟨rfl,_⟩ | ⟨g',g0',_⟩
  ·rfl
  ·exact absurd (e ▸ g0') hf
  ·exact absurd (e ▸ g0) hf
  ·exact h.inj j k x y g g' hx hy e
 ·rcases hc hj (D.ff hx) with⟨rfl,e1⟩ | ⟨g,g0,gh⟩
  ·subst e1;exact⟨.inr rfl,bW,hn⟩
  ·obtain⟨_,g1,g2⟩:=h.pV j x g hx
   rw[gh]
   exact⟨.inl g0,g1,g2⟩

theorem Bd {bs:List D}(h:aT bs=true){d:D}{i:Nat}{x:D}(hi:bs[i]? = some x)(hp:OD d x):d.dG=true:=by
 have hx:=ef h hi
 rcases hp with⟨e,sz,cs,j,rfl,hj⟩ | ⟨bH,j,d1,d2,rfl,hj,hd⟩
 ·exact ef (by simpa[D.dG] using hx) hj
 ·have hk:aT (D.kept bH)=true:=by
   have h1:aT bH=true:=by simpa[D.dG] using hx
   unfold D.kept
   split
   ·simpa[aT,D.dG] using h1
   ·exact h1
  have:=ef hk hj
  simp[D.dG,aT] at this
  rcases hd with rfl | rfl
  ·exact this.1
  ·exact this.2

def Sets.under (S:Sets)(h:Nat→Option Loop):Sets:={ S with hold:=h }

theorem Sets.jU (S:Sets)(h:Nat→Option Loop):S.KY (S.under h):=⟨fun _ _ h=>h,rfl,fun _=>rfl,fun _=>rfl,fun _=>rfl⟩

theorem mL:∀{l:List SV} {k i s:Nat} {x:E},(bU k l)[i]? = some (s,x)→k≤s∧∃b,l[s-k]? = some (.e x b)
 | [],_,_,_,_,h=>by simp[bU] at h
 | sv :: r,k,i,s,x,h=>by
  have rest:∀{i:Nat},(bU (k+1) r)[i]? = some (s,x)→k≤s∧∃b,(sv :: r)[s-k]? = some (.e x b):=by
   intro i h
   obtain⟨h1,b,h2⟩:=mL h
   refine⟨by omega,b,?_⟩
   rw[show s-k=(s-(k+1))+1 from by omega]
   simpa using h2
  cases sv with
  | e y b=>
   simp only[bU] at h
   cases i with
   | zero=>simp at h;obtain⟨rfl,rfl⟩:=h;exact⟨A0m _,b,by simp⟩
   | succ i=>exact rest (by simpa using h)
  | _=>
   simp only[bU] at h
   exact rest h

theorem mK:∀{l:List SV} {k s:Nat} {x:E} {b:Bool},l[s]? = some (.e x b)→∃i:Nat,(bU k l)[i]? = some (k+s,x)
 | [],_,_,_,_,h=>by simp at h
 | sv :: r,k,0,x,b,h=>by
  simp at h
  subst h
  exact⟨0,by simp[bU]⟩
 | sv :: r,k,s+1,x,b,h=>by
  obtain⟨i,hi⟩:=mK (k:=k+1) (l:=r) (s:=s) (by simpa using h)
  rw[show k+1+s=k+(s+1) from by omega] at hi
  cases sv with
  | e y c=>exact⟨i+1,by simpa[bU] using hi⟩
  | _=>exact⟨i,by simpa[bU] using hi⟩

structure Ext (w0:World)(X:gB)(w1:World)(X1:gB):Prop where
 sub:X.S≤X1.S
 os:w1.os=w0.os
 tape:TL w1 w0
 output:w1.output=w0.output
 size:w0.heap.size≤w1.heap.size
 old:∀b,b<w0.heap.size→¬X.may b→w1.heap[b]? = w0.heap[b]?
 may:∀b,X1.may b→X.may b∨w0.heap.size≤b
 an:∀b,X1.an b→X.an b∨X.may b∨w0.heap.size≤b
 new:∀b o,X1.S b o→X.S b o∨w0.heap.size≤b∨X.may b
 zK:∃cs:List Nat,X1.zK=(cs.map fun D=>({ target:=.collected D,args:=#[] }:Deferred))++X.zK∧cs.Nodup∧∀D,D∈cs→w1.heap[D]? = some (.deferred (some []))∧¬X1.may D∧¬X1.an D∧w0.heap.size≤D

theorem Ext.refl (w0:World)(X:gB):Ext w0 X w0 X:=⟨Sets.le_refl _,rfl,.refl _,rfl,A0m _,fun _ _ _=>rfl,fun _ h=>.inl h,fun _ h=>.inl h,fun _ _ h=>.inl h,[],rfl,List.nodup_nil,by simp⟩

theorem Ext.trans {w0 w1 w2:World}{X X1 X2:gB}(h:Ext w0 X w1 X1)(k:Ext w1 X1 w2 X2):Ext w0 X w2 X2:=by
 have hm:∀b,b<w0.heap.size→¬X.may b→¬X1.may b:=fun b hb hn hx=>(h.may b hx).elim hn fun g=>by omega
 refine⟨Sets.le_trans h.sub k.sub,k.os.trans h.os,k.tape.trans h.tape,k.output.trans h.output,B0e h.size k.size,fun b hb hn=>(k.old b (A0s hb h.size) (hm b hb hn)).trans (h.old b hb hn),
  fun b hb=>(k.may b hb).elim (h.may b) fun g=>.inr (B0e h.size g),fun b hb=>?_,fun b o hs=>?_,?_⟩
 ·rcases k.an b hb with g | g | g
  ·exact h.an b g
  ·exact .inr (h.may b g)
  ·exact .inr (.inr (B0e h.size g))
 ·rcases k.new b o hs with g | g | g
  ·exact h.new b o g
  ·exact .inr (.inl (B0e h.size g))
  ·exact .inr ((h.may b g).elim .inr .inl)
 ·obtain⟨cs,h1,h2,h3⟩:=h.zK
  obtain⟨ds,k1,k2,k3⟩:=k.zK
  refine⟨ds++cs,by rw[k1,h1];simp,?_,fun D hD=>?_⟩
  ·rw[List.nodup_append]
   refine⟨k2,h2,fun a ha b hb e=>?_⟩
   subst e
   have g1:=(k3 a ha).2.2.2
   have g2:=(A0h.1 (h3 a hb).1).1
   omega
  ·rcases B0p.1 hD with hD | hD
   ·obtain⟨g1,g2,g3,g4⟩:=k3 D hD
    exact⟨g1,g2,g3,B0e h.size g4⟩
   ·obtain⟨g1,g2,g3,g4⟩:=h3 D hD
    have hlt:=(A0h.1 g1).1
    exact⟨(k.old D hlt g2).trans g1,fun hx=>(k.may D hx).elim g2 fun g=>by omega,fun hx=>(k.an D hx).elim g3 fun g=>g.elim g2 fun g=>by omega,g4⟩

theorem Ext.rep {w0 w1 w:World}{X X1:gB}{a:Act}{σ:af}{env:List D}{ρ:cr}(h:Ext w0 X w1 X1)(hr:bE w1 X1 w a σ env ρ)(hh:∀l rec,X.S.hold l=some rec→w0.heap[l]? = some (.loop rec)∧¬X.may l∧¬X.an l):bE w0 { X with zK:=X1.zK } w a σ env ρ:=by
 have hm:∀b,b<w0.heap.size→¬X.may b→¬X1.may b:=fun b hb hn hx=>(h.may b hx).elim hn fun g=>by omega
 refine⟨hr.size,hr.tmps,hr.cn,hr.inj,fun o x b hx hb=>?_,hr.cells,hr.os.trans h.os,hr.tape.trans h.tape,hr.output.trans h.output,B0e h.size hr.grown,fun b hb hn=>(hr.old b (A0s hb h.size) (hm b hb hn)).trans (h.old b hb hn),Sets.le_trans h.sub hr.sub,fun b o hs=>?_,hr.su,hh⟩
 ·obtain⟨g,hlt⟩:=hr.own o x b hx hb
  refine⟨?_,hlt⟩
  rcases g with g | g | g
  ·rcases h.an b g.2 with k | k | k
   ·exact .inl ⟨g.1,k⟩
   ·exact .inr (.inr k)
   ·exact .inr (.inl k)
  ·exact .inr (.inl (B0e h.size g))
  ·rcases h.may b g with k | k
   ·exact .inr (.inr k)
   ·exact .inr (.inl k)
 ·rcases hr.new b o hs with g | g | g
  ·exact h.new b o g
  ·exact .inr (.inl (B0e h.size g))
  ·exact .inr ((h.may b g).elim .inr .inl)

theorem kz {w w':World}{a:Act}{σ:af}{env:List D}{ρ:cr}{S:Sets}{an may:Nat→Prop}{zK:List Deferred}{bs:List D}(h:bE w ⟨may,S,an,zK⟩ w' a σ env ρ)(hst:ck w' ρ.S ρ.an bs)(bW:∃cf x,σ.obj aO=some (.store cf x))(p5:∀b,may b→an b):Left w S an may w' ρ.S ρ.an bs:=by
 obtain⟨cf,x,bW⟩:=bW
 refine⟨hst,h.sub,h.os,h.tape,h.output,h.grown,h.old,fun b hb=>?_,fun b o hs=>?_,h.cells⟩
 ·obtain⟨g1,g2⟩:=h.own aO _ b bW hb
  refine⟨?_,g2⟩
  rcases g1 with g1 | g1 | g1
  ·exact .inl g1.2
  ·exact .inr g1
  ·exact .inl (p5 b g1)
 ·rcases h.new b o hs with g | g | g
  ·exact .inl g
  ·exact .inr (.inr g)
  ·exact .inr (.inl g)

theorem kC {env:List D}:∀{l:List E} {ds:List D} {i:Nat} {x:E},aq env l=some ds→l[i]? = some x→∃d,ds[i]? = some d∧x.eval env=some d
 | [],_,_,_,_,h=>by simp at h
 | y :: r,ds,i,x,h,hi=>by
  simp only[aq,A0c,A0b] at h
  obtain⟨d,h1,ds',h2,rfl⟩:=h
  cases i with
  | zero=>simp at hi;subst hi;exact⟨d,rfl,h1⟩
  | succ i=>
   obtain⟨d',g1,g2⟩:=kC (i:=i) h2 (by simpa using hi)
   exact⟨d',by simpa using g1,g2⟩

theorem rG {w:World}{ρ:cr}{env:List D}:∀{ps:List Tmp} {vs:List Value} {u:Nat} {tm:Array Value} {nP:List SV},tm.size=nP.length→ps.length=vs.length→(∀t,cu w ρ env (tm.getD t undef) (nP.getD t .bS))→(∀(i:Nat) (v:Value),vs[i]? = some v→∃d,env[u+i]? = some d∧aZ w ρ.S v d) →
  ((ps.zip vs).foldl (fun tmps (x:Tmp×Value)=>tmps.setIfInBounds x.1 x.2) tm).size=(om u ps nP).length∧∀t,cu w ρ env (((ps.zip vs).foldl (fun tmps (x:Tmp×Value)=>tmps.setIfInBounds x.1 x.2) tm).getD t undef) ((om u ps nP).getD t .bS)
 | [],[],u,tm,nP,hs,_,h,_=>⟨hs,h⟩
 | [],_ :: _,_,_,_,_,hl,_,_=>by simp at hl
 | _ :: _,[],_,_,_,_,hl,_,_=>by simp at hl
 | p :: ps,v :: vs,u,tm,nP,hs,hl,h,hv=>by
  simp only[List.zip_cons_cons,List.foldl_cons,om]
  refine rG (by simp[hs]) (by simpa using hl) (fun t=>?_) fun i v' hi=>?_
  ·by_cases hp:p<nP.length
   ·simp only[A0p,Array.getElem?_setIfInBounds,A0i,A0x]
    by_cases e:p=t
    ·subst e
     obtain⟨d,hd,hr⟩:=hv 0 v rfl
     simp only[if_true,hs,hp]
     exact .e (by simpa[E.eval] using hd) hr (fun hh=>by cases hh)
    ·simp only[e,if_false]
     have:=h t
     simpa only[A0p,A0i] using this
   ·have hge:nP.length≤p:=Nat.le_of_not_lt hp
    rw[Array.setIfInBounds_eq_of_size_le (by rw[hs];exact hge),List.set_eq_of_length_le hge]
    exact h t
  ·obtain⟨d,h1,h2⟩:=hv (i+1) v' (by simpa using hi)
   exact⟨d,by rw[show u+1+i=u+(i+1) from by omega];exact h1,h2⟩

theorem lM:∀(ps:List Tmp) (u:Nat) (nP:List SV),(om u ps nP).length=nP.length
 | [],_,_=>rfl
 | p :: ps,u,nP=>by simp[om,lM ps]

/-! ## a function leaves that has had loops over functions -/

structure Ig (w w':World)(cs:List Nat):Prop where
 other:∀b,b∉cs→w'.heap[b]? = w.heap[b]?
 size:w'.heap.size=w.heap.size
 os:w'.os=w.os
 tape:TL w' w
 output:w'.output=w.output
 cell:∀b o,w'.cell? ⟨b,o,none⟩=w.cell? ⟨b,o,none⟩

theorem vW {w:World}{l:Nat}{x:Option (List Deferred)}(h:w.heap[l]? = some (.deferred x))(y:Option (List Deferred))(b o:Nat):(w.putObj l (.deferred y)).cell? ⟨b,o,none⟩=w.cell? ⟨b,o,none⟩:=by
 by_cases e:b=l
 ·subst e
  have h1:w.cell? ⟨b,o,none⟩=none:=by simp[World.cell?,h]
  have h2:=World.putObj_heap_same (o:=.deferred y) (A0h.1 h).1
  rw[h1]
  simp[World.cell?,h2]
 ·exact World.cell?_of_block (a:=⟨b,o,none⟩) (World.putObj_heap_other e)

theorem s9 {F:Fence}{n:Nat}{fn:Func}{tmps:Array Value}{R:Ending→World→Prop}{u:FrameMode}(hu:u≠.run):∀(cs:List Nat) (w:World),cs.Nodup→(∀D,D∈cs→w.heap[D]? = some (.deferred (some []))) →
  (∀w',Ig w w' cs→LeavesIn F n P fn tmps R [] u w')→LeavesInM F n P fn tmps R (cs.map fun D=>({ target:=.collected D,args:=#[] }:Deferred)) u w
 | [],w,_,_,h=>h w ⟨fun _ _=>rfl,rfl,rfl,.refl _,rfl,fun _ _=>rfl⟩
 | D :: cs,w,hn,hD,h=>by
  rw[List.nodup_cons] at hn
  have hd:=hD D (by simp)
  refine⟨hu,.inl ⟨D,_,rfl,run_takeDeferred hd,s9 hu cs _ hn.2 (fun D' TN=>?_) fun w' hm=>h w' ?_⟩⟩
  ·rw[World.putObj_heap_other (fun e=>by subst e;exact hn.1 TN)]
   exact hD D' (by simp[TN])
  ·refine⟨fun b hb=>?_,hm.size.trans (by simp),hm.os,⟨hm.tape.tape,hm.tape.dr⟩,hm.output,fun b o=>(hm.cell b o).trans (vW hd _ b o)⟩
   simp only[B0t,not_or] at hb
   rw[hm.other b hb.2,World.putObj_heap_other hb.1]

theorem bE.marked {w0 w1 w w':World}{X0 X1:gB}{a:Act}{σ:af}{env:List D}{ρ:cr}{cs:List Nat}(h:bE w1 X1 w a σ env ρ)(h0:bE w0 X0 w a σ env ρ)(hc:∀D,D∈cs→D<w1.heap.size∧¬X1.may D∧¬X1.an D∧w0.heap.size≤D)(hm:Ig w w' cs):bE w0 X0 w' a σ env ρ:=
 h0.move (fun b o _=>hm.cell b o) (cr.ql.refl ρ _) (fun o x b hx hb=>hm.other b fun hD=>by
  obtain⟨h1,h2,h3,_⟩:=hc b hD
  rcases(h.own o x b hx hb).1 with g | g | g
  ·exact h3 g.2
  ·omega
  ·exact h2 g) (fun _ _ _ _ _ _ hs=>hs) (fun b o hs=>by rw[hm.size];exact h0.cells b o hs) hm.os hm.tape hm.output (by rw[hm.size];exact A0m _) (fun b hb _=>hm.other b fun hD=>by have:=(hc b hD).2.2.2;omega) fun b o hs=>.inl hs

theorem bE.IA {w0 w:World}{X:gB}{a:Act}{σ:af}{env:List D}{ρ:cr}(h:bE w0 X w a σ env ρ){m:Nat}{r r':Loop}(hm:w0.heap[m]? = some (.loop r))(hn1:¬X.may m)(hn2:¬X.an m)(hh:X.S.hold m=none) :
  w.heap[m]? = some (.loop r)∧bE (w0.putObj m (.loop r')) X (w.putObj m (.loop r')) a σ env ρ:=by
 have hlt:m<w0.heap.size:=(A0h.1 hm).1
 have hw:w.heap[m]? = some (.loop r):=(h.old m hlt hn1).trans hm
 have hlt':m<w.heap.size:=(A0h.1 hw).1
 have hb:∀o x b,σ.obj o=some x→bw ρ o x b→b≠m:=fun o x b hx hb e=>by
  subst e
  rcases(h.own o x b hx hb).1 with g | g | g
  ·exact hn2 g.2
  ·omega
  ·exact hn1 g
 have h1:bE w0 X w a σ env ρ:=h
 refine⟨hw,h.size,fun t=>(h.tmps t).keep (bp.putObj hw r') (cr.ql.refl ρ (fun _=>False)) fun _ hf=>hf.elim,fun o x hx=>(h.cn o x hx).keep (bp.putObj hw r') (cr.ql.refl ρ (fun _=>False)) id (fun _ hf=>hf.elim) (fun b hb'=>World.putObj_heap_other (hb o x b hx hb')) (fun _ _ _ hs=>hs),h.inj,fun o x b hx hb'=>?_,fun b o hs=>?_,h.os,⟨h.tape.tape,h.tape.dr⟩,h.output,?_,fun b lY q9=>?_,h.sub,fun b o hs=>?_,h.su,fun l rec hl=>?_⟩
 ·simp only[World.putObj_size]
  exact h.own o x b hx hb'
 ·simp only[World.putObj_size]
  exact h.cells b o hs
 ·simp only[World.putObj_size]
  exact h.grown
 ·simp only[World.putObj_size] at lY
  by_cases e:b=m
  ·subst e
   rw[World.putObj_heap_same hlt,World.putObj_heap_same hlt']
  ·rw[World.putObj_heap_other e,World.putObj_heap_other e]
   exact h.old b lY q9
 ·simp only[World.putObj_size]
  exact h.new b o hs
 ·obtain⟨g1,g2,g3⟩:=h.hold l rec hl
  have e:l≠m:=fun e=>by
   subst e
   rw[hh] at hl
   cases hl
  exact⟨by rw[World.putObj_heap_other e];exact g1,g2,g3⟩

end
end
end
end Go.Am
