/-
  Several texts, one behind the other.
-/
import Derived.Test.YtjnipnanfjglpaaGreatDoorAmBasetoAmTok
import Derived.Laws.Slices
import Derived.Laws.Small
import Derived.Laws.Strings
import Derived.Laws.Strings2
import Derived.Laws.MakeOwn
import Derived.Great.BuildSlice
import Derived.Laws.Tables
import Derived.Lib.Builder
import Derived.Lib.UnsafeStr
import Derived.Lib.AppendStr
import Derived.Laws.IdiomStrings
import Derived.MapKept
import Derived.Laws.Externs
set_option linter.unusedSimpArgs false
set_option linter.unusedVariables false
namespace Go.Am
section
noncomputable section

def Rf (aH:Operand→SV):Option Operand→Option E
 | none=>some (.const (.v (.int .i64 0)))
 | some x=>(aH x).toE

def UQ (aH:Operand→SV)(l:E):Option Operand→Option E
 | none=>some (.bD l)
 | some x=>(aH x).toE

def isIface (P:Program)(t:TypeId):Bool:=match P.underlying t with | some (.interface _)=>true | some _=>false | none=>true

def Mk (P:Program)(t:TypeId)(x:SV)(lo hi:Option E)(ix:Nat):Option bZ:=
 match P.underlying t,x.toE,lo,hi with
 | some (.slice e),some x',some l,some h=>(o6 P e).map fun n=>{ val:=.e (.sym ix) true,bind:=some (.ev (.sub n x' l h)) }
 | _,_,_,_=>none

def Tt (aH:Operand→SV)(l:E):Option Operand→Option E
 | none=>some (.fP l)
 | some x=>(aH x).toE

def Cg (P:Program)(t:TypeId)(x:SV)(lo hi:Option E)(ix:Nat):Option bZ:=
 match P.underlying t,x.toE,lo,hi with
 | some .string,some x',some l,some h=>some { val:=.e (.sym ix) true,bind:=some (.ev (.m4 .mS x' l h .nil)) }
 | _,_,_,_=>none

def Ml (P:Program)(t:TypeId)(x i:SV)(ix:Nat):Option bZ:=
 match P.underlying t,x.toE,i.toE with
 | some .string,some x',some i'=>some { val:=.e (.sym ix) true,bind:=some (.ev (.m4 .kg x' i' .nil .nil)) }
 | _,_,_=>none

def MD (P:Program)(e:TypeId):Bool:=
 match P.underlying e with
 | some (.int .u8)=>true
 | _=>false

theorem Cw {P:Program}{e:TypeId}(h:MD P e=true):P.underlying e=some (.int .u8):=by
 unfold MD at h
 split at h
 ·assumption
 ·cases h

def Mx (P:Program)(s t:TypeId)(x:SV)(ix:Nat):Option bZ:=
 match P.underlying s,P.underlying t,x.toE with
 | some (.slice e),some .string,some x'=>if MD P e=true then some { val:=.e (.sym ix) true,bind:=some (.ev (.m4 .H7 x' .nil .nil .nil)) } else none
 | _,_,_=>none

def IV:Operand→Bool
 | .const .nilIface=>true
 | _=>false

def Ck (P:Program)(t:TypeId)(x:SV)(y:Operand)(neg:Bool)(ix:Nat):Option bZ:=
 match P.underlying t with
 | some (.interface _)=>if IV y then x.toE.map fun x'=>{ val:=.e (.sym ix) true,bind:=some (.ev (.m4 (.IY neg) x' .nil .nil .nil)) } else none
 | _=>none

def yq (P:Program)(t:TypeId)(x:SV)(ix:Nat):Option bZ:=
 if isIface P t then none else match x.toE,((P.info? t).bind (·.zero)).bind D.qS with
 | some x',some z=>some { val:=.aM [.e (.au 0 (.sym ix)) false,.e (.au 1 (.sym ix)) true],bind:=some (.ev (.m4 (.BQ t) x' (.const z) .nil .nil)) }
 | _,_=>none

def Bh (P:Program)(o:Oper)(aH:Operand→SV)(ix:Nat):Option bZ:=
 match o.op with
 | .binOp .eql t x y _=>Ck P t (aH x) y false ix
 | .binOp .neq t x y _=>Ck P t (aH x) y true ix
 | .typeAssert x _ t true=>yq P t (aH x) ix
 | .makeInterface t x=>if isIface P t then none else(aH x).toE.map fun x'=>{ val:=.e (.fq t x') true }
 | .slice t x lo hi none=>((aH x).toE).bind fun x'=>match Mk P t (aH x) (Rf aH lo) (UQ aH x' hi) ix with
  | some r=>some r
  | none=>Cg P t (aH x) (Rf aH lo) (Tt aH x' hi) ix
 | .index t x i=>Ml P t (aH x) (aH i) ix
 | .convert s t x=>Mx P s t (aH x) ix
 | .call c=>match c.callee,c.args.toList with
  | .builtin .max,[x,y]=>(match(aH x).toE,(aH y).toE with
   | some x',some y'=>some { val:=.e (.sym ix) true,bind:=some (.ev (.mm true x' y')) }
   | _,_=>none)
  | .builtin .min,[x,y]=>(match(aH x).toE,(aH y).toE with
   | some x',some y'=>some { val:=.e (.sym ix) true,bind:=some (.ev (.mm false x' y')) }
   | _,_=>none)
  | _,_=>none
 | _=>none

theorem D4 {P:Program}{o:Oper}{aH dK:Operand→SV}{ix:Nat}(hv:∀x,x∈o.op.operands→dK x=aH x):Bh P o dK ix=Bh P o aH ix:=by
 unfold Bh
 generalize hop:o.op=op at *
 cases op <;> try rfl
 case makeInterface t x=>simp only;rw[hv x (by simp[Op.operands])]
 case binOp op t x y yt=>cases op <;> first | rfl | (simp only;rw[hv x (by simp[Op.operands])])
 case typeAssert x xt t ok=>cases ok <;> first | rfl | (simp only;rw[hv x (by simp[Op.operands])])
 case slice t x lo hi mx=>
  cases mx with
  | some m=>rfl
  | none=>
   simp only
   rw[hv x (by simp[Op.operands])]
   have h1:Rf dK lo=Rf aH lo:=by
    cases lo with
    | none=>rfl
    | some y=>simp only[Rf];rw[hv y (by simp[Op.operands])]
   have h2:∀l,UQ dK l hi=UQ aH l hi:=by
    intro l
    cases hi with
    | none=>rfl
    | some y=>simp only[UQ];rw[hv y (by simp[Op.operands])]
   have h3:∀l,Tt dK l hi=Tt aH l hi:=by
    intro l
    cases hi with
    | none=>rfl
    | some y=>simp only[Tt];rw[hv y (by simp[Op.operands])]
   simp only[h1,h2,h3]
 case index t x i=>simp only;rw[hv x (by simp[Op.operands]),hv i (by simp[Op.operands])]
 case convert s t x=>simp only;rw[hv x (by simp[Op.operands])]
 case call c=>
  obtain⟨callee,args,ts⟩:=c
  simp only[Op.operands] at hv ⊢
  have hargs:∀x,x∈args.toList→dK x=aH x:=by
   intro x hx
   refine hv x ?_
   unfold Call.operands
   have:x∈args:=by simpa using hx
   simp
   cases callee <;> simp[this]
  split
  ·rename_i x y hx
   rw[hargs x (by rw[hx];simp),hargs y (by rw[hx];simp)]
  ·rename_i x y hx
   rw[hargs x (by rw[hx];simp),hargs y (by rw[hx];simp)]
  ·rfl

section
variable {P:Program} {w w0:World} {X:gB} {a:Act} {σ:af} {env:List D} {ρ:cr}

theorem Qn {t e:TypeId}(h:P.underlying t=some (.slice e)):P.elem t=e:=by
 simp[Program.elem,h]

theorem R6 {S:Sets}{ad:Option Addr}{len cap n:Nat}{es:List D}{l h:Nat}(hr:aZ w S (.slice ad len cap) (.a_ es))(hz:bM n es=true)(h1:l≤h)(h2:h≤es.length)(m:Nat)(hm:h≤m)(hmc:m≤cap) :
  aZ w S (sliced ad l h m n) (.a_ ((es.drop l).take (h-l))):=by
 have FC:∀(i:Nat) (e:D),es[i]? = some e→e.cells.length=n:=fun i e he=>lp hz he
 cases hr with
 | nil=>
  simp at h2
  have OL:l=0:=by omega
  have hm0:m=0:=by omega
  subst OL hm0 h2
  exact .nil
 | emp hm'=>
  simp at h2
  have OL:l=0:=by omega
  subst OL h2
  unfold sliced
  simp only[Nat.sub_self,List.take_zero]
  by_cases hml:m=0
  ·simp only[hml,if_true]
   exact .emp (Nat.zero_le _)
  ·simp only[if_neg hml,A0y]
   exact .emp (by omega)
 | @a_ b off _ _ size _ val hl hc hm' Rh ho hS hw hr=>
  unfold sliced
  have hidx:∀(i:Nat) (e:D),((es.drop l).take (h-l))[i]? = some e→es[l+i]? = some e∧i<h-l:=by
   intro i e he
   rw[B0c] at he
   split at he
   ·rename_i hi
    exact⟨by simpa using he,hi⟩
   ·cases he
  by_cases hml:m=l
  ·have hhl:h=l:=by omega
   subst hml hhl
   simp only[if_true,Nat.sub_self,List.take_zero]
   exact .a_ (size:=size) (val:=val) (by simp) (A0m _) (by simp[maxLen]) (by simp) (by simp) (by simp) (by simp) (by simp)
  ·simp only[if_neg hml,A0y]
   rw[fz]
   have hsz:∀(i:Nat) (e:D),es[i]? = some e→size=n:=fun i e he=>(Rh i e he).symm.trans (FC i e he)
   refine .a_ (size:=n) (val:=fun i j=>val (l+i) j) (by simp;omega) (by omega) (by omega) (fun i e he=>FC _ e (hidx i e he).1) (fun i e j d he hd=>ho _ e j d (hidx i e he).1 hd) (fun i e j d he hd=>?_) (fun i e j d he hd=>?_) fun i e j d he hd=>hr _ e j d (hidx i e he).1 hd
   ·have h5:=(hidx i e he).1
    have:=hS _ e j d h5 hd
    rw[hsz _ e h5] at this
    rwa [show off+l*n+i*n+j=off+(l+i)*n+j from by rw[Nat.add_mul];omega]
   ·have h5:=(hidx i e he).1
    have:=hw _ e j d h5 hd
    rw[hsz _ e h5] at this
    rwa [show off+l*n+i*n+j=off+(l+i)*n+j from by rw[Nat.add_mul];omega]


theorem J4 {t:TypeId}(h:isIface P t=false)(v:Value):(Instr.makeInterface t v).run P w=.ok (.iface t v) w:=by
 unfold isIface at h
 cases hu:P.underlying t with
 | none=>rw[hu] at h;cases h
 | some d=>
  rw[hu] at h
  unfold Instr.makeInterface
  rw[A0k,run_underlying hu]
  cases d <;> first | rfl | simp at h

theorem Re {aH:Operand→SV}(hv:∀x,cu w ρ env (a.eval x) (aH x)){lo:Option Operand}{l:E}(h:Rf aH lo=some l){k:IntKind}{n:Int}(he:l.eval env=some (.v (.int k n))):(lo=none∧n=0)∨∃x,lo=some x∧a.eval x=.int k n:=by
 cases lo with
 | none=>simp[Rf] at h;subst h;simp[E.eval] at he;exact .inl ⟨rfl,he.2.symm⟩
 | some x=>
  obtain⟨d,hd,hr⟩:=SV.toE_rd h (hv x)
  rw[he] at hd
  cases hd
  exact .inr ⟨x,rfl,hr.v_eq⟩

theorem X9 {aH:Operand→SV}(hv:∀x,cu w ρ env (a.eval x) (aH x)){hi:Option Operand}{x' l:E}(h:UQ aH x' hi=some l){dx:D}{len:Nat}(hx:x'.eval env=some dx)(XZ:D.bD dx=some (.v (.int .i64 len))){k:IntKind}{n:Int}(he:l.eval env=some (.v (.int k n))):(hi=none∧n=len)∨∃x,hi=some x∧a.eval x=.int k n:=by
 cases hi with
 | none=>simp[UQ] at h;subst h;simp[E.eval,hx,XZ] at he;exact .inl ⟨rfl,he.2.symm⟩
 | some x=>
  obtain⟨d,hd,hr⟩:=SV.toE_rd h (hv x)
  rw[he] at hd
  cases hd
  exact .inr ⟨x,rfl,hr.v_eq⟩

theorem Ts {aH:Operand→SV}(hv:∀x,cu w ρ env (a.eval x) (aH x)){hi:Option Operand}{x' l:E}(h:Tt aH x' hi=some l){s:ByteArray}(hx:x'.eval env=some (.v (.string s))){k:IntKind}{n:Int}(he:l.eval env=some (.v (.int k n))):(hi=none∧n=s.size)∨∃x,hi=some x∧a.eval x=.int k n:=by
 cases hi with
 | none=>simp[Tt] at h;subst h;simp[E.eval,hx,D.fP] at he;exact .inl ⟨rfl,he.2.symm⟩
 | some x=>
  obtain⟨d,hd,hr⟩:=SV.toE_rd h (hv x)
  rw[he] at hd
  cases hd
  exact .inr ⟨x,rfl,hr.v_eq⟩

theorem Ay {o:Oper}{t:TypeId}{x:Operand}{lo hi:Option Operand}{x':E}{aH:Operand→SV}{ix:Nat}{r:bZ}(ho:o.op=.slice t x lo hi none)(hx':(aH x).toE=some x')(hv:∀x,cu w ρ env (a.eval x) (aH x))(hl:Cg P t (aH x) (Rf aH lo) (Tt aH x' hi) ix=some r)(h:bE w0 X w a σ env ρ)(hd:∀d,o.dst=some d→d<σ.tmps.length)(hb:aY P env ix r.bind) :
  r.cA=none∧cX P o a w w0 X (σ.put o.dst r.val) env:=by
 unfold Cg at hl
 split at hl
 ·rename_i x'' l hh hu ML hlo hhi
  rw[hx'] at ML
  cases ML
  cases hl
  obtain⟨dx,fW,fF⟩:=SV.toE_rd hx' (hv x)
  obtain⟨dz,bz,bQ⟩:=hb
  simp only[E.eval,fW,A0d,A0c] at bz
  obtain⟨dl,eM,dh,hdh,bz⟩:=bz
  simp only[D.m4] at bz
  unfold D.mS at bz
  split at bz
  ·rename_i s k1 lv k2 sw
   split at bz
   ·rename_i hc
    obtain⟨h0,h1,h2⟩:=hc
    cases bz
    refine⟨rfl,aI h hd (v:=.string (s.extract lv.toNat sw.toNat)) ?_ (.e (d:=.v (.string (s.extract lv.toNat sw.toNat))) (by simp only[E.eval];exact bQ) (.v rfl) fun _=>rfl)⟩
    have mH:a.eval x=.string s:=fF.v_eq
    unfold execOp
    simp only[ho,Option.map_none,mH,A0k,run_sliceAt_string w t _ _ _ _ hu]
    rcases Re hv hlo eM with⟨rfl,rfl⟩ | ⟨xl,rfl,hxl⟩ <;> rcases Ts hv hhi fW hdh with⟨rfl,rfl⟩ | ⟨xh,rfl,XD⟩
    ·simp only[Option.map_none,run_slice_string_all w t s hu,A0e,A0n]
     simp
    ·simp only[Option.map_none,A0y,XD,run_slice_string_h w t s hu k2 sw (by omega) (by omega),A0e,A0n]
     simp
    ·simp only[Option.map_none,A0y,hxl,run_slice_string_l w t s hu k1 lv h0 (by omega),A0e,A0n]
     simp
    ·simp only[A0y,hxl,XD,run_slice_string w t s k1 k2 lv sw hu h0 h1 (by omega),A0e,A0n]
   ·cases bz
  ·cases bz
 ·cases hl

theorem D2 {o:Oper}{t:TypeId}{x i:Operand}{aH:Operand→SV}{ix:Nat}{r:bZ}(ho:o.op=.index t x i)(hv:∀x,cu w ρ env (a.eval x) (aH x))(hl:Ml P t (aH x) (aH i) ix=some r)(h:bE w0 X w a σ env ρ)(hd:∀d,o.dst=some d→d<σ.tmps.length)(hb:aY P env ix r.bind) :
  r.cA=none∧cX P o a w w0 X (σ.put o.dst r.val) env:=by
 unfold Ml at hl
 split at hl
 ·rename_i x' i' hu hx' hi'
  cases hl
  obtain⟨dx,fW,fF⟩:=SV.toE_rd hx' (hv x)
  obtain⟨di,P7,PU⟩:=SV.toE_rd hi' (hv i)
  obtain⟨dz,bz,bQ⟩:=hb
  simp only[E.eval,fW,P7,A0d,A0c,D.m4] at bz
  unfold D.kg at bz
  split at bz
  ·rename_i s k n
   split at bz
   ·rename_i h0
    obtain⟨b,hb',rfl⟩:=A0b.1 bz
    have mH:a.eval x=.string s:=fF.v_eq
    have hiv:a.eval i=.int k n:=PU.v_eq
    have hlt:n.toNat<s.size:=by
     rcases Nat.lt_or_ge n.toNat s.size with hlt | hge
     ·exact hlt
     ·rw[ByteArray.getElem?_ge' s _ (by omega)] at hb'
      cases hb'
    have Yk:s[n.toNat]'hlt=b:=by
     rw[ByteArray.getElem?_lt' s _ hlt] at hb'
     exact Option.some.inj hb'
    refine⟨rfl,aI h hd (v:=.int .u8 b.toNat) ?_ (.e (d:=.v (.int .u8 b.toNat)) (by simp only[E.eval];exact bQ) (.v rfl) fun _=>rfl)⟩
    unfold execOp
    simp only[ho,mH,hiv,A0k,run_index_string w t s k n hu]
    rw[dif_pos (by omega)]
    simp only[A0e,A0n,Yk]
   ·cases bz
  ·cases bz
 ·cases hl

theorem wz {t:TypeId}{ms:Array (String×TypeId)}(hu:P.underlying t=some (.interface ms))(d:Nat)(t':TypeId)(v:Value):(Op.equalIn (d+1) t (.iface t' v) .nilIface).run P w=.ok false w:=by
 simp[Op.equalIn,run_underlying hu]

theorem wu {t:TypeId}{ms:Array (String×TypeId)}(hu:P.underlying t=some (.interface ms))(d:Nat):(Op.equalIn (d+1) t .nilIface .nilIface).run P w=.ok true w:=by
 simp[Op.equalIn,run_underlying hu]

theorem vZ {t:TypeId}{ms:Array (String×TypeId)}(hu:P.underlying t=some (.interface ms))(t':TypeId)(v:Value):(binOp .eql t (.iface t' v) .nilIface).run P w=.ok (.bool false) w∧(binOp .neq t (.iface t' v) .nilIface).run P w=.ok (.bool true) w:=by
 have h1:(Op.equal t (.iface t' v) .nilIface).run P w=.ok false w:=wz hu 9999 t' v
 constructor <;> simp only[binOp,A0k,h1,A0e,A0n] <;> rfl

theorem vY {t:TypeId}{ms:Array (String×TypeId)}(hu:P.underlying t=some (.interface ms)):(binOp .eql t .nilIface .nilIface).run P w=.ok (.bool true) w∧(binOp .neq t .nilIface .nilIface).run P w=.ok (.bool false) w:=by
 have h1:(Op.equal t .nilIface .nilIface).run P w=.ok true w:=wu hu 9999
 constructor <;> simp only[binOp,A0k,h1,A0e,A0n] <;> rfl

theorem AK {op:BinOp}{t:TypeId}{x:Operand}(t':TypeId)(v:Value):(eqGuard op t x (.const .nilIface) (.iface t' v) .nilIface).run P w=.ok () w:=by
 unfold eqGuard
 cases op <;> simp

theorem AJ {op:BinOp}{t:TypeId}{x:Operand}:(eqGuard op t x (.const .nilIface) .nilIface .nilIface).run P w=.ok () w:=by
 unfold eqGuard
 cases op <;> simp

theorem s8 {o:Oper}{aH:Operand→SV}{op:BinOp}{neg:Bool}{t yt:TypeId}{x y:Operand}{ix:Nat}{r:bZ}(ho:o.op=.binOp op t x y yt)(hop:op=.eql∧neg=false∨op=.neq∧neg=true)(hv:∀x,cu w ρ env (a.eval x) (aH x))(hl:Ck P t (aH x) y neg ix=some r)(h:bE w0 X w a σ env ρ)(hd:∀d,o.dst=some d→d<σ.tmps.length)(hb:aY P env ix r.bind) :
  r.cA=none∧cX P o a w w0 X (σ.put o.dst r.val) env:=by
 unfold Ck at hl
 split at hl
 ·rename_i ms hu
  split at hl
  ·rename_i hy
   obtain⟨x',hx',rfl⟩:=A0b.1 hl
   obtain⟨dx,fW,fF⟩:=SV.toE_rd hx' (hv x)
   obtain⟨dz,bz,bQ⟩:=hb
   simp only[E.eval,fW,A0d,D.m4] at bz
   have K4:y=.const .nilIface:=by
    unfold IV at hy
    split at hy
    ·rfl
    ·simp at hy
   subst K4
   have fin:∀b:Bool,dz=.bool b→(do eqGuard op t x (.const .nilIface) (a.eval x) (a.eval (.const .nilIface));binOp op t (a.eval x) (a.eval (.const .nilIface)):Sem Value).run P w=.ok (.bool b) w→cX P o a w w0 X (σ.put o.dst (.e (.sym ix) true)) env:=by
    rintro b rfl hrun
    refine aI h hd (v:=.bool b) ?_ (.e (d:=.bool b) (by simp only[E.eval];exact bQ) (.v rfl) fun _=>rfl)
    unfold execOp
    simp only[ho]
    rw[A0k,hrun]
    rfl
   refine⟨rfl,?_⟩
   generalize mH:a.eval x=xv at fF fin
   have hc:a.eval (.const .nilIface)=.nilIface:=rfl
   rw[hc] at fin
   split at bz
   ·cases bz
    cases fF
    refine fin neg rfl ?_
    rw[A0k,AK,A0e]
    rcases hop with⟨rfl,rfl⟩ | ⟨rfl,rfl⟩
    ·exact(vZ hu _ _).1
    ·exact(vZ hu _ _).2
   ·cases bz
    rw[fF.v_eq] at fin
    refine fin (!neg) rfl ?_
    rw[A0k,AJ,A0e]
    rcases hop with⟨rfl,rfl⟩ | ⟨rfl,rfl⟩
    ·exact(vY hu).1
    ·exact(vY hu).2
   ·cases bz
  ·cases hl
 ·cases hl

theorem yp {o:Oper}{aH:Operand→SV}{xt t:TypeId}{x:Operand}{ix:Nat}{r:bZ}(ho:o.op=.typeAssert x xt t true)(hv:∀x,cu w ρ env (a.eval x) (aH x))(hl:yq P t (aH x) ix=some r)(h:bE w0 X w a σ env ρ)(hd:∀d,o.dst=some d→d<σ.tmps.length)(hb:aY P env ix r.bind) :
  r.cA=none∧cX P o a w w0 X (σ.put o.dst r.val) env:=by
 unfold yq at hl
 split at hl
 ·cases hl
 rename_i hif
 split at hl
 ·rename_i x' z hx' hz
  cases hl
  obtain⟨zv,PE,hz⟩:=A0c.1 hz
  obtain⟨dx,fW,fF⟩:=SV.toE_rd hx' (hv x)
  obtain⟨dz,bz,bQ⟩:=hb
  simp only[E.eval,fW,A0d,D.m4] at bz
  have fin:∀(b:Bool) (d:D) (v:Value),dz=.aM [d,.bool b]→aZ w ρ.S v d→(Instr.typeAssert (a.eval x) xt t true).run P w=.ok (.tuple #[v,.bool b]) w→cX P o a w w0 X (σ.put o.dst (.aM [.e (.au 0 (.sym ix)) false,.e (.au 1 (.sym ix)) true])) env:=by
   rintro b d v rfl hrd hrun
   refine aI h hd (v:=.tuple #[v,.bool b]) ?_ (.aM rfl fun i u c hu hc=>?_)
   ·unfold execOp
    simp only[ho,A0k,hrun,A0e,A0n]
   ·match i with
    | 0=>
     simp at hu hc
     subst hu hc
     exact .e (d:=d) (by simp[E.eval,bQ,D.au]) hrd (by simp)
    | 1=>
     simp at hu hc
     subst hu hc
     exact .e (d:=.bool b) (by simp[E.eval,bQ,D.au]) (.v rfl) fun _=>rfl
    | i+2=>simp at hc
  refine⟨rfl,?_⟩
  have hnot:∃k,P.underlying t=some k∧∀ms,k≠.interface ms:=by
   unfold isIface at hif
   cases hu:P.underlying t with
   | none=>rw[hu] at hif;simp at hif
   | some k=>
    rw[hu] at hif
    refine⟨k,rfl,?_⟩
    rintro ms rfl
    simp at hif
  obtain⟨k,hu,hk⟩:=hnot
  generalize mH:a.eval x=xv at fF fin
  split at bz
  ·rename_i t' d
   cases bz
   cases fF with
   | fq hrd=>
   by_cases ht:t'=t
   ·refine fin true d _ (by rw[if_pos ht]) hrd ?_
    unfold Instr.typeAssert
    simp only[A0k,run_underlying hu,A0e]
    cases k <;> first | exact absurd rfl (hk _) | simp[ht]
   ·refine fin false z zv (by rw[if_neg ht]) (D.iG hz) ?_
    unfold Instr.typeAssert
    simp only[A0k,run_underlying hu,A0e]
    cases k <;> first | exact absurd rfl (hk _) | simp[ht,fS PE]
  ·cases bz
   rw[fF.v_eq] at fin
   refine fin false z zv rfl (D.iG hz) ?_
   unfold Instr.typeAssert
   simp only[A0k,run_underlying hu,A0e]
   cases k <;> first | exact absurd rfl (hk _) | simp[fS PE]
  ·cases bz
 ·cases hl

theorem qg:∀{es:List D} {ns:List Int},bytesOf es=some ns→es.length=ns.length∧∀(i:Nat) (e:D),es[i]? = some e→e.cells=[.v (.int .u8 (ns.getD i 0))]
 | [],ns,h=>by
  cases h
  exact⟨rfl,fun i e h=>by simp at h⟩
 | e :: r,ns,h=>by
  unfold bytesOf at h
  split at h
  ·rename_i n hc
   obtain⟨ms,hm,rfl⟩:=A0b.1 h
   obtain⟨h1,h2⟩:=qg hm
   refine⟨by simp[h1],fun i e' he=>?_⟩
   cases i with
   | zero=>simp at he;subst he;simpa using hc
   | succ i=>simpa using h2 i e' (by simpa using he)
  ·cases h

theorem Fu {S:Sets}{v:Value}{es:List D}{ns:List Int}(h:aZ w S v (.a_ es))(hb:bytesOf es=some ns){s t e:TypeId}(hs:P.underlying s=some (.slice e))(he:P.underlying e=some (.int .u8))(ht:P.underlying t=some .string) :
  (convert s t v).run P w=.ok (.string (strOfNums ns)) w:=by
 obtain⟨hl,hg⟩:=qg hb
 cases h with
 | nil=>
  cases hb
  exact run_convert_bytes_nil w s e hs he _ _ t ht
 | emp hm=>
  cases hb
  rw[run_convert_bytes_string w s t e _ _ _ hs he ht,run_bytesToString w _ _ _ [] (by rfl)]
  rfl
 | @a_ b off len cap size es val hlen hc hm hz ho hS hw hr=>
  refine run_convert_bytes_arg w s e hs he b off _ cap ns (by omega) (fun i hi=>?_) t ht
  have hi':i<es.length:=by omega
  have hx:=hg i es[i] (A0f hi')
  have hsz:=hz i es[i] (A0f hi')
  rw[hx] at hsz
  have h1:=hw i es[i] 0 _ (A0f hi') (by rw[hx];rfl)
  have h2:=(hr i es[i] 0 _ (A0f hi') (by rw[hx];rfl)).v_eq
  rw[h2,show off+i*size+0=off+i by rw[←hsz];simp] at h1
  exact h1

theorem Em {o:Oper} {s t:TypeId} {x:Operand} {sx:SV} {ix:Nat} {r:bZ} (ho:o.op=.convert s t x) (hl:Mx P s t sx ix=some r) (hx:cu w ρ env (a.eval x) sx) (h:bE w0 X w a σ env ρ)
  (hd:∀d,o.dst=some d→d<σ.tmps.length) (hb:aY P env ix r.bind):r.cA=none∧cX P o a w w0 X (σ.put o.dst r.val) env:=by
 unfold Mx at hl
 split at hl
 ·rename_i e x' hs ht hx'
  split at hl
  ·rename_i he
   replace he:=Cw he
   cases hl
   obtain⟨dx,fW,fF⟩:=SV.toE_rd hx' hx
   obtain⟨dz,bz,bQ⟩:=hb
   simp only[E.eval,fW,A0d,D.m4] at bz
   unfold D.H7 at bz
   split at bz
   ·obtain⟨ns,jk,rfl⟩:=A0b.1 bz
    refine⟨rfl,aI h hd (v:=.string (strOfNums ns)) ?_ (.e (by simp only[E.eval,bQ]) (.v rfl) fun _=>rfl)⟩
    unfold execOp
    simp only[ho,A0k,Fu fF jk hs he ht,A0e,A0n]
   ·cases bz
  ·cases hl
 ·cases hl

theorem D3 {o:Oper}{aH:Operand→SV}{ix:Nat}{r:bZ}(hv:∀x,cu w ρ env (a.eval x) (aH x))(hl:Bh P o aH ix=some r)(h:bE w0 X w a σ env ρ)(hd:∀d,o.dst=some d→d<σ.tmps.length)(hb:aY P env ix r.bind) :
  r.cA=none∧cX P o a w w0 X (σ.put o.dst r.val) env:=by
 unfold Bh at hl
 split at hl
 ·rename_i t x y yt ho
  exact s8 ho (.inl ⟨rfl,rfl⟩) hv hl h hd hb
 ·rename_i t x y yt ho
  exact s8 ho (.inr ⟨rfl,rfl⟩) hv hl h hd hb
 ·rename_i x xt t ho
  exact yp ho hv hl h hd hb
 ·rename_i t x ho
  split at hl
  ·cases hl
  ·rename_i hif
   obtain⟨x',hx',rfl⟩:=A0b.1 hl
   obtain⟨d,fW,fF⟩:=SV.toE_rd hx' (hv x)
   refine⟨rfl,aI h hd (v:=.iface t (a.eval x)) ?_ (.e (d:=.fq t d) (by simp[E.eval,fW]) (.fq fF) fun _=>rfl)⟩
   unfold execOp
   simp only[ho,A0k,J4 (by simpa using hif),A0e,A0n]
 ·rename_i t x lo hi ho
  obtain⟨x',hx',hl⟩:=A0c.1 hl
  split at hl
  case h_2=>exact Ay ho hx' hv hl h hd hb
  rename_i r' hl'
  cases hl
  replace hl:=hl'
  unfold Mk at hl
  split at hl
  ·rename_i e x'' l hh hu ML hlo hhi
   rw[hx'] at ML
   cases ML
   obtain⟨n,hn,rfl⟩:=A0b.1 hl
   obtain⟨dx,fW,fF⟩:=SV.toE_rd hx' (hv x)
   obtain⟨dz,bz,bQ⟩:=hb
   simp only[E.eval,fW,A0d,A0c] at bz
   obtain⟨dl,eM,dh,hdh,bz⟩:=bz
   have hel:=Qn hu
   have jf:P.underlying t=some (.slice (P.elem t)):=by rw[hel];exact hu
   have hsize:(sizeOf (P.elem t)).run P w=.ok n w:=by rw[hel];exact run_sizeOf hn w
   have go:∀(ad:Option Addr) (len cap:Nat) (k1 k2:IntKind) (lv sw:Int),a.eval x=.slice ad len cap→len≤cap→D.bD dx=some (.v (.int .i64 len))→dl=.v (.int k1 lv)→dh=.v (.int k2 sw)→0≤lv→lv≤sw→sw≤(len:Int)→aZ w ρ.S (sliced ad lv.toNat sw.toNat cap n) dz→dz.one=true →
     cX P o a w w0 X (σ.put o.dst (.e (.sym ix) true)) env:=by
    rintro ad len cap k1 k2 lv sw mH hcap XZ rfl rfl h0 h1 h2 hrd hone
    have fin:(Instr.slice t (.slice ad len cap) (lo.map a.eval) (hi.map a.eval) none).run P w=.ok (sliced ad lv.toNat sw.toNat cap n) w→cX P o a w w0 X (σ.put o.dst (.e (.sym ix) true)) env:=by
     intro hrun
     refine aI h hd (v:=sliced ad lv.toNat sw.toNat cap n) ?_ (.e (d:=dz) (by simp only[E.eval];exact bQ) hrd fun _=>hone)
     unfold execOp
     simp only[ho,Option.map_none,mH,A0k,run_sliceAt_slice w t _ _ _ _ jf,hrun,A0e,A0n]
    rcases Re hv hlo eM with⟨rfl,rfl⟩ | ⟨xl,rfl,hxl⟩ <;> rcases X9 hv hhi fW XZ hdh with⟨rfl,rfl⟩ | ⟨xh,rfl,XD⟩
    ·refine fin ?_
     simp only[Option.map_none,run_slice_all w t ad len cap jf,hsize,A0e]
     simp
    ·refine fin ?_
     simp only[Option.map_none,A0y,XD,run_slice_h w t ad len cap jf k2 sw (by omega) (by omega),hsize,A0e]
     simp
    ·refine fin ?_
     simp only[Option.map_none,A0y,hxl,run_slice_l w t ad len cap jf k1 lv h0 (by omega),hsize,A0e]
     simp
    ·refine fin ?_
     simp only[A0y,hxl,XD,run_slice_lh w t ad len cap jf k1 k2 lv sw h0 h1 (by omega),hsize,A0e]
   unfold D.sub at bz
   split at bz
   ·rename_i es k1 lv k2 sw
    split at bz
    ·rename_i hc
     obtain⟨h0,h1,h2,hz⟩:=hc
     cases bz
     refine⟨rfl,?_⟩
     obtain⟨ad,len,cap,mH,hlen⟩:=fF.yw
     have hcap:len≤cap:=by
      rw[mH] at fF
      cases fF with
      | nil=>exact A0m _
      | emp _=>exact Nat.zero_le _
      | a_ hl hc hm=>exact hc
     rw[mH] at fF
     refine go ad len cap k1 k2 lv sw mH hcap (by simp[D.bD,hlen]) rfl rfl h0 h1 (by omega) ?_ rfl
     have:=R6 (l:=lv.toNat) (h:=sw.toNat) fF hz (by omega) (by omega) cap (by omega) (A0m _)
     rwa [show(sw-lv).toNat=sw.toNat-lv.toNat from by omega]
    ·cases bz
   ·rename_i j off ln k1 lv k2 sw
    split at bz
    ·rename_i hc
     obtain⟨h0,h1,h2,hn0⟩:=hc
     split at bz
     case isFalse hlh=>
      cases bz
      refine⟨rfl,?_⟩
      generalize mH:a.eval x=xv at fF
      cases fF with
      | @sl _ _ _ cap hj hle uY TP=>
      refine go _ ln cap k1 k2 lv sw mH hle rfl rfl rfl h0 h1 h2 ?_ rfl
      unfold sliced
      rw[show sw.toNat-lv.toNat=0 from by omega]
      split
      ·exact .emp (by omega)
      ·exact .emp (by omega)
     rename_i hlh
     cases bz
     refine⟨rfl,?_⟩
     generalize mH:a.eval x=xv at fF
     cases fF with
     | @sl _ _ _ cap hj hle uY TP=>
     refine go _ ln cap k1 k2 lv sw mH hle rfl rfl rfl h0 h1 h2 ?_ rfl
     unfold sliced
     have hlt:lv.toNat=0∨cap≠lv.toNat:=by omega
     by_cases hml:cap=lv.toNat
     ·have hz:lv.toNat=0:=by omega
      simp only[hml,if_true]
      have hh:sw.toNat=0:=by omega
      rw[show(sw-lv).toNat=0 from by omega,hz,hh]
      simp only[Nat.zero_mul,Nat.add_zero,Nat.sub_self]
      exact .sl hj (A0m _) (by omega) fun e=>by rw[←TP e];omega
     ·simp only[if_neg hml,A0y]
      rw[fz,show(sw-lv).toNat=sw.toNat-lv.toNat from by omega]
      refine .sl hj (by omega) (by omega) fun e=>?_
      have:lv.toNat*n=0:=by omega
      have OL:lv.toNat=0:=by
       rcases Nat.mul_eq_zero.1 this with h | h
       ·exact h
       ·omega
      rw[←TP (by omega)]
      omega
    ·cases bz
   ·rename_i k1 lv k2 sw
    split at bz
    ·rename_i hc
     obtain⟨rfl,rfl⟩:=hc
     cases bz
     refine⟨rfl,?_⟩
     generalize mH:a.eval x=xv at fF
     cases fF with
     | cO=>
     refine go none 0 0 k1 k2 0 0 mH (A0m _) rfl rfl rfl (Int.le_refl _) (Int.le_refl _) (Int.le_refl _) ?_ rfl
     unfold sliced
     simp only[Int.toNat_zero,if_true,Nat.sub_self]
     exact .cO
    ·cases bz
   ·cases bz
  ·cases hl
 ·rename_i t x i ho
  exact D2 ho hv hl h hd hb
 ·rename_i s t x ho
  exact Em ho hl (hv x) h hd hb
 ·rename_i c ho
  obtain⟨callee,args,ts⟩:=c
  simp only at hl
  split at hl
  ·rename_i x y hargs
   split at hl
   ·rename_i x' y' hx' hy'
    cases hl
    obtain⟨dx,fW,fF⟩:=SV.toE_rd hx' (hv x)
    obtain⟨dy,wW,MV⟩:=SV.toE_rd hy' (hv y)
    obtain⟨dz,bz,bQ⟩:=hb
    simp only[E.eval,fW,wW,A0d] at bz
    unfold D.mm at bz
    split at bz
    ·rename_i k p k' q
     split at bz
     ·rename_i hk
      subst hk
      cases bz
      have e1:args=#[x,y]:=by rw[←B0g (xs:=args),hargs]
      subst e1
      refine⟨rfl,aI h hd (v:=.int k (if q > p then q else p)) ?_ (.e (by simp only[E.eval];exact bQ) (.v rfl) fun _=>rfl)⟩
      unfold execOp
      simp only[ho,resolve,invoke,builtin,A0k,A0n,A0e,List.map_toArray,List.map_cons,List.map_nil,fF.v_eq,MV.v_eq,run_max_int2]
     ·cases bz
    ·cases bz
   ·cases hl
  ·rename_i x y hargs
   split at hl
   ·rename_i x' y' hx' hy'
    cases hl
    obtain⟨dx,fW,fF⟩:=SV.toE_rd hx' (hv x)
    obtain⟨dy,wW,MV⟩:=SV.toE_rd hy' (hv y)
    obtain⟨dz,bz,bQ⟩:=hb
    simp only[E.eval,fW,wW,A0d] at bz
    unfold D.mm at bz
    split at bz
    ·rename_i k p k' q
     split at bz
     ·rename_i hk
      subst hk
      cases bz
      have e1:args=#[x,y]:=by rw[←B0g (xs:=args),hargs]
      subst e1
      refine⟨rfl,aI h hd (v:=.int k (if q<p then q else p)) ?_ (.e (by simp only[E.eval];exact bQ) (.v rfl) fun _=>rfl)⟩
      unfold execOp
      simp only[ho,resolve,invoke,builtin,A0k,A0n,A0e,List.map_toArray,List.map_cons,List.map_nil,fF.v_eq,MV.v_eq,run_min_int2]
     ·cases bz
    ·cases bz
   ·cases hl
  ·cases hl
 ·cases hl

end
end
end

section
noncomputable section

def D.uI:D→Bool
 | .aM _=>false
 | _=>true

def D.Gi (nz:Bool)(y:Value):Option D:=if nz=true then(match y with
 | .slice none 0 0=>some .cO
 | y=>D.qS y) else D.qS y

theorem D.Ba {w:World}{S:Sets}{nz:Bool}{v:Value}{d:D}(h:D.Gi nz v=some d):aZ w S v d:=by
 unfold D.Gi at h
 split at h
 ·split at h
  ·cases h;exact .cO
  ·exact D.iG h
 ·exact D.iG h

def Bi (nz:Bool)(P:Program)(t:TypeId)(n c:SV)(dst:Option Tmp)(ix:Nat):Option bZ:=
 match dst,P.underlying t,n.toE,c.toE with
 | some d,some (.slice e),some n',some c'=>match P.info? e with
  | some i=>(i.zero).bind fun z=>(D.Gi nz z).bind fun dz=>
    if n'.same c'=true∧dz.cells.length=i.size∧dz.uI=true then some { val:=.kF d,cA:=some (d,.row (.sym ix) i.size),bind:=some (.ev (.rep i.bytes n' dz)) } else none
  | none=>none
 | _,_,_,_=>none

section
variable {P:Program} {w w0:World} {X:gB} {a:Act} {σ:af} {env:List D} {ρ:cr}

theorem aZ.cellAt {S:Sets}{v:Value}{d:D}(h:aZ w S v d)(hd:d.uI=true) :
  v.cells.size=d.cells.length∧∀(j:Nat) (x:D),d.cells[j]? = some x→x.one=true∧∃u,v.cells[j]? = some u∧aZ w S u x:=by
 have one:d.one=true→v.cells.size=d.cells.length∧∀(j:Nat) (x:D),d.cells[j]? = some x→x.one=true∧∃u,v.cells[j]? = some u∧aZ w S u x:=by
  intro h1
  have hc:v.cells=#[v]:=by
   have:=h.one h1
   cases v <;> first | rfl | simp[Value.oneCell'] at this
  rw[hc,D.gG h1]
  refine⟨rfl,fun j x hx=>?_⟩
  cases j with
  | zero=>simp at hx;subst hx;exact⟨h1,v,rfl,h⟩
  | succ j=>simp at hx
 cases d with
 | agg ds=>
  obtain⟨vs,rfl,hl,ho,hr⟩:=h.iT
  refine⟨hl,fun j x hx=>⟨ho j x hx,?_⟩⟩
  have hj:j<vs.size:=by rw[hl];exact(A0a.1 hx).1
  exact⟨vs[j],A0o hj,hr j _ x (A0o hj) hx⟩
 | aM ds=>cases hd
 | bh _ _ _=>cases h
 | st _=>cases h
 | fm _=>cases h
 | itb _ _ _=>cases h
 | mO _=>cases h
 | BV _ _=>cases h
 | nL _ _ _=>cases h
 | _=>exact one rfl

theorem Eb {o:Oper} {t:TypeId} {n c:Operand} {sn sc:SV} {ix:Nat} {r:bZ} {nz:Bool} (ho:o.op=.makeSlice t n c) (hl:Bi nz P t sn sc o.dst ix=some r) (hn:cu w ρ env (a.eval n) sn) (hc:cu w ρ env (a.eval c) sc) (h:bE w0 X w a σ env ρ)
  (hd:∀d,o.dst=some d→d<σ.tmps.length) (hm:σ.mem.length=σ.tmps.length) (hb:aY P env ix r.bind) (hf:∀u,r.cA=some u→σ.obj u.1=none∧σ.aB u.1):∃ob x,r.cA=some (ob,x)∧cX P o a w w0 X ((σ.setObj ob (some x)).put o.dst r.val) env:=by
 unfold Bi at hl
 split at hl
 ·rename_i d e n' c' fu hu hn' tC
  split at hl
  ·rename_i i hi
   obtain⟨z,hz,hl⟩:=A0c.1 hl
   obtain⟨dz,hdz,hl⟩:=A0c.1 hl
   split at hl
   ·rename_i tA
    cases hl
    obtain⟨hsame,hlen,S9⟩:=tA
    obtain⟨hfree,kN⟩:=hf _ rfl
    refine⟨d,_,rfl,?_⟩
    have eM:=hd d fu
    obtain⟨dn,hdn,UN⟩:=SV.toE_rd hn' hn
    obtain⟨dc,hdc,hrc⟩:=SV.toE_rd tC hc
    rw[←E.b_ hsame,hdn] at hdc
    cases hdc
    obtain⟨dy,bz,bQ⟩:=hb
    simp only[E.eval,hdn,A0d] at bz
    unfold D.rep at bz
    split at bz
    ·rename_i k
     split at bz
     ·rename_i hk
      obtain⟨Aq,hkb,hkm⟩:=hk
      cases bz
      have hzr:aZ w ρ.S z dz:=D.Ba hdz
      obtain⟨hzl,hzc⟩:=hzr.cellAt S9
      rw[hlen] at hzl
      have Tp:k≤9223372036854775807:=by
       have h9:k.toNat≤9223372036854775807:=hkm
       omega
      have hbytes:(i.bytes:Int)*k≤281474976710656:=by
       have h1:((k.toNat*i.bytes:Nat):Int)≤140737488355328:=by
        generalize k.toNat*i.bytes=q at hkb ⊢
        omega
       rw[Int.natCast_mul,Int.toNat_of_nonneg Aq,Int.mul_comm] at h1
       omega
      have hrun:(execOp a.eval o).run P w=.ok (.value (.slice (some ⟨w.heap.size,0,none⟩) k.toNat k.toNat)) (w.alloc (.cells (madeCells z.cells (k.toNat*i.size)) e)):=by
       unfold execOp
       simp only[ho,UN.v_eq,hrc.v_eq,A0k,run_make w t e i z hu hi hz .i64 .i64 k k Aq (Int.le_refl _) hbytes Tp,A0e,A0n]
      have hK:bp ρ.S w (w.alloc (.cells (madeCells z.cells (k.toNat*i.size)) e)):=bp.alloc h.cells _
      have aG:=h.eo (o:=d) (x:=.row (.sym ix) i.size) (v:=.slice (some ⟨w.heap.size,0,none⟩) k.toNat k.toNat) (by rw[hm];exact eM) hfree kN hK (fun b hb=>gr w _ b hb) rfl ⟨rfl,A0m _⟩ rfl (by simp) ?_ ?_
      ·refine bq hrun (aG.put (by rw[fu];intro d' e;cases e;rw[af.aA];exact eM) ?_)
       have hval:(ρ.eo d w.heap.size (.slice (some ⟨w.heap.size,0,none⟩) k.toNat k.toNat)).val d=.slice (some ⟨w.heap.size,0,none⟩) k.toNat k.toNat:=by simp[cr.eo]
       have hs:cu (w.alloc (.cells (madeCells z.cells (k.toNat*i.size)) e)) (ρ.eo d w.heap.size (.slice (some ⟨w.heap.size,0,none⟩) k.toNat k.toNat)) env ((ρ.eo d w.heap.size (.slice (some ⟨w.heap.size,0,none⟩) k.toNat k.toNat)).val d) (.kF d):=.kF
       rwa [hval] at hs
      ·have hbk:(ρ.eo d w.heap.size (.slice (some ⟨w.heap.size,0,none⟩) k.toNat k.toNat)).bh d=w.heap.size:=by simp[cr.eo]
       have EA:∀(m:Nat) (x:D),(List.replicate k.toNat dz)[m]? = some x→x=dz∧m<k.toNat:=by
        intro m x hx
        rw[List.getElem?_replicate] at hx
        split at hx
        ·cases hx;exact⟨rfl,by assumption⟩
        ·cases hx
       refine⟨madeCells z.cells (k.toNat*i.size),e,List.replicate k.toNat dz,by rw[hbk];exact heap_alloc_new w _,by simp only[E.eval];exact bQ,fun m x hx=>by rw[(EA m x hx).1];exact hlen,by simp[size_madeCells],fun m x j y hx hy=>?_,by rw[hbk];simp[cr.eo],by simpa using hkm,fun off hs=>?_⟩
       ·obtain⟨rfl,hmk⟩:=EA m x hx
        obtain⟨h1,u,h2,h3⟩:=hzc j y hy
        have hj:j<i.size:=by rw[←hlen];exact(A0a.1 hy).1
        refine⟨h1,u,?_,h3.keep hK (Sets.le_refl _)⟩
        have hlt:m*i.size+j<k.toNat*i.size:=by
         have:(m+1)*i.size≤k.toNat*i.size:=Nat.mul_le_mul_right _ hmk
         rw[Nat.add_mul,Nat.one_mul] at this
         omega
        have hmod:(m*i.size+j) % i.size=j:=by rw[Nat.mul_comm,Nat.mul_add_mod,Nat.mod_eq_of_lt hj]
        have X7:j<z.cells.size:=by rw[hzl];exact hj
        have jf:u=z.cells[j]:=by rw[A0o X7] at h2;exact(Option.some.inj h2).symm
        simp only[madeCells,Array.getElem?_map,Array.getElem?_range,hlt,if_true,A0y,hzl,hmod,A0u]
        rw[jf]
        exact getElem!_pos z.cells j X7
       ·rw[hbk] at hs
        have:=h.cells _ off hs
        omega
      ·intro b hb
       simpa[bw,cr.eo] using hb.symm
     ·cases bz
    ·cases bz
   ·cases hl
  ·cases hl
 ·cases hl

end
end
end

section
noncomputable section

def Dr (agg:Bool)(n:Nat)(x:E):E:=if agg then .br n x else .aV x

def Bk (agg:Bool)(n:Nat):List SV→Option E
 | []=>some (.const (.a_ []))
 | s :: r=>match s.toE,Bk agg n r with
  | some x,some y=>some (.bP (Dr agg n x) y)
  | _,_=>none

def yE (P:Program)(t:TypeId)(len:Nat)(parts:List (Nat×Operand))(aH:Operand→SV)(dst:Option Tmp)(ix:Nat):Option bZ:=
 match dst,P.underlying t with
 | some d,some (.slice e)=>match P.info? e,iy P e,Bk ((iy P e).getD false) ((o6 P e).getD 0) (parts.map fun p=>aH p.2) with
  | some i,some agg,some y=>
    if parts.map (·.1)=List.range len∧0<i.size∧len*i.size≤16777216∧(agg=true∨i.size=1)∧i.zero.isSome=true then some { val:=.own (.sym ix) d,cA:=some (d,.tok e i.size),bind:=some (.ev y) } else none
  | _,_,_=>none
 | _,_=>none

section
variable {P:Program} {w w0:World} {X:gB} {a:Act} {σ:af} {env:List D} {ρ:cr}

theorem BM {agg:Bool}{n:Nat}{x:E}{d u:D}{v:Value}{S:Sets}(hag:agg=true∨n=1)(hx:x.eval env=some d)(hr:aZ w S v d)(hu:(Dr agg n x).eval env=some u):aZ w S v u∧u.cells.length=n∧u.uI=true:=by
 unfold Dr at hu
 split at hu
 ·simp only[E.eval,hx,A0d] at hu
  unfold D.br at hu
  split at hu
  ·split at hu
   ·rename_i hl;cases hu;exact⟨hr,hl,rfl⟩
   ·cases hu
  ·cases hu
 ·rename_i hna
  simp only[E.eval,hx,A0d] at hu
  unfold D.aV at hu
  split at hu
  ·rename_i h1
   cases hu
   refine⟨hr,?_,?_⟩
   ·rw[D.gG h1,hag.resolve_left hna];rfl
   ·cases d <;> first | rfl | simp[D.one] at h1
  ·cases hu

theorem Ee {agg:Bool}{n:Nat}{S:Sets}(hag:agg=true∨n=1):∀{nP:List SV} {vs:List Value} {y:E} {d:D},Bk agg n nP=some y→vs.length=nP.length→(∀(i:Nat) (v:Value) (s:SV) (x:E),vs[i]? = some v→nP[i]? = some s→s.toE=some x→∃d,x.eval env=some d∧aZ w S v d)→y.eval env=some d →
  ∃ds,d=.a_ ds∧ds.length=vs.length∧∀(i:Nat) (v:Value) (u:D),vs[i]? = some v→ds[i]? = some u→aZ w S v u∧u.cells.length=n∧u.uI=true
 | [],vs,y,d,h,hl,_,hd=>by
  simp[Bk] at h;subst h
  simp[E.eval] at hd;subst hd
  have:vs=[]:=A0w (by simpa using hl)
  subst this
  exact⟨[],rfl,rfl,by simp⟩
 | s :: r,vs,y,d,h,hl,hh,hd=>by
  match vs,hl with
  | v :: vs,hl=>
   simp only[Bk] at h
   split at h
   ·rename_i x y' hx hy
    cases h
    simp only[E.eval,A0c] at hd
    obtain⟨u,hu,d',dY,hc⟩:=hd
    obtain⟨ds,rfl,eM,hds⟩:=Ee (vs:=vs) hag hy (by simpa using hl) (fun i v s x h1 h2 h3=>hh (i+1) v s x (by simpa using h1) (by simpa using h2) h3) dY
    simp only[D.bP,A0u] at hc
    subst hc
    obtain⟨dx,fW,fF⟩:=hh 0 v s x rfl rfl hx
    refine⟨u :: ds,rfl,by simp[eM],fun i v' u' hv jf=>?_⟩
    cases i with
    | zero=>simp at hv jf;subst hv jf;exact BM hag fW fF hu
    | succ i=>exact hds i v' u' (by simpa using hv) (by simpa using jf)
   ·cases h

theorem wh (w:World)(t e:TypeId)(i:TypeInfo)(hu:P.underlying t=some (.slice e))(hi:P.info? e=some i):(Instr.buildSlice t 0 #[]).run P w=.ok (.slice (some ⟨w.heap.size,0,none⟩) 0 0) (w.alloc (.cells #[] e)):=by
 simp[Instr.buildSlice,run_underlying hu,sizeOf,typeInfo,hi,Instr.fill,newRow]
 rw[show Array.range 0=#[] from Array.size_eq_zero_iff.1 (by simp)]
 simp

theorem Cj {o:Oper} {t e:TypeId} {len:Nat} {parts:Array (Nat×Operand)} {aH:Operand→SV} {i:TypeInfo} {agg:Bool} {y:E} {z:Value} {dz:D} (ho:o.op=.buildSlice t len parts) (hv:∀x,cu w ρ env (a.eval x) (aH x)) (hu:P.underlying t=some (.slice e)) (hi:P.info? e=some i)
  (hy:Bk agg i.size (parts.toList.map fun p=>aH p.2)=some y) (hidx:parts.toList.map (·.1)=List.range len) (hpos:0<i.size) (hsmall:len*i.size≤16777216) (p7:agg=true∨i.size=1) (hz:i.zero=some z) (bz:y.eval env=some dz) :
  ∃(r:Array Value) (ds:List D),dz=.a_ ds∧ds.length=len∧(execOp a.eval o).run P w=.ok (.value (.slice (some ⟨w.heap.size,0,none⟩) len len)) (w.alloc (.cells r e))∧r.size=len*i.size∧len≤maxLen∧iP w ρ.S i.size r.toList ds:=by
 have tj:parts.toList.length=len:=by
  have:=congrArg List.length hidx
  simpa using this
 obtain⟨ds,rfl,P6,hds⟩:=Ee (w:=w) (S:=ρ.S) (vs:=parts.toList.map fun p=>a.eval p.2) p7 hy (by simp) (fun j v s x h1 h2 h3=>by
  simp only[A0v,A0b] at h1 h2
  obtain⟨p,hp,rfl⟩:=h1
  obtain⟨q,hq,rfl⟩:=h2
  rw[hp] at hq;cases hq
  exact SV.toE_rd h3 (hv p.2)) bz
 have CJ:ds.length=len:=by rw[P6];simpa using tj
 have hparts:(parts.map fun(x:Nat×Operand)=>(x.1,a.eval x.2)).toList=((parts.toList.map fun p=>a.eval p.2).zipIdx 0).map fun x=>(x.2,x.1):=by
  apply List.ext_getElem?
  intro j
  simp only[Array.toList_map,A0v,List.getElem?_zipIdx,B0k]
  cases hp:parts.toList[j]? with
  | none=>rfl
  | some p=>
   have h1:(parts.toList.map (·.1))[j]? = some p.1:=by rw[A0v,hp];rfl
   rw[hidx] at h1
   have h2:p.1=j:=by
    have hj:j<(List.range len).length:=(A0a.1 h1).1
    rw[List.getElem?_range (by simpa using hj)] at h1
    exact(Option.some.inj h1).symm
   simp[h2]
 have hcs:∀v,v∈parts.toList.map (fun p=>a.eval p.2)→v.cells.size=i.size:=by
  intro v fQ
  obtain⟨j,hj⟩:=List.getElem?_of_mem fQ
  have hjl:j<ds.length:=by rw[P6];exact(A0a.1 hj).1
  obtain⟨h1,h2,h3⟩:=hds j v _ hj (A0f hjl)
  rw[(h1.cellAt h3).1,h2]
 have hrun:∃r:Array Value,(Instr.buildSlice t len (parts.map fun(x:Nat×Operand)=>(x.1,a.eval x.2))).run P w=.ok (.slice (some ⟨w.heap.size,0,none⟩) len len) (w.alloc (.cells r e))∧r.size=len*i.size ∧
   ∀k,k<len*i.size→r[k]? = ((parts.toList.map fun p=>a.eval p.2)[k / i.size]?).bind fun v=>v.cells[k % i.size]?:=by
  rcases Nat.eq_zero_or_pos len with h0 | h0
  ·subst h0
   have:parts=#[]:=by
    have:parts.toList=[]:=A0w tj
    rw[←B0g (xs:=parts),this]
   subst this
   refine⟨#[],?_,by simp,fun k hk=>by simp at hk⟩
   rw[show(#[]:Array (Nat×Operand)).map (fun x=>(x.1,a.eval x.2))=#[] from by simp]
   exact wh w t e i hu hi
  ·have hp':0<len*i.size:=Nat.mul_pos h0 hpos
   obtain⟨r,hr,jE,ue⟩:=Great.fill_dense hpos (parts.toList.map fun p=>a.eval p.2) 0 ((Array.range (len*i.size)).map (z.cells[· % z.cells.size]!)) hcs (by simp[tj])
   refine⟨r,run_buildSlice w t e len _ r i z hu hi hz (by omega) (by omega) (by rw[hparts];exact hr),by rw[jE];simp,fun k hk=>?_⟩
   rw[ue k,if_pos ⟨by omega,by simpa[tj] using hk⟩,Nat.sub_zero]
 obtain⟨r,hrun,jE,ue⟩:=hrun
 have hml:len≤maxLen:=by
  have:len≤len*i.size:=Nat.le_mul_of_pos_right _ hpos
  have h9:len≤9223372036854775807:=by omega
  exact h9
 have FC:∀(j:Nat) (u:D),ds[j]? = some u→u.cells.length=i.size:=fun j u hj=>by
  have hjl:j<(parts.toList.map fun p=>a.eval p.2).length:=by rw[←P6];exact(A0a.1 hj).1
  exact(hds j _ u (A0f hjl) hj).2.1
 have hrow:iP w ρ.S i.size r.toList ds:=by
  refine⟨by simp[jE,CJ],FC,fun j u q x hj hq=>?_⟩
  have hjl:j<(parts.toList.map fun p=>a.eval p.2).length:=by rw[←P6];exact(A0a.1 hj).1
  obtain⟨h1,h2,h3⟩:=hds j _ u (A0f hjl) hj
  obtain⟨h4,v,h5,h6⟩:=(h1.cellAt h3).2 q x hq
  obtain⟨hlt,hqs⟩:=pX FC hj hq
  refine⟨h4,v,?_,h6⟩
  have hdiv:(j*i.size+q) / i.size=j:=by rw[Nat.mul_comm,Nat.mul_add_div hpos,Nat.div_eq_of_lt hqs,Nat.add_zero]
  have hmod:(j*i.size+q) % i.size=q:=by rw[Nat.mul_comm,Nat.mul_add_mod,Nat.mod_eq_of_lt hqs]
  rw[Array.getElem?_toList,ue _ (by rw[←CJ];exact hlt),hdiv,hmod,A0f hjl]
  exact h5
 refine⟨r,ds,rfl,CJ,?_,jE,hml,hrow⟩
 unfold execOp
 simp only[ho,A0k,hrun,A0e,A0n]

theorem GG {o:Oper} {t:TypeId} {len:Nat} {parts:Array (Nat×Operand)} {aH:Operand→SV} {ix:Nat} {r:bZ} (ho:o.op=.buildSlice t len parts) (hv:∀x,cu w ρ env (a.eval x) (aH x)) (hl:yE P t len parts.toList aH o.dst ix=some r) (h:bE w0 X w a σ env ρ)
  (hd:∀d,o.dst=some d→d<σ.tmps.length) (hm:σ.mem.length=σ.tmps.length) (hb:aY P env ix r.bind) (hf:∀u,r.cA=some u→σ.obj u.1=none∧σ.aB u.1):∃ob x,r.cA=some (ob,x)∧cX P o a w w0 X ((σ.setObj ob (some x)).put o.dst r.val) env:=by
 unfold yE at hl
 split at hl
 ·rename_i d e fu hu
  split at hl
  ·rename_i i agg y hi hag hy
   split at hl
   ·rename_i hc
    cases hl
    obtain⟨hidx,hpos,hsmall,p7,hzero⟩:=hc
    obtain⟨hfree,kN⟩:=hf _ rfl
    refine⟨d,_,rfl,?_⟩
    have eM:=hd d fu
    have hsz:o6 P e=some i.size:=by simp[o6,hi]
    rw[hag,hsz] at hy
    simp only[B0m] at hy
    obtain⟨dz,bz,bQ⟩:=hb
    obtain⟨z,hz⟩:=Option.isSome_iff_exists.1 hzero
    obtain⟨r,ds,rfl,CJ,Ez,jE,hml,hrow⟩:=Cj ho hv hu hi hy hidx hpos hsmall p7 hz bz
    have hK:bp ρ.S w (w.alloc (.cells r e)):=bp.alloc h.cells _
    have hown:(w.alloc (.cells r e)).ownsRow 0 e i.size (.slice (some ⟨w.heap.size,0,none⟩) len len) len r.toList:=World.ownsRow_lit w r len (Nat.zero_le _) hml jE
    have aG:=h.Ag (w':=w.alloc (.cells r e)) (k:=d) (by rw[hm];exact eM) hfree kN hown hK (fun o' y' b h1 h2=>?_) (fun b hb=>?_) (fun b hb off _ hS=>?_) rfl ⟨rfl,A0m _⟩ rfl (by simp) (fun b hb _=>gr w _ b (A0s hb h.grown))
    ·refine bq (v:=.slice (some ⟨w.heap.size,0,none⟩) len len) ?_ (aG.put (by rw[fu];intro d' e;cases e;rw[af.aA];exact eM) ?_)
     ·exact Ez
     ·exact .own (es:=ds) (by simp only[E.eval];exact bQ) (B8 hown CJ (hrow.keep hK (ρ.S.mr _)) fun b hb j hj=>.inr ⟨hb,hj⟩) (by simp[cr.iQ])
    ·have:=(h.own o' y' b h1 h2).2
     refine⟨gr w _ b this,?_⟩
     simp[Value.ownBlock]
     omega
    ·simp[Value.ownBlock] at hb
     exact .inl (by rw[←hb];exact h.grown)
    ·simp[Value.ownBlock] at hb
     have:=h.cells b off hS
     omega
   ·cases hl
  ·cases hl
 ·cases hl

end
end
end

section
noncomputable section

def uk (nz:Bool)(z:Value)(parts:List (Nat×SV))(i off size:Nat)(agg:Bool):Option E:=
 match parts.find? (fun p=>p.1==i) with
 | some p=>if agg=true∨size=1 then p.2.toE.map (Dr agg size) else none
 | none=>(D.ic nz ((z.cells.toList.drop off).take size)).bind fun ds=>if ds.length=size then some (.const (.agg ds)) else none

def zS (nz:Bool)(z:Value)(parts:List (Nat×SV)):Nat→Nat→List ((Nat×Nat)×Bool)→Option E
 | _,off,[]=>if off=z.cells.size then some .nil else none
 | i,off,p :: r=>if p.1.1=off then(match uk nz z parts i off p.1.2 p.2,zS nz z parts (i+1) (off+p.1.2) r with
   | some x,some y=>some (.cons x y)
   | _,_=>none) else none

def mu (P:Program)(fields:Array Field):Option (List (Nat×Nat)):=fields.toList.mapM fun f=>(P.info? f.type).map fun i=>(f.offset,i.size)
def fM (P:Program)(fields:Array Field):List Bool:=fields.toList.map fun f=>(iy P f.type).getD false

def Af (pl:List (Nat×Nat)):Bool:=(List.range pl.length).all fun i=>(List.range pl.length).all fun j=>decide (i=j)||(match pl[i]?,pl[j]? with | some p,some q=>Ot p q | _,_=>true)

def Cs (nz:Bool)(P:Program)(t:TypeId)(parts:List (Nat×Operand))(aH:Operand→SV)(ix:Nat):Option bZ:=
 match P.info? t,P.underlying t with
 | some it,some (.struct fields)=>match it.zero,mu P fields with
  | some z,some pl=>match zS nz z (parts.map fun p=>(p.1,aH p.2)) 0 0 (pl.zip (fM P fields)) with
   | some y=>if(parts.map (·.1)).Nodup∧parts.all (fun p=>decide (p.1<pl.length))=true∧Af pl=true then some { val:=.e (.sym ix) false,bind:=some (.ev y) } else none
   | none=>none
  | _,_=>none
 | _,_=>none

section
variable {P:Program} {w w0:World} {X:gB} {a:Act} {σ:af} {env:List D} {ρ:cr}

theorem zQ {nz:Bool}{z:Value}{parts:List (Nat×SV)}(hlen:∀i off size agg x u,uk nz z parts i off size agg=some x→x.eval env=some u→u.cells.length=size):∀{l:List ((Nat×Nat)×Bool)} {i off:Nat} {y:E} {d:D},zS nz z parts i off l=some y→y.eval env=some d →
  ∃cs,d=.agg cs∧off+cs.length=z.cells.size∧(∀(f:Nat) (q:(Nat×Nat)×Bool),l[f]? = some q→q.1.1+q.1.2≤z.cells.size∧∃x u,uk nz z parts (i+f) q.1.1 q.1.2 q.2=some x∧x.eval env=some u) ∧
  ∀k,off≤k→k<z.cells.size→∃f q x u,l[f]? = some q∧q.1.1≤k∧k<q.1.1+q.1.2∧uk nz z parts (i+f) q.1.1 q.1.2 q.2=some x∧x.eval env=some u∧cs[k-off]? = u.cells[k-q.1.1]?
 | [],i,off,y,d,h,hd=>by
  simp only[zS] at h
  split at h
  ·rename_i ho
   cases h
   simp only[E.eval,A0u] at hd
   subst hd
   exact⟨[],rfl,by simpa using ho,by simp,fun k h1 h2=>by omega⟩
  ·cases h
 | q :: r,i,off,y,d,h,hd=>by
  simp only[zS] at h
  split at h
  ·rename_i ho
   split at h
   ·rename_i x y' hx hy
    cases h
    simp only[E.eval,A0c] at hd
    obtain⟨u,hu,d',dY,hc⟩:=hd
    obtain⟨cs,rfl,hl,h1,h2⟩:=zQ hlen hy dY
    have Bp:=hlen _ _ _ _ _ _ hx hu
    have hd2:d=.agg (u.cells++cs):=by
     unfold D.cons at hc
     split at hc <;> first | cases hc;done | (cases hc;rename_i e1 e2;cases e2;rfl) | skip
     all_goals first | (cases hc;rfl) | cases hc
    refine⟨u.cells++cs,hd2,by simp[Bp];omega,fun f q' hq=>?_,fun k hk1 hk2=>?_⟩
    ·cases f with
     | zero=>simp at hq;subst hq;rw[ho];exact⟨by omega,x,u,hx,hu⟩
     | succ f=>
      obtain⟨h5,x',u',h3,h4⟩:=h1 f q' (by simpa using hq)
      exact⟨h5,x',u',by rw[show i+(f+1)=i+1+f from by omega];exact h3,h4⟩
    ·by_cases hk:k<off+q.1.2
     ·refine⟨0,q,x,u,rfl,by omega,by omega,by rw[ho];exact hx,hu,?_⟩
      rw[A0j (by omega),ho]
     ·obtain⟨f,q',x',u',h3,h4,h5,h6,h7,h8⟩:=h2 k (by omega) hk2
      refine⟨f+1,q',x',u',by simpa using h3,h4,h5,by rw[show i+(f+1)=i+1+f from by omega];exact h6,h7,?_⟩
      rw[A0l (by omega),Bp,show k-off-q.1.2=k-(off+q.1.2) from by omega]
      exact h8
   ·cases h
  ·cases h


theorem mN {pl:List (Nat×Nat)}(h:Af pl=true){i j:Nat}{p q:Nat×Nat}(hi:pl[i]? = some p)(hj:pl[j]? = some q)(hne:i≠j):p.1+p.2≤q.1∨q.1+q.2≤p.1:=by
 have h1:=A0z.1 h i (List.mem_range.2 (A0a.1 hi).1)
 have h2:=A0z.1 h1 j (List.mem_range.2 (A0a.1 hj).1)
 simp only[hne,decide_false,Bool.false_or,hi,hj,Ot,Bool.or_eq_true,decide_eq_true_eq] at h2
 exact h2

theorem mapM_length {α β:Type}{f:α→Option β}:∀{l:List α} {r:List β},l.mapM f=some r→r.length=l.length
 | [],r,h=>by simp at h;subst h;rfl
 | a :: l,r,h=>by
  simp only[List.mapM_cons,Option.bind_eq_bind,Option.pure_def,A0c,A0u] at h
  obtain⟨b,_,r',h2,rfl⟩:=h
  simp[mapM_length h2]

theorem Cr {nz:Bool} {o:Oper} {t:TypeId} {parts:Array (Nat×Operand)} {aH:Operand→SV} {ix:Nat} {r:bZ} (ho:o.op=.build t parts) (hv:∀x,cu w ρ env (a.eval x) (aH x)) (hl:Cs nz P t parts.toList aH ix=some r) (h:bE w0 X w a σ env ρ)
  (hd:∀d,o.dst=some d→d<σ.tmps.length) (hb:aY P env ix r.bind):r.cA=none∧cX P o a w w0 X (σ.put o.dst r.val) env:=by
 unfold Cs at hl
 split at hl
 ·rename_i it fields hit hu
  split at hl
  ·rename_i z pl hz qA
   split at hl
   ·rename_i y hy
    split at hl
    ·rename_i hc
     obtain⟨hnd,hin,hap⟩:=hc
     cases hl
     refine⟨rfl,?_⟩
     obtain⟨dz,bz,bQ⟩:=hb
     have adP:pl.length=fields.toList.length:=mapM_length qA
     have xo:∀i off size agg x u,uk nz z (parts.toList.map fun p=>(p.1,aH p.2)) i off size agg=some x→x.eval env=some u→u.cells.length=size ∧
       ((∃p,p∈parts.toList∧p.1=i∧aZ w ρ.S (a.eval p.2) u∧u.uI=true)∨((∀p,p∈parts.toList→p.1≠i)∧∃ds,u=.agg ds∧D.ic nz ((z.cells.toList.drop off).take size)=some ds)):=by
      intro i off size agg x u hx jf
      unfold uk at hx
      split at hx
      ·rename_i p hp
       split at hx
       ·rename_i hag
        obtain⟨x',hx',rfl⟩:=A0b.1 hx
        have hmem:=List.mem_of_find?_eq_some hp
        have hpi:=List.find?_some hp
        simp only[beq_iff_eq] at hpi
        obtain⟨p0,M3,rfl⟩:=B0r.1 hmem
        obtain⟨d,fW,fF⟩:=SV.toE_rd hx' (hv p0.2)
        obtain⟨h1,h2,h3⟩:=BM hag fW fF jf
        exact⟨h2,.inl ⟨p0,M3,hpi,h1,h3⟩⟩
       ·cases hx
      ·rename_i hnone
       obtain⟨ds,hds,hx⟩:=A0c.1 hx
       split at hx
       ·rename_i eM
        cases hx
        simp only[E.eval,A0u] at jf
        subst jf
        refine⟨eM,.inr ⟨fun p hp hpi=>?_,ds,rfl,hds⟩⟩
        have:=List.find?_eq_none.1 hnone (p.1,aH p.2) (B0r.2 ⟨p,hp,rfl⟩)
        simp[hpi] at this
       ·cases hx
     obtain⟨cs,rfl,dP,hf,Kk⟩:=zQ (fun i off size agg x u h1 h2=>(xo i off size agg x u h1 h2).1) hy bz
     rw[B0k] at dP
     have SX:∀(i:Nat) (q:Nat×Nat),pl[i]? = some q→∃b,(pl.zip (fM P fields))[i]? = some (q,b):=by
      intro i q hq
      have hi:=(A0a.1 hq).1
      have hi2:i<(fM P fields).length:=by simp only[fM,List.length_map];omega
      exact⟨(fM P fields)[i],by rw[List.getElem?_zip_eq_some];exact⟨hq,A0f hi2⟩⟩
     have G2:∀(i:Nat) (q:(Nat×Nat)×Bool),(pl.zip (fM P fields))[i]? = some q→pl[i]? = some q.1:=by
      intro i q hq
      rw[List.getElem?_zip_eq_some] at hq
      exact hq.1
     have hpart:∀p,p∈parts.toList→∃off,pl[p.1]? = some (off,(a.eval p.2).cells.size)∧off+(a.eval p.2).cells.size≤z.cells.size:=by
      intro p hp
      have hlt:p.1<pl.length:=by
       have:=A0z.1 hin p hp
       simpa using this
      obtain⟨b,hb⟩:=SX p.1 pl[p.1] (A0f hlt)
      obtain⟨hle,x,u,h1,h2⟩:=hf p.1 _ hb
      rw[B0k] at h1
      obtain⟨h3,h4⟩:=xo _ _ _ _ _ _ h1 h2
      rcases h4 with⟨p',hp',hpi,hr,hnt⟩ | ⟨hno,_⟩
      ·have:=gb hnd hp' hp hpi
       subst this
       have hsz:=(hr.cellAt hnt).1
       rw[h3] at hsz
       exact⟨pl[p'.1].1,by rw[hsz];exact A0f hlt,by rw[hsz];exact hle⟩
      ·exact absurd rfl (hno p hp)
     obtain⟨r,hr,jE,ue⟩:=w4 (place:=fun i=>pl.toArray[i]?) (parts.toList.map fun p=>(p.1,a.eval p.2)) z.cells (fun p hp=>by
      obtain⟨q,hq,rfl⟩:=B0r.1 hp
      obtain⟨off,h1,h2⟩:=hpart q hq
      exact⟨off,by simpa using h1,h2⟩)
     have zc:P.built t (parts.map fun(x:Nat×Operand)=>(x.1,a.eval x.2)).toList=some r:=by
      unfold Program.built
      simp only[hit,hu,hz]
      unfold mu at qA
      simp only[qA,Array.toList_map]
      exact hr
     have hcell:∀(k:Nat) (c:D),cs[k]? = some c→c.one=true∧∃v,r[k]? = some v∧aZ w ρ.S v c:=by
      intro k c hk
      have I4:k<z.cells.size:=by rw[←dP];exact(A0a.1 hk).1
      obtain⟨f,q,x,u,h1,h2,h3,h4,h5,h6⟩:=Kk k (Nat.zero_le _) I4
      rw[Nat.sub_zero] at h6
      rw[B0k] at h4
      have EC:=G2 f q h1
      obtain⟨h7,h8⟩:=xo _ _ _ _ _ _ h4 h5
      have XE:u.cells[k-q.1.1]? = some c:=h6 ▸ hk
      have uW:∀p,p∈parts.toList→p.1≠f→¬Al (fun i=>pl.toArray[i]?) (p.1,a.eval p.2) k:=by
       rintro p hp hne ⟨off,size,h9,h10,h11⟩
       simp only[B0n] at h9
       have:=mN hap h9 EC hne
       simp only at this
       omega
      rcases h8 with⟨p,hp,hpi,hrd,hnt⟩ | ⟨hno,ds,rfl,hds⟩
      ·obtain⟨h9,v,h10,h11⟩:=(hrd.cellAt hnt).2 _ c XE
       have hsz:=(hrd.cellAt hnt).1
       rw[h7] at hsz
       refine⟨h9,v,?_,h11⟩
       have:=(ue k I4).2 (p.1,a.eval p.2) q.1.1 (B0r.2 ⟨p,hp,rfl⟩) (by simp only[B0n,hpi,EC,hsz]) h2 (by simp only[hsz];exact h3) fun q' G5 hne=>by
        obtain⟨p',hp',rfl⟩:=B0r.1 G5
        refine uW p' hp' fun e=>hne ?_
        rw[gb hnd hp' hp (e.trans hpi.symm)]
       rw[this];exact h10
      ·have:=(ue k I4).1 fun q' G5=>by
        obtain⟨p',hp',rfl⟩:=B0r.1 G5
        exact uW p' hp' (hno p' hp')
       rw[this]
       obtain⟨_,hrd⟩:=D.iV (w:=w) (S:=ρ.S) hds
       have iY:((z.cells.toList.drop q.1.1).take q.1.2)[k-q.1.1]? = some z.cells[k]:=by
        rw[B0c,if_pos (by omega),B0o,show q.1.1+(k-q.1.1)=k from by omega]
        simp[I4]
       obtain⟨h9,h10⟩:=hrd _ _ c iY XE
       exact⟨h10,z.cells[k],A0o I4,h9⟩
     refine aI h hd (v:=.agg r) ?_ (.e (d:=.agg cs) (by simp only[E.eval];exact bQ) (.agg (by rw[jE,dP]) (fun k c hk=>(hcell k c hk).1) fun k v c fQ hk=>?_) (by simp))
     ·unfold execOp
      simp only[ho,A0k,run_build w t _ r zc,A0e,A0n]
     ·obtain⟨_,v',h1,h2⟩:=hcell k c hk
      rw[fQ] at h1
      cases h1
      exact h2
    ·cases hl
   ·cases hl
  ·cases hl
 ·cases hl

end
end
end

section
noncomputable section

def eP (obj:Nat→Option aE):Option bV:=
 match obj aO with
 | some (.store cf _)=>some cf
 | _=>none

def CY (agg:Bool)(n:Nat)(x:E):E:=if agg then .br n x else .cons (.aV x) .nil

def MI (o:Oper)(act:List (E×Bool))(obj:Nat→Option aE):Bool:=
 match act,o.dst,eP obj with
 | _ :: _,_,_=>true
 | [],some d,some cf=>cf.Uf.contains d
 | _,_,_=>false

def JZ (P:Program)(o:Oper)(aH:Operand→SV)(act:List (E×Bool))(obj:Nat→Option aE)(ix:Nat):Option bZ:=
 if MI o act obj then
  match o.op with
  | .box t x=>(match iy P t,o6 P t,(aH x).toE with
   | some agg,some n,some x'=>some { val:=.e (.sym ix) true,bind:=some (.ev (.dL (CY agg n x'))) }
   | _,_,_=>none)
  | .buildSlice t len parts=>(yE P t len (parts.toList) aH (some 0) ix).map fun r=>{ val:=.e (.sym ix) true,bind:=r.bind }
  | _=>none
 else none

def Bf:Operand→Bool
 | .const (.slice none 0 0)=>true
 | _=>false

def DR (s:Operand)(sv:SV):SV:=if Bf s=true then .e (.const .cO) true else sv

theorem IG {w:World}{ρ:cr}{env:List D}{a:Act}{s:Operand}{sv:SV}(h:cu w ρ env (a.eval s) sv):cu w ρ env (a.eval s) (DR s sv):=by
 unfold DR
 split
 ·rename_i hn
  unfold Bf at hn
  split at hn
  ·exact .e rfl .cO fun _=>rfl
  ·cases hn
 ·exact h

def pS (P:Program)(o:Oper)(aH:Operand→SV)(hO:Option aE)(ix:Nat):Option bZ:=
 match hO,o.dst with
 | some (.store cf h),some d=>
  if cf.ro then none else match o.op with
  | .alloc t=>if cf.xV.contains d then(match(P.info? t).bind (·.zero) with
   | some z=>(match D.ic cf.aN z.cells.toList with
    | some ds=>some { val:=.e (.aC h) true,cA:=some (aO,.store cf (.sym ix)),bind:=some (.ev (.fK t z.cells.size h (.const (.agg ds)))) }
    | none=>none)
   | none=>none) else none
  | .box t x=>if cf.xV.contains d then(match iy P t,o6 P t,(aH x).toE with
   | some agg,some n,some x'=>if agg=true∨n=1 then some { val:=.e (.aC h) true,cA:=some (aO,.store cf (.sym ix)),bind:=some (.ev (.fK t n h (CY agg n x'))) } else none
   | _,_,_=>none) else none
  | .makeSlice t n c=>if cf.xV.contains d then(match Bi cf.aN P t (aH n) (aH c) (some 0) ix,P.underlying t with
   | some { bind:=some (.ev y),.. },some (.slice e)=>(match P.info? e with
    | some i=>if 0<i.size then some { val:=.e (.cY h y) true,cA:=some (aO,.store cf (.sym ix)),bind:=some (.ev (.dR e i.size h y)) } else none
    | none=>none)
   | _,_=>none) else none
  | .buildSlice t len parts=>if cf.xV.contains d then(match yE P t len parts.toList aH (some 0) ix,P.underlying t with
   | some { bind:=some (.ev y),.. },some (.slice e)=>(match P.info? e with
    | some i=>if 0<i.size then some { val:=.e (.cY h y) true,cA:=some (aO,.store cf (.sym ix)),bind:=some (.ev (.dR e i.size h y)) } else none
    | none=>none)
   | _,_=>none) else none
  | .assign x=>if cf.xV.contains d then(match x with
   | .const (.slice none 0 0)=>some { val:=.e (.const .cO) true }
   | _=>none) else none
  | .call c=>(match c.callee with
   | .builtin .append=>(match c.args.toList,c.argTypes.toList with
    | [s,x],[t,t']=>if t=t'∧¬(Bf s=true∧cf.Uf.contains d=true) then(match DR s (aH s),(aH x).toE,P.underlying t with
     | .e s' _,some x',some (.slice e)=>(match P.info? e with
      | some i=>(match i.zero with
       | some z=>if z.cells.size=i.size∧0<i.size∧e≠Ad then some { val:=.e (.apps h s' x') true,cA:=some (aO,.store cf (.sym ix)),bind:=some (.ev (.fC e i.size i.bytes h s' x')) } else none
       | none=>none)
      | none=>none)
     | _,_,_=>none) else none
    | _,_=>none)
   | _=>none)
  | _=>none
 | _,_=>none

def Im (o:Oper):Bool:=
 match o.op with
 | .load _ _ | .store _ _ _ | .alloc _ | .box _ _ | .makeSlice _ _ _ | .assign _ | .buildSlice _ _ _ | .makeMap _ _ | .mapUpdate _ _ _ _ | .insert _ _ _ _ | .lookup _ _ _ _ | .range _ _ | .entry _ | .mapEntry _ _ _ | .entryStore _ _ _ _ | .next _ true | .convert _ _ _ | .indexAddr _ (.global _) _=>true
 | .call c=>(match c.callee with | .value _=>true | .invoke _ _=>true | .builtin .append=>true | .builtin .len=>true | .builtin .delete=>true | .builtin .unsafeString=>true | _=>false)
 | _=>false

def SV.Gu:SV→Bool
 | .e _ _=>true
 | .cond _ sv=>sv.Gu
 | _=>false

theorem F3 {act:List (E×Bool)}{sv:SV}{x:E}{s:Bool}(h:sv.strip act=.e x s):sv.Gu=true:=by
 unfold SV.strip at h
 split at h
 ·split at h
  ·subst h;rfl
  ·cases h
 ·subst h;rfl

def py:Option aE→Option bV
 | some (.store cf _)=>some cf
 | _=>none

def s6 (cf:Option bV):Callee→Bool
 | .value (.func g)=>(match cf with | some cf=>cf.Px.contains g | none=>false)
 | _=>false

def dN (o:Oper)(m:Operand→Bool)(cf:Option bV):Bool:=
 match o.op with
 | .load _ x=>m x
 | .store _ x _=>m x
 | .alloc _ | .box _ _ | .makeSlice _ _ _ | .buildSlice _ _ _ | .convert _ _ _=>match cf,o.dst with
  | some cf,some d=>cf.xV.contains d
  | _,_=>false
 | .makeMap _ _ | .mapUpdate _ _ _ _ | .insert _ _ _ _ | .lookup _ _ _ _ | .range _ _ | .entry _ | .mapEntry _ _ _ | .entryStore _ _ _ _ | .next _ true | .indexAddr _ (.global _) _=>true
 | .call c=>(match c.callee with
  | .value _=>!s6 cf c.callee
  | .invoke _ _=>true
  | .builtin .append=>match c.args.toList with
   | s :: _=>m s||Bf s
   | []=>false
  | .builtin .len=>(match cf with
   | some cf=>c.argTypes.toList.any cf.maps.contains
   | none=>false)
  | .builtin .delete=>true
  | .builtin .unsafeString=>true
  | _=>false)
 | _=>false

def D7 (P:Program)(o:Oper)(aH:Operand→SV)(obj:Nat→Option aE)(ix:Nat):Option bZ:=
 if Im o=true then pS P o aH (obj aO) ix else none

section
variable {P:Program} {w w0:World} {X:gB} {a:Act} {σ:af} {env:List D} {ρ:cr}

theorem BA {S:Sets}{agg:Bool}{n:Nat}{x:E}{d dc:D}{v:Value}(hx:x.eval env=some d)(hr:aZ w S v d)(hc:(CY agg n x).eval env=some dc):∃cs,dc=.agg cs∧v.cells.size=cs.length∧(agg=true→cs.length=n)∧(agg=false→cs.length=1)∧(∀(i:Nat) (u:Value),v.cells[i]? = some u→u.oneCell'=true) ∧
  (∀(i:Nat) (c:D),cs[i]? = some c→c.one=true)∧∀(i:Nat) (u:Value) (c:D),v.cells[i]? = some u→cs[i]? = some c→aZ w S u c:=by
 unfold CY at hc
 split at hc
 ·rename_i p7
  simp only[E.eval,hx,A0d] at hc
  unfold D.br at hc
  split at hc
  ·rename_i cs
   split at hc
   ·rename_i hl
    cases hc
    obtain⟨vs,rfl,hvl,ho,hh⟩:=hr.iT
    refine⟨cs,rfl,hvl,fun _=>hl,(by simp[p7]),fun i u hu=>?_,fun i c hc=>ho i c hc,hh⟩
    have hi:i<cs.length:=by rw[←hvl];exact(A0h.1 hu).1
    exact(hh i u _ hu (A0f hi)).one (ho i _ (A0f hi))
   ·cases hc
  ·cases hc
 ·rename_i p7
  simp only[E.eval,hx,A0d,D.aV] at hc
  by_cases h1:d.one=true
  ·rw[if_pos h1] at hc
   simp only[A0d,D.Fj h1] at hc
   cases hc
   obtain⟨g1,g2,g3⟩:=hr.Fq (by rw[D.gG h1];simp[h1])
   rw[D.gG h1] at g1 g3
   refine⟨[d],rfl,g1,(by simp[p7]),fun _=>rfl,g2,fun i c hc=>?_,g3⟩
   cases i with
   | zero=>simp at hc;subst hc;exact h1
   | succ i=>simp at hc
  ·rw[if_neg h1] at hc
   cases hc

theorem GN {o:Oper}{aH:Operand→SV}{act:List (E×Bool)}{ix:Nat}{r:bZ}(hv:∀x,cu w ρ env (a.eval x) (aH x))(hl:JZ P o aH act σ.obj ix=some r)(h:bE w0 X w a σ env ρ)(hd:∀d,o.dst=some d→d<σ.tmps.length)(hb:aY P env ix r.bind) :
  r.cA=none∧cX P o a w w0 X (σ.put o.dst r.val) env:=by
 unfold JZ at hl
 split at hl
 ·split at hl
  ·rename_i t x ho
   split at hl
   ·rename_i agg n x' hg hn hx
    cases hl
    obtain⟨dx,fW,fF⟩:=SV.toE_rd hx (hv x)
    obtain⟨d,he,bQ⟩:=hb
    simp only[E.eval,A0c] at he
    obtain⟨dc,hdc,he⟩:=he
    obtain⟨cs,rfl,h1,_,_,h2,h3,h4⟩:=BA fW fF hdc
    simp only[D.dL] at he
    cases he
    have hrun:(execOp a.eval o).run P w=.ok (.value (.pointer (some ⟨w.heap.size,0,none⟩))) (w.alloc (.cells (a.eval x).cells t)):=by
     unfold execOp
     simp only[ho,Instr.box,A0k,A0e,newVar,newRow,A0n,run_newObj]
     rfl
    have aG:=h.Ow (.cells (a.eval x).cells t)
    have hK:bp ρ.S w (w.alloc (.cells (a.eval x).cells t)):=bp.alloc h.cells _
    refine⟨rfl,bq hrun (aG.put hd (.e (d:=.ptr cs) (by simp[E.eval,bQ]) ?_ fun _=>rfl))⟩
    have hcell:∀(j:Nat) (c:D),cs[j]? = some c→∃u,(a.eval x).cells[j]? = some u:=fun j c hj=>⟨_,A0o (by rw[h1];exact(A0a.1 hj).1)⟩
    refine .ptr (val:=fun j=>(a.eval x).cells.getD j undef) h3 (fun j c hj=>.inr rfl) (fun j c hj=>?_) fun j c hj=>?_
    ·obtain⟨u,hu⟩:=hcell j c hj
     rw[eE (heap_alloc_new w _),B0k,hu,A0p,hu]
     rfl
    ·obtain⟨u,hu⟩:=hcell j c hj
     rw[A0p,hu]
     exact(h4 j u c hu hj).keep hK (ρ.S.mr _)
   ·cases hl
  ·rename_i t len parts ho
   obtain⟨r0,OI,rfl⟩:=A0b.1 hl
   unfold yE at OI
   split at OI
   ·rename_i e fu hu
    split at OI
    ·rename_i i agg y hi hag hy
     split at OI
     ·rename_i hc
      cases OI
      obtain⟨hidx,hpos,hsmall,p7,hzero⟩:=hc
      have hsz:o6 P e=some i.size:=by simp[o6,hi]
      rw[hag,hsz] at hy
      simp only[B0m] at hy
      obtain⟨dz,bz,bQ⟩:=hb
      obtain⟨z,hz⟩:=Option.isSome_iff_exists.1 hzero
      obtain⟨r,ds,rfl,CJ,Ez,jE,hml,hrow⟩:=Cj ho hv hu hi hy hidx hpos hsmall p7 hz bz
      have aG:=h.Ow (.cells r e)
      have hK:bp ρ.S w (w.alloc (.cells r e)):=bp.alloc h.cells _
      refine⟨rfl,bq Ez (aG.put hd (.e (d:=.a_ ds) (by simp[E.eval,bQ]) ?_ fun _=>rfl))⟩
      have hown:(w.alloc (.cells r e)).ownsRow 0 e i.size (.slice (some ⟨w.heap.size,0,none⟩) len len) len r.toList:=World.ownsRow_lit w r len (Nat.zero_le _) hml jE
      exact B8 hown CJ (hrow.keep hK (ρ.S.mr _)) fun b hb j hj=>.inr (by simpa[Value.ownBlock] using hb.symm)
     ·cases OI
    ·cases OI
   ·cases OI
  ·cases hl
 ·cases hl

theorem Ca {S:Sets}{size:Nat}{v:Value}{ys:List D}(h:aZ w S v (.a_ ys))(hz:bM size ys=true) :
  (v=.slice none 0 0∧ys=[])∨∃(ad:Addr) (m c:Nat) (news:List Value),v=.slice (some ad) m c∧ys.length=m∧news.length=m*size∧(∀j u,news[j]? = some u→w.cell? (ad.add j)=some u)∧(∀u∈news,u.oneCell'=true)∧iP w S size news ys:=by
 have FC:∀(i:Nat) (e:D),ys[i]? = some e→e.cells.length=size:=fun i e he=>lp hz he
 cases h with
 | nil=>exact .inl ⟨rfl,rfl⟩
 | @emp ad c _=>exact .inr ⟨ad,0,c,[],rfl,rfl,by simp,by simp,by simp,by simp,FC,by simp⟩
 | @a_ b off len cap size' _ val hl hc hm Rh ho hS hw hr=>
  right
  refine⟨⟨b,off,none⟩,len,cap,(List.range (len*size)).map fun q=>val (q / size) (q % size),rfl,hl.symm,by simp,?_,?_,by simp[hl],FC,?_⟩
  all_goals
   have iY:∀q,q<len*size→∃e d,ys[q / size]? = some e∧e.cells[q % size]? = some d∧size'=size:=by
    intro q hq
    have hs:0<size:=by
     rcases Nat.eq_zero_or_pos size with h0 | h0
     ·subst h0;simp at hq
     ·exact h0
    have hi:q / size<ys.length:=by rw[←hl];exact(Nat.div_lt_iff_lt_mul hs).2 hq
    have dP:=FC _ _ (A0f hi)
    have hj:q % size<(ys[q / size]).cells.length:=by rw[dP];exact Nat.mod_lt _ hs
    exact⟨_,_,A0f hi,A0f hj,(Rh _ _ (A0f hi)).symm.trans dP⟩
  ·intro j u hu
   simp only[A0v,A0b] at hu
   obtain⟨q,hq,rfl⟩:=hu
   obtain⟨hjl,rfl⟩:=A0a.1 hq
   simp only[List.length_range] at hjl
   simp only[List.getElem_range]
   obtain⟨e,d,h1,h2,rfl⟩:=iY j hjl
   have:=hw _ _ _ _ h1 h2
   rw[fz]
   have wo:=Nat.div_add_mod j size'
   rw[Nat.mul_comm] at wo
   rw[show off+j=off+j / size'*size'+j % size' from by omega]
   exact this
  ·intro u hu
   simp only[B0r,List.mem_range] at hu
   obtain⟨q,hq,rfl⟩:=hu
   obtain⟨e,d,h1,h2,rfl⟩:=iY q hq
   exact(hr _ _ _ _ h1 h2).one (ho _ _ _ _ h1 h2)
  ·intro i e j d he hd
   obtain⟨hlt,hj⟩:=pX FC he hd
   refine⟨ho _ _ _ _ he hd,val i j,?_,hr _ _ _ _ he hd⟩
   have hq:i*size+j<len*size:=by rw[hl];exact hlt
   rw[A0v,List.getElem?_range hq]
   have hs:0<size:=by omega
   have h1:(i*size+j) / size=i:=by
    rw[Nat.mul_comm,Nat.mul_add_div hs,Nat.div_eq_of_lt hj,Nat.add_zero]
   have h2:(i*size+j) % size=j:=by
    rw[Nat.mul_comm,Nat.mul_add_mod,Nat.mod_eq_of_lt hj]
   simp[h1,h2]

theorem r7 {sz:Nat}:∀{n:Nat} {cs:List D} {i:Nat},i<n→(chunks sz n cs)[i]? = some ((cs.drop (i*sz)).take sz)
 | 0,_,_,h=>absurd h (Nat.not_lt_zero _)
 | n+1,cs,0,_=>by simp[chunks]
 | n+1,cs,i+1,h=>by
  rw[chunks,List.getElem?_cons_succ,r7 (by omega),List.drop_drop,Nat.succ_mul,Nat.add_comm]
theorem jb {sz:Nat}:∀{n:Nat} {cs:List D},(chunks sz n cs).length=n
 | 0,_=>rfl
 | n+1,cs=>by rw[chunks,List.length_cons,jb]

theorem yd {S:Sets}{an:Nat→Prop}{bs:List D}{size:Nat}{v:Value}{dy:D}{ys:List D}(hst:ck w S an bs)(h:aZ w S v dy)(ha:D.Dj (.st bs) size dy=some ys)(hz:bM size ys=true) :
  (ys=[]∧(v=.slice none 0 0∨∃ad c,v=.slice (some ad) 0 c))∨∃(ad:Addr) (m c:Nat) (news:List Value),v=.slice (some ad) m c∧ys.length=m∧news.length=m*size∧(∀j u,news[j]? = some u→w.cell? (ad.add j)=some u)∧(∀u∈news,u.oneCell'=true)∧iP w S size news ys:=by
 unfold D.Dj at ha
 split at ha
 ·cases ha
  rcases Ca h hz with⟨h1,h2⟩ | h1
  ·exact .inl ⟨h2,.inl h1⟩
  ·exact .inr h1
 ·cases ha
  cases h
  exact .inl ⟨rfl,.inl rfl⟩
 ·rename_i j off m
  split at ha
  ·rename_i hm
   subst hm
   cases ha
   cases h
   exact .inl ⟨rfl,.inr ⟨_,_,rfl⟩⟩
  ·obtain⟨bh,jj,ha⟩:=A0c.1 ha
   split at ha
   ·rename_i hfit
    cases ha
    obtain⟨hf,vs,⟨e',hh,hty⟩,hsz,hlen,hone,hr,jk⟩:=hst.cells j _ _ _ (fB jj)
    cases h with
    | @sl _ _ _ c hj hle uY h0=>
    right
    refine⟨⟨S.loc j,off,none⟩,m,c,(vs.toList.drop off).take (m*size),rfl,by simp[jb],?_,fun q u hq=>?_,fun u hu=>?_,?_,fun i e he=>lp hz he,fun i e q d he hd=>?_⟩
    ·rw[B0s,List.length_drop,B0j]
     omega
    ·rw[B0c] at hq
     split at hq
     ·rw[B0o] at hq
      rw[fz]
      simp only[World.cell?,hh]
      simpa using hq
     ·cases hq
    ·obtain⟨q,hq⟩:=List.getElem?_of_mem hu
     rw[B0c] at hq
     split at hq
     ·rename_i hql
      rw[B0o] at hq
      have dP:off+q<bh.2.2.length:=by omega
      have hd:=A0f dP
      exact(hr _ _ _ (by simpa using hq) hd).one (hone _ _ hd)
     ·cases hq
    ·rw[B0s,List.length_drop,B0j,List.length_map,jb]
     omega
    ·have hi:i<m:=by
      have:=(A0a.1 he).1
      rw[List.length_map,jb] at this
      exact this
     rw[A0v,r7 hi] at he
     cases he
     simp only[D.cells] at hd
     rw[B0c] at hd
     split at hd
     ·rename_i hq
      rw[List.drop_drop,B0o] at hd
      have hlt:i*size+q<m*size:=by
       have:(i+1)*size≤m*size:=Nat.mul_le_mul_right _ hi
       rw[Nat.succ_mul] at this
       omega
      refine⟨hone _ _ hd,?_⟩
      have hvl:off+(i*size+q)<vs.size:=by omega
      refine⟨vs[off+(i*size+q)],?_,hr _ _ _ (A0o hvl) (by rw[←Nat.add_assoc];exact hd)⟩
      rw[B0c,if_pos hlt,B0o]
      simp[hvl]
     ·cases hd
   ·cases ha
 ·cases ha

theorem iP.append {S:Sets}{size:Nat}{xs ys:List Value}{es fs:List D}(h:iP w S size xs es)(k:iP w S size ys fs):iP w S size (xs++ys) (es++fs):=by
 obtain⟨h1,h2,h3⟩:=h
 obtain⟨k1,k2,k3⟩:=k
 refine⟨by simp[h1,k1,Nat.add_mul],fun i e he=>?_,fun i e j d he hd=>?_⟩
 ·rw[List.getElem?_append] at he
  split at he
  ·exact h2 i e he
  ·exact k2 _ e he
 ·rw[List.getElem?_append] at he
  split at he
  ·obtain⟨h4,v,h5,h6⟩:=h3 i e j d he hd
   refine⟨h4,v,?_,h6⟩
   rw[A0j (by rw[h1];exact(pX h2 he hd).1)]
   exact h5
  ·rename_i hi
   obtain⟨h4,v,h5,h6⟩:=k3 _ e j d he hd
   refine⟨h4,v,?_,h6⟩
   have hle:es.length*size≤i*size:=Nat.mul_le_mul_right _ (by omega)
   rw[A0l (by rw[h1];omega),h1]
   rw[show i*size+j-es.length*size=(i-es.length)*size+j from by rw[Nat.sub_mul];omega]
   exact h5


/-! ## new blocks of the store -/

def Sets.more (S:Sets)(b k:Nat)(l:Loop×Code:=default):Sets:={ mem:=S.mem,loc:=fun i=>if i=S.n then b else S.loc i,n:=S.n+1,cap:=fun i=>if i=S.n then k else S.cap i,hold:=S.hold,jt:=fun i=>if i=S.n then l else S.jt i }

theorem Sets.qx (S:Sets)(b k:Nat)(l:Loop×Code:=default):S≤S.more b k l:=
 ⟨fun _ _ h=>h,Nat.le_succ _,fun i hi=>by simp[Sets.more,Nat.ne_of_lt hi],fun i hi=>by simp[Sets.more,Nat.ne_of_lt hi],rfl,fun i hi=>by simp[Sets.more,Nat.ne_of_lt hi]⟩

theorem nR {w':World} {bs gi:List D} {k b:Nat} {l:Loop×Code} {z:D} {bf:Nat→Prop} (hst:ck w ρ.S ρ.an bs) (hK:bp ρ.S w w') (pg:gi.length=bs.length) (hold:∀(i:Nat) (x:D),gi[i]? = some x→x.live=true→bs[i]? = some x∧ρ.S.loc i≠b∧w'.heap[ρ.S.loc i]? = w.heap[ρ.S.loc i]?)
  (hf:∀c,bf c↔(ρ.an c∨c=b))
  (uU:∀e sz cs,z=.bh e sz cs→∃vs:Array Value,lA w' b vs e∧vs.size=k*sz∧cs.length≤vs.size∧(∀(j:Nat) (d:D),cs[j]? = some d→d.one=true)∧∀(j:Nat) (v:Value) (d:D),vs[j]? = some v→cs[j]? = some d→aZ w ρ.S v d)
  (K2:∀bH,z=.fm bH→∃(es:Array MapEntry) (clock:Nat),w'.heap[b]? = some (.map es clock)∧eX es clock bH∧∀(j:Nat) (e:MapEntry) (kv:D),es[j]? = some e→(D.kept bH)[j]? = some kv→∃dk dv,kv=.aM [dk,dv]∧aZ w ρ.S e.key dk∧aZ w ρ.S e.val dv)
  (hS:∀off,¬ρ.S b off) (hz3:z.isIt=true→qm (ρ.S.more b k l) ρ.S.n w'.heap[b]? z:=by intro hz;cases hz):ck w' (ρ.S.more b k l) bf (gi++[z]):=by
 have hle:=ρ.S.qx b k l
 have fk:∀(i:Nat) (x:D),(gi++[z])[i]? = some x→(i=ρ.S.n∧x=z)∨(i<ρ.S.n∧gi[i]? = some x):=by
  intro i x hi
  rw[List.getElem?_append] at hi
  split at hi
  ·rename_i hlt
   exact .inr ⟨by rw[hst.n,←pg];exact hlt,hi⟩
  ·rename_i hge
   have hi0:i-gi.length=0:=by
    have:=(A0a.1 hi).1
    simp at this
    omega
   rw[hi0] at hi
   simp only[B0d,A0u] at hi
   exact .inl ⟨by rw[hst.n,←pg];omega,hi.symm⟩
 have h1:(ρ.S.more b k l).loc ρ.S.n=b:=by simp[Sets.more]
 have h2:(ρ.S.more b k l).cap ρ.S.n=k:=by simp[Sets.more]
 refine⟨by simp[Sets.more,hst.n,pg],fun i e' sz' cs' hi=>?_,fun c off hc hs=>?_,fun i bH hi=>?_,fun i j x y hi hj hx hy hl=>?_,fun i y hi hy=>?_⟩
 ·rcases fk i _ hi with⟨rfl,hz⟩ | ⟨hlt,hi⟩
  ·rw[h1,h2]
   obtain⟨vs,g1,g2,g3,g4,g5⟩:=uU _ _ _ hz.symm
   exact⟨(hf b).2 (.inr rfl),vs,g1,g2,g3,g4,fun j v d hv hd=>(g5 j v d hv hd).keep hK hle,hS⟩
  ·obtain⟨hi',hne,hh⟩:=hold i _ hi rfl
   obtain⟨g1,us,g2,g3,g4,g5,g6,g7⟩:=hst.cells i _ _ _ hi'
   rw[hle.loc i hlt,hle.cap i hlt]
   exact⟨(hf _).2 (.inl g1),us,g2.to hh,g3,g4,g5,fun j v d hv hd=>(g6 j v d hv hd).keep hK hle,g7⟩
 ·rcases(hf c).1 hc with h1 | rfl
  ·exact hst.rH c off h1 hs
  ·exact hS off hs
 ·rcases fk i _ hi with⟨rfl,hz⟩ | ⟨hlt,hi⟩
  ·rw[h1]
   obtain⟨es,clock,g1,g2,g3⟩:=K2 _ hz.symm
   refine⟨(hf b).2 (.inr rfl),es,clock,g1,g2,hS,fun j e kv he hkv=>?_⟩
   obtain⟨dk,dv,g4,g5,g6⟩:=g3 j e kv he hkv
   exact⟨dk,dv,g4,g5.keep hK hle,g6.keep hK hle⟩
  ·obtain⟨hi',hne,hh⟩:=hold i _ hi rfl
   obtain⟨g1,es,clock,g2,g3,g4,g5⟩:=hst.maps i _ hi'
   rw[hle.loc i hlt]
   refine⟨(hf _).2 (.inl g1),es,clock,by rw[hh];exact g2,g3,g4,fun j e kv he hkv=>?_⟩
   obtain⟨dk,dv,g6,g7,g8⟩:=g5 j e kv he hkv
   exact⟨dk,dv,g6,g7.keep hK hle,g8.keep hK hle⟩
 ·rcases fk i _ hi with⟨rfl,_⟩ | ⟨hlt,hi⟩ <;> rcases fk j _ hj with⟨rfl,_⟩ | ⟨hlt',hj⟩
  ·rfl
  ·rw[hle.loc j hlt',h1] at hl
   exact absurd hl.symm (hold j _ hj hy).2.1
  ·rw[hle.loc i hlt,h1] at hl
   exact absurd hl (hold i _ hi hx).2.1
  ·rw[hle.loc i hlt,hle.loc j hlt'] at hl
   exact hst.inj i j _ _ (hold i _ hi hx).1 (hold j _ hj hy).1 hx hy hl
 ·rcases fk i _ hi with⟨rfl,hz⟩ | ⟨hlt,hi⟩
  ·subst hz
   rw[h1]
   exact⟨(hf b).2 (.inr rfl),hz3 hy,hS⟩
  ·obtain⟨hi',hne,hh⟩:=hold i _ hi (D.ff hy)
   obtain⟨g1,g2,g4⟩:=hst.pV i _ hi' hy
   rw[hle.loc i hlt,hh]
   exact⟨(hf _).2 (.inl g1),g2.to hle.n hle.loc (hle.jt i hlt) hlt,g4⟩

theorem Ju {w':World} {bs gi:List D} {vs:Array Value} {e:TypeId} {sz k b:Nat} {cs:List D} {bf:Nat→Prop} (hst:ck w ρ.S ρ.an bs) (hK:bp ρ.S w w') (pg:gi.length=bs.length) (hold:∀(i:Nat) (x:D),gi[i]? = some x→x.live=true→bs[i]? = some x∧ρ.S.loc i≠b∧w'.heap[ρ.S.loc i]? = w.heap[ρ.S.loc i]?)
  (hf:∀c,bf c↔(ρ.an c∨c=b)) (hb:w'.heap[b]? = some (.cells vs e (0,0))) (hvs:vs.size=k*sz) (dP:cs.length≤vs.size) (hone:∀(j:Nat) (d:D),cs[j]? = some d→d.one=true)
  (hr:∀(j:Nat) (v:Value) (d:D),vs[j]? = some v→cs[j]? = some d→aZ w ρ.S v d) (hS:∀off,¬ρ.S b off):ck w' (ρ.S.more b k) bf (gi++[.bh e sz cs]):=by
 refine nR hst hK pg hold hf (fun e' sz' cs' hz=>?_) (fun bH hz=>by cases hz) hS
 cases hz
 exact⟨vs,.of hb,hvs,dP,hone,hr⟩

theorem bE.mZ (h:bE w0 X w a σ env ρ) {cf:bV} {x x':E} (bW:σ.obj aO=some (.store cf x)) (hro:cf.ro=false) {bs:List D} (eO:x.eval env=some (.st bs)) {ob:Obj} {k:Nat} {l:Loop×Code} {z:D}
  (uU:∀e sz cs,z=.bh e sz cs→∃vs:Array Value,ob=.cells vs e (0,0)∧vs.size=k*sz∧cs.length≤vs.size∧(∀(j:Nat) (d:D),cs[j]? = some d→d.one=true)∧∀(j:Nat) (v:Value) (d:D),vs[j]? = some v→cs[j]? = some d→aZ w ρ.S v d)
  (K2:∀bH,z=.fm bH→∃(es:Array MapEntry) (clock:Nat),ob=.map es clock∧eX es clock bH∧∀(j:Nat) (e:MapEntry) (kv:D),es[j]? = some e→(D.kept bH)[j]? = some kv→∃dk dv,kv=.aM [dk,dv]∧aZ w ρ.S e.key dk∧aZ w ρ.S e.val dv)
  (hx':x'.eval env=some (.st (bs++[z]))) (hz3:z.isIt=true→qm (ρ.S.more w.heap.size k l) ρ.S.n (some ob) z:=by intro hz;cases hz) :
  bE w0 X (w.alloc ob) a (σ.setObj aO (some (.store cf x'))) env { ρ with S:=ρ.S.more w.heap.size k l,an:=fun c=>ρ.an c∨c=w.heap.size }∧ρ.S.n=bs.length:=by
 obtain⟨nF,hb0,hst,_⟩:=h.cn _ _ bW
 rw[eO] at hb0
 cases hb0
 have hK:bp ρ.S w (w.alloc ob):=bp.alloc h.cells _
 have hfl:∀b,ρ.an b→b<w.heap.size:=eC h bW
 refine⟨h.eI bW hro hx' (nR hst hK rfl (fun i x hi hx=>?_) (fun _=>Iff.rfl) (fun e sz cs hz=>?_) (fun bH hz=>?_) (fun off hs=>?_) fun hz=>?_) hK (ρ.S.qx _ _ _) rfl ⟨rfl,A0m _⟩ rfl (by simp) (fun b hb _=>gr w _ b hb) (fun b hb=>?_) (fun b o hs=>.inl hs) (fun b o hs=>?_),hst.n⟩
 ·have:=hfl _ (hst.gF hi hx)
  exact⟨hi,Nat.ne_of_lt this,gr w _ _ this⟩
 ·obtain⟨vs,rfl,g⟩:=uU e sz cs hz
  exact⟨vs,.of (heap_alloc_new w _),g⟩
 ·obtain⟨es,clock,rfl,g⟩:=K2 bH hz
  exact⟨es,clock,heap_alloc_new w _,g⟩
 ·have:=h.cells _ off hs;omega
 ·rw[heap_alloc_new w]
  exact hz3 hz
 ·rcases hb with hb | rfl
  ·exact⟨.inl hb,by have:=hfl b hb;simp;omega⟩
  ·exact⟨.inr (A0m _),by simp⟩
 ·have:=h.cells b o hs;simp;omega

theorem bE.sU (h:bE w0 X w a σ env ρ) {cf:bV} {x x':E} (bW:σ.obj aO=some (.store cf x)) (hro:cf.ro=false) {bs:List D} (eO:x.eval env=some (.st bs)) {vs:Array Value} {e:TypeId} {sz k:Nat} {cs:List D} (hvs:vs.size=k*sz) (dP:cs.length≤vs.size) (hone:∀(j:Nat) (d:D),cs[j]? = some d→d.one=true)
  (hr:∀(j:Nat) (v:Value) (d:D),vs[j]? = some v→cs[j]? = some d→aZ w ρ.S v d) (hx':x'.eval env=some (.st (bs++[.bh e sz cs]))) :
  bE w0 X (w.alloc (.cells vs e)) a (σ.setObj aO (some (.store cf x'))) env { ρ with S:=ρ.S.more w.heap.size k,an:=fun c=>ρ.an c∨c=w.heap.size }∧ρ.S.n=bs.length:=by
 refine h.mZ bW hro eO (fun e' sz' cs' hz=>?_) (fun bH hz=>by cases hz) hx'
 cases hz
 exact⟨vs,rfl,hvs,dP,hone,hr⟩

theorem zW {size:Nat}:∀{es:List D},bM size es=true→(bI es).length=es.length*size
 | [],_=>by simp[bI]
 | e :: es,h=>by
  simp only[bM,List.all_cons,A0g,beq_iff_eq] at h
  have ih:=zW (es:=es) (size:=size) (by simpa[bM] using h.2)
  simp only[bI,List.flatMap_cons,A0t,List.length_cons] at ih ⊢
  rw[ih,h.1,Nat.add_mul,Nat.one_mul,Nat.add_comm]

theorem zX {size:Nat}(hs:0<size):∀{es:List D},bM size es=true→∀{j:Nat} {d:D},(bI es)[j]? = some d→∃e,es[j / size]? = some e∧e.cells[j % size]? = some d
 | [],_,j,d,h=>by simp[bI] at h
 | e :: es,h,j,d,hj=>by
  simp only[bM,List.all_cons,A0g,beq_iff_eq] at h
  simp only[bI,List.flatMap_cons] at hj
  rcases Nat.lt_or_ge j size with hlt | hge
  ·rw[A0j (by omega)] at hj
   exact⟨e,by rw[Nat.div_eq_of_lt hlt];rfl,by rw[Nat.mod_eq_of_lt hlt];exact hj⟩
  ·rw[A0l (by omega),h.1] at hj
   obtain⟨e',h1,h2⟩:=zX hs (es:=es) (by simpa[bM] using h.2) hj
   have hd:j / size=(j-size) / size+1:=by
    rw[Nat.div_eq_sub_div hs hge]
   have hm:j % size=(j-size) % size:=by rw[Nat.mod_eq_sub_mod hge]
   exact⟨e',by rw[hd];simpa using h1,by rw[hm];exact h2⟩

theorem iP.flat {S:Sets}{size:Nat}{xs:List Value}{es:List D}(hs:0<size)(h:iP w S size xs es):bM size es=true∧(bI es).length=xs.length∧∀(j:Nat) (v:Value) (d:D),xs[j]? = some v→(bI es)[j]? = some d→aZ w S v d∧d.one=true:=by
 obtain⟨h1,h2,h3⟩:=h
 have hall:bM size es=true:=by
  unfold bM
  rw[A0z]
  intro e he
  obtain⟨i,hi⟩:=List.getElem?_of_mem he
  simpa using h2 i e hi
 refine⟨hall,by rw[zW hall,h1],fun j v d hv hd=>?_⟩
 obtain⟨e,he,dY⟩:=zX hs hall hd
 obtain⟨g1,u,g2,g3⟩:=h3 _ e _ d he dY
 have wo:j / size*size+j % size=j:=by rw[Nat.mul_comm];exact Nat.div_add_mod j size
 rw[wo,hv] at g2
 cases g2
 exact⟨g3,g1⟩

theorem tF {w':World}{k:Nat}{hx:E}{bs:List D}{bf:Nat→Prop}(eO:hx.eval env=some (.st bs))(hn:ρ.S.n=bs.length):cu w' { ρ with S:=ρ.S.more w.heap.size k,an:=bf } env (.pointer (some ⟨w.heap.size,0,none⟩)) (.e (.aC hx) true):=by
 refine .e (d:=.loc bs.length 0) (by simp only[E.eval,eO];rfl) ?_ fun _=>rfl
 have:=aZ.loc (w:=w') (S:=ρ.S.more w.heap.size k) (i:=bs.length) (off:=0) (by simp[Sets.more,hn])
 have hl:(ρ.S.more w.heap.size k).loc bs.length=w.heap.size:=by simp[Sets.more,hn]
 rwa [hl] at this

theorem ET {w':World}{hx y:E}{bs:List D}{es:List D}{bf:Nat→Prop}(eO:hx.eval env=some (.st bs))(K4:y.eval env=some (.a_ es))(hm:es.length≤maxLen)(hn:ρ.S.n=bs.length):cu w' { ρ with S:=ρ.S.more w.heap.size es.length,an:=bf } env (.slice (some ⟨w.heap.size,0,none⟩) es.length es.length) (.e (.cY hx y) true):=by
 refine .e (d:=.sl bs.length 0 es.length) (by simp only[E.eval,eO,K4];rfl) ?_ fun _=>rfl
 have:=aZ.sl (w:=w') (S:=ρ.S.more w.heap.size es.length) (i:=bs.length) (off:=0) (len:=es.length) (c:=es.length) (by simp[Sets.more,hn]) (A0m _) hm (fun _=>by simp[Sets.more,hn])
 have hl:(ρ.S.more w.heap.size es.length).loc bs.length=w.heap.size:=by simp[Sets.more,hn]
 rwa [hl] at this

theorem Mp {o:Oper}{t:TypeId}{len:Nat}{parts:Array (Nat×Operand)}{aH:Operand→SV}{ix dd:Nat}{r:bZ}{y:E}{dl:D}(ho:o.op=.buildSlice t len parts)(hv:∀x,cu w ρ env (a.eval x) (aH x))(hl:yE P t len parts.toList aH (some dd) ix=some r)(hy:r.bind=some (.ev y))(FD:y.eval env=some dl) :
  ∃(e:TypeId) (i:TypeInfo) (es:List D) (vs:Array Value),P.underlying t=some (.slice e)∧P.info? e=some i∧dl=.a_ es∧(execOp a.eval o).run P w=.ok (.value (.slice (some ⟨w.heap.size,0,none⟩) es.length es.length)) (w.alloc (.cells vs e))∧vs.size=es.length*i.size∧es.length≤maxLen∧iP w ρ.S i.size vs.toList es:=by
 unfold yE at hl
 split at hl
 ·rename_i d e fu hu
  split at hl
  ·rename_i i agg y' hi hag hy'
   split at hl
   ·rename_i hc
    cases hl
    cases hy
    obtain⟨hidx,hpos,hsmall,p7,hzero⟩:=hc
    have hsz:o6 P e=some i.size:=by simp[o6,hi]
    rw[hag,hsz] at hy'
    simp only[B0m] at hy'
    obtain⟨z,hz⟩:=Option.isSome_iff_exists.1 hzero
    obtain⟨r,ds,rfl,CJ,Ez,jE,hml,hrow⟩:=Cj ho hv hu hi hy' hidx hpos hsmall p7 hz FD
    subst CJ
    exact⟨e,i,ds,r,hu,hi,rfl,Ez,jE,hml,hrow⟩
   ·cases hl
  ·cases hl
 ·cases hl

theorem JV {o:Oper}{t:TypeId}{n c:Operand}{sn sc:SV}{ix dd:Nat}{r:bZ}{y:E}{dl:D}{nz:Bool}(ho:o.op=.makeSlice t n c)(hl:Bi nz P t sn sc (some dd) ix=some r)(hn:cu w ρ env (a.eval n) sn)(hc:cu w ρ env (a.eval c) sc)(hy:r.bind=some (.ev y))(FD:y.eval env=some dl) :
  ∃(e:TypeId) (i:TypeInfo) (es:List D) (vs:Array Value),P.underlying t=some (.slice e)∧P.info? e=some i∧dl=.a_ es∧(execOp a.eval o).run P w=.ok (.value (.slice (some ⟨w.heap.size,0,none⟩) es.length es.length)) (w.alloc (.cells vs e))∧vs.size=es.length*i.size∧es.length≤maxLen∧iP w ρ.S i.size vs.toList es:=by
 unfold Bi at hl
 split at hl
 ·rename_i d e n' c' fu hu hn' tC
  split at hl
  ·rename_i i hi
   obtain⟨z,hz,hl⟩:=A0c.1 hl
   obtain⟨dz,hdz,hl⟩:=A0c.1 hl
   split at hl
   ·rename_i tA
    cases hl
    cases hy
    obtain⟨hsame,hlen,S9⟩:=tA
    obtain⟨dn,hdn,UN⟩:=SV.toE_rd hn' hn
    obtain⟨dc,hdc,hrc⟩:=SV.toE_rd tC hc
    rw[←E.b_ hsame,hdn] at hdc
    cases hdc
    simp only[E.eval,hdn,A0d] at FD
    unfold D.rep at FD
    split at FD
    ·rename_i k
     split at FD
     ·rename_i hk
      obtain⟨Aq,hkb,hkm⟩:=hk
      cases FD
      have hzr:aZ w ρ.S z dz:=D.Ba hdz
      obtain⟨hzl,hzc⟩:=hzr.cellAt S9
      rw[hlen] at hzl
      have Tp:k≤9223372036854775807:=by
       have h9:k.toNat≤9223372036854775807:=hkm
       omega
      have hbytes:(i.bytes:Int)*k≤281474976710656:=by
       have h1:((k.toNat*i.bytes:Nat):Int)≤140737488355328:=by
        generalize k.toNat*i.bytes=q at hkb ⊢
        omega
       rw[Int.natCast_mul,Int.toNat_of_nonneg Aq,Int.mul_comm] at h1
       omega
      have hrun:(execOp a.eval o).run P w=.ok (.value (.slice (some ⟨w.heap.size,0,none⟩) k.toNat k.toNat)) (w.alloc (.cells (madeCells z.cells (k.toNat*i.size)) e)):=by
       unfold execOp
       simp only[ho,UN.v_eq,hrc.v_eq,A0k,run_make w t e i z hu hi hz .i64 .i64 k k Aq (Int.le_refl _) hbytes Tp,A0e,A0n]
      have EA:∀(m:Nat) (x:D),(List.replicate k.toNat dz)[m]? = some x→x=dz∧m<k.toNat:=by
       intro m x hx
       rw[List.getElem?_replicate] at hx
       split at hx
       ·cases hx;exact⟨rfl,by assumption⟩
       ·cases hx
      refine⟨e,i,List.replicate k.toNat dz,madeCells z.cells (k.toNat*i.size),hu,hi,rfl,by simpa using hrun,by simp[size_madeCells],by simpa using hkm,by simp[size_madeCells],fun m x hx=>by rw[(EA m x hx).1];exact hlen,fun m x j y hx hy=>?_⟩
      obtain⟨rfl,hmk⟩:=EA m x hx
      obtain⟨h1,u,h2,h3⟩:=hzc j y hy
      have hj:j<i.size:=by rw[←hlen];exact(A0a.1 hy).1
      refine⟨h1,u,?_,h3⟩
      have hlt:m*i.size+j<k.toNat*i.size:=by
       have:(m+1)*i.size≤k.toNat*i.size:=Nat.mul_le_mul_right _ hmk
       rw[Nat.add_mul,Nat.one_mul] at this
       omega
      have hmod:(m*i.size+j) % i.size=j:=by rw[Nat.mul_comm,Nat.mul_add_mod,Nat.mod_eq_of_lt hj]
      have X7:j<z.cells.size:=by rw[hzl];exact hj
      have jf:u=z.cells[j]:=by rw[A0o X7] at h2;exact(Option.some.inj h2).symm
      rw[Array.getElem?_toList]
      simp only[madeCells,Array.getElem?_map,Array.getElem?_range,hlt,if_true,A0y,hzl,hmod,A0u]
      rw[jf]
      exact getElem!_pos z.cells j X7
     ·cases FD
    ·cases FD
   ·cases hl
  ·cases hl
 ·cases hl

theorem Jk {h:D}{sz:Nat}{y:D}{ys:List D}(ha:D.Dj h sz y=some ys):D.cnt y=some ys.length:=by
 unfold D.Dj at ha
 split at ha
 ·cases ha;rfl
 ·cases ha;rfl
 ·split at ha
  ·rename_i hm
   subst hm
   cases ha;rfl
  ·obtain⟨b,_,ha⟩:=A0c.1 ha
   split at ha
   ·cases ha
    simp[D.cnt,jb]
   ·cases ha
 ·cases ha

theorem BH {o:Oper} {t e:TypeId} {s x:Operand} {i:TypeInfo} {cf:bV} {hx s' x':E} {ix n cap:Nat} {ad:Option Addr} {bs:List D} {ds:D} (ho:o.op=.call { callee:=.builtin .append,args:=#[s,x],argTypes:=#[t,t] }) (hu:P.underlying t=some (.slice e)) (hi:P.info? e=some i)
  (bW:σ.obj aO=some (.store cf hx)) (hro:cf.ro=false) (eO:hx.eval env=some (.st bs)) (mH:a.eval x=.slice none 0 0∨∃ad c,a.eval x=.slice (some ad) 0 c) (rP:a.eval s=.slice ad n cap) (hcap:n≤cap) (jE:aZ w ρ.S (a.eval s) ds) (hone:ds.one=true)
  (bQ:env[ix]? = some (.st bs)) (hval:(E.apps hx s' x').eval env=some ds) (h:bE w0 X w a σ env ρ) (hd:∀d,o.dst=some d→d<σ.tmps.length) :
  cX P o a w w0 X ((σ.setObj aO (some (.store cf (.sym ix)))).put o.dst (.e (.apps hx s' x') true)) env:=by
 obtain⟨nF,hb0,hst,_⟩:=h.cn _ _ bW
 rw[eO] at hb0
 cases hb0
 have aG:=h.eI (x':=.sym ix) bW hro (by simpa[E.eval] using bQ) hst (bp.refl _ _) (Sets.le_refl _) rfl ⟨rfl,A0m _⟩ rfl (A0m _) (fun _ _ _=>rfl) (fun b hb=>⟨.inl hb,eC h bW b hb⟩) (fun b o hs=>.inl hs) h.cells
 have hrun:(Builtin.append_ #[t,t] o.type #[a.eval s,a.eval x]).run P w=.ok (a.eval s) w:=by
  rcases mH with CC | ⟨ad2,c,CC⟩
  ·rw[CC,rP]
   exact iR w t o.type e i hu hi ad n cap hcap
  ·rw[CC,rP]
   exact wi w t o.type e i hu hi ad n cap hcap ad2 c
 refine bq (v:=a.eval s) ?_ (aG.put (by intro d e;rw[af.aA];exact hd d e) (.e hval jE fun _=>hone))
 unfold execOp
 simp only[ho,resolve,invoke,builtin,A0k,A0n,A0e,List.map_toArray,List.map_cons,List.map_nil,hrun]

theorem z_ {o:Oper} {e:TypeId} {i:TypeInfo} {cf:bV} {hx vE:E} {vs:Value} {ix m' n:Nat} {bs gi:List D} {ys cs:List D} {xs news:List Value} {v':Value} {w':World} (hpos:0<i.size)
  (bW:σ.obj aO=some (.store cf hx)) (hro:cf.ro=false) (eO:hx.eval env=some (.st bs)) (hne:ys≠[]) (SY:ys.length=m') (Br:(bI ys).all (·.one)=true) (EE:∀(j:Nat) (d:D),cs[j]? = some d→d.one=true)
  (hown:w.ownsRow 0 e i.size vs n xs) (dP:cs.length=n*i.size) (De:∀(j:Nat) (v:Value) (d:D),xs[j]? = some v→cs[j]? = some d→aZ w ρ.S v d)
  (pg:gi.length=bs.length) (Bq:∀b,vs.ownBlock=some b→ρ.an b∧(∀off,¬ρ.S b off)∧∀(j:Nat) (x:D),gi[j]? = some x→x.live=true→ρ.S.loc j≠b) (hold:∀(j:Nat) (x:D),gi[j]? = some x→x.live=true→bs[j]? = some x)
  (bQ:env[ix]? = some (.st (gi++[.bh e i.size (cs++bI ys)]))) (hval:vE.eval env=some (.sl bs.length 0 (n+m'))) (h:bE w0 X w a σ env ρ) (hd:∀d,o.dst=some d→d<σ.tmps.length)
  (hrun:(execOp a.eval o).run P w=.ok (.value v') w') (hown':w'.ownsRow 0 e i.size v' (n+m') (xs++news)) (fk:(v'.ownBlock=vs.ownBlock∧Ld w w' vs.ownBlock)∨(v'.ownBlock=some w.heap.size∧Ld w w' none))
  (Ka:news.length=m'*i.size) (P4:(bI ys).length=news.length) (hfr:∀(j:Nat) (v:Value) (d:D),news[j]? = some v→(bI ys)[j]? = some d→aZ w ρ.S v d∧d.one=true) :
  cX P o a w w0 X ((σ.setObj aO (some (.store cf (.sym ix)))).put o.dst (.e vE true)) env:=by
 obtain⟨nF,hb0,hst,_⟩:=h.cn _ _ bW
 rw[eO] at hb0
 cases hb0
 have hfl:=eC h bW
 have agL:0<m':=by
  rw[←SY]
  exact List.length_pos_iff.2 hne
 rcases hown'.2 with⟨_,h0⟩ | ⟨g,cap,cur,rfl,_,hg,hnc,uY,hcs,th⟩
 ·omega
 have hK:bp ρ.S w w':=by
  intro b off hS
  refine World.cell?_of_block (a:=⟨b,off,none⟩) ?_
  rcases fk with⟨fQ,pq⟩ | ⟨_,pq⟩
  ·refine pq.block b (h.cells b off hS) fun he=>?_
   exact(Bq b he.symm).2.1 off hS
  ·exact pq.block b (h.cells b off hS) (by simp)
 have gZ:w'.os=w.os∧TL w' w∧w'.output=w.output∧w.heap.size≤w'.heap.size:=by
  rcases fk with⟨_,pq⟩ | ⟨_,pq⟩ <;> exact⟨pq.os,pq.tape,pq.output,pq.size⟩
 have ON:(ρ.an g∨g=w.heap.size)∧(∀off,¬ρ.S g off)∧(∀(j:Nat) (x:D),gi[j]? = some x→x.live=true→ρ.S.loc j≠g)∧g<w'.heap.size:=by
  have Ya:g<w'.heap.size:=(A0h.1 hg).1
  rcases fk with⟨fQ,pq⟩ | ⟨fQ,pq⟩
  ·obtain⟨g1,g2,g3⟩:=Bq g fQ.symm
   exact⟨.inl g1,g2,g3,Ya⟩
  ·have hge:g=w.heap.size:=by simpa[Value.ownBlock] using fQ
   refine⟨.inr hge,fun off hs=>?_,fun j x hj hx hl=>?_,Ya⟩
   ·have:=h.cells g off hs;omega
   ·have:=hfl _ (hst.gF (hold j _ hj hx) hx);omega
 have mI:∀b,b<w.heap.size→b≠g→w'.heap[b]? = w.heap[b]?:=by
  intro b hb yX
  rcases fk with⟨fQ,pq⟩ | ⟨_,pq⟩
  ·refine pq.block b hb fun he=>?_
   have:some b=some g:=by rw[he,←fQ];rfl
   cases this
   exact yX rfl
  ·exact pq.block b hb (by simp)
 have hxl:xs.length=n*i.size:=hown.1
 have P9:∀(j:Nat) (v:Value),cur[j]? = some v→j<(n+m')*i.size→(xs++news)[j]? = some v:=by
  intro j v hj hlt
  rw[←th,B0c,if_pos hlt]
  simpa using hj
 have CG:ck w' (ρ.S.more g cap) (fun b=>ρ.an b∨b=g) (gi++[.bh e i.size (cs++bI ys)]):=by
  refine Ju hst hK pg (fun j x hj hx=>?_) (fun _=>Iff.rfl) hg hcs ?_ (fun j d hj=>?_) (fun j v d hv Ar=>?_) ON.2.1
  ·have hj':=hold j _ hj hx
   have:=ON.2.2.1 j _ hj hx
   exact⟨hj',this,mI _ (hfl _ (hst.gF hj' hx)) this⟩
  ·rw[A0t,dP,P4,Ka,hcs,←Nat.add_mul]
   exact Nat.mul_le_mul_right _ hnc
  ·rw[List.getElem?_append] at hj
   split at hj
   ·exact EE j d hj
   ·exact A0z.1 Br d (B0i hj)
  ·have hjl:j<(n+m')*i.size:=by
    have:=(A0a.1 Ar).1
    rw[A0t,dP,P4,Ka,←Nat.add_mul] at this
    exact this
   have PI:=P9 j v hv hjl
   rw[List.getElem?_append] at Ar PI
   split at Ar
   ·rename_i hlt
    rw[if_pos (by omega)] at PI
    exact De j v d PI Ar
   ·rename_i hlt
    rw[if_neg (by omega),hxl] at PI
    rw[dP] at Ar
    exact(hfr _ v d PI Ar).1
 have aG:=h.eI (x':=.sym ix) bW hro (by simp only[E.eval];exact bQ) CG hK (ρ.S.qx g cap) gZ.1 gZ.2.1 gZ.2.2.1 gZ.2.2.2 (fun b hb hnf=>mI b hb fun e'=>?_) (fun b hb=>?_) (fun b off hs=>.inl hs) (fun b off hs=>A0s (h.cells b off hs) gZ.2.2.2)
 ·refine bq (v:=.slice (some ⟨g,0,none⟩) (n+m') cap) ?_ (aG.put (by rw[af.aA];exact hd) (.e (d:=.sl bs.length 0 (n+m')) hval ?_ fun _=>rfl))
  ·exact hrun
  ·have:=aZ.sl (w:=w') (S:=ρ.S.more g cap) (i:=bs.length) (off:=0) (len:=n+m') (c:=cap) (by simp[Sets.more,hst.n]) hnc uY (fun _=>by simp[Sets.more,hst.n])
   have hl:(ρ.S.more g cap).loc bs.length=g:=by simp[Sets.more,hst.n]
   rwa [hl] at this
 ·subst e'
  rcases ON.1 with h1 | h1
  ·exact hnf h1
  ·omega
 ·rcases hb with hb | rfl
  ·exact⟨.inl hb,A0s (hfl b hb) gZ.2.2.2⟩
  ·refine⟨?_,ON.2.2.2⟩
   rcases ON.1 with h1 | h1
   ·exact .inl h1
   ·exact .inr (by omega)

theorem z9 {o:Oper} {t e:TypeId} {s x:Operand} {i:TypeInfo} {z:Value} {cf:bV} {hx s' x':E} {ix m n:Nat} {bs gi:List D} {ys cs:List D} {xs:List Value} (ho:o.op=.call { callee:=.builtin .append,args:=#[s,x],argTypes:=#[t,t] }) (hu:P.underlying t=some (.slice e)) (hi:P.info? e=some i) (hz:i.zero=some z) (hzs:z.cells.size=i.size) (hpos:0<i.size)
  (bW:σ.obj aO=some (.store cf hx)) (hro:cf.ro=false) (eO:hx.eval env=some (.st bs)) {dy:D} (fF:aZ w ρ.S (a.eval x) dy) (o9:D.Dj (.st bs) i.size dy=some ys) (hne:ys≠[]) (K3:ys.length=m) (hall:bM i.size ys=true) (Br:(bI ys).all (·.one)=true) (EE:∀(j:Nat) (d:D),cs[j]? = some d→d.one=true)
  (hown:w.ownsRow 0 e i.size (a.eval s) n xs) (dP:cs.length=n*i.size) (De:∀(j:Nat) (v:Value) (d:D),xs[j]? = some v→cs[j]? = some d→aZ w ρ.S v d) (hml:n+m≤maxLen) (hby:(n+m)*i.bytes≤140737488355328)
  (pg:gi.length=bs.length) (Bq:∀b,(a.eval s).ownBlock=some b→ρ.an b∧(∀off,¬ρ.S b off)∧∀(j:Nat) (x:D),gi[j]? = some x→x.live=true→ρ.S.loc j≠b) (hold:∀(j:Nat) (x:D),gi[j]? = some x→x.live=true→bs[j]? = some x)
  (bQ:env[ix]? = some (.st (gi++[.bh e i.size (cs++bI ys)]))) (hval:(E.apps hx s' x').eval env=some (.sl bs.length 0 (n+m))) (h:bE w0 X w a σ env ρ) (hd:∀d,o.dst=some d→d<σ.tmps.length) :
  cX P o a w w0 X ((σ.setObj aO (some (.store cf (.sym ix)))).put o.dst (.e (.apps hx s' x') true)) env:=by
 obtain⟨nF,hb0,hst,_⟩:=h.cn _ _ bW
 rw[eO] at hb0
 cases hb0
 have hfl:=eC h bW
 rcases yd hst fF o9 hall with⟨h1,_⟩ | ⟨ad,m',c,news,CC,SY,Ka,hcells,hone,qZ⟩
 ·exact absurd h1 hne
 ·obtain rfl:m'=m:=by omega
  obtain⟨v',w',hrun,hown',fk⟩:=jO (P:=P) w t o.type e i z i.size i.bytes hu hi hz rfl rfl hzs hpos (a.eval s) n xs hown ad m' c news Ka hcells hone hml hby
  rw[←CC] at hrun
  have hex:(execOp a.eval o).run P w=.ok (.value v') w':=by
   unfold execOp
   simp only[ho,resolve,invoke,builtin,A0k,A0n,A0e,List.map_toArray,List.map_cons,List.map_nil,hrun]
  obtain⟨Nz,P4,hfr⟩:=qZ.flat hpos
  exact z_ hpos bW hro eO hne SY Br EE hown dP De pg Bq hold bQ hval h hd hex hown' fk Ka P4 hfr

theorem Gz {o:Oper}{aH:Operand→SV}{ix:Nat}{r:bZ}(hv:∀x,cu w ρ env (a.eval x) (aH x))(hl:D7 P o aH σ.obj ix=some r)(h:bE w0 X w a σ env ρ)(hd:∀d,o.dst=some d→d<σ.tmps.length)(hb:aY P env ix r.bind) :
  (r.cA=none∧cX P o a w w0 X (σ.put o.dst r.val) env)∨∃z,r.cA=some (aO,z)∧cX P o a w w0 X ((σ.setObj aO (some z)).put o.dst r.val) env:=by
 unfold D7 at hl
 split at hl
 case isFalse=>cases hl
 unfold pS at hl
 split at hl
 ·rename_i cf hx dd bW fu
  obtain⟨bs,eO,hst,_⟩:=h.cn _ _ bW
  split at hl
  ·cases hl
  rename_i hro
  have hro:cf.ro=false:=by simpa using hro
  split at hl
  ·rename_i t ho
   split at hl
   ·split at hl
    ·rename_i z hz
     split at hl
     ·rename_i ds hds
      cases hl
      obtain⟨d,he,bQ⟩:=hb
      simp only[E.eval,eO,A0d,D.fK] at he
      split at he
      ·rename_i hone
       cases he
       obtain⟨g1,g2⟩:=D.iV (w:=w) (S:=ρ.S) hds
       have g1':z.cells.size=ds.length:=by simpa using g1
       have hrun:(execOp a.eval o).run P w=.ok (.value (.pointer (some ⟨w.heap.size,0,none⟩))) (w.alloc (.cells z.cells t)):=by
        unfold execOp
        simp only[ho,Instr.alloc,A0k,fS hz,A0e,newVar,newRow,A0n,run_newObj]
        rfl
       have uU:∀(j:Nat) (d:D),ds[j]? = some d→d.one=true:=fun j d hj=>A0z.1 hone d (B0i hj)
       obtain⟨aG,hn⟩:=h.sU (k:=1) (sz:=z.cells.size) (cs:=ds) (vs:=z.cells) (e:=t) (x':=.sym ix) bW hro eO (by simp) (by omega) uU (fun j v d hj dY=>(g2 j v d (by simpa using hj) dY).1) (by simp only[E.eval];exact bQ)
       exact .inr ⟨_,rfl,bq hrun (aG.put (by rw[af.aA];exact hd) (tF eO hn))⟩
      ·cases he
     ·cases hl
    ·cases hl
   ·cases hl
  ·rename_i t x ho
   split at hl
   ·split at hl
    ·rename_i agg n x' hg hn0 wV
     split at hl
     ·rename_i hag
      cases hl
      obtain⟨dx,fW,fF⟩:=SV.toE_rd wV (hv x)
      obtain⟨d,he,bQ⟩:=hb
      simp only[E.eval,eO,A0d,A0c] at he
      obtain⟨dc,hdc,he⟩:=he
      obtain⟨cs,rfl,h1,h1a,h1b,h2,h3,h4⟩:=BA fW fF hdc
      simp only[D.fK] at he
      split at he
      ·rename_i hone
       cases he
       have hcn:cs.length=n:=by
        cases agg with
        | true=>exact h1a rfl
        | false=>rw[h1b rfl];exact(hag.resolve_left (by simp)).symm
       have hrun:(execOp a.eval o).run P w=.ok (.value (.pointer (some ⟨w.heap.size,0,none⟩))) (w.alloc (.cells (a.eval x).cells t)):=by
        unfold execOp
        simp only[ho,Instr.box,A0k,A0e,newVar,newRow,A0n,run_newObj]
        rfl
       obtain⟨aG,hn⟩:=h.sU (k:=1) (sz:=n) (cs:=cs) (vs:=(a.eval x).cells) (e:=t) (x':=.sym ix) bW hro eO (by omega) (by omega) h3 h4 (by simp only[E.eval];exact bQ)
       exact .inr ⟨_,rfl,bq hrun (aG.put (by rw[af.aA];exact hd) (tF eO hn))⟩
      ·cases he
     ·cases hl
    ·cases hl
   ·cases hl
  ·rename_i t n c ho
   split at hl
   ·split at hl
    ·rename_i v0 u0 y e Dh hu
     split at hl
     ·rename_i i hi
      split at hl
      ·rename_i hpos
       cases hl
       obtain⟨d,he,bQ⟩:=hb
       simp only[E.eval,eO,A0d,A0c] at he
       obtain⟨dl,eM,he⟩:=he
       obtain⟨e',i',es,vs,jf,hi',rfl,hrun,hvs,hml,hrow⟩:=JV (ρ:=ρ) (env:=env) ho Dh (hv n) (hv c) rfl eM
       rw[hu] at jf
       cases jf
       rw[hi] at hi'
       cases hi'
       obtain⟨hall,hfl,hfr⟩:=hrow.flat hpos
       simp only[D.dR] at he
       split at he
       ·cases he
        rename_i EL
        have hone:∀(j:Nat) (d:D),(bI es)[j]? = some d→d.one=true:=fun j d hj=>A0z.1 EL.2 d (B0i hj)
        obtain⟨aG,hn⟩:=h.sU (k:=es.length) (sz:=i.size) (cs:=bI es) (vs:=vs) (e:=e) (x':=.sym ix) bW hro eO hvs (by rw[hfl];simp) hone (fun j v d hj dY=>(hfr j v d (by simpa using hj) dY).1) (by simp only[E.eval];exact bQ)
        exact .inr ⟨_,rfl,bq hrun (aG.put (by rw[af.aA];exact hd) (ET eO eM hml hn))⟩
       ·cases he
      ·cases hl
     ·cases hl
    ·cases hl
   ·cases hl
  ·rename_i t len parts ho
   split at hl
   ·split at hl
    ·rename_i v0 u0 y e Dh hu
     split at hl
     ·rename_i i hi
      split at hl
      ·rename_i hpos
       cases hl
       obtain⟨d,he,bQ⟩:=hb
       simp only[E.eval,eO,A0d,A0c] at he
       obtain⟨dl,eM,he⟩:=he
       obtain⟨e',i',es,vs,jf,hi',rfl,hrun,hvs,hml,hrow⟩:=Mp (ρ:=ρ) (env:=env) ho hv Dh rfl eM
       rw[hu] at jf
       cases jf
       rw[hi] at hi'
       cases hi'
       obtain⟨hall,hfl,hfr⟩:=hrow.flat hpos
       simp only[D.dR] at he
       split at he
       ·cases he
        rename_i EL
        have hone:∀(j:Nat) (d:D),(bI es)[j]? = some d→d.one=true:=fun j d hj=>A0z.1 EL.2 d (B0i hj)
        obtain⟨aG,hn⟩:=h.sU (k:=es.length) (sz:=i.size) (cs:=bI es) (vs:=vs) (e:=e) (x':=.sym ix) bW hro eO hvs (by rw[hfl];simp) hone (fun j v d hj dY=>(hfr j v d (by simpa using hj) dY).1) (by simp only[E.eval];exact bQ)
        exact .inr ⟨_,rfl,bq hrun (aG.put (by rw[af.aA];exact hd) (ET eO eM hml hn))⟩
       ·cases he
      ·cases hl
     ·cases hl
    ·cases hl
   ·cases hl
  ·rename_i x ho
   split at hl
   ·split at hl
    ·cases hl
     exact .inl ⟨rfl,aI h hd (v:=.slice none 0 0) (by unfold execOp;simp only[ho];rfl) (.e rfl .cO fun _=>rfl)⟩
    ·cases hl
   ·cases hl
  ·rename_i c ho
   obtain⟨callee,args,ts⟩:=c
   simp only at hl
   split at hl
   ·split at hl
    ·rename_i s x t t' hargs hts
     split at hl
     ·rename_i I0
      obtain⟨I0,_⟩:=I0
      subst I0
      have e1:args=#[s,x]:=by rw[←B0g (xs:=args),hargs]
      have e2:ts=#[t,t]:=by rw[←B0g (xs:=ts),hts]
      subst e1 e2
      split at hl
      ·rename_i s' sb x' e hs' hx' hu
       split at hl
       ·rename_i i hi
        split at hl
        ·rename_i z hz
         split at hl
         ·rename_i hc
          cases hl
          have hvs:=IG (hv s)
          rw[hs'] at hvs
          obtain⟨ds,hds,jE,_⟩:=hvs.gj
          obtain⟨dx,fW,fF⟩:=SV.toE_rd hx' (hv x)
          obtain⟨d,he,bQ⟩:=hb
          simp only[E.eval,eO,hds,fW,A0d] at he
          refine .inr ⟨_,rfl,?_⟩
          unfold D.fC at he
          split at he
          ·rename_i ew ys e3 o9 _
           cases e3
           have Kl:=Jk o9
           have rP:a.eval s=.slice none 0 0:=by
            generalize a.eval s=v at jE
            cases jE
            rfl
           split at he
           ·rename_i kV
            subst kV
            cases he
            have PI:a.eval x=.slice none 0 0∨∃ad c,a.eval x=.slice (some ad) 0 c:=by
             rcases yd hst fF o9 (by simp[bM]) with⟨_,h1⟩ | ⟨ad,m,c,news,h1,h2,_⟩
             ·exact h1
             ·exact .inr ⟨ad,c,by rw[h1,←h2];rfl⟩
            exact BH ho hu hi bW hro eO PI rP (A0m _) jE rfl (by simpa using bQ) (by simp only[E.eval,eO,hds,fW,A0d,D.apps,Kl,List.length_nil,if_true]) h hd
           ·rename_i hne
            split at he
            ·rename_i uZ
             cases he
             exact z9 (n:=0) (m:=ys.length) (cs:=[]) (xs:=[]) (gi:=bs) ho hu hi hz hc.1 hc.2.1 bW hro eO fF o9 hne rfl uZ.2.2.1 uZ.2.2.2 (by simp) (by rw[rP];exact World.ownsRow_nil w 0 e i.size) (by simp) (by simp) (by simpa using uZ.2.1) (by simpa using uZ.1) rfl (fun b hb=>by rw[rP] at hb;cases hb) (fun j _ hj _=>hj) (by simpa using bQ) (by simp only[E.eval,eO,hds,fW,A0d,D.apps,Kl,if_neg (fun e=>hne (A0w e)),B0k]) h hd
            ·cases he
          ·rename_i ew k off n ys e3 o9 _
           cases e3
           have Kl:=Jk o9
           split at he
           ·rename_i kV
            subst kV
            cases he
            have Tb:=jE
            generalize rP:a.eval s=v at jE
            cases jE with
            | @sl _ _ _ cc hk hle uY h0=>
             have PI:a.eval x=.slice none 0 0∨∃ad c,a.eval x=.slice (some ad) 0 c:=by
              rcases yd hst fF o9 (by simp[bM]) with⟨_,h1⟩ | ⟨ad,m,c,news,h1,h2,_⟩
              ·exact h1
              ·exact .inr ⟨ad,c,by rw[h1,←h2];rfl⟩
             exact BH ho hu hi bW hro eO PI rP hle Tb rfl bQ (by simp only[E.eval,eO,hds,fW,A0d,D.apps,Kl,List.length_nil,if_true]) h hd
           ·rename_i hne
            obtain⟨bh,jj,he⟩:=A0c.1 he
            split at he
            ·rename_i uZ
             cases he
             obtain⟨c0,c1,c2,c3,c4,c5,c6,c7⟩:=uZ
             subst c0
             have fX:=fB jj
             rw[c1,c2] at fX
             obtain⟨hf,vs,⟨e',hh,hty⟩,hsz,hlen,hone,hr,jk⟩:=hst.cells k _ _ _ fX
             obtain rfl:e=e':=(hty.resolve_left hc.2.2).symm
             generalize rP:a.eval s=v at jE
             cases jE with
             | @sl _ _ _ cc hk hle uY h0=>
             have hcap:=h0 rfl
             have hown:w.ownsRow 0 e i.size (a.eval s) n (vs.toList.take (n*i.size)):=by
              refine⟨?_,.inr ⟨ρ.S.loc k,cc,vs,rP,Nat.zero_le _,hh,hle,uY,by rw[hcap];exact hsz,rfl⟩⟩
              rw[B0s,B0j]
              omega
             refine z9 (n:=n) (m:=ys.length) (cs:=bh.2.2) (xs:=vs.toList.take (n*i.size)) (gi:=bs.set k (.aM [])) ho hu hi hz hc.1 hc.2.1 bW hro eO fF o9 hne rfl c6 c7 hone hown c3 (fun j v d hj Ar=>?_) c5 c4 (by simp) (fun b hb=>?_) (fun j x hj hx=>?_) bQ (by simp only[E.eval,eO,hds,fW,A0d,D.apps,Kl,if_neg (fun e=>hne (A0w e))]) h hd
             ·rw[B0c] at hj
              split at hj
              ·exact hr j v d (by simpa using hj) Ar
              ·cases hj
             ·rw[rP] at hb
              have hb':ρ.S.loc k=b:=by simpa[Value.ownBlock] using hb
              subst hb'
              refine⟨hf,jk,fun j x hj hx hl=>?_⟩
              rw[A0x] at hj
              split at hj
              ·split at hj <;> cases hj
               cases hx
              ·rename_i yX
               exact yX (hst.inj j k _ _ hj fX hx rfl hl).symm
             ·rw[A0x] at hj
              split at hj
              ·split at hj <;> cases hj
               cases hx
              ·exact hj
            ·split at he
             ·rename_i uZ
              cases he
              obtain⟨c0,c1,c2,c3,c4,c5,c6,c7⟩:=uZ
              subst c0
              have fX:=fB jj
              rw[c1,c2] at fX
              obtain⟨hf,vs,⟨e',hh,hty⟩,hsz,hlen,hone,hr,jk⟩:=hst.cells k _ _ _ fX
              obtain rfl:e=e':=(hty.resolve_left hc.2.2).symm
              generalize rP:a.eval s=v at jE
              cases jE with
              | @sl _ _ _ cc hk hle uY h0=>
              have hcap:=h0 rfl
              have hown:w.ownsRow 0 e i.size (a.eval s) n (vs.toList.take (n*i.size)):=by
               refine⟨?_,.inr ⟨ρ.S.loc k,cc,vs,rP,Nat.zero_le _,hh,hle,uY,by rw[hcap];exact hsz,rfl⟩⟩
               rw[B0s,B0j]
               omega
              refine z9 (n:=n) (m:=ys.length) (cs:=bh.2.2.take (n*i.size)) (xs:=vs.toList.take (n*i.size)) (gi:=bs.set k (.aM [])) ho hu hi hz hc.1 hc.2.1 bW hro eO fF o9 hne rfl c6 c7 (fun j d hj=>by
               rw[B0c] at hj
               split at hj
               ·exact hone j d hj
               ·cases hj) hown (by rw[B0s];omega) (fun j v d hj Ar=>?_) c5 c4 (by simp) (fun b hb=>?_) (fun j x hj hx=>?_) bQ (by simp only[E.eval,eO,hds,fW,A0d,D.apps,Kl,if_neg (fun e=>hne (A0w e))]) h hd
              ·rw[B0c] at hj Ar
               split at hj
               ·rename_i hlt
                rw[if_pos hlt] at Ar
                exact hr j v d (by simpa using hj) Ar
               ·cases hj
              ·rw[rP] at hb
               have hb':ρ.S.loc k=b:=by simpa[Value.ownBlock] using hb
               subst hb'
               refine⟨hf,jk,fun j x hj hx hl=>?_⟩
               rw[A0x] at hj
               split at hj
               ·split at hj <;> cases hj
                cases hx
               ·rename_i yX
                exact yX (hst.inj j k _ _ hj fX hx rfl hl).symm
              ·rw[A0x] at hj
               split at hj
               ·split at hj <;> cases hj
                cases hx
               ·exact hj
             ·cases he
          ·cases he
         ·cases hl
        ·cases hl
       ·cases hl
      ·cases hl
     ·cases hl
    ·cases hl
   ·cases hl
  ·cases hl
 ·cases hl

end
end
end

section
noncomputable section

def Bo (P:Program)(f:FuncId)(nm:String):Bool:=
 match P.funcs[f]? with
 | some fn=>fn.body.isNone&&fn.name==nm&&(Extern.findNext fn).isNone
 | none=>false

def JY (P:Program)(o:Oper)(aH:Operand→SV)(ix:Nat):Option bZ:=
 match o.op with
 | .binOp op t x y _=>(match P.underlying t,aH x,aH y with
  | some (.pointer e),.e x' _,.e y' _=>if uS (aH x)=true∨uS (aH y)=true∨(P.info? e).isNone=true then none else(match op with
   | .eql=>some { val:=.e (.sym ix) true,bind:=some (.ev (.m4 (.QV false) x' y' .nil .nil)) }
   | .neq=>some { val:=.e (.sym ix) true,bind:=some (.ev (.m4 (.QV true) x' y' .nil .nil)) }
   | _=>none)
  | _,_,_=>none)
 | .slice t x (some lo) none none=>(match P.underlying t,(aH x).toE,(aH lo).toE with
  | some (.array n e),some x',some l'=>(o6 P e).bind fun sz=>if n≤maxLen then some { val:=.e (.sym ix) true,bind:=some (.ev (.m4 (.Om n sz) x' l' .nil .nil)) } else none
  | _,_,_=>none)
 | .convert s t x=>(match P.underlying s,P.underlying t,(aH x).toE with
  | some .string,some (.slice e),some x'=>if MD P e=true then some { val:=.e (.sym ix) true,bind:=some (.ev (.m4 .iA x' .nil .nil .nil)) } else none
  | _,_,_=>none)
 | .call c=>(match c.callee,c.args.toList with
  | .builtin .unsafeSliceData,[x]=>(aH x).toE.map fun x'=>{ val:=.e (.sym ix) true,bind:=some (.ev (.m4 .U7 x' .nil .nil .nil)) }
  | .value f,[x]=>(match aH f with
   | .func (.func f) [] => if Bo P f "internal/abi.NoEscape" = true then some { val := aH x } else none
   | _=>none)
  | .value f,[x,y]=>(match aH f with
   | .func (.func f) [] => if Bo P f "internal/bytealg.IndexByteString" = true then (match (aH x).toE, (aH y).toE with
    | some x',some y'=>some { val:=.e (.sym ix) true,bind:=some (.ev (.m4 .UE x' y' .nil .nil)) }
    | _,_=>none) else none
   | _=>none)
  | _,_=>none)
 | .typeAssert x _ t false=>(match P.underlying t,(aH x).toE with
  | some (.map _ _),some x'=>some { val:=.e (.sym ix) true,bind:=some (.ev (.aV (.m4 (.ed t) x' .nil .nil .nil))) }
  | some (.struct _),some x'=>some { val:=.e (.sym ix) false,bind:=some (.ev (.m4 (.ed t) x' .nil .nil .nil)) }
  | _,_=>none)
 | _=>none

theorem GL {P:Program}{o:Oper}{aH dK:Operand→SV}{ix:Nat}(hv:∀x,x∈o.op.operands→dK x=aH x):JY P o dK ix=JY P o aH ix:=by
 unfold JY
 generalize hop:o.op=op at *
 cases op <;> try rfl
 case binOp op t x y yt=>simp only;rw[hv x (by simp[Op.operands]),hv y (by simp[Op.operands])]
 case slice t x lo hi mx=>
  cases lo with
  | none=>rfl
  | some lo=>cases hi <;> cases mx <;> first | rfl | (simp only;rw[hv x (by simp[Op.operands]),hv lo (by simp[Op.operands])])
 case convert s t x=>simp only;rw[hv x (by simp[Op.operands])]
 case typeAssert x xt t ok=>cases ok <;> first | rfl | (simp only;rw[hv x (by simp[Op.operands])])
 case call c=>
  obtain⟨callee,args,ts⟩:=c
  have hargs:∀x,x∈args.toList→dK x=aH x:=fun x hx=>hv x (by
   simp only[Op.operands,Call.operands]
   have:x∈args:=by simpa using hx
   simp[this])
  simp only
  cases callee with
  | builtin b=>
   cases b <;> try rfl
   cases hl:args.toList with
   | nil=>rfl
   | cons x r=>
    cases r with
    | nil=>simp only;rw[hargs x (by rw[hl];simp)]
    | cons _ _=>rfl
  | value f=>
   have hf:=hv f (by simp[Op.operands,Call.operands])
   cases hl:args.toList with
   | nil=>rfl
   | cons x r=>
    cases r with
    | nil=>simp only;rw[hf,hargs x (by rw[hl];simp)]
    | cons y r=>cases r with
     | nil=>simp only;rw[hf,hargs x (by rw[hl];simp),hargs y (by rw[hl];simp)]
     | cons _ _=>rfl
  | invoke r n=>rfl

section
variable {P:Program} {w w0:World} {X:gB} {a:Act} {σ:af} {env:List D} {ρ:cr}

theorem run_eql_ptr_same {w:World}{tp te:TypeId}{j:TypeInfo}(a:Addr)(hp:P.underlying tp=some (.pointer te))(hte:P.info? te=some j) :
  (binOp .eql tp (.pointer (some a)) (.pointer (some a))).run P w=.ok (.bool true) w:=by
 have h:∀d:Nat,(Op.equalIn (d+1) tp (.pointer (some a)) (.pointer (some a))).run P w=.ok true w:=fun d=>by
  simp[Op.equalIn,run_underlying hp,sizeOf,typeInfo,hte,run_sameAddr_same]
 simp only[binOp]
 simp[Op.equal,Op.maxDepth,h 9999]

theorem Ph {neg:Bool}{t e:TypeId}{i:TypeInfo}{x y:Operand}{v u:Value}{dx dy dz:D}{S:Sets}(ht:P.underlying t=some (.pointer e))(hi:P.info? e=some i)(hz:D.QV neg dx dy=some dz)(hx:aZ w S v dx)(hy:aZ w S u dy) :
  ∃r,(do eqGuard (bif neg then .neq else .eql) t x y v u;binOp (bif neg then .neq else .eql) t v u:Sem Value).run P w=.ok r w∧aZ w S r dz∧dz.one=true:=by
 have hk:kindOf P t=some .ptr:=by unfold kindOf;rw[ht]
 unfold D.QV at hz
 split at hz
 ·split at hz
  ·rename_i hc
   obtain⟨rfl,rfl⟩:=hc
   cases hz
   cases hx
   cases hy
   refine⟨.bool (!neg),?_,.v rfl,rfl⟩
   simp only[eqGuard_at_pointer,A0k,A0n,A0e]
   cases neg with
   | true=>exact Lib.run_neq_ptr_same w _ ht hi
   | false=>exact run_eql_ptr_same _ ht hi
  ·cases hz
 ·exact Iw hk hz hx hy

theorem qz {f : FuncId} {nm : String} {e : Array Value → Sem Value} (h : Bo P f nm = true) (hnm : nm ≠ "runtime.NumGoroutine") (he : ∀ fn : Func, fn.name = nm → Extern.find fn = some e) (args : Array Value) : (callFunc f args).run P w = ((e args).run P w).andThen fun v w' => .ok (.value v) w' := by
 unfold Bo at h
 split at h
 ·rename_i fn hf
  simp only[A0g,beq_iff_eq,B0q] at h
  obtain⟨⟨h1,h2⟩,h3⟩:=h
  exact run_callFunc_extern hf (by rw[h2];simpa using hnm) (by rw[h1];rfl) h3 (he fn h2) args w
 ·cases h

theorem AM (fn : Func) (h : fn.name = "internal/abi.NoEscape") : Extern.find fn = some Extern.AbiNoEscape.same := by
 unfold Extern.find
 rw[h]
 kernel_rfl

theorem zz (fn : Func) (h : fn.name = "internal/bytealg.IndexByteString") : Extern.find fn = some Extern.BytealgIndexByte.indexByte := by
 unfold Extern.find
 rw[h]
 kernel_rfl

theorem ER {c:Operand}{aH:Operand→SV}{f:FuncId}(hv:∀x,cu w ρ env (a.eval x) (aH x))(hc:aH c=.func (.func f) []):a.eval c=.func (.func f) #[] #[]:=by
 have h:=hv c
 rw[hc] at h
 obtain⟨vs,h1,h2,_⟩:=h.lS
 rw[h1,show vs=#[] from Array.eq_empty_of_size_eq_zero h2]

theorem EW {o:Oper}{c:Operand}{args:Array Operand}{ts:Array TypeId}{f:FuncId}{u:Value}(ho:o.op=.call { callee:=.value c,args:=args,argTypes:=ts })(hc:a.eval c=.func (.func f) #[] #[])(h:(callFunc f (args.map a.eval)).run P w=.ok (.value u) w) :
  (execOp a.eval o).run P w=.ok (.value u) w:=by
 unfold execOp
 simp only[ho,resolve,hc,Deferred.ofValue,invoke,A0k,A0n,A0e]
 simpa using h

theorem xp (w:World)(t xT k e:TypeId)(v:Value)(h:P.underlying t=some (.map k e)):(Instr.typeAssert (.iface t v) xT t false).run P w=.ok v w:=by
 simp[Instr.typeAssert,run_underlying h,go_sem,Result.andThen]

theorem wg (w:World)(t xT:TypeId)(fs:Array Field)(v:Value)(h:P.underlying t=some (.struct fs)):(Instr.typeAssert (.iface t v) xT t false).run P w=.ok v w:=by
 simp[Instr.typeAssert,run_underlying h,go_sem,Result.andThen]

theorem GK {o:Oper}{aH:Operand→SV}{ix:Nat}{r:bZ}(hv:∀x,cu w ρ env (a.eval x) (aH x))(hl:JY P o aH ix=some r)(h:bE w0 X w a σ env ρ)(hd:∀d,o.dst=some d→d<σ.tmps.length)(hb:aY P env ix r.bind) :
  r.cA=none∧cX P o a w w0 X (σ.put o.dst r.val) env:=by
 unfold JY at hl
 split at hl
 ·rename_i op t x y yt ho
  split at hl
  ·rename_i e x' s1 y' s2 ht hx hy
   split at hl
   ·cases hl
   rename_i hc
   have hi:(P.info? e).isSome=true:=by
    cases hi:P.info? e with
    | none=>exact absurd (by rw[hi];simp) hc
    | some _=>rfl
   obtain⟨i,hi⟩:=Option.isSome_iff_exists.1 hi
   have mH:=hv x
   rw[hx] at mH
   have FD:=hv y
   rw[hy] at FD
   obtain⟨dx,fW,fF,_⟩:=mH.gj
   obtain⟨dy,wW,MV,_⟩:=FD.gj
   have key:∀neg:Bool,op=(bif neg then .neq else .eql)→r={ val:=.e (.sym ix) true,bind:=some (.ev (.m4 (.QV neg) x' y' .nil .nil)) }→r.cA=none∧cX P o a w w0 X (σ.put o.dst r.val) env:=by
    rintro neg rfl rfl
    obtain⟨d,he,bQ⟩:=hb
    simp only[E.eval,fW,wW,A0d,D.m4] at he
    obtain⟨u,hrun,J7,h1⟩:=Ph (x:=x) (y:=y) ht hi he fF MV
    refine⟨rfl,aI h hd (v:=u) ?_ (.e (by simp only[E.eval];exact bQ) J7 fun _=>h1)⟩
    unfold execOp
    simp only[ho,A0k] at hrun ⊢
    rw[hrun]
    rfl
   cases op <;> first | (cases hl;done) | skip
   ·exact key false rfl (by cases hl;rfl)
   ·exact key true rfl (by cases hl;rfl)
  ·cases hl
 ·rename_i t x lo ho
  split at hl
  ·rename_i n e x' l' ht hx hlo
   obtain⟨sz,hsz,hl⟩:=A0c.1 hl
   split at hl
   ·rename_i hn
    cases hl
    obtain⟨dx,fW,fF⟩:=SV.toE_rd hx (hv x)
    obtain⟨dl,eM,hrl⟩:=SV.toE_rd hlo (hv lo)
    obtain⟨d,he,bQ⟩:=hb
    simp only[E.eval,fW,eM,A0d,D.m4] at he
    unfold D.Om at he
    split at he
    ·rename_i i off k l
     split at he
     ·rename_i hc
      obtain⟨h0,h1,h2⟩:=hc
      cases he
      have wV:a.eval x=.pointer (some ⟨ρ.S.loc i,off,none⟩)∧i<ρ.S.n:=by
       generalize a.eval x=v at fF
       cases fF
       exact⟨rfl,by assumption⟩
      have hel:P.elem t=e:=by unfold Program.elem;rw[ht]
      have hal:P.arrayLen t=n:=by unfold Program.arrayLen;rw[ht]
      have hrun:=run_sliceAt_array_l (P:=P) w t ⟨ρ.S.loc i,off,none⟩ (by rw[hel,hal];exact ht) k l h0 (by rw[hal];omega)
      rw[hel,hal,run_sizeOf hsz] at hrun
      simp only[A0e,slicedAt] at hrun
      rw[if_neg (by omega)] at hrun
      refine⟨rfl,aI h hd (v:=.slice (some ⟨ρ.S.loc i,off+l.toNat*sz,none⟩) (n-l.toNat) (n-l.toNat)) ?_ (.e (by simp only[E.eval];exact bQ) (.sl wV.2 (A0m _) (by omega) fun e=>absurd e (by omega)) fun _=>rfl)⟩
      unfold execOp
      simp only[ho,A0y,Option.map_none,wV.1,hrl.v_eq,A0k,hrun,A0e,A0n,Addr.add_lit]
     ·cases he
    ·cases he
   ·cases hl
  ·cases hl
 ·rename_i s t x ho
  split at hl
  ·rename_i te x' hs ht hx
   split at hl
   ·rename_i hte
    cases hl
    obtain⟨dx,fW,fF⟩:=SV.toE_rd hx (hv x)
    obtain⟨d,bz,bQ⟩:=hb
    simp only[E.eval,fW,A0d,D.m4] at bz
    unfold D.iA at bz
    split at bz
    ·rename_i str
     split at bz
     ·rename_i Ru
      cases bz
      have hrun:=run_bytes_of_string (P:=P) w s t te str hs ht (Cw hte)
      have Yl:Uz w.heap.size w (w.drew.alloc (.cells (bytesRow str (grownCap w str.size 0 te)) te ((bytesRow str (grownCap w str.size 0 te)).size,(bytesRow str (grownCap w str.size 0 te)).size+1))):=
       ⟨⟨rfl,rfl,rfl,by simp,fun k hk=>gr w.drew _ k hk⟩,by simp⟩
      have aG:=h.behind (S':=ρ.S.or fun b _=>b=w.heap.size) Yl (ρ.S.mr _) rfl (fun b o hs=>hs.imp_right fun e=>Nat.le_of_eq e.symm) (fun b o hs=>by
       rcases hs with hs | hs
       ·exact A0s (h.cells b o hs) Yl.size
       ·simp[hs])
      refine⟨rfl,bq (v:=.slice (some ⟨w.heap.size,0,none⟩) str.size (grownCap w str.size 0 te)) ?_ (aG.put hd (.e (d:=.a_ (eG str)) (by simp only[E.eval];exact bQ) ?_ fun _=>rfl))⟩
      ·unfold execOp
       simp only[ho,fF.v_eq,A0k,hrun,A0e,A0n]
      ·have hl:(eG str).length=str.size:=by unfold eG;rw[List.length_map,B0j];rfl
       have nr:∀(i:Nat) (e:D),(eG str)[i]? = some e→∃b:UInt8,str.data[i]? = some b∧e=.v (.int .u8 b.toNat):=by
        intro i e he
        simp only[eG,A0v,A0b] at he
        obtain⟨b,hb,rfl⟩:=he
        exact⟨b,by simpa using hb,rfl⟩
       have hj0:∀{i:Nat} {e:D} {j:Nat} {d:D},(eG str)[i]? = some e→e.cells[j]? = some d→j=0∧∃b:UInt8,str.data[i]? = some b∧d=.v (.int .u8 b.toNat):=by
        intro i e j d he hd
        obtain⟨b,hb,rfl⟩:=nr i e he
        cases j with
        | zero=>simp[D.cells] at hd;exact⟨rfl,b,hb,hd.symm⟩
        | succ j=>simp[D.cells] at hd
       refine .a_ (size:=1) (val:=fun i _=>.int .u8 ((str.data[i]?).getD 0).toNat) hl.symm (grownCap_ge w str.size 0 te) (grownCap_le_maxLen w str.size 0 te Ru) (fun i e he=>?_) (fun i e j d he hd=>?_) (fun i e j d he hd=>.inr rfl) (fun i e j d he hd=>?_) fun i e j d he hd=>?_
       ·obtain⟨b,_,rfl⟩:=nr i e he;rfl
       ·obtain⟨_,b,_,rfl⟩:=hj0 he hd;rfl
       ·obtain⟨rfl,b,hb,rfl⟩:=hj0 he hd
        have hlt:i<str.data.size:=(A0h.1 hb).1
        have hh:(w.drew.alloc (.cells (bytesRow str (grownCap w str.size 0 te)) te ((bytesRow str (grownCap w str.size 0 te)).size,(bytesRow str (grownCap w str.size 0 te)).size+1))).heap[w.heap.size]? = some (.cells (bytesRow str (grownCap w str.size 0 te)) te ((bytesRow str (grownCap w str.size 0 te)).size,(bytesRow str (grownCap w str.size 0 te)).size+1)):=heap_alloc_new w.drew _
        rw[eE hh,B0k,Nat.mul_one,Nat.add_zero,bytesRow_at str _ i hlt,hb]
        rw[A0o hlt] at hb
        rw[←Option.some.inj hb]
        rfl
       ·obtain⟨rfl,b,hb,rfl⟩:=hj0 he hd
        rw[hb]
        exact .v rfl
     ·cases bz
    ·cases bz
   ·cases hl
  ·cases hl
 ·rename_i c ho
  obtain⟨callee,args,ts⟩:=c
  split at hl
  ·rename_i x iB hargs
   obtain⟨x',hx,rfl⟩:=A0b.1 hl
   simp only at iB hargs
   subst iB
   have e1:args=#[x]:=by rw[←B0g (xs:=args),hargs]
   subst e1
   obtain⟨dx,fW,fF⟩:=SV.toE_rd hx (hv x)
   obtain⟨d,he,bQ⟩:=hb
   simp only[E.eval,fW,A0d,D.m4] at he
   have hex:∀u,(Builtin.unsafeSliceData_ ts o.type #[a.eval x]).run P w=.ok u w→(execOp a.eval o).run P w=.ok (.value u) w:=by
    intro u hu
    unfold execOp
    simp only[ho,resolve,invoke,builtin,A0k,A0n,A0e,List.map_toArray,List.map_cons,List.map_nil,hu]
   unfold D.U7 at he
   split at he
   ·cases he
    have wV:a.eval x=.slice none 0 0:=by
     generalize a.eval x=v at fF
     cases fF
     rfl
    exact⟨rfl,aI h hd (hex (.pointer none) (by rw[wV];rfl)) (.e (by simp only[E.eval];exact bQ) (.v rfl) fun _=>rfl)⟩
   ·split at he
    ·rename_i i off n hn
     cases he
     obtain⟨c,wV,hi,hc⟩:∃c,a.eval x=.slice (some ⟨ρ.S.loc i,off,none⟩) n c∧i<ρ.S.n∧n≤c:=by
      generalize a.eval x=v at fF
      cases fF
      exact⟨_,rfl,by assumption,by assumption⟩
     exact⟨rfl,aI h hd (hex (.pointer (some ⟨ρ.S.loc i,off,none⟩)) (by rw[wV];exact Lib.run_unsafeSliceData_row w _ _ _ _ _ (by omega))) (.e (by simp only[E.eval];exact bQ) (.loc hi) fun _=>rfl)⟩
    ·cases he
   ·cases he
  ·rename_i f x iB hargs
   simp only at iB hargs
   subst iB
   have e1:args=#[x]:=by rw[←B0g (xs:=args),hargs]
   subst e1
   split at hl
   ·rename_i g hg
    split at hl
    ·rename_i hx
     cases hl
     refine⟨rfl,aI h hd (EW ho (ER hv hg) ?_) (hv x)⟩
     rw[qz hx (by decide) AM]
     simp[Lib.run_noEscape]
    ·cases hl
   ·cases hl
  ·rename_i f x y iB hargs
   simp only at iB hargs
   subst iB
   have e1:args=#[x,y]:=by rw[←B0g (xs:=args),hargs]
   subst e1
   split at hl
   ·rename_i g hg
    split at hl
    ·rename_i hx
     split at hl
     ·rename_i x' y' hx' hy'
      cases hl
      obtain⟨dx,fW,fF⟩:=SV.toE_rd hx' (hv x)
      obtain⟨dy,wW,MV⟩:=SV.toE_rd hy' (hv y)
      obtain⟨d,he,bQ⟩:=hb
      simp only[E.eval,fW,wW,A0d,D.m4] at he
      unfold D.UE at he
      split at he
      ·rename_i s c
       cases he
       refine⟨rfl,aI h hd (EW (u:=.int .i64 (firstIdx s c.toNat.toUInt8)) ho (ER hv hg) ?_) (.e (by simp only[E.eval];exact bQ) (.v rfl) fun _=>rfl)⟩
       rw[qz hx (by decide) zz]
       have:=run_indexByte_string (P:=P) s c w
       simp only[List.map_toArray,List.map_cons,List.map_nil,fF.v_eq,MV.v_eq,this,A0e]
      ·cases he
     ·cases hl
    ·cases hl
   ·cases hl
  ·cases hl
 ·rename_i x xt t ho
  split at hl
  ·rename_i k e x' hu hx'
   cases hl
   obtain⟨dx,fW,fF⟩:=SV.toE_rd hx' (hv x)
   obtain⟨d,he,bQ⟩:=hb
   simp only[E.eval,fW,A0d,D.m4] at he
   obtain⟨y,hy,he⟩:=A0c.1 he
   unfold D.aV at he
   split at he
   ·rename_i hone
    cases he
    unfold D.ed at hy
    split at hy
    ·rename_i t' y'
     split at hy
     ·rename_i I0
      cases hy
      subst I0
      generalize mH:a.eval x=v at fF
      cases fF with
      | fq hrd=>
       refine⟨rfl,aI h hd ?_ (.e (by simp only[E.eval];exact bQ) hrd fun _=>hone)⟩
       unfold execOp
       simp only[ho,mH,A0k,xp _ _ _ _ _ _ hu,A0e,A0n]
     ·cases hy
    ·cases hy
   ·cases he
  ·rename_i fs x' hu hx'
   cases hl
   obtain⟨dx,fW,fF⟩:=SV.toE_rd hx' (hv x)
   obtain⟨d,hy,bQ⟩:=hb
   simp only[E.eval,fW,A0d,D.m4] at hy
   unfold D.ed at hy
   split at hy
   ·rename_i t' y'
    split at hy
    ·rename_i I0
     cases hy
     subst I0
     generalize mH:a.eval x=v at fF
     cases fF with
     | fq hrd=>
      refine⟨rfl,aI h hd ?_ (.e (by simp only[E.eval];exact bQ) hrd (by simp))⟩
      unfold execOp
      simp only[ho,mH,A0k,wg _ _ _ _ _ hu,A0e,A0n]
    ·cases hy
   ·cases hy
  ·cases hl
 ·cases hl


end

/-! ## operations that look at the store -/

def Sm (cf:bV)(o:Oper):Bool:=
 match o.dst with
 | some d=>cf.xV.contains d
 | none=>false

def uh (P:Program)(e:TypeId):Bool:=decide (0<P.depth)&&decide (0<P.cellsOf e)&&decide (e≠Ad)&&(match P.info? e with | some i=>decide (i.size≠0) | none=>false)

def vG (P:Program)(cf:bV)(h:E)(s:Operand)(aH:Operand→SV)(x:SV)(t t':TypeId)(ix:Nat):Option bZ:=
 if cf.ro=true then none else match DR s (aH s),x.toE,P.underlying t,P.underlying t' with
 | .e s' _,some x',some (.slice e),some .string=>(match P.info? e with
  | some i=>(match i.zero with
   | some (.int .u8 0)=>if i.size=1∧i.bytes=1∧e≠Ad then some { val:=.e (.apps h s' (.m4 .iA x' .nil .nil .nil)) true,cA:=some (aO,.store cf (.sym ix)),bind:=some (.ev (.fC e 1 1 h s' (.m4 .iA x' .nil .nil .nil))) } else none
   | _=>none)
  | none=>none)
 | _,_,_,_=>none

def pT (P:Program)(o:Oper)(aH:Operand→SV)(hO:Option aE)(ix:Nat):Option bZ:=
 match hO with
 | some (.store cf h)=>(match o.op with
  | .convert s t x=>if Sm cf o=true then(match P.underlying s,P.underlying t,(aH x).toE with
   | some (.slice e),some .string,some x'=>if MD P e=true then some { val:=.e (.sym ix) true,bind:=some (.ev (.m4 .ru h x' .nil .nil)) } else none
   | some (.pointer e),some .unsafePointer,some x'=>if uh P e=true then some { val:=.e (.sym ix) true,bind:=some (.ev (.m4 (.xm e (P.cellsOf e)) h x' .nil .nil)) } else none
   | some .unsafePointer,some (.pointer e),some x'=>if uh P e=true then some { val:=.e (.sym ix) true,bind:=some (.ev (.m4 (.xm e (P.cellsOf e)) h x' .nil .nil)) } else none
   | _,_,_=>none) else none
  | .indexAddr t (.global g) i=>(match P.underlying t,(aH i).toE with
   | some (.array n e),some i'=>(o6 P e).map fun sz=>{ val:=.e (.sym ix) true,bind:=some (.ev (.m4 (.TT g n sz) h i' .nil .nil)) }
   | _,_=>none)
  | .call c=>(match c.callee,c.args.toList,c.argTypes.toList with
   | .builtin .unsafeString,[p,n],[pt,_]=>if cf.ro=true then none else(match P.underlying pt,(aH p).toE,(aH n).toE with
    | some (.pointer e),some p',some n'=>if P.cellsOf e=1∧e≠Ad then some { val:=.e (.m4 (.FP e) h p' n' .nil) true,cA:=some (aO,.store cf (.sym ix)),bind:=some (.ev (.m4 (.Il e) h p' n' .nil)) } else none
    | _,_,_=>none)
   | .builtin .append,[s,x],[t,t']=>vG P cf h s aH (aH x) t t' ix
   | _,_,_=>none)
  | _=>none)
 | _=>none

section
variable {P:Program} {w w0:World} {X:gB} {a:Act} {σ:af} {env:List D} {ρ:cr}

theorem ck.lose {w w':World}{S:Sets}{an:Nat→Prop}{bs:List D}{i:Nat}{z:D}(h:ck w S an bs)(hz:bs[i]? = some z)(hl:z.live=true)(hK:bp S w w')(hb:∀b,an b→b≠S.loc i→w'.heap[b]? = w.heap[b]?):ck w' S (fun b=>an b∧b≠S.loc i) (bs.set i (.aM [])):=by
 have hc:∀{j:Nat} {x:D},(bs.set i (.aM []))[j]? = some x→x.live=true→bs[j]? = some x∧S.loc j≠S.loc i:=by
  intro j x hj hx
  rw[A0x] at hj
  split at hj
  ·split at hj
   ·cases hj;cases hx
   ·cases hj
  ·rename_i hij
   exact⟨hj,fun e=>hij (h.inj j i _ _ hj hz hx hl e).symm⟩
 have hle:S≤S:=Sets.le_refl _
 refine⟨by rw[h.n];simp,fun j e sz cs hj=>?_,fun b off hf=>h.rH b off hf.1,fun j bH hj=>?_,fun j k x y hj hk hx hy e=>h.inj j k x y (hc hj hx).1 (hc hk hy).1 hx hy e,fun j x hj hx=>?_⟩
 ·obtain⟨g,hne⟩:=hc hj rfl
  obtain⟨g1,vs,g2,g3,g4,g5,g6,g7⟩:=h.cells j e sz cs g
  exact⟨⟨g1,hne⟩,vs,g2.to (hb _ g1 hne),g3,g4,g5,fun k v d hv hd=>(g6 k v d hv hd).keep hK hle,g7⟩
 ·obtain⟨g,hne⟩:=hc hj rfl
  obtain⟨g1,es,clock,g2,g3,g4,g5⟩:=h.maps j bH g
  refine⟨⟨g1,hne⟩,es,clock,by rw[hb _ g1 hne];exact g2,g3,g4,fun k e kv he hkv=>?_⟩
  obtain⟨dk,dv,k1,k2,k3⟩:=g5 k e kv he hkv
  exact⟨dk,dv,k1,k2.keep hK hle,k3.keep hK hle⟩
 ·obtain⟨g,hne⟩:=hc hj (D.ff hx)
  obtain⟨g1,g2,g3⟩:=h.pV j x g hx
  exact⟨⟨g1,hne⟩,by rw[hb _ g1 hne];exact g2,g3⟩

theorem z0 {w:World}{S:Sets}{an:Nat→Prop}{bs:List D}{i:Nat}{b:TypeId×Nat×List D}(hst:ck w S an bs)(hb:D.dJ (.st bs) i=some b):∃(vs:Array Value) (e':TypeId),w.heap[S.loc i]? = some (.cells vs e' (0,0))∧(b.1≠Ad→e'=b.1)∧b.2.2.length≤vs.size∧an (S.loc i) ∧
  ∀(j:Nat) (d:D),b.2.2[j]? = some d→d.one=true∧∃v,vs[j]? = some v∧aZ w S v d:=by
 obtain⟨hf,vs,⟨e',hh,he⟩,_,hle,hone,hr,_⟩:=hst.cells i _ _ _ (fB hb)
 refine⟨vs,e',hh,fun hne=>he.resolve_left hne,hle,hf,fun j d hj=>⟨hone j d hj,?_⟩⟩
 have hlt:j<vs.size:=A0s (A0a.1 hj).1 hle
 exact⟨vs[j],A0o hlt,hr j _ d (A0o hlt) hj⟩

theorem vX {w:World}{S:Sets}{an:Nat→Prop}{bs:List D}{i off n:Nat}{b:TypeId×Nat×List D}{ns:List Int}(hst:ck w S an bs)(hb:D.dJ (.st bs) i=some b)(hn:off+n≤b.2.2.length)(jk:bytesOf ((b.2.2.drop off).take n)=some ns) :
  ns.length=n∧∀j,j<n→w.cell? ⟨S.loc i,off+j,none⟩=some (.int .u8 (ns.getD j 0)):=by
 obtain⟨h1,h2⟩:=qg jk
 have hl:ns.length=n:=by
  rw[←h1]
  simp
  omega
 refine⟨hl,fun j hj=>?_⟩
 obtain⟨vs,e',hh,_,hle,_,hc⟩:=z0 hst hb
 have hjl:off+j<b.2.2.length:=by omega
 obtain⟨g1,v,g2,g3⟩:=hc (off+j) _ (A0f hjl)
 have hx:=h2 j (b.2.2[off+j]) (by
  rw[B0c,if_pos hj,B0o]
  exact A0f hjl)
 rw[D.gG g1] at hx
 simp only[List.cons.injEq,and_true] at hx
 rw[hx] at g3
 rw[eE hh,g2,g3.v_eq]

theorem tD {g:Nat}:∀{bs:List D} {k j:Nat},oM g bs k=some j→k≤j∧∃t vs,bs[j-k]? = some (.nL g t vs)
 | [],k,j,h=>by simp[oM] at h
 | x :: r,k,j,h=>by
  have next:oM g r (k+1)=some j→k≤j∧∃t vs,(x :: r)[j-k]? = some (.nL g t vs):=fun h=>by
   obtain⟨h1,t,vs,h2⟩:=tD h
   refine⟨by omega,t,vs,?_⟩
   rw[show j-k=(j-(k+1))+1 from by omega]
   simpa using h2
  cases x with
  | nL g' t vs=>
   simp only[oM] at h
   split at h
   ·rename_i hg
    cases h
    subst hg
    exact⟨A0m _,t,vs,by simp⟩
   ·exact next h
  | _=>exact next h

theorem TS {w:World}{S:Sets}{an:Nat→Prop}{bs:List D}{g len sz:Nat}{i d:D}(hst:ck w S an bs)(h:D.TT g len sz (.st bs) i=some d):∃(k:IntKind) (n:Int),i=.v (.int k n)∧0≤n∧n<len∧aZ w S (.pointer (some ⟨g,n.toNat*sz,none⟩)) d∧d.one=true:=by
 unfold D.TT at h
 split at h
 ·rename_i e1
  cases e1
  split at h
  ·rename_i hc
   obtain⟨j,hj,rfl⟩:=A0b.1 h
   obtain⟨_,_,vs,hz⟩:=tD hj
   obtain⟨_,⟨ji,_⟩,_⟩:=hst.pV _ _ hz rfl
   refine⟨_,_,rfl,hc.1,hc.2,?_,rfl⟩
   rw[Nat.sub_zero] at hz ji
   rw[←ji]
   exact .loc (by rw[hst.n];exact(A0a.1 hz).1)
  ·cases h
 ·cases h

theorem OX {e:TypeId}(h:uh P e=true):0<P.depth∧0<P.cellsOf e∧e≠Ad∧∃i,P.info? e=some i∧i.size≠0:=by
 unfold uh at h
 simp only[A0g,decide_eq_true_eq] at h
 obtain⟨⟨⟨h1,h2⟩,h3⟩,h4⟩:=h
 refine⟨h1,h2,h3,?_⟩
 split at h4
 ·exact⟨_,by assumption,by simpa using h4⟩
 ·cases h4

theorem JX {e:TypeId}{c:Nat}(hd:0<P.depth)(hc:0<P.cellsOf e)(h:0<c):liesAt P P.depth e c 0 e 1=true:=by
 obtain⟨n,hn⟩:∃n,P.depth=n+1:=⟨P.depth-1,by omega⟩
 have hs:∀m,sameLayout P (m+1) e e=true:=fun m=>by simp[sameLayout]
 rw[hn]
 simp only[liesAt,rowAt,hn,hs]
 simp[show P.cellsOf e≠0 by omega,show 1≤c by omega]

theorem Lo {S:Sets}{an:Nat→Prop}{bs:List D}{e:TypeId}{v:Value}{p d:D}{s t:TypeId}(hst:ck w S an bs)(hk:uh P e=true)(hu:(P.underlying s=some (.pointer e)∧P.underlying t=some .unsafePointer)∨(P.underlying s=some .unsafePointer∧P.underlying t=some (.pointer e)))(hp:aZ w S v p)(h:D.xm e (P.cellsOf e) (.st bs) p=some d) :
  (convert s t v).run P w=.ok v w∧d=p∧d.one=true:=by
 obtain⟨h1,h2,h3,j,h4,h5⟩:=OX hk
 unfold D.xm at h
 split at h
 ·cases h
  obtain rfl:=hp.v_eq
  refine⟨?_,rfl,rfl⟩
  rcases hu with⟨a1,a2⟩ | ⟨a1,a2⟩ <;> simp[convert,run_underlying a1,run_underlying a2,Conv.unsafePointer]
 ·obtain⟨b,hb,h⟩:=A0c.1 h
  split at h
  ·rename_i hc
   cases h
   cases hp
   obtain⟨vs,e',hh,hee,hle,_,_⟩:=z0 hst hb
   have he':e'=e:=by rw[hee (by rw[hc.1];exact h3),hc.1]
   subst he'
   refine⟨?_,rfl,rfl⟩
   have hsz:P.cellsOf e'≤vs.size:=B0e hc.2 hle
   rcases hu with⟨a1,a2⟩ | ⟨a1,a2⟩
   ·exact Lib.run_to_unsafe (e:=e') (cells:=vs.size) w _ a1 a2 h4 h5 (by simp[World.shape?,hh]) (A0s h2 hsz)
   ·exact Lib.run_from_unsafe (e:=e') (cells:=vs.size) w _ a1 a2 h4 (by simp[World.shape?,hh]) (JX h1 h2 (Nat.div_pos hsz h2))
  ·cases h
 ·cases h

theorem KV {S:Sets}{an:Nat→Prop}{bs:List D}{v:Value}{x d:D}{s t e:TypeId}(hst:ck w S an bs)(hs:P.underlying s=some (.slice e))(he:P.underlying e=some (.int .u8))(ht:P.underlying t=some .string)(hx:aZ w S v x)(h:D.ru (.st bs) x=some d) :
  ∃u:ByteArray,(convert s t v).run P w=.ok (.string u) w∧d=.v (.string u):=by
 unfold D.ru at h
 split at h
 ·cases h
  cases hx
  exact⟨_,run_convert_bytes_nil w s e hs he _ _ t ht,rfl⟩
 ·obtain⟨b,hb,h⟩:=A0c.1 h
  split at h
  ·rename_i hc
   obtain⟨ns,jk,rfl⟩:=A0b.1 h
   obtain⟨g1,g2⟩:=vX hst hb hc.1 jk
   cases hx
   exact⟨_,run_convert_bytes_arg w s e hs he _ _ _ _ ns g1 g2 t ht,rfl⟩
  ·cases h
 ·unfold D.H7 at h
  split at h
  ·obtain⟨ns,jk,rfl⟩:=A0b.1 h
   exact⟨_,Fu hx jk hs he ht,rfl⟩
  ·cases h

theorem Du {ns:List Int}(h:ns.all (fun x=>decide (0≤x)&&decide (x<256))=true):∃l:List UInt8,l.length=ns.length∧strOfNums ns=⟨l.toArray⟩∧∀(j:Nat) (x:UInt8),l[j]? = some x→ns.getD j 0=x.toNat:=by
 refine⟨ns.map fun n=>UInt8.ofNat n.toNat,by simp,by simp[strOfNums],fun j x hx=>?_⟩
 rw[A0v] at hx
 obtain⟨n,hn,rfl⟩:=A0b.1 hx
 have:=A0z.1 h n (B0i hn)
 simp only[A0g,decide_eq_true_eq] at this
 rw[A0i,hn]
 simp
 omega

theorem sH (w:World) (t u ty e:TypeId) (i:TypeInfo) (ht:P.underlying t=some (.slice e)) (hu:P.underlying u=some .string) (hi:P.info? e=some i) (hz:i.zero=some (.int .u8 0)) (hsize:i.size=1) (hby:i.bytes=1)
  (v:Value) (n:Nat) (xs:List Value) (hown:w.ownsRow 0 e 1 v n xs) (s:ByteArray) (hs:0<s.size) (h63:n+s.size≤maxLen) (hbytes:n+s.size≤140737488355328) :
  ∃v' w',(Builtin.append_ #[t,u] ty #[v,.string s]).run P w=.ok v' w'∧w'.ownsRow 0 e 1 v' (n+s.size) (xs++Lib.strCells s) ∧
   ((v'.ownBlock=v.ownBlock∧Ld w w' v.ownBlock)∨(v'.ownBlock=some w.heap.size∧Ld w w' none)):=by
 have hsmall:n+s.size≤9223372036854775807:=by simp only[maxLen] at h63;omega
 have hxl:xs.length=n:=by simpa using hown.1
 have hlen:(xs++Lib.strCells s).length=(n+s.size)*1:=by rw[A0t,hxl,Lib.strCells_length,Nat.mul_one]
 have grown:∀(old:Nat),old<n+s.size →
   (w.drew.alloc (.cells (xs.toArray++(Lib.strCells s).toArray++Builtin.zeroCells (Value.int .u8 0).cells (grownCap w (n+s.size) old e-(n+s.size))) e)).ownsRow 0 e 1
    (.slice (some ⟨w.heap.size,0,none⟩) (n+s.size) (grownCap w (n+s.size) old e)) (n+s.size) (xs++Lib.strCells s) ∧
   Ld w (w.drew.alloc (.cells (xs.toArray++(Lib.strCells s).toArray++Builtin.zeroCells (Value.int .u8 0).cells (grownCap w (n+s.size) old e-(n+s.size))) e)) none:=by
  intro old ho
  have hge:=grownCap_ge w (n+s.size) old e
  have uY:grownCap w (n+s.size) old e≤maxLen:=grownCap_le_maxLen w (n+s.size) old e h63
  refine⟨⟨hlen,.inr ⟨w.heap.size,_,_,rfl,Nat.zero_le _,heap_alloc_new w.drew _,hge,uY,?_,?_⟩⟩,⟨rfl,⟨rfl,by simp⟩,rfl,by simp,fun k hk _=>gr w.drew _ k hk⟩⟩
  ·simp only[Array.size_append,List.size_toArray,size_zeroCells,hxl,Lib.strCells_length,Value.cells]
   simp
   omega
  ·simp only[Array.toList_append,B0b]
   rw[←B0b,←hlen]
   exact List.take_left
 rcases hown.2 with⟨rfl,rfl⟩ | ⟨g,cap,cur,rfl,Qa,hg,hnc,uY,hcs,th⟩
 ·have hx:xs=[]:=A0w hxl
  subst hx
  have hr:=run_append_nil_string (P:=P) w t u ty e i _ ht hu hi hz s hs (by omega) (by rw[hby];omega)
  have pq:=grown 0 (by omega)
  simp only[B0k,A0r,Array.empty_append] at pq ⊢
  have hce:(s.data.map fun b=>Value.int .u8 b.toNat)=(Lib.strCells s).toArray:=by
   apply Array.ext'
   simp[Lib.strCells]
  rw[hce] at hr
  exact⟨_,_,hr,pq.1,.inr ⟨rfl,pq.2⟩⟩
 ·by_cases hroom:n+s.size≤cap
  ·have hfit:n+s.size≤cur.size:=by omega
   have hr:=Lib.run_append_room_string (P:=P) w t u ty e i ht hu hi hsize g n cap cur hg s hroom hfit
   refine⟨_,_,hr,⟨hlen,.inr ⟨g,cap,_,rfl,Qa,setRow_heap w g cur _ e _ hg,hroom,uY,?_,?_⟩⟩,.inl ⟨rfl,⟨rfl,⟨rfl,A0m _⟩,rfl,by simp,fun k _ hk=>setRow_other w g k _ (fun e=>hk (by simp[Value.ownBlock,e]))⟩⟩⟩
   ·simp only[List.size_toArray,A0t,B0s,List.length_drop,B0j,Lib.strCells_length]
    omega
   ·rw[show cur.toList.take n=xs from by rw[←th,Nat.mul_one],←hlen]
    exact List.take_left
  ·have holds:∀j u,xs[j]? = some u→w.cell? ((⟨g,0,none⟩:Addr).add j)=some u:=hown.cells (g:=g) rfl
   have hr:=Lib.run_append_grow_string (P:=P) w t u ty e i _ ht hu hi hz ⟨g,0,none⟩ n cap xs (by rw[hsize,hxl,Nat.mul_one]) holds s (by omega) (by omega) (growslice_fits (by omega) (by rw[hby];omega))
   have pq:=grown cap (by omega)
   exact⟨_,_,hr,pq.1,.inr ⟨rfl,pq.2⟩⟩

theorem Ft (s:ByteArray):bI (eG s)=eG s∧(eG s).length=s.size∧bM 1 (eG s)=true∧∀{w:World} {S:Sets} (j:Nat) (v:Value) (d:D),(Lib.strCells s)[j]? = some v→(eG s)[j]? = some d→aZ w S v d∧d.one=true:=by
 have hc:∀l:List UInt8,bI (l.map fun b:UInt8=>D.v (.int .u8 b.toNat))=l.map fun b:UInt8=>D.v (.int .u8 b.toNat):=by
  intro l
  induction l with
  | nil=>rfl
  | cons x r ih=>simp only[List.map_cons,bI,List.flatMap_cons,D.cells] at ih ⊢;rw[ih];rfl
 refine⟨hc _,by unfold eG;rw[List.length_map,B0j];rfl,by unfold bM eG;rw[A0z];intro e he;obtain⟨b,_,rfl⟩:=B0r.1 he;rfl,fun j v d hv hd=>?_⟩
 simp only[Lib.strCells,eG,A0v,A0b] at hv hd
 obtain⟨b,hb,rfl⟩:=hv
 obtain⟨b',hb',rfl⟩:=hd
 rw[hb] at hb'
 cases hb'
 exact⟨.v rfl,rfl⟩

theorem uz (w:World)(t u ty e:TypeId)(i:TypeInfo)(ht:P.underlying t=some (.slice e))(hu:P.underlying u=some .string)(hi:P.info? e=some i)(ad:Option Addr)(n cap:Nat)(hn:n≤cap)(s:ByteArray)(hs:s.size=0) :
  (Builtin.append_ #[t,u] ty #[.slice ad n cap,.string s]).run P w=.ok (.slice ad n cap) w:=by
 have hf:(Builtin.firstCells i.size 0 (.string s)).run P w=.ok #[] w:=by simp[Builtin.firstCells]
 cases ad <;> simp[Builtin.append_,run_underlying ht,run_underlying hu,sizeOf,typeInfo,hi,Builtin.lenOf,hs,hn,hf,storeCells]

theorem En {o:Oper} {s x:Operand} {t t':TypeId} {cf:bV} {hx:E} {aH:Operand→SV} {ix:Nat} {r:bZ} (ho:o.op=.call { callee:=.builtin .append,args:=#[s,x],argTypes:=#[t,t'] }) (hv:∀x,cu w ρ env (a.eval x) (aH x)) (bW:σ.obj aO=some (.store cf hx)) (hl:vG P cf hx s aH (aH x) t t' ix=some r)
  (h:bE w0 X w a σ env ρ) (hd:∀d,o.dst=some d→d<σ.tmps.length) (hb:aY P env ix r.bind):∃z,r.cA=some (aO,z)∧cX P o a w w0 X ((σ.setObj aO (some z)).put o.dst r.val) env:=by
 obtain⟨bs,eO,hst,_⟩:=h.cn _ _ bW
 unfold vG at hl
 split at hl
 ·cases hl
 rename_i hro
 replace hro:cf.ro=false:=by simpa using hro
 split at hl
 ·rename_i s' sb x' e hs' hx' hu jf
  split at hl
  ·rename_i i hi
   split at hl
   ·rename_i hz
    split at hl
    ·rename_i hc
     obtain⟨hi1,hi2,hne⟩:=hc
     cases hl
     have hvs:=IG (hv s)
     rw[hs'] at hvs
     obtain⟨ds,hds,jE,_⟩:=hvs.gj
     obtain⟨dx,fW,fF⟩:=SV.toE_rd hx' (hv x)
     obtain⟨d,he,bQ⟩:=hb
     simp only[E.eval,eO,hds,fW,A0d,D.m4] at he
     refine⟨_,rfl,?_⟩
     obtain⟨dy,wW,he⟩:=A0c.1 he
     obtain⟨str,rfl,Ru,rfl⟩:∃str:ByteArray,dx=.v (.string str)∧str.size≤maxLen∧dy=.a_ (eG str):=by
      unfold D.iA at wW
      split at wW
      ·split at wW
       ·cases wW;exact⟨_,rfl,by assumption,rfl⟩
       ·cases wW
      ·cases wW
     obtain⟨nq,hlen,hall,hrd⟩:=Ft str
     have mH:a.eval x=.string str:=fF.v_eq
     have hyE:(E.m4 .iA x' .nil .nil .nil).eval env=some (.a_ (eG str)):=by simp only[E.eval,fW,A0d,D.m4,wW]
     have c8:∀{v':Value} {w':World},(Builtin.append_ #[t,t'] o.type #[a.eval s,.string str]).run P w=.ok v' w'→(execOp a.eval o).run P w=.ok (.value v') w':=by
      intro v' w' hr
      rw[←mH] at hr
      unfold execOp
      simp only[ho,resolve,invoke,builtin,A0k,A0n,A0e,List.map_toArray,List.map_cons,List.map_nil,hr]
     have Ra:∀{ad:Option Addr} {n cap:Nat} {ds':D},eG str=[]→a.eval s=.slice ad n cap→n≤cap→aZ w ρ.S (a.eval s) ds'→ds'.one=true→env[ix]? = some (.st bs)→(E.apps hx s' (.m4 .iA x' .nil .nil .nil)).eval env=some ds'→cX P o a w w0 X ((σ.setObj aO (some (.store cf (.sym ix)))).put o.dst (.e (.apps hx s' (.m4 .iA x' .nil .nil .nil)) true)) env:=by
      intro ad n cap ds' kV rP hcap adL hone bQ hval
      have hs0:str.size=0:=by rw[←hlen,kV];rfl
      have aG:=h.eI (x':=.sym ix) bW hro (by simpa[E.eval] using bQ) hst (bp.refl _ _) (Sets.le_refl _) rfl ⟨rfl,A0m _⟩ rfl (A0m _) (fun _ _ _=>rfl) (fun b hb=>⟨.inl hb,eC h bW b hb⟩) (fun b o hs=>.inl hs) h.cells
      refine bq (v:=a.eval s) (c8 ?_) (aG.put (by intro d e;rw[af.aA];exact hd d e) (.e hval adL fun _=>hone))
      rw[rP]
      exact uz w t t' o.type e i hu jf hi ad n cap hcap str hs0
     have LK:∀{n:Nat} {cs xs:List Value} {cU gi:List D},eG str≠[]→n+(eG str).length≤maxLen→(n+(eG str).length)*1≤140737488355328→(∀(j:Nat) (d:D),cU[j]? = some d→d.one=true)→w.ownsRow 0 e 1 (a.eval s) n xs→cU.length=n*1→(∀(j:Nat) (v:Value) (d:D),xs[j]? = some v→cU[j]? = some d→aZ w ρ.S v d) →
       gi.length=bs.length→(∀b,(a.eval s).ownBlock=some b→ρ.an b∧(∀off,¬ρ.S b off)∧∀(j:Nat) (x:D),gi[j]? = some x→x.live=true→ρ.S.loc j≠b)→(∀(j:Nat) (x:D),gi[j]? = some x→x.live=true→bs[j]? = some x)→env[ix]? = some (.st (gi++[.bh e 1 (cU++bI (eG str))])) →
       (E.apps hx s' (.m4 .iA x' .nil .nil .nil)).eval env=some (.sl bs.length 0 (n+(eG str).length))→cX P o a w w0 X ((σ.setObj aO (some (.store cf (.sym ix)))).put o.dst (.e (.apps hx s' (.m4 .iA x' .nil .nil .nil)) true)) env:=by
      intro n cs xs cU gi OJ hml hby EE hown dP De pg Bq hold bQ hval
      have hs0:0<str.size:=by rw[←hlen];exact List.length_pos_iff.2 OJ
      obtain⟨v',w',hrun,hown',fk⟩:=sH w t t' o.type e i hu jf hi hz hi1 hi2 (a.eval s) n xs hown str hs0 (by rw[hlen] at hml;exact hml) (by rw[hlen] at hby;omega)
      refine z_ (i:=i) (n:=n) (m':=(eG str).length) (cs:=cU) (news:=Lib.strCells str) (by omega) bW hro eO OJ rfl (by rw[nq,A0z];intro d hd;obtain⟨b,_,rfl⟩:=B0r.1 hd;rfl) EE (by rw[hi1];exact hown) (by rw[hi1];exact dP) De pg Bq hold (by rw[hi1];exact bQ) hval h hd (c8 hrun) (by rw[hi1,hlen];exact hown') fk (by rw[Lib.strCells_length,hlen,hi1,Nat.mul_one]) (by rw[nq,hlen,Lib.strCells_length]) (fun j v d hv hd=>?_)
      rw[nq] at hd
      exact hrd j v d hv hd
     unfold D.fC at he
     split at he
     ·rename_i ew ys e3 o9 _ _
      cases e3
      have o9:eG str=ys:=by simpa[D.Dj] using o9
      subst o9
      have rP:a.eval s=.slice none 0 0:=by
       generalize a.eval s=v at jE
       cases jE
       rfl
      split at he
      ·rename_i kV
       cases he
       exact Ra kV rP (A0m _) jE rfl bQ (by simp only[E.eval,eO,hds,fW,A0d,D.m4,wW,D.apps,D.cnt,kV,List.length_nil,if_true])
      ·rename_i OJ
       split at he
       ·rename_i uZ
        cases he
        exact LK (n:=0) (cs:=[]) (xs:=[]) (cU:=[]) (gi:=bs) OJ (by simpa using uZ.2.1) (by simpa using uZ.1) (by simp) (by rw[rP];exact World.ownsRow_nil w 0 e 1) (by simp) (by simp) rfl (fun b hb=>by rw[rP] at hb;cases hb) (fun j _ hj _=>hj) (by simpa using bQ) (by simp only[E.eval,eO,hds,fW,A0d,D.m4,wW,D.apps,D.cnt,if_neg (fun e=>OJ (A0w e)),B0k])
       ·cases he
     ·rename_i ew k off n ys e3 o9 _ _
      cases e3
      have o9:eG str=ys:=by simpa[D.Dj] using o9
      subst o9
      split at he
      ·rename_i kV
       cases he
       have Tb:=jE
       generalize rP:a.eval s=v at jE
       cases jE with
       | @sl _ _ _ cc hk hle uY h0=>
        exact Ra kV rP hle Tb rfl bQ (by simp only[E.eval,eO,hds,fW,A0d,D.m4,wW,D.apps,D.cnt,kV,List.length_nil,if_true])
      ·rename_i OJ
       obtain⟨bh,jj,he⟩:=A0c.1 he
       split at he
       ·rename_i uZ
        cases he
        obtain⟨c0,c1,c2,c3,c4,c5,c6,c7⟩:=uZ
        subst c0
        have fX:=fB jj
        rw[c1,c2] at fX
        obtain⟨hf,vs,⟨e',hh,hty⟩,hsz,hlen',hone,hr,jk⟩:=hst.cells k _ _ _ fX
        obtain rfl:e=e':=(hty.resolve_left hne).symm
        generalize rP:a.eval s=v at jE
        cases jE with
        | @sl _ _ _ cc hk hle uY h0=>
        have hcap:=h0 rfl
        have hown:w.ownsRow 0 e 1 (a.eval s) n (vs.toList.take (n*1)):=by
         refine⟨?_,.inr ⟨ρ.S.loc k,cc,vs,rP,Nat.zero_le _,hh,hle,uY,by rw[hcap];exact hsz,rfl⟩⟩
         rw[B0s,B0j]
         omega
        refine LK (n:=n) (cs:=[]) (xs:=vs.toList.take (n*1)) (cU:=bh.2.2) (gi:=bs.set k (.aM [])) OJ c5 c4 hone hown c3 (fun j v d hj Ar=>?_) (by simp) (fun b hb=>?_) (fun j x hj hx=>?_) bQ (by simp only[E.eval,eO,hds,fW,A0d,D.m4,wW,D.apps,D.cnt,if_neg (fun e=>OJ (A0w e))])
        ·rw[B0c] at hj
         split at hj
         ·exact hr j v d (by simpa using hj) Ar
         ·cases hj
        ·rw[rP] at hb
         have hb':ρ.S.loc k=b:=by simpa[Value.ownBlock] using hb
         subst hb'
         refine⟨hf,jk,fun j x hj hx hl=>?_⟩
         rw[A0x] at hj
         split at hj
         ·split at hj <;> cases hj
          cases hx
         ·rename_i yX
          exact yX (hst.inj j k _ _ hj fX hx rfl hl).symm
        ·rw[A0x] at hj
         split at hj
         ·split at hj <;> cases hj
          cases hx
         ·exact hj
       ·split at he
        ·rename_i uZ
         cases he
         obtain⟨c0,c1,c2,c3,c4,c5,c6,c7⟩:=uZ
         subst c0
         have fX:=fB jj
         rw[c1,c2] at fX
         obtain⟨hf,vs,⟨e',hh,hty⟩,hsz,hlen',hone,hr,jk⟩:=hst.cells k _ _ _ fX
         obtain rfl:e=e':=(hty.resolve_left hne).symm
         generalize rP:a.eval s=v at jE
         cases jE with
         | @sl _ _ _ cc hk hle uY h0=>
         have hcap:=h0 rfl
         have hown:w.ownsRow 0 e 1 (a.eval s) n (vs.toList.take (n*1)):=by
          refine⟨?_,.inr ⟨ρ.S.loc k,cc,vs,rP,Nat.zero_le _,hh,hle,uY,by rw[hcap];exact hsz,rfl⟩⟩
          rw[B0s,B0j]
          omega
         refine LK (n:=n) (cs:=[]) (xs:=vs.toList.take (n*1)) (cU:=bh.2.2.take (n*1)) (gi:=bs.set k (.aM [])) OJ c5 c4 (fun j d hj=>by
           rw[B0c] at hj
           split at hj
           ·exact hone j d hj
           ·cases hj) hown (by rw[B0s];omega) (fun j v d hj Ar=>?_) (by simp) (fun b hb=>?_) (fun j x hj hx=>?_) bQ (by simp only[E.eval,eO,hds,fW,A0d,D.m4,wW,D.apps,D.cnt,if_neg (fun e=>OJ (A0w e))])
         ·rw[B0c] at hj Ar
          split at hj
          ·rename_i hlt
           rw[if_pos hlt] at Ar
           exact hr j v d (by simpa using hj) Ar
          ·cases hj
         ·rw[rP] at hb
          have hb':ρ.S.loc k=b:=by simpa[Value.ownBlock] using hb
          subst hb'
          refine⟨hf,jk,fun j x hj hx hl=>?_⟩
          rw[A0x] at hj
          split at hj
          ·split at hj <;> cases hj
           cases hx
          ·rename_i yX
           exact yX (hst.inj j k _ _ hj fX hx rfl hl).symm
         ·rw[A0x] at hj
          split at hj
          ·split at hj <;> cases hj
           cases hx
          ·exact hj
        ·cases he
     ·cases he
    ·cases hl
   ·cases hl
  ·cases hl
 ·cases hl

theorem Ef {o:Oper}{aH:Operand→SV}{ix:Nat}{r:bZ}(hv:∀x,cu w ρ env (a.eval x) (aH x))(hl:pT P o aH (σ.obj aO) ix=some r)(h:bE w0 X w a σ env ρ)(hd:∀d,o.dst=some d→d<σ.tmps.length)(hb:aY P env ix r.bind) :
  (r.cA=none∧cX P o a w w0 X (σ.put o.dst r.val) env)∨∃z,r.cA=some (aO,z)∧cX P o a w w0 X ((σ.setObj aO (some z)).put o.dst r.val) env:=by
 unfold pT at hl
 split at hl
 case h_2=>cases hl
 rename_i cf hx bW
 obtain⟨bs,eO,hst,_⟩:=h.cn _ _ bW
 split at hl
 ·rename_i s t x ho
  split at hl
  case isFalse=>cases hl
  have conv:∀{v:Value},(convert s t (a.eval x)).run P w=.ok v w→(execOp a.eval o).run P w=.ok (.value v) w:=fun hr=>by
   unfold execOp
   simp only[ho,A0k,hr,A0e,A0n]
  have xm:∀{e:TypeId} {x':E},(aH x).toE=some x'→uh P e=true→((P.underlying s=some (.pointer e)∧P.underlying t=some .unsafePointer)∨(P.underlying s=some .unsafePointer∧P.underlying t=some (.pointer e)))→aY P env ix (some (.ev (.m4 (.xm e (P.cellsOf e)) hx x' .nil .nil)))→cX P o a w w0 X (σ.put o.dst (.e (.sym ix) true)) env:=by
   intro e x' hx' hk hu hb
   obtain⟨dx,fW,fF⟩:=SV.toE_rd hx' (hv x)
   obtain⟨d,he,bQ⟩:=hb
   simp only[E.eval,eO,fW,A0d,D.m4] at he
   obtain⟨g1,rfl,g2⟩:=Lo hst hk hu fF he
   exact aI h hd (conv g1) (.e (by simp only[E.eval];exact bQ) fF fun _=>g2)
  split at hl
  ·rename_i e x' hs ht hx'
   split at hl
   ·rename_i he
    cases hl
    obtain⟨dx,fW,fF⟩:=SV.toE_rd hx' (hv x)
    obtain⟨d,bz,bQ⟩:=hb
    simp only[E.eval,eO,fW,A0d,D.m4] at bz
    obtain⟨u,g1,rfl⟩:=KV hst hs (Cw he) ht fF bz
    exact .inl ⟨rfl,aI h hd (conv g1) (.e (by simp only[E.eval];exact bQ) (.v rfl) fun _=>rfl)⟩
   ·cases hl
  ·rename_i e x' hs ht hx'
   split at hl
   ·rename_i hk
    cases hl
    exact .inl ⟨rfl,xm hx' hk (.inl ⟨hs,ht⟩) hb⟩
   ·cases hl
  ·rename_i e x' hs ht hx'
   split at hl
   ·rename_i hk
    cases hl
    exact .inl ⟨rfl,xm hx' hk (.inr ⟨hs,ht⟩) hb⟩
   ·cases hl
  ·cases hl
 ·rename_i t g i ho
  split at hl
  ·rename_i n e i' ht hi'
   obtain⟨sz,hsz,rfl⟩:=A0b.1 hl
   obtain⟨di,P7,PU⟩:=SV.toE_rd hi' (hv i)
   obtain⟨d,bz,bQ⟩:=hb
   simp only[E.eval,eO,P7,A0d,D.m4] at bz
   obtain⟨k,m,rfl,h0,h1,hrd,h2⟩:=TS hst bz
   have he:P.elem t=e:=by simp[Program.elem,ht]
   have hlen:P.arrayLen t=n:=by simp[Program.arrayLen,ht]
   refine .inl ⟨rfl,aI h hd (v:=.pointer (some ⟨g,m.toNat*sz,none⟩)) ?_ (.e (by simp only[E.eval];exact bQ) hrd fun _=>h2)⟩
   have hr:=run_indexAt_array (P:=P) w t ⟨g,0,none⟩ k m (by rw[he,hlen];exact ht)
   rw[hlen,if_pos ⟨h0,h1⟩,he,run_sizeOf hsz] at hr
   simp only[A0e,fz,B0k] at hr
   have hg:a.eval (.global g)=.pointer (some ⟨g,0,none⟩):=rfl
   unfold execOp
   simp only[ho,hg,PU.v_eq,A0k,hr,A0e,A0n]
  ·cases hl
 ·rename_i c ho
  obtain⟨callee,args,ts⟩:=c
  split at hl
  ·rename_i p n pt nt iB hargs hts
   simp only at iB hargs hts
   subst iB
   have e1:args=#[p,n]:=by rw[←B0g (xs:=args),hargs]
   have e2:ts=#[pt,nt]:=by rw[←B0g (xs:=ts),hts]
   subst e1 e2
   split at hl
   ·cases hl
   rename_i hro
   replace hro:cf.ro=false:=by simpa using hro
   split at hl
   ·rename_i e p' n' hpt hp' hn'
    split at hl
    ·rename_i hce
     cases hl
     obtain⟨dp,Nm,FF⟩:=SV.toE_rd hp' (hv p)
     obtain⟨dn,hdn,UN⟩:=SV.toE_rd hn' (hv n)
     obtain⟨d,bz,bQ⟩:=hb
     simp only[E.eval,eO,Nm,hdn,A0d,D.m4] at bz
     refine .inr ⟨_,rfl,?_⟩
     have hex:∀{u:Value} {w':World},(Builtin.unsafeString_ #[pt,nt] o.type #[a.eval p,a.eval n]).run P w=.ok u w'→(execOp a.eval o).run P w=.ok (.value u) w':=by
      intro u w' hu
      unfold execOp
      simp only[ho,resolve,invoke,builtin,A0k,A0n,A0e,List.map_toArray,List.map_cons,List.map_nil,hu]
     obtain⟨ds,hds,cL⟩:=A0c.1 bz
     have hval:(E.m4 (.FP e) hx p' n' .nil).eval env=some ds:=by simp only[E.eval,eO,Nm,hdn,A0d,D.m4,hds]
     unfold D.FP at hds
     split at hds
     ·cases hds
      cases cL
      have aG:=h.eI (x':=.sym ix) bW hro (by simpa[E.eval] using bQ) hst (bp.refl _ _) (Sets.le_refl _) rfl ⟨rfl,A0m _⟩ rfl (A0m _) (fun _ _ _=>rfl) (fun b hb=>⟨.inl hb,eC h bW b hb⟩) (fun b o hs=>.inl hs) h.cells
      exact bq (hex (by rw[FF.v_eq,UN.v_eq];rfl)) (aG.put (by intro d e;rw[af.aA];exact hd d e) (.e hval (.v rfl) fun _=>rfl))
     ·rename_i i m
      obtain⟨b,hb0,hds⟩:=A0c.1 hds
      split at hds
      ·rename_i hc
       obtain⟨hm0,hml,Yn,Ru⟩:=hc
       obtain⟨ns,jk,hds⟩:=A0c.1 hds
       split at hds
       ·rename_i hall
        cases hds
        cases cL
        obtain⟨Ka,hcell⟩:=vX (off:=0) (n:=m.toNat) hst hb0 (by omega) (by simpa using jk)
        obtain⟨vs,e',hh,hee,hle,Yd,_⟩:=z0 hst hb0
        have he':e'=e:=by rw[hee (by rw[Yn];exact hce.2),Yn]
        subst he'
        obtain⟨l,K6,pg,hl3⟩:=Du hall
        have Rs:a.eval p=.pointer (some ⟨ρ.S.loc i,0,none⟩):=by
         generalize a.eval p=v at FF
         cases FF
         rfl
        have M6:m=(l.length:Nat):=by omega
        have hne:l≠[]:=by
         intro e
         subst e
         simp at M6
         omega
        have hrun:=Lib.run_unsafeString_row (P:=P) w pt nt o.type e' hpt hce.1 (ρ.S.loc i) vs.size (by simp[World.shape?,hh]) l hne (by omega) (by unfold maxLen at Ru;omega) (fun j x hx=>by
         have hj:j<m.toNat:=by have:=(A0a.1 hx).1;omega
         have:=hcell j hj
         rw[hl3 j x hx,B0k] at this
         rw[fz,B0k]
         exact this)
        rw[←M6] at hrun
        have Tg:∀b,b≠ρ.S.loc i→(w.freeze ⟨ρ.S.loc i,0,none⟩ l.length).heap[b]? = w.heap[b]?:=by
         intro b hb
         unfold World.freeze
         split
         ·rfl
         ·simp only[Array.getElem?_modify]
          rw[if_neg (fun e=>hb e.symm)]
        have gZ:(w.freeze ⟨ρ.S.loc i,0,none⟩ l.length).os=w.os∧TL (w.freeze ⟨ρ.S.loc i,0,none⟩ l.length) w∧(w.freeze ⟨ρ.S.loc i,0,none⟩ l.length).output=w.output∧(w.freeze ⟨ρ.S.loc i,0,none⟩ l.length).heap.size=w.heap.size:=by
         unfold World.freeze
         split
         ·exact⟨rfl,.refl _,rfl,rfl⟩
         ·exact⟨rfl,⟨rfl,A0m _⟩,rfl,by simp⟩
        have hK:bp ρ.S w (w.freeze ⟨ρ.S.loc i,0,none⟩ l.length):=fun b off hS=>World.cell?_of_block (a:=⟨b,off,none⟩) (Tg b fun e=>hst.rH _ off Yd (e ▸ hS))
        have CG:=hst.lose (fB hb0) rfl hK fun b _ hb=>Tg b hb
        have aG:=h.eI (x':=.sym ix) bW hro (by simpa[E.eval] using bQ) CG hK (Sets.le_refl _) gZ.1 gZ.2.1 gZ.2.2.1 (by rw[gZ.2.2.2];exact A0m _) (fun b _ hnf=>Tg b fun e=>hnf (e ▸ Yd)) (fun b hb=>⟨.inl hb.1,by rw[gZ.2.2.2];exact eC h bW b hb.1⟩) (fun b o hs=>.inl hs) (fun b off hs=>by rw[gZ.2.2.2];exact h.cells b off hs)
        exact bq (hex (by rw[Rs,UN.v_eq];exact hrun)) (aG.put (by intro d e;rw[af.aA];exact hd d e) (.e hval (by rw[pg];exact .v rfl) fun _=>rfl))
       ·cases hds
      ·cases hds
     ·cases hds
    ·cases hl
   ·cases hl
  ·rename_i s x t t' iB hargs hts
   simp only at iB hargs hts
   subst iB
   have e1:args=#[s,x]:=by rw[←B0g (xs:=args),hargs]
   have e2:ts=#[t,t']:=by rw[←B0g (xs:=ts),hts]
   subst e1 e2
   exact .inr (En ho hv bW hl h hd hb)
  ·cases hl
 ·cases hl

end
end
end

section
noncomputable section

def AB (P:Program)(o:Oper)(aH:Operand→SV)(hO:Option aE)(ix:Nat):Option bZ:=
 match hO with
 | some (.store cf h)=>(match o.op with
  | .call c=>(match c.callee,c.args.toList with
   | .value (.func f), [x] => if Bo P f "maps.clone" = true ∧ cf.ro = false ∧ cf.Px.contains f = false then
     (aH x).toE.map fun x'=>{ val:=.e (.m4 .Mf h x' .nil .nil) true,cA:=some (aO,.store cf (.sym ix)),bind:=some (.ev (.m4 .Mg h x' .nil .nil)) } else none
   | _,_=>none)
  | _=>none)
 | _=>none

section
variable {P:Program} {w w0:World} {X:gB} {a:Act} {σ:af} {env:List D} {ρ:cr}

theorem zy (fn : Func) (h : fn.name = "maps.clone") : Extern.find fn = some Extern.MapsClone.clone := by
 unfold Extern.find
 rw[h]
 kernel_rfl

theorem Aw {r:Nat}{es:Array MapEntry}{clock:Nat}(t:TypeId)(hb:w.heap[r]? = some (.map es clock)) :
  (Extern.MapsClone.clone #[.iface t (.map (some r))]).run P w=.ok (.iface t (.map (some w.heap.size))) (w.alloc (.map es clock)):=by
 have e:Extern.MapsClone.clone #[.iface t (.map (some r))]=(getObj r >>= fun o=>match o with
   | .map entries clock=>(newObj (.map entries clock) >>= fun n=>pure (.iface t (.map (some n))))
   | _ => stuck "maps.clone: a map expected") := rfl
 rw[e]
 simp[MapKept.run_getObj_map hb,Result.andThen,go_sem]

theorem GO {o:Oper}{aH:Operand→SV}{ix:Nat}{r:bZ}(hv:∀x,cu w ρ env (a.eval x) (aH x))(hl:AB P o aH (σ.obj aO) ix=some r)(h:bE w0 X w a σ env ρ)(hd:∀d,o.dst=some d→d<σ.tmps.length)(hb:aY P env ix r.bind) :
  ∃z,r.cA=some (aO,z)∧cX P o a w w0 X ((σ.setObj aO (some z)).put o.dst r.val) env:=by
 unfold AB at hl
 split at hl
 case h_2=>cases hl
 rename_i cf hx bW
 obtain⟨bs,eO,hst,_⟩:=h.cn _ _ bW
 split at hl
 case h_2=>cases hl
 rename_i c ho
 obtain⟨callee,args,ts⟩:=c
 simp only at hl
 split at hl
 case h_2=>cases hl
 rename_i f x hargs
 have e1:args=#[x]:=by rw[←B0g (xs:=args),hargs]
 subst e1
 split at hl
 case isFalse=>cases hl
 rename_i hc
 obtain⟨yZ,hro,_⟩:=hc
 obtain⟨x',hx',rfl⟩:=A0b.1 hl
 obtain⟨dx,fW,fF⟩:=SV.toE_rd hx' (hv x)
 obtain⟨d,bz,bQ⟩:=hb
 simp only[E.eval,eO,fW,A0d,D.m4] at bz
 refine⟨_,rfl,?_⟩
 unfold D.Mg at bz
 split at bz
 case h_2=>cases bz
 rename_i ew t i aen
 cases aen
 split at bz
 case h_2=>cases bz
 rename_i bH hkv
 cases bz
 obtain⟨hf,es,clock,hh,hsz,jk,hr⟩:=hst.maps i _ hkv
 have hex:a.eval x=.iface t (.map (some (ρ.S.loc i))):=by
  generalize a.eval x=v at fF
  cases fF with
  | fq hrd=>
   cases hrd
   rfl
 have hrun:(execOp a.eval o).run P w=.ok (.value (.iface t (.map (some w.heap.size)))) (w.alloc (.map es clock)):=by
  unfold execOp
  have h1:a.eval (.func f)=.func (.func f) #[] #[]:=rfl
  have h2:(callFunc f #[a.eval x]).run P w=.ok (.value (.iface t (.map (some w.heap.size)))) (w.alloc (.map es clock)):=by
   rw[qz yZ (by decide) zy,hex,Aw t hh]
   rfl
  simp only[ho,resolve,h1,Deferred.ofValue,invoke,A0k,A0n,A0e,List.map_toArray,List.map_cons,List.map_nil,List.append_nil,Array.append_empty,Array.empty_append,h2]
 obtain⟨aG,hn⟩:=h.mZ (k:=0) (z:=.fm bH) (ob:=.map es clock) (x':=.sym ix) bW hro eO (fun e sz cs hz=>by cases hz) (fun kH hz=>by cases hz;exact⟨es,clock,rfl,hsz,hr⟩) (by simp only[E.eval];exact bQ)
 refine bq hrun (aG.put (by rw[af.aA];exact hd) ?_)
 refine .e (d:=.fq t (.mp bs.length)) (by simp only[E.eval,eO,fW,A0d,D.m4,D.Mf,hkv]) ?_ fun _=>rfl
 have:=aZ.mp (w:=w.alloc (.map es clock)) (S:=ρ.S.more w.heap.size 0) (i:=bs.length) (by simp[Sets.more,hn])
 have hl:(ρ.S.more w.heap.size 0).loc bs.length=w.heap.size:=by simp[Sets.more,hn]
 rw[hl] at this
 exact .fq this

theorem GP {o:Oper}{aH dK:Operand→SV}{hO:Option aE}{ix:Nat}(hv:∀x,x∈o.op.operands→dK x=aH x):AB P o dK hO ix=AB P o aH hO ix:=by
 unfold AB
 split
 ·split
  ·rename_i c ho
   obtain⟨callee,args,ts⟩:=c
   split
   ·rename_i f x iB hargs
    simp only at iB hargs
    rw[hv x (by
     rw[ho]
     have:x∈args:=by
      have:x∈args.toList:=by rw[hargs];simp
      simpa using this
     simp only[Op.operands,Call.operands]
     simp[this])]
   ·rfl
  ·rfl
 ·rfl

end
end
end
end Go.Am
