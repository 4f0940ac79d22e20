/-
  Several texts, one behind the other.
-/
import Derived.Test.YtcofohnmkmknbaaGreatDoorAmBasetoAmTok
import Derived.Laws.Slices
import Derived.Laws.Small
import Derived.Laws.Strings
import Derived.Laws.Strings2
import Derived.Laws.MakeOwn
import Derived.Great.BuildSlice
import Derived.Laws.Tables
import Derived.Lib.Builder
import Derived.Lib.UnsafeStr
import Derived.Lib.AppendStr
import Derived.Laws.IdiomStrings
import Derived.MapKept
import Derived.Laws.Externs
set_option linter.unusedSimpArgs false
set_option linter.unusedVariables false
namespace Go.Am
section
noncomputable section

def loE (ct:Operand→SV):Option Operand→Option E
 | none=>some (.const (.v (.int .i64 0)))
 | some x=>(ct x).jx

def hiE (ct:Operand→SV)(l:E):Option Operand→Option E
 | none=>some (.aR l)
 | some x=>(ct x).jx

def isIface (P:Program)(t:TypeId):Bool:=match P.underlying t with | some (.interface _)=>true | some _=>false | none=>true

def Uu (P:Program)(t:TypeId)(x:SV)(lo hi:Option E)(ix:Nat):Option eV:=
 match P.underlying t,x.jx,lo,hi with
 | some (.slice e),some x',some l,some h=>(w9 P e).map fun n=>{ val:=.e (.sym ix) true,bind:=some (.ev (.sub n x' l h)) }
 | _,_,_,_=>none

def hiS (ct:Operand→SV)(l:E):Option Operand→Option E
 | none=>some (.uJ l)
 | some x=>(ct x).jx

def aiU (P:Program)(t:TypeId)(x:SV)(lo hi:Option E)(ix:Nat):Option eV:=
 match P.underlying t,x.jx,lo,hi with
 | some .string,some x',some l,some h=>some { val:=.e (.sym ix) true,bind:=some (.ev (.m4 .Qix x' l h .nil)) }
 | _,_,_,_=>none

def apD (P:Program)(t:TypeId)(x i:SV)(ix:Nat):Option eV:=
 match P.underlying t,x.jx,i.jx with
 | some .string,some x',some i'=>some { val:=.e (.sym ix) true,bind:=some (.ev (.m4 .eJ x' i' .nil .nil)) }
 | _,_,_=>none

def apI (P:Program)(e:TypeId):Bool:=
 match P.underlying e with
 | some (.int .u8)=>true
 | _=>false

theorem aiV {P:Program}{e:TypeId}(h:apI P e=true):P.underlying e=some (.int .u8):=by
 unfold apI at h
 split at h
 ·assumption
 ·cases h

def apF (P:Program)(s t:TypeId)(x:SV)(ix:Nat):Option eV:=
 match P.underlying s,P.underlying t,x.jx with
 | some (.slice e),some .string,some x'=>if apI P e=true then some { val:=.e (.sym ix) true,bind:=some (.ev (.m4 .anq x' .nil .nil .nil)) } else none
 | _,_,_=>none

def Qc:Operand→Bool
 | .const .nilIface=>true
 | _=>false

def Ij (P:Program)(t:TypeId)(x:SV)(y:Operand)(neg:Bool)(ix:Nat):Option eV:=
 match P.underlying t with
 | some (.interface _)=>if Qc y then x.jx.map fun x'=>{ val:=.e (.sym ix) true,bind:=some (.ev (.m4 (.UQ neg) x' .nil .nil .nil)) } else none
 | _=>none

def DZ (P:Program)(t:TypeId)(x:SV)(ix:Nat):Option eV:=
 if isIface P t then none else match x.jx,((P.info? t).bind (·.zero)).bind D.wI with
 | some x',some z=>some { val:=.bh [.e (.Qrx 0 (.sym ix)) false,.e (.Qrx 1 (.sym ix)) true],bind:=some (.ev (.m4 (.Hz t) x' (.const z) .nil .nil)) }
 | _,_=>none

def Gz (P:Program)(o:Oper)(ct:Operand→SV)(ix:Nat):Option eV:=
 match o.op with
 | .binOp .eql t x y _=>Ij P t (ct x) y false ix
 | .binOp .neq t x y _=>Ij P t (ct x) y true ix
 | .typeAssert x _ t true=>DZ P t (ct x) ix
 | .makeInterface t x=>if isIface P t then none else(ct x).jx.map fun x'=>{ val:=.e (.oO t x') true }
 | .slice t x lo hi none=>((ct x).jx).bind fun x'=>match Uu P t (ct x) (loE ct lo) (hiE ct x' hi) ix with
  | some r=>some r
  | none=>aiU P t (ct x) (loE ct lo) (hiS ct x' hi) ix
 | .index t x i=>apD P t (ct x) (ct i) ix
 | .convert s t x=>apF P s t (ct x) ix
 | .call c=>match c.callee,c.args.toList with
  | .builtin .max,[x,y]=>(match(ct x).jx,(ct y).jx with
   | some x',some y'=>some { val:=.e (.sym ix) true,bind:=some (.ev (.mm true x' y')) }
   | _,_=>none)
  | .builtin .min,[x,y]=>(match(ct x).jx,(ct y).jx with
   | some x',some y'=>some { val:=.e (.sym ix) true,bind:=some (.ev (.mm false x' y')) }
   | _,_=>none)
  | _,_=>none
 | _=>none

theorem KI {P:Program}{o:Oper}{ct jg:Operand→SV}{ix:Nat}(hv:∀x,x∈o.op.operands→jg x=ct x):Gz P o jg ix=Gz P o ct ix:=by
 unfold Gz
 generalize hop:o.op=op at *
 cases op <;> try rfl
 case makeInterface t x=>simp only;rw[hv x (by simp[Op.operands])]
 case binOp op t x y yt=>cases op <;> first | rfl | (simp only;rw[hv x (by simp[Op.operands])])
 case typeAssert x xt t ok=>cases ok <;> first | rfl | (simp only;rw[hv x (by simp[Op.operands])])
 case slice t x lo hi mx=>
  cases mx with
  | some m=>rfl
  | none=>
   simp only
   rw[hv x (by simp[Op.operands])]
   have h1:loE jg lo=loE ct lo:=by
    cases lo with
    | none=>rfl
    | some y=>simp only[loE];rw[hv y (by simp[Op.operands])]
   have h2:∀l,hiE jg l hi=hiE ct l hi:=by
    intro l
    cases hi with
    | none=>rfl
    | some y=>simp only[hiE];rw[hv y (by simp[Op.operands])]
   have h3:∀l,hiS jg l hi=hiS ct l hi:=by
    intro l
    cases hi with
    | none=>rfl
    | some y=>simp only[hiS];rw[hv y (by simp[Op.operands])]
   simp only[h1,h2,h3]
 case index t x i=>simp only;rw[hv x (by simp[Op.operands]),hv i (by simp[Op.operands])]
 case convert s t x=>simp only;rw[hv x (by simp[Op.operands])]
 case call c=>
  obtain⟨callee,args,ts⟩:=c
  simp only[Op.operands] at hv ⊢
  have hargs:∀x,x∈args.toList→jg x=ct x:=by
   intro x hx
   refine hv x ?_
   unfold Call.operands
   have:x∈args:=by simpa using hx
   simp
   cases callee <;> simp[this]
  split
  ·rename_i x y hx
   rw[hargs x (by rw[hx];simp),hargs y (by rw[hx];simp)]
  ·rename_i x y hx
   rw[hargs x (by rw[hx];simp),hargs y (by rw[hx];simp)]
  ·rfl

section
variable {P:Program} {w w0:World} {X:kG} {a:Act} {σ:af} {env:List D} {ρ:dJ}

theorem YL {t e:TypeId}(h:P.underlying t=some (.slice e)):P.elem t=e:=by
 simp[Program.elem,h]

theorem aac {S:Sets}{ad:Option Addr}{len cap n:Nat}{es:List D}{l h:Nat}(hr:bU w S (.slice ad len cap) (.bq es))(hz:bK n es=true)(h1:l≤h)(h2:h≤es.length)(m:Nat)(hm:h≤m)(hmc:m≤cap) :
  bU w S (sliced ad l h m n) (.bq ((es.drop l).take (h-l))):=by
 have Mx:∀(i:Nat) (e:D),es[i]? = some e→e.cells.length=n:=fun i e he=>oZ hz he
 cases hr with
 | nil=>
  simp at h2
  have hl0:l=0:=by omega
  have hm0:m=0:=by omega
  subst hl0 hm0 h2
  exact .nil
 | emp hm'=>
  simp at h2
  have hl0:l=0:=by omega
  subst hl0 h2
  unfold sliced
  simp only[Nat.sub_self,List.take_zero]
  by_cases hml:m=0
  ·simp only[hml,if_true]
   exact .emp (Nat.zero_le _)
  ·simp only[if_neg hml,Option.map_some]
   exact .emp (by omega)
 | @bq b off _ _ size _ val hl hc hm' My ho hS hw hr=>
  unfold sliced
  have hidx:∀(i:Nat) (e:D),((es.drop l).take (h-l))[i]? = some e→es[l+i]? = some e∧i<h-l:=by
   intro i e he
   rw[List.getElem?_take] at he
   split at he
   ·rename_i hi
    exact⟨by simpa using he,hi⟩
   ·cases he
  by_cases hml:m=l
  ·have hhl:h=l:=by omega
   subst hml hhl
   simp only[if_true,Nat.sub_self,List.take_zero]
   exact .bq (size:=size) (val:=val) (by simp) (Nat.le_refl _) (by simp[maxLen]) (by simp) (by simp) (by simp) (by simp) (by simp)
  ·simp only[if_neg hml,Option.map_some]
   rw[iR]
   have hsz:∀(i:Nat) (e:D),es[i]? = some e→size=n:=fun i e he=>(My i e he).symm.trans (Mx i e he)
   refine .bq (size:=n) (val:=fun i j=>val (l+i) j) (by simp;omega) (by omega) (by omega) (fun i e he=>Mx _ e (hidx i e he).1) (fun i e j d he hd=>ho _ e j d (hidx i e he).1 hd) (fun i e j d he hd=>?_) (fun i e j d he hd=>?_) fun i e j d he hd=>hr _ e j d (hidx i e he).1 hd
   ·have h5:=(hidx i e he).1
    have:=hS _ e j d h5 hd
    rw[hsz _ e h5] at this
    rwa [show off+l*n+i*n+j=off+(l+i)*n+j from by rw[Nat.add_mul];omega]
   ·have h5:=(hidx i e he).1
    have:=hw _ e j d h5 hd
    rw[hsz _ e h5] at this
    rwa [show off+l*n+i*n+j=off+(l+i)*n+j from by rw[Nat.add_mul];omega]


theorem RH {t:TypeId}(h:isIface P t=false)(v:Value):(Instr.makeInterface t v).run P w=.ok (.iface t v) w:=by
 unfold isIface at h
 cases hu:P.underlying t with
 | none=>rw[hu] at h;cases h
 | some d=>
  rw[hu] at h
  unfold Instr.makeInterface
  rw[Sem.run_bind,run_underlying hu]
  cases d <;> first | rfl | simp at h

theorem aeB {ct:Operand→SV}(hv:∀x,ef w ρ env (a.eval x) (ct x)){lo:Option Operand}{l:E}(h:loE ct lo=some l){k:IntKind}{n:Int}(he:l.eval env=some (.v (.int k n))):(lo=none∧n=0)∨∃x,lo=some x∧a.eval x=.int k n:=by
 cases lo with
 | none=>simp[loE] at h;subst h;simp[E.eval] at he;exact .inl ⟨rfl,he.2.symm⟩
 | some x=>
  obtain⟨d,hd,hr⟩:=SV.ck h (hv x)
  rw[he] at hd
  cases hd
  exact .inr ⟨x,rfl,hr.v_eq⟩

theorem afR {ct:Operand→SV}(hv:∀x,ef w ρ env (a.eval x) (ct x)){hi:Option Operand}{x' l:E}(h:hiE ct x' hi=some l){dx:D}{len:Nat}(hx:x'.eval env=some dx)(qz:D.aR dx=some (.v (.int .i64 len))){k:IntKind}{n:Int}(he:l.eval env=some (.v (.int k n))):(hi=none∧n=len)∨∃x,hi=some x∧a.eval x=.int k n:=by
 cases hi with
 | none=>simp[hiE] at h;subst h;simp[E.eval,hx,qz] at he;exact .inl ⟨rfl,he.2.symm⟩
 | some x=>
  obtain⟨d,hd,hr⟩:=SV.ck h (hv x)
  rw[he] at hd
  cases hd
  exact .inr ⟨x,rfl,hr.v_eq⟩

theorem att {ct:Operand→SV}(hv:∀x,ef w ρ env (a.eval x) (ct x)){hi:Option Operand}{x' l:E}(h:hiS ct x' hi=some l){s:ByteArray}(hx:x'.eval env=some (.v (.string s))){k:IntKind}{n:Int}(he:l.eval env=some (.v (.int k n))):(hi=none∧n=s.size)∨∃x,hi=some x∧a.eval x=.int k n:=by
 cases hi with
 | none=>simp[hiS] at h;subst h;simp[E.eval,hx,D.uJ] at he;exact .inl ⟨rfl,he.2.symm⟩
 | some x=>
  obtain⟨d,hd,hr⟩:=SV.ck h (hv x)
  rw[he] at hd
  cases hd
  exact .inr ⟨x,rfl,hr.v_eq⟩

theorem Xc {o:Oper}{t:TypeId}{x:Operand}{lo hi:Option Operand}{x':E}{ct:Operand→SV}{ix:Nat}{r:eV}(ho:o.op=.slice t x lo hi none)(hx':(ct x).jx=some x')(hv:∀x,ef w ρ env (a.eval x) (ct x))(hl:aiU P t (ct x) (loE ct lo) (hiS ct x' hi) ix=some r)(h:cu w0 X w a σ env ρ)(hd:∀d,o.dst=some d→d<σ.tmps.length)(hb:cn P env ix r.bind) :
  r.eM=none∧gq P o a w w0 X (σ.put o.dst r.val) env:=by
 unfold aiU at hl
 split at hl
 ·rename_i x'' l hh hu afh hlo hhi
  rw[hx'] at afh
  cases afh
  cases hl
  obtain⟨dx,pY,mT⟩:=SV.ck hx' (hv x)
  obtain⟨dz,cV,cW⟩:=hb
  simp only[E.eval,pY,Option.bind_some,Option.bind_eq_some_iff] at cV
  obtain⟨dl,cP,dh,hdh,cV⟩:=cV
  simp only[D.m4] at cV
  unfold D.Qix at cV
  split at cV
  ·rename_i s k1 lv k2 Cd
   split at cV
   ·rename_i hc
    obtain⟨h0,h1,h2⟩:=hc
    cases cV
    refine⟨rfl,bS h hd (v:=.string (s.extract lv.toNat Cd.toNat)) ?_ (.e (d:=.v (.string (s.extract lv.toNat Cd.toNat))) (by simp only[E.eval];exact cW) (.v rfl) fun _=>rfl)⟩
    have xX:a.eval x=.string s:=mT.v_eq
    unfold execOp
    simp only[ho,Option.map_none,xX,Sem.run_bind,run_sliceAt_string w t _ _ _ _ hu]
    rcases aeB hv hlo cP with⟨rfl,rfl⟩ | ⟨xl,rfl,hxl⟩ <;> rcases att hv hhi pY hdh with⟨rfl,rfl⟩ | ⟨xh,rfl,hxh⟩
    ·simp only[Option.map_none,run_slice_string_all w t s hu,Result.andThen_ok,Sem.run_pure]
     simp
    ·simp only[Option.map_none,Option.map_some,hxh,run_slice_string_h w t s hu k2 Cd (by omega) (by omega),Result.andThen_ok,Sem.run_pure]
     simp
    ·simp only[Option.map_none,Option.map_some,hxl,run_slice_string_l w t s hu k1 lv h0 (by omega),Result.andThen_ok,Sem.run_pure]
     simp
    ·simp only[Option.map_some,hxl,hxh,run_slice_string w t s k1 k2 lv Cd hu h0 h1 (by omega),Result.andThen_ok,Sem.run_pure]
   ·cases cV
  ·cases cV
 ·cases hl

theorem alP {o:Oper}{t:TypeId}{x i:Operand}{ct:Operand→SV}{ix:Nat}{r:eV}(ho:o.op=.index t x i)(hv:∀x,ef w ρ env (a.eval x) (ct x))(hl:apD P t (ct x) (ct i) ix=some r)(h:cu w0 X w a σ env ρ)(hd:∀d,o.dst=some d→d<σ.tmps.length)(hb:cn P env ix r.bind) :
  r.eM=none∧gq P o a w w0 X (σ.put o.dst r.val) env:=by
 unfold apD at hl
 split at hl
 ·rename_i x' i' hu hx' hi'
  cases hl
  obtain⟨dx,pY,mT⟩:=SV.ck hx' (hv x)
  obtain⟨di,hdi,hri⟩:=SV.ck hi' (hv i)
  obtain⟨dz,cV,cW⟩:=hb
  simp only[E.eval,pY,hdi,Option.bind_some,Option.bind_eq_some_iff,D.m4] at cV
  unfold D.eJ at cV
  split at cV
  ·rename_i s k n
   split at cV
   ·rename_i h0
    obtain⟨b,hb',rfl⟩:=Option.map_eq_some_iff.1 cV
    have xX:a.eval x=.string s:=mT.v_eq
    have hiv:a.eval i=.int k n:=hri.v_eq
    have hlt:n.toNat<s.size:=by
     rcases Nat.lt_or_ge n.toNat s.size with hlt | hge
     ·exact hlt
     ·rw[ByteArray.getElem?_ge' s _ (by omega)] at hb'
      cases hb'
    have hbv:s[n.toNat]'hlt=b:=by
     rw[ByteArray.getElem?_lt' s _ hlt] at hb'
     exact Option.some.inj hb'
    refine⟨rfl,bS h hd (v:=.int .u8 b.toNat) ?_ (.e (d:=.v (.int .u8 b.toNat)) (by simp only[E.eval];exact cW) (.v rfl) fun _=>rfl)⟩
    unfold execOp
    simp only[ho,xX,hiv,Sem.run_bind,run_index_string w t s k n hu]
    rw[dif_pos (by omega)]
    simp only[Result.andThen_ok,Sem.run_pure,hbv]
   ·cases cV
  ·cases cV
 ·cases hl

theorem Ch {t:TypeId}{ms:Array (String×TypeId)}(hu:P.underlying t=some (.interface ms))(d:Nat)(t':TypeId)(v:Value):(Op.equalIn (d+1) t (.iface t' v) .nilIface).run P w=.ok false w:=by
 simp[Op.equalIn,run_underlying hu]

theorem Cg {t:TypeId}{ms:Array (String×TypeId)}(hu:P.underlying t=some (.interface ms))(d:Nat):(Op.equalIn (d+1) t .nilIface .nilIface).run P w=.ok true w:=by
 simp[Op.equalIn,run_underlying hu]

theorem BY {t:TypeId}{ms:Array (String×TypeId)}(hu:P.underlying t=some (.interface ms))(t':TypeId)(v:Value):(binOp .eql t (.iface t' v) .nilIface).run P w=.ok (.bool false) w∧(binOp .neq t (.iface t' v) .nilIface).run P w=.ok (.bool true) w:=by
 have h1:(Op.equal t (.iface t' v) .nilIface).run P w=.ok false w:=Ch hu 9999 t' v
 constructor <;> simp only[binOp,Sem.run_bind,h1,Result.andThen_ok,Sem.run_pure] <;> rfl

theorem BX {t:TypeId}{ms:Array (String×TypeId)}(hu:P.underlying t=some (.interface ms)):(binOp .eql t .nilIface .nilIface).run P w=.ok (.bool true) w∧(binOp .neq t .nilIface .nilIface).run P w=.ok (.bool false) w:=by
 have h1:(Op.equal t .nilIface .nilIface).run P w=.ok true w:=Cg hu 9999
 constructor <;> simp only[binOp,Sem.run_bind,h1,Result.andThen_ok,Sem.run_pure] <;> rfl

theorem FR {op:BinOp}{t:TypeId}{x:Operand}(t':TypeId)(v:Value):(eqGuard op t x (.const .nilIface) (.iface t' v) .nilIface).run P w=.ok () w:=by
 unfold eqGuard
 cases op <;> simp

theorem FQ {op:BinOp}{t:TypeId}{x:Operand}:(eqGuard op t x (.const .nilIface) .nilIface .nilIface).run P w=.ok () w:=by
 unfold eqGuard
 cases op <;> simp

theorem yU {o:Oper}{ct:Operand→SV}{op:BinOp}{neg:Bool}{t yt:TypeId}{x y:Operand}{ix:Nat}{r:eV}(ho:o.op=.binOp op t x y yt)(hop:op=.eql∧neg=false∨op=.neq∧neg=true)(hv:∀x,ef w ρ env (a.eval x) (ct x))(hl:Ij P t (ct x) y neg ix=some r)(h:cu w0 X w a σ env ρ)(hd:∀d,o.dst=some d→d<σ.tmps.length)(hb:cn P env ix r.bind) :
  r.eM=none∧gq P o a w w0 X (σ.put o.dst r.val) env:=by
 unfold Ij at hl
 split at hl
 ·rename_i ms hu
  split at hl
  ·rename_i hy
   obtain⟨x',hx',rfl⟩:=Option.map_eq_some_iff.1 hl
   obtain⟨dx,pY,mT⟩:=SV.ck hx' (hv x)
   obtain⟨dz,cV,cW⟩:=hb
   simp only[E.eval,pY,Option.bind_some,D.m4] at cV
   have S8:y=.const .nilIface:=by
    unfold Qc at hy
    split at hy
    ·rfl
    ·simp at hy
   subst S8
   have fin:∀b:Bool,dz=.bool b→(do eqGuard op t x (.const .nilIface) (a.eval x) (a.eval (.const .nilIface));binOp op t (a.eval x) (a.eval (.const .nilIface)):Sem Value).run P w=.ok (.bool b) w→gq P o a w w0 X (σ.put o.dst (.e (.sym ix) true)) env:=by
    rintro b rfl hrun
    refine bS h hd (v:=.bool b) ?_ (.e (d:=.bool b) (by simp only[E.eval];exact cW) (.v rfl) fun _=>rfl)
    unfold execOp
    simp only[ho]
    rw[Sem.run_bind,hrun]
    rfl
   refine⟨rfl,?_⟩
   generalize xX:a.eval x=xv at mT fin
   have hc:a.eval (.const .nilIface)=.nilIface:=rfl
   rw[hc] at fin
   split at cV
   ·cases cV
    cases mT
    refine fin neg rfl ?_
    rw[Sem.run_bind,FR,Result.andThen_ok]
    rcases hop with⟨rfl,rfl⟩ | ⟨rfl,rfl⟩
    ·exact(BY hu _ _).1
    ·exact(BY hu _ _).2
   ·cases cV
    rw[mT.v_eq] at fin
    refine fin (!neg) rfl ?_
    rw[Sem.run_bind,FQ,Result.andThen_ok]
    rcases hop with⟨rfl,rfl⟩ | ⟨rfl,rfl⟩
    ·exact(BX hu).1
    ·exact(BX hu).2
   ·cases cV
  ·cases hl
 ·cases hl

theorem DY {o:Oper}{ct:Operand→SV}{xt t:TypeId}{x:Operand}{ix:Nat}{r:eV}(ho:o.op=.typeAssert x xt t true)(hv:∀x,ef w ρ env (a.eval x) (ct x))(hl:DZ P t (ct x) ix=some r)(h:cu w0 X w a σ env ρ)(hd:∀d,o.dst=some d→d<σ.tmps.length)(hb:cn P env ix r.bind) :
  r.eM=none∧gq P o a w w0 X (σ.put o.dst r.val) env:=by
 unfold DZ at hl
 split at hl
 ·cases hl
 rename_i hif
 split at hl
 ·rename_i x' z hx' hz
  cases hl
  obtain⟨zv,X9,hz⟩:=Option.bind_eq_some_iff.1 hz
  obtain⟨dx,pY,mT⟩:=SV.ck hx' (hv x)
  obtain⟨dz,cV,cW⟩:=hb
  simp only[E.eval,pY,Option.bind_some,D.m4] at cV
  have fin:∀(b:Bool) (d:D) (v:Value),dz=.bh [d,.bool b]→bU w ρ.S v d→(Instr.typeAssert (a.eval x) xt t true).run P w=.ok (.tuple #[v,.bool b]) w→gq P o a w w0 X (σ.put o.dst (.bh [.e (.Qrx 0 (.sym ix)) false,.e (.Qrx 1 (.sym ix)) true])) env:=by
   rintro b d v rfl hrd hrun
   refine bS h hd (v:=.tuple #[v,.bool b]) ?_ (.bh rfl fun i u c hu hc=>?_)
   ·unfold execOp
    simp only[ho,Sem.run_bind,hrun,Result.andThen_ok,Sem.run_pure]
   ·match i with
    | 0=>
     simp at hu hc
     subst hu hc
     exact .e (d:=d) (by simp[E.eval,cW,D.Qrx]) hrd (by simp)
    | 1=>
     simp at hu hc
     subst hu hc
     exact .e (d:=.bool b) (by simp[E.eval,cW,D.Qrx]) (.v rfl) fun _=>rfl
    | i+2=>simp at hc
  refine⟨rfl,?_⟩
  have hnot:∃k,P.underlying t=some k∧∀ms,k≠.interface ms:=by
   unfold isIface at hif
   cases hu:P.underlying t with
   | none=>rw[hu] at hif;simp at hif
   | some k=>
    rw[hu] at hif
    refine⟨k,rfl,?_⟩
    rintro ms rfl
    simp at hif
  obtain⟨k,hu,hk⟩:=hnot
  generalize xX:a.eval x=xv at mT fin
  split at cV
  ·rename_i t' d
   cases cV
   cases mT with
   | oO hrd=>
   by_cases ht:t'=t
   ·refine fin true d _ (by rw[if_pos ht]) hrd ?_
    unfold Instr.typeAssert
    simp only[Sem.run_bind,run_underlying hu,Result.andThen_ok]
    cases k <;> first | exact absurd rfl (hk _) | simp[ht]
   ·refine fin false z zv (by rw[if_neg ht]) (D.lE hz) ?_
    unfold Instr.typeAssert
    simp only[Sem.run_bind,run_underlying hu,Result.andThen_ok]
    cases k <;> first | exact absurd rfl (hk _) | simp[ht,iU X9]
  ·cases cV
   rw[mT.v_eq] at fin
   refine fin false z zv rfl (D.lE hz) ?_
   unfold Instr.typeAssert
   simp only[Sem.run_bind,run_underlying hu,Result.andThen_ok]
   cases k <;> first | exact absurd rfl (hk _) | simp[iU X9]
  ·cases cV
 ·cases hl

theorem oX:∀{es:List D} {ns:List Int},bytesOf es=some ns→es.length=ns.length∧∀(i:Nat) (e:D),es[i]? = some e→e.cells=[.v (.int .u8 (ns.getD i 0))]
 | [],ns,h=>by
  cases h
  exact⟨rfl,fun i e h=>by simp at h⟩
 | e :: r,ns,h=>by
  unfold bytesOf at h
  split at h
  ·rename_i n hc
   obtain⟨ms,hm,rfl⟩:=Option.map_eq_some_iff.1 h
   obtain⟨h1,h2⟩:=oX hm
   refine⟨by simp[h1],fun i e' he=>?_⟩
   cases i with
   | zero=>simp at he;subst he;simpa using hc
   | succ i=>simpa using h2 i e' (by simpa using he)
  ·cases h

theorem anp {S:Sets}{v:Value}{es:List D}{ns:List Int}(h:bU w S v (.bq es))(hb:bytesOf es=some ns){s t e:TypeId}(hs:P.underlying s=some (.slice e))(he:P.underlying e=some (.int .u8))(ht:P.underlying t=some .string) :
  (convert s t v).run P w=.ok (.string (strOfNums ns)) w:=by
 obtain⟨hl,hg⟩:=oX hb
 cases h with
 | nil=>
  cases hb
  exact run_convert_bytes_nil w s e hs he _ _ t ht
 | emp hm=>
  cases hb
  rw[run_convert_bytes_string w s t e _ _ _ hs he ht,run_bytesToString w _ _ _ [] (by rfl)]
  rfl
 | @bq b off len cap size es val hlen hc hm hz ho hS hw hr=>
  refine run_convert_bytes_arg w s e hs he b off _ cap ns (by omega) (fun i hi=>?_) t ht
  have hi':i<es.length:=by omega
  have hx:=hg i es[i] (List.getElem?_eq_getElem hi')
  have hsz:=hz i es[i] (List.getElem?_eq_getElem hi')
  rw[hx] at hsz
  have h1:=hw i es[i] 0 _ (List.getElem?_eq_getElem hi') (by rw[hx];rfl)
  have h2:=(hr i es[i] 0 _ (List.getElem?_eq_getElem hi') (by rw[hx];rfl)).v_eq
  rw[h2,show off+i*size+0=off+i by rw[←hsz];simp] at h1
  exact h1

theorem al6 {o:Oper} {s t:TypeId} {x:Operand} {sx:SV} {ix:Nat} {r:eV} (ho:o.op=.convert s t x) (hl:apF P s t sx ix=some r) (hx:ef w ρ env (a.eval x) sx) (h:cu w0 X w a σ env ρ)
  (hd:∀d,o.dst=some d→d<σ.tmps.length) (hb:cn P env ix r.bind):r.eM=none∧gq P o a w w0 X (σ.put o.dst r.val) env:=by
 unfold apF at hl
 split at hl
 ·rename_i e x' hs ht hx'
  split at hl
  ·rename_i he
   replace he:=aiV he
   cases hl
   obtain⟨dx,pY,mT⟩:=SV.ck hx' hx
   obtain⟨dz,cV,cW⟩:=hb
   simp only[E.eval,pY,Option.bind_some,D.m4] at cV
   unfold D.anq at cV
   split at cV
   ·obtain⟨ns,oa,rfl⟩:=Option.map_eq_some_iff.1 cV
    refine⟨rfl,bS h hd (v:=.string (strOfNums ns)) ?_ (.e (by simp only[E.eval,cW]) (.v rfl) fun _=>rfl)⟩
    unfold execOp
    simp only[ho,Sem.run_bind,anp mT oa hs he ht,Result.andThen_ok,Sem.run_pure]
   ·cases cV
  ·cases hl
 ·cases hl

theorem KH {o:Oper}{ct:Operand→SV}{ix:Nat}{r:eV}(hv:∀x,ef w ρ env (a.eval x) (ct x))(hl:Gz P o ct ix=some r)(h:cu w0 X w a σ env ρ)(hd:∀d,o.dst=some d→d<σ.tmps.length)(hb:cn P env ix r.bind) :
  r.eM=none∧gq P o a w w0 X (σ.put o.dst r.val) env:=by
 unfold Gz at hl
 split at hl
 ·rename_i t x y yt ho
  exact yU ho (.inl ⟨rfl,rfl⟩) hv hl h hd hb
 ·rename_i t x y yt ho
  exact yU ho (.inr ⟨rfl,rfl⟩) hv hl h hd hb
 ·rename_i x xt t ho
  exact DY ho hv hl h hd hb
 ·rename_i t x ho
  split at hl
  ·cases hl
  ·rename_i hif
   obtain⟨x',hx',rfl⟩:=Option.map_eq_some_iff.1 hl
   obtain⟨d,pY,mT⟩:=SV.ck hx' (hv x)
   refine⟨rfl,bS h hd (v:=.iface t (a.eval x)) ?_ (.e (d:=.oO t d) (by simp[E.eval,pY]) (.oO mT) fun _=>rfl)⟩
   unfold execOp
   simp only[ho,Sem.run_bind,RH (by simpa using hif),Result.andThen_ok,Sem.run_pure]
 ·rename_i t x lo hi ho
  obtain⟨x',hx',hl⟩:=Option.bind_eq_some_iff.1 hl
  split at hl
  case h_2=>exact Xc ho hx' hv hl h hd hb
  rename_i r' hl'
  cases hl
  replace hl:=hl'
  unfold Uu at hl
  split at hl
  ·rename_i e x'' l hh hu afh hlo hhi
   rw[hx'] at afh
   cases afh
   obtain⟨n,hn,rfl⟩:=Option.map_eq_some_iff.1 hl
   obtain⟨dx,pY,mT⟩:=SV.ck hx' (hv x)
   obtain⟨dz,cV,cW⟩:=hb
   simp only[E.eval,pY,Option.bind_some,Option.bind_eq_some_iff] at cV
   obtain⟨dl,cP,dh,hdh,cV⟩:=cV
   have hel:=YL hu
   have qc:P.underlying t=some (.slice (P.elem t)):=by rw[hel];exact hu
   have hsize:(sizeOf (P.elem t)).run P w=.ok n w:=by rw[hel];exact run_sizeOf hn w
   have go:∀(ad:Option Addr) (len cap:Nat) (k1 k2:IntKind) (lv Cd:Int),a.eval x=.slice ad len cap→len≤cap→D.aR dx=some (.v (.int .i64 len))→dl=.v (.int k1 lv)→dh=.v (.int k2 Cd)→0≤lv→lv≤Cd→Cd≤(len:Int)→bU w ρ.S (sliced ad lv.toNat Cd.toNat cap n) dz→dz.one=true →
     gq P o a w w0 X (σ.put o.dst (.e (.sym ix) true)) env:=by
    rintro ad len cap k1 k2 lv Cd xX hcap qz rfl rfl h0 h1 h2 hrd hone
    have fin:(Instr.slice t (.slice ad len cap) (lo.map a.eval) (hi.map a.eval) none).run P w=.ok (sliced ad lv.toNat Cd.toNat cap n) w→gq P o a w w0 X (σ.put o.dst (.e (.sym ix) true)) env:=by
     intro hrun
     refine bS h hd (v:=sliced ad lv.toNat Cd.toNat cap n) ?_ (.e (d:=dz) (by simp only[E.eval];exact cW) hrd fun _=>hone)
     unfold execOp
     simp only[ho,Option.map_none,xX,Sem.run_bind,run_sliceAt_slice w t _ _ _ _ qc,hrun,Result.andThen_ok,Sem.run_pure]
    rcases aeB hv hlo cP with⟨rfl,rfl⟩ | ⟨xl,rfl,hxl⟩ <;> rcases afR hv hhi pY qz hdh with⟨rfl,rfl⟩ | ⟨xh,rfl,hxh⟩
    ·refine fin ?_
     simp only[Option.map_none,run_slice_all w t ad len cap qc,hsize,Result.andThen_ok]
     simp
    ·refine fin ?_
     simp only[Option.map_none,Option.map_some,hxh,run_slice_h w t ad len cap qc k2 Cd (by omega) (by omega),hsize,Result.andThen_ok]
     simp
    ·refine fin ?_
     simp only[Option.map_none,Option.map_some,hxl,run_slice_l w t ad len cap qc k1 lv h0 (by omega),hsize,Result.andThen_ok]
     simp
    ·refine fin ?_
     simp only[Option.map_some,hxl,hxh,run_slice_lh w t ad len cap qc k1 k2 lv Cd h0 h1 (by omega),hsize,Result.andThen_ok]
   unfold D.sub at cV
   split at cV
   ·rename_i es k1 lv k2 Cd
    split at cV
    ·rename_i hc
     obtain⟨h0,h1,h2,hz⟩:=hc
     cases cV
     refine⟨rfl,?_⟩
     obtain⟨ad,len,cap,xX,hlen⟩:=mT.D1
     have hcap:len≤cap:=by
      rw[xX] at mT
      cases mT with
      | nil=>exact Nat.le_refl _
      | emp _=>exact Nat.zero_le _
      | bq hl hc hm=>exact hc
     rw[xX] at mT
     refine go ad len cap k1 k2 lv Cd xX hcap (by simp[D.aR,hlen]) rfl rfl h0 h1 (by omega) ?_ rfl
     have:=aac (l:=lv.toNat) (h:=Cd.toNat) mT hz (by omega) (by omega) cap (by omega) (Nat.le_refl _)
     rwa [show(Cd-lv).toNat=Cd.toNat-lv.toNat from by omega]
    ·cases cV
   ·rename_i j off ln k1 lv k2 Cd
    split at cV
    ·rename_i hc
     obtain⟨h0,h1,h2,hn0⟩:=hc
     split at cV
     case isFalse hlh=>
      cases cV
      refine⟨rfl,?_⟩
      generalize xX:a.eval x=xv at mT
      cases mT with
      | @sl _ _ _ cap hj hle GR ZH=>
      refine go _ ln cap k1 k2 lv Cd xX hle rfl rfl rfl h0 h1 h2 ?_ rfl
      unfold sliced
      rw[show Cd.toNat-lv.toNat=0 from by omega]
      split
      ·exact .emp (by omega)
      ·exact .emp (by omega)
     rename_i hlh
     cases cV
     refine⟨rfl,?_⟩
     generalize xX:a.eval x=xv at mT
     cases mT with
     | @sl _ _ _ cap hj hle GR ZH=>
     refine go _ ln cap k1 k2 lv Cd xX hle rfl rfl rfl h0 h1 h2 ?_ rfl
     unfold sliced
     have hlt:lv.toNat=0∨cap≠lv.toNat:=by omega
     by_cases hml:cap=lv.toNat
     ·have hz:lv.toNat=0:=by omega
      simp only[hml,if_true]
      have hh:Cd.toNat=0:=by omega
      rw[show(Cd-lv).toNat=0 from by omega,hz,hh]
      simp only[Nat.zero_mul,Nat.add_zero,Nat.sub_self]
      exact .sl hj (Nat.le_refl _) (by omega) fun e=>by rw[←ZH e];omega
     ·simp only[if_neg hml,Option.map_some]
      rw[iR,show(Cd-lv).toNat=Cd.toNat-lv.toNat from by omega]
      refine .sl hj (by omega) (by omega) fun e=>?_
      have:lv.toNat*n=0:=by omega
      have hl0:lv.toNat=0:=by
       rcases Nat.mul_eq_zero.1 this with h | h
       ·exact h
       ·omega
      rw[←ZH (by omega)]
      omega
    ·cases cV
   ·rename_i k1 lv k2 Cd
    split at cV
    ·rename_i hc
     obtain⟨rfl,rfl⟩:=hc
     cases cV
     refine⟨rfl,?_⟩
     generalize xX:a.eval x=xv at mT
     cases mT with
     | cq=>
     refine go none 0 0 k1 k2 0 0 xX (Nat.le_refl _) rfl rfl rfl (Int.le_refl _) (Int.le_refl _) (Int.le_refl _) ?_ rfl
     unfold sliced
     simp only[Int.toNat_zero,if_true,Nat.sub_self]
     exact .cq
    ·cases cV
   ·cases cV
  ·cases hl
 ·rename_i t x i ho
  exact alP ho hv hl h hd hb
 ·rename_i s t x ho
  exact al6 ho hl (hv x) h hd hb
 ·rename_i c ho
  obtain⟨callee,args,ts⟩:=c
  simp only at hl
  split at hl
  ·rename_i x y hargs
   split at hl
   ·rename_i x' y' hx' hy'
    cases hl
    obtain⟨dx,pY,mT⟩:=SV.ck hx' (hv x)
    obtain⟨dy,S4,hry⟩:=SV.ck hy' (hv y)
    obtain⟨dz,cV,cW⟩:=hb
    simp only[E.eval,pY,S4,Option.bind_some] at cV
    unfold D.mm at cV
    split at cV
    ·rename_i k p k' q
     split at cV
     ·rename_i hk
      subst hk
      cases cV
      have e1:args=#[x,y]:=by rw[←Array.toArray_toList (xs:=args),hargs]
      subst e1
      refine⟨rfl,bS h hd (v:=.int k (if q > p then q else p)) ?_ (.e (by simp only[E.eval];exact cW) (.v rfl) fun _=>rfl)⟩
      unfold execOp
      simp only[ho,resolve,invoke,builtin,Sem.run_bind,Sem.run_pure,Result.andThen_ok,List.map_toArray,List.map_cons,List.map_nil,mT.v_eq,hry.v_eq,run_max_int2]
     ·cases cV
    ·cases cV
   ·cases hl
  ·rename_i x y hargs
   split at hl
   ·rename_i x' y' hx' hy'
    cases hl
    obtain⟨dx,pY,mT⟩:=SV.ck hx' (hv x)
    obtain⟨dy,S4,hry⟩:=SV.ck hy' (hv y)
    obtain⟨dz,cV,cW⟩:=hb
    simp only[E.eval,pY,S4,Option.bind_some] at cV
    unfold D.mm at cV
    split at cV
    ·rename_i k p k' q
     split at cV
     ·rename_i hk
      subst hk
      cases cV
      have e1:args=#[x,y]:=by rw[←Array.toArray_toList (xs:=args),hargs]
      subst e1
      refine⟨rfl,bS h hd (v:=.int k (if q<p then q else p)) ?_ (.e (by simp only[E.eval];exact cW) (.v rfl) fun _=>rfl)⟩
      unfold execOp
      simp only[ho,resolve,invoke,builtin,Sem.run_bind,Sem.run_pure,Result.andThen_ok,List.map_toArray,List.map_cons,List.map_nil,mT.v_eq,hry.v_eq,run_min_int2]
     ·cases cV
    ·cases cV
   ·cases hl
  ·cases hl
 ·cases hl

end
end
end

section
noncomputable section

def D.DJ:D→Bool
 | .bh _=>false
 | _=>true

def D.Nj (nz:Bool)(y:Value):Option D:=if nz=true then(match y with
 | .slice none 0 0=>some .cq
 | y=>D.wI y) else D.wI y

theorem D.Gt {w:World}{S:Sets}{nz:Bool}{v:Value}{d:D}(h:D.Nj nz v=some d):bU w S v d:=by
 unfold D.Nj at h
 split at h
 ·split at h
  ·cases h;exact .cq
  ·exact D.lE h
 ·exact D.lE h

def GA (nz:Bool)(P:Program)(t:TypeId)(n c:SV)(dst:Option Tmp)(ix:Nat):Option eV:=
 match dst,P.underlying t,n.jx,c.jx with
 | some d,some (.slice e),some n',some c'=>match P.info? e with
  | some i=>(i.zero).bind fun z=>(D.Nj nz z).bind fun dz=>
    if n'.same c'=true∧dz.cells.length=i.size∧dz.DJ=true then some { val:=.oc d,eM:=some (d,.row (.sym ix) i.size),bind:=some (.ev (.rep i.bytes n' dz)) } else none
  | none=>none
 | _,_,_,_=>none

section
variable {P:Program} {w w0:World} {X:kG} {a:Act} {σ:af} {env:List D} {ρ:dJ}

theorem bU.cellAt {S:Sets}{v:Value}{d:D}(h:bU w S v d)(hd:d.DJ=true) :
  v.cells.size=d.cells.length∧∀(j:Nat) (x:D),d.cells[j]? = some x→x.one=true∧∃u,v.cells[j]? = some u∧bU w S u x:=by
 have one:d.one=true→v.cells.size=d.cells.length∧∀(j:Nat) (x:D),d.cells[j]? = some x→x.one=true∧∃u,v.cells[j]? = some u∧bU w S u x:=by
  intro h1
  have hc:v.cells=#[v]:=by
   have:=h.one h1
   cases v <;> first | rfl | simp[Value.oneCell'] at this
  rw[hc,D.Qhz h1]
  refine⟨rfl,fun j x hx=>?_⟩
  cases j with
  | zero=>simp at hx;subst hx;exact⟨h1,v,rfl,h⟩
  | succ j=>simp at hx
 cases d with
 | agg ds=>
  obtain⟨vs,rfl,hl,ho,hr⟩:=h.lV
  refine⟨hl,fun j x hx=>⟨ho j x hx,?_⟩⟩
  have hj:j<vs.size:=by rw[hl];exact(List.getElem?_eq_some_iff.1 hx).1
  exact⟨vs[j],Array.getElem?_eq_getElem hj,hr j _ x (Array.getElem?_eq_getElem hj) hx⟩
 | bh ds=>cases hd
 | aE _ _ _=>cases h
 | st _=>cases h
 | iE _=>cases h
 | itb _ _ _=>cases h
 | oM _=>cases h
 | cY _ _=>cases h
 | ju _ _ _=>cases h
 | _=>exact one rfl

theorem KP {o:Oper} {t:TypeId} {n c:Operand} {sn sc:SV} {ix:Nat} {r:eV} {nz:Bool} (ho:o.op=.makeSlice t n c) (hl:GA nz P t sn sc o.dst ix=some r) (hn:ef w ρ env (a.eval n) sn) (hc:ef w ρ env (a.eval c) sc) (h:cu w0 X w a σ env ρ)
  (hd:∀d,o.dst=some d→d<σ.tmps.length) (hm:σ.mem.length=σ.tmps.length) (hb:cn P env ix r.bind) (hf:∀u,r.eM=some u→σ.obj u.1=none∧σ.aT u.1):∃ob x,r.eM=some (ob,x)∧gq P o a w w0 X ((σ.setObj ob (some x)).put o.dst r.val) env:=by
 unfold GA at hl
 split at hl
 ·rename_i d e n' c' ig hu hn' zf
  split at hl
  ·rename_i i hi
   obtain⟨z,hz,hl⟩:=Option.bind_eq_some_iff.1 hl
   obtain⟨dz,hdz,hl⟩:=Option.bind_eq_some_iff.1 hl
   split at hl
   ·rename_i wP
    cases hl
    obtain⟨hsame,hlen,aa0⟩:=wP
    obtain⟨hfree,ox⟩:=hf _ rfl
    refine⟨d,_,rfl,?_⟩
    have cP:=hd d ig
    obtain⟨dn,hdn,hrn⟩:=SV.ck hn' hn
    obtain⟨dc,hdc,hrc⟩:=SV.ck zf hc
    rw[←E.dU hsame,hdn] at hdc
    cases hdc
    obtain⟨dy,cV,cW⟩:=hb
    simp only[E.eval,hdn,Option.bind_some] at cV
    unfold D.rep at cV
    split at cV
    ·rename_i k
     split at cV
     ·rename_i hk
      obtain⟨CE,hkb,hkm⟩:=hk
      cases cV
      have hzr:bU w ρ.S z dz:=D.Gt hdz
      obtain⟨hzl,hzc⟩:=hzr.cellAt aa0
      rw[hlen] at hzl
      have abc:k≤9223372036854775807:=by
       have h9:k.toNat≤9223372036854775807:=hkm
       omega
      have hbytes:(i.bytes:Int)*k≤281474976710656:=by
       have h1:((k.toNat*i.bytes:Nat):Int)≤140737488355328:=by
        generalize k.toNat*i.bytes=q at hkb ⊢
        omega
       rw[Int.natCast_mul,Int.toNat_of_nonneg CE,Int.mul_comm] at h1
       omega
      have hrun:(execOp a.eval o).run P w=.ok (.value (.slice (some ⟨w.heap.size,0,none⟩) k.toNat k.toNat)) (w.alloc (.cells (madeCells z.cells (k.toNat*i.size)) e)):=by
       unfold execOp
       simp only[ho,hrn.v_eq,hrc.v_eq,Sem.run_bind,run_make w t e i z hu hi hz .i64 .i64 k k CE (Int.le_refl _) hbytes abc,Result.andThen_ok,Sem.run_pure]
      have hK:bW ρ.S w (w.alloc (.cells (madeCells z.cells (k.toNat*i.size)) e)):=bW.alloc h.cells _
      have bn:=h.fI (o:=d) (x:=.row (.sym ix) i.size) (v:=.slice (some ⟨w.heap.size,0,none⟩) k.toNat k.toNat) (by rw[hm];exact cP) hfree ox hK (fun b hb=>Qcx w _ b hb) rfl ⟨rfl,Nat.le_refl _⟩ rfl (by simp) ?_ ?_
      ·refine c_ hrun (bn.put (by rw[ig];intro d' e;cases e;rw[af.aZ];exact cP) ?_)
       have hval:(ρ.fI d w.heap.size (.slice (some ⟨w.heap.size,0,none⟩) k.toNat k.toNat)).val d=.slice (some ⟨w.heap.size,0,none⟩) k.toNat k.toNat:=by simp[dJ.fI]
       have hs:ef (w.alloc (.cells (madeCells z.cells (k.toNat*i.size)) e)) (ρ.fI d w.heap.size (.slice (some ⟨w.heap.size,0,none⟩) k.toNat k.toNat)) env ((ρ.fI d w.heap.size (.slice (some ⟨w.heap.size,0,none⟩) k.toNat k.toNat)).val d) (.oc d):=.oc
       rwa [hval] at hs
      ·have hbk:(ρ.fI d w.heap.size (.slice (some ⟨w.heap.size,0,none⟩) k.toNat k.toNat)).aE d=w.heap.size:=by simp[dJ.fI]
       have Lg:∀(m:Nat) (x:D),(List.replicate k.toNat dz)[m]? = some x→x=dz∧m<k.toNat:=by
        intro m x hx
        rw[List.getElem?_replicate] at hx
        split at hx
        ·cases hx;exact⟨rfl,by assumption⟩
        ·cases hx
       refine⟨madeCells z.cells (k.toNat*i.size),e,List.replicate k.toNat dz,by rw[hbk];exact heap_alloc_new w _,by simp only[E.eval];exact cW,fun m x hx=>by rw[(Lg m x hx).1];exact hlen,by simp[size_madeCells],fun m x j y hx hy=>?_,by rw[hbk];simp[dJ.fI],by simpa using hkm,fun off hs=>?_⟩
       ·obtain⟨rfl,hmk⟩:=Lg m x hx
        obtain⟨h1,u,h2,h3⟩:=hzc j y hy
        have hj:j<i.size:=by rw[←hlen];exact(List.getElem?_eq_some_iff.1 hy).1
        refine⟨h1,u,?_,h3.keep hK (Sets.le_refl _)⟩
        have hlt:m*i.size+j<k.toNat*i.size:=by
         have:(m+1)*i.size≤k.toNat*i.size:=Nat.mul_le_mul_right _ hmk
         rw[Nat.add_mul,Nat.one_mul] at this
         omega
        have hmod:(m*i.size+j) % i.size=j:=by rw[Nat.mul_comm,Nat.mul_add_mod,Nat.mod_eq_of_lt hj]
        have hjz:j<z.cells.size:=by rw[hzl];exact hj
        have qc:u=z.cells[j]:=by rw[Array.getElem?_eq_getElem hjz] at h2;exact(Option.some.inj h2).symm
        simp only[madeCells,Array.getElem?_map,Array.getElem?_range,hlt,if_true,Option.map_some,hzl,hmod,Option.some.injEq]
        rw[qc]
        exact getElem!_pos z.cells j hjz
       ·rw[hbk] at hs
        have:=h.cells _ off hs
        omega
      ·intro b hb
       simpa[bY,dJ.fI] using hb.symm
     ·cases cV
    ·cases cV
   ·cases hl
  ·cases hl
 ·cases hl

end
end
end

section
noncomputable section

def Pn (agg:Bool)(n:Nat)(x:E):E:=if agg then .bB n x else .bt x

def GC (agg:Bool)(n:Nat):List SV→Option E
 | []=>some (.const (.bq []))
 | s :: r=>match s.jx,GC agg n r with
  | some x,some y=>some (.bz (Pn agg n x) y)
  | _,_=>none

def NG (P:Program)(t:TypeId)(len:Nat)(parts:List (Nat×Operand))(ct:Operand→SV)(dst:Option Tmp)(ix:Nat):Option eV:=
 match dst,P.underlying t with
 | some d,some (.slice e)=>match P.info? e,lN P e,GC ((lN P e).getD false) ((w9 P e).getD 0) (parts.map fun p=>ct p.2) with
  | some i,some agg,some y=>
    if parts.map (·.1)=List.range len∧0<i.size∧len*i.size≤16777216∧(agg=true∨i.size=1)∧i.zero.isSome=true then some { val:=.own (.sym ix) d,eM:=some (d,.tok e i.size),bind:=some (.ev y) } else none
  | _,_,_=>none
 | _,_=>none

section
variable {P:Program} {w w0:World} {X:kG} {a:Act} {σ:af} {env:List D} {ρ:dJ}

theorem Pm {agg:Bool}{n:Nat}{x:E}{d u:D}{v:Value}{S:Sets}(hag:agg=true∨n=1)(hx:x.eval env=some d)(hr:bU w S v d)(hu:(Pn agg n x).eval env=some u):bU w S v u∧u.cells.length=n∧u.DJ=true:=by
 unfold Pn at hu
 split at hu
 ·simp only[E.eval,hx,Option.bind_some] at hu
  unfold D.bB at hu
  split at hu
  ·split at hu
   ·rename_i hl;cases hu;exact⟨hr,hl,rfl⟩
   ·cases hu
  ·cases hu
 ·rename_i hna
  simp only[E.eval,hx,Option.bind_some] at hu
  unfold D.bt at hu
  split at hu
  ·rename_i h1
   cases hu
   refine⟨hr,?_,?_⟩
   ·rw[D.Qhz h1,hag.resolve_left hna];rfl
   ·cases d <;> first | rfl | simp[D.one] at h1
  ·cases hu

theorem KS {agg:Bool}{n:Nat}{S:Sets}(hag:agg=true∨n=1):∀{wD:List SV} {vs:List Value} {y:E} {d:D},GC agg n wD=some y→vs.length=wD.length→(∀(i:Nat) (v:Value) (s:SV) (x:E),vs[i]? = some v→wD[i]? = some s→s.jx=some x→∃d,x.eval env=some d∧bU w S v d)→y.eval env=some d →
  ∃ds,d=.bq ds∧ds.length=vs.length∧∀(i:Nat) (v:Value) (u:D),vs[i]? = some v→ds[i]? = some u→bU w S v u∧u.cells.length=n∧u.DJ=true
 | [],vs,y,d,h,hl,_,hd=>by
  simp[GC] at h;subst h
  simp[E.eval] at hd;subst hd
  have:vs=[]:=List.eq_nil_of_length_eq_zero (by simpa using hl)
  subst this
  exact⟨[],rfl,rfl,by simp⟩
 | s :: r,vs,y,d,h,hl,hh,hd=>by
  match vs,hl with
  | v :: vs,hl=>
   simp only[GC] at h
   split at h
   ·rename_i x y' hx hy
    cases h
    simp only[E.eval,Option.bind_eq_some_iff] at hd
    obtain⟨u,hu,d',fz,hc⟩:=hd
    obtain⟨ds,rfl,cP,hds⟩:=KS (vs:=vs) hag hy (by simpa using hl) (fun i v s x h1 h2 h3=>hh (i+1) v s x (by simpa using h1) (by simpa using h2) h3) fz
    simp only[D.bz,Option.some.injEq] at hc
    subst hc
    obtain⟨dx,pY,mT⟩:=hh 0 v s x rfl rfl hx
    refine⟨u :: ds,rfl,by simp[cP],fun i v' u' hv qc=>?_⟩
    cases i with
    | zero=>simp at hv qc;subst hv qc;exact Pm hag pY mT hu
    | succ i=>exact hds i v' u' (by simpa using hv) (by simpa using qc)
   ·cases h

theorem B9 (w:World)(t e:TypeId)(i:TypeInfo)(hu:P.underlying t=some (.slice e))(hi:P.info? e=some i):(Instr.buildSlice t 0 #[]).run P w=.ok (.slice (some ⟨w.heap.size,0,none⟩) 0 0) (w.alloc (.cells #[] e)):=by
 simp[Instr.buildSlice,run_underlying hu,sizeOf,typeInfo,hi,Instr.fill,newRow]
 rw[show Array.range 0=#[] from Array.size_eq_zero_iff.1 (by simp)]
 simp

theorem P7 {o:Oper} {t e:TypeId} {len:Nat} {parts:Array (Nat×Operand)} {ct:Operand→SV} {i:TypeInfo} {agg:Bool} {y:E} {z:Value} {dz:D} (ho:o.op=.buildSlice t len parts) (hv:∀x,ef w ρ env (a.eval x) (ct x)) (hu:P.underlying t=some (.slice e)) (hi:P.info? e=some i)
  (hy:GC agg i.size (parts.toList.map fun p=>ct p.2)=some y) (hidx:parts.toList.map (·.1)=List.range len) (hpos:0<i.size) (hsmall:len*i.size≤16777216) (ic:agg=true∨i.size=1) (hz:i.zero=some z) (cV:y.eval env=some dz) :
  ∃(r:Array Value) (ds:List D),dz=.bq ds∧ds.length=len∧(execOp a.eval o).run P w=.ok (.value (.slice (some ⟨w.heap.size,0,none⟩) len len)) (w.alloc (.cells r e))∧r.size=len*i.size∧len≤maxLen∧mj w ρ.S i.size r.toList ds:=by
 have Qak:parts.toList.length=len:=by
  have:=congrArg List.length hidx
  simpa using this
 obtain⟨ds,rfl,Yo,hds⟩:=KS (w:=w) (S:=ρ.S) (vs:=parts.toList.map fun p=>a.eval p.2) ic hy (by simp) (fun j v s x h1 h2 h3=>by
  simp only[List.getElem?_map,Option.map_eq_some_iff] at h1 h2
  obtain⟨p,hp,rfl⟩:=h1
  obtain⟨q,hq,rfl⟩:=h2
  rw[hp] at hq;cases hq
  exact SV.ck h3 (hv p.2)) cV
 have Of:ds.length=len:=by rw[Yo];simpa using Qak
 have hparts:(parts.map fun(x:Nat×Operand)=>(x.1,a.eval x.2)).toList=((parts.toList.map fun p=>a.eval p.2).zipIdx 0).map fun x=>(x.2,x.1):=by
  apply List.ext_getElem?
  intro j
  simp only[Array.toList_map,List.getElem?_map,List.getElem?_zipIdx,Nat.zero_add]
  cases hp:parts.toList[j]? with
  | none=>rfl
  | some p=>
   have h1:(parts.toList.map (·.1))[j]? = some p.1:=by rw[List.getElem?_map,hp];rfl
   rw[hidx] at h1
   have h2:p.1=j:=by
    have hj:j<(List.range len).length:=(List.getElem?_eq_some_iff.1 h1).1
    rw[List.getElem?_range (by simpa using hj)] at h1
    exact(Option.some.inj h1).symm
   simp[h2]
 have hcs:∀v,v∈parts.toList.map (fun p=>a.eval p.2)→v.cells.size=i.size:=by
  intro v Qcz
  obtain⟨j,hj⟩:=List.getElem?_of_mem Qcz
  have hjl:j<ds.length:=by rw[Yo];exact(List.getElem?_eq_some_iff.1 hj).1
  obtain⟨h1,h2,h3⟩:=hds j v _ hj (List.getElem?_eq_getElem hjl)
  rw[(h1.cellAt h3).1,h2]
 have hrun:∃r:Array Value,(Instr.buildSlice t len (parts.map fun(x:Nat×Operand)=>(x.1,a.eval x.2))).run P w=.ok (.slice (some ⟨w.heap.size,0,none⟩) len len) (w.alloc (.cells r e))∧r.size=len*i.size ∧
   ∀k,k<len*i.size→r[k]? = ((parts.toList.map fun p=>a.eval p.2)[k / i.size]?).bind fun v=>v.cells[k % i.size]?:=by
  rcases Nat.eq_zero_or_pos len with h0 | h0
  ·subst h0
   have:parts=#[]:=by
    have:parts.toList=[]:=List.eq_nil_of_length_eq_zero Qak
    rw[←Array.toArray_toList (xs:=parts),this]
   subst this
   refine⟨#[],?_,by simp,fun k hk=>by simp at hk⟩
   rw[show(#[]:Array (Nat×Operand)).map (fun x=>(x.1,a.eval x.2))=#[] from by simp]
   exact B9 w t e i hu hi
  ·have hp':0<len*i.size:=Nat.mul_pos h0 hpos
   obtain⟨r,hr,tI,Fs⟩:=Great.fill_dense hpos (parts.toList.map fun p=>a.eval p.2) 0 ((Array.range (len*i.size)).map (z.cells[· % z.cells.size]!)) hcs (by simp[Qak])
   refine⟨r,run_buildSlice w t e len _ r i z hu hi hz (by omega) (by omega) (by rw[hparts];exact hr),by rw[tI];simp,fun k hk=>?_⟩
   rw[Fs k,if_pos ⟨by omega,by simpa[Qak] using hk⟩,Nat.sub_zero]
 obtain⟨r,hrun,tI,Fs⟩:=hrun
 have hml:len≤maxLen:=by
  have:len≤len*i.size:=Nat.le_mul_of_pos_right _ hpos
  have h9:len≤9223372036854775807:=by omega
  exact h9
 have Mx:∀(j:Nat) (u:D),ds[j]? = some u→u.cells.length=i.size:=fun j u hj=>by
  have hjl:j<(parts.toList.map fun p=>a.eval p.2).length:=by rw[←Yo];exact(List.getElem?_eq_some_iff.1 hj).1
  exact(hds j _ u (List.getElem?_eq_getElem hjl) hj).2.1
 have hrow:mj w ρ.S i.size r.toList ds:=by
  refine⟨by simp[tI,Of],Mx,fun j u q x hj hq=>?_⟩
  have hjl:j<(parts.toList.map fun p=>a.eval p.2).length:=by rw[←Yo];exact(List.getElem?_eq_some_iff.1 hj).1
  obtain⟨h1,h2,h3⟩:=hds j _ u (List.getElem?_eq_getElem hjl) hj
  obtain⟨h4,v,h5,h6⟩:=(h1.cellAt h3).2 q x hq
  obtain⟨hlt,hqs⟩:=uP Mx hj hq
  refine⟨h4,v,?_,h6⟩
  have hdiv:(j*i.size+q) / i.size=j:=by rw[Nat.mul_comm,Nat.mul_add_div hpos,Nat.div_eq_of_lt hqs,Nat.add_zero]
  have hmod:(j*i.size+q) % i.size=q:=by rw[Nat.mul_comm,Nat.mul_add_mod,Nat.mod_eq_of_lt hqs]
  rw[Array.getElem?_toList,Fs _ (by rw[←Of];exact hlt),hdiv,hmod,List.getElem?_eq_getElem hjl]
  exact h5
 refine⟨r,ds,rfl,Of,?_,tI,hml,hrow⟩
 unfold execOp
 simp only[ho,Sem.run_bind,hrun,Result.andThen_ok,Sem.run_pure]

theorem NF {o:Oper} {t:TypeId} {len:Nat} {parts:Array (Nat×Operand)} {ct:Operand→SV} {ix:Nat} {r:eV} (ho:o.op=.buildSlice t len parts) (hv:∀x,ef w ρ env (a.eval x) (ct x)) (hl:NG P t len parts.toList ct o.dst ix=some r) (h:cu w0 X w a σ env ρ)
  (hd:∀d,o.dst=some d→d<σ.tmps.length) (hm:σ.mem.length=σ.tmps.length) (hb:cn P env ix r.bind) (hf:∀u,r.eM=some u→σ.obj u.1=none∧σ.aT u.1):∃ob x,r.eM=some (ob,x)∧gq P o a w w0 X ((σ.setObj ob (some x)).put o.dst r.val) env:=by
 unfold NG at hl
 split at hl
 ·rename_i d e ig hu
  split at hl
  ·rename_i i agg y hi hag hy
   split at hl
   ·rename_i hc
    cases hl
    obtain⟨hidx,hpos,hsmall,ic,hzero⟩:=hc
    obtain⟨hfree,ox⟩:=hf _ rfl
    refine⟨d,_,rfl,?_⟩
    have cP:=hd d ig
    have hsz:w9 P e=some i.size:=by simp[w9,hi]
    rw[hag,hsz] at hy
    simp only[Option.getD_some] at hy
    obtain⟨dz,cV,cW⟩:=hb
    obtain⟨z,hz⟩:=Option.isSome_iff_exists.1 hzero
    obtain⟨r,ds,rfl,Of,U0,tI,hml,hrow⟩:=P7 ho hv hu hi hy hidx hpos hsmall ic hz cV
    have hK:bW ρ.S w (w.alloc (.cells r e)):=bW.alloc h.cells _
    have hown:(w.alloc (.cells r e)).ownsRow 0 e i.size (.slice (some ⟨w.heap.size,0,none⟩) len len) len r.toList:=World.ownsRow_lit w r len (Nat.zero_le _) hml tI
    have bn:=h.Fl (w':=w.alloc (.cells r e)) (k:=d) (by rw[hm];exact cP) hfree ox hown hK (fun o' y' b h1 h2=>?_) (fun b hb=>?_) (fun b hb off _ hS=>?_) rfl ⟨rfl,Nat.le_refl _⟩ rfl (by simp) (fun b hb _=>Qcx w _ b (Nat.lt_of_lt_of_le hb h.grown))
    ·refine c_ (v:=.slice (some ⟨w.heap.size,0,none⟩) len len) ?_ (bn.put (by rw[ig];intro d' e;cases e;rw[af.aZ];exact cP) ?_)
     ·exact U0
     ·exact .own (es:=ds) (by simp only[E.eval];exact cW) (HX hown Of (hrow.keep hK (ρ.S.rN _)) fun b hb j hj=>.inr ⟨hb,hj⟩) (by simp[dJ.lR])
    ·have:=(h.own o' y' b h1 h2).2
     refine⟨Qcx w _ b this,?_⟩
     simp[Value.ownBlock]
     omega
    ·simp[Value.ownBlock] at hb
     exact .inl (by rw[←hb];exact h.grown)
    ·simp[Value.ownBlock] at hb
     have:=h.cells b off hS
     omega
   ·cases hl
  ·cases hl
 ·cases hl

end
end
end

section
noncomputable section

def zY (nz:Bool)(z:Value)(parts:List (Nat×SV))(i off size:Nat)(agg:Bool):Option E:=
 match parts.find? (fun p=>p.1==i) with
 | some p=>if agg=true∨size=1 then p.2.jx.map (Pn agg size) else none
 | none=>(D.mD nz ((z.cells.toList.drop off).take size)).bind fun ds=>if ds.length=size then some (.const (.agg ds)) else none

def E0 (nz:Bool)(z:Value)(parts:List (Nat×SV)):Nat→Nat→List ((Nat×Nat)×Bool)→Option E
 | _,off,[]=>if off=z.cells.size then some .nil else none
 | i,off,p :: r=>if p.1.1=off then(match zY nz z parts i off p.1.2 p.2,E0 nz z parts (i+1) (off+p.1.2) r with
   | some x,some y=>some (.cons x y)
   | _,_=>none) else none

def BJ (P:Program)(fields:Array Field):Option (List (Nat×Nat)):=fields.toList.mapM fun f=>(P.info? f.type).map fun i=>(f.offset,i.size)
def py (P:Program)(fields:Array Field):List Bool:=fields.toList.map fun f=>(lN P f.type).getD false

def Mq (pl:List (Nat×Nat)):Bool:=(List.range pl.length).all fun i=>(List.range pl.length).all fun j=>decide (i=j)||(match pl[i]?,pl[j]? with | some p,some q=>WK p q | _,_=>true)

def Ir (nz:Bool)(P:Program)(t:TypeId)(parts:List (Nat×Operand))(ct:Operand→SV)(ix:Nat):Option eV:=
 match P.info? t,P.underlying t with
 | some it,some (.struct fields)=>match it.zero,BJ P fields with
  | some z,some pl=>match E0 nz z (parts.map fun p=>(p.1,ct p.2)) 0 0 (pl.zip (py P fields)) with
   | some y=>if(parts.map (·.1)).Nodup∧parts.all (fun p=>decide (p.1<pl.length))=true∧Mq pl=true then some { val:=.e (.sym ix) false,bind:=some (.ev y) } else none
   | none=>none
  | _,_=>none
 | _,_=>none

section
variable {P:Program} {w w0:World} {X:kG} {a:Act} {σ:af} {env:List D} {ρ:dJ}

theorem EZ {nz:Bool}{z:Value}{parts:List (Nat×SV)}(hlen:∀i off size agg x u,zY nz z parts i off size agg=some x→x.eval env=some u→u.cells.length=size):∀{l:List ((Nat×Nat)×Bool)} {i off:Nat} {y:E} {d:D},E0 nz z parts i off l=some y→y.eval env=some d →
  ∃cs,d=.agg cs∧off+cs.length=z.cells.size∧(∀(f:Nat) (q:(Nat×Nat)×Bool),l[f]? = some q→q.1.1+q.1.2≤z.cells.size∧∃x u,zY nz z parts (i+f) q.1.1 q.1.2 q.2=some x∧x.eval env=some u) ∧
  ∀k,off≤k→k<z.cells.size→∃f q x u,l[f]? = some q∧q.1.1≤k∧k<q.1.1+q.1.2∧zY nz z parts (i+f) q.1.1 q.1.2 q.2=some x∧x.eval env=some u∧cs[k-off]? = u.cells[k-q.1.1]?
 | [],i,off,y,d,h,hd=>by
  simp only[E0] at h
  split at h
  ·rename_i ho
   cases h
   simp only[E.eval,Option.some.injEq] at hd
   subst hd
   exact⟨[],rfl,by simpa using ho,by simp,fun k h1 h2=>by omega⟩
  ·cases h
 | q :: r,i,off,y,d,h,hd=>by
  simp only[E0] at h
  split at h
  ·rename_i ho
   split at h
   ·rename_i x y' hx hy
    cases h
    simp only[E.eval,Option.bind_eq_some_iff] at hd
    obtain⟨u,hu,d',fz,hc⟩:=hd
    obtain⟨cs,rfl,hl,h1,h2⟩:=EZ hlen hy fz
    have FK:=hlen _ _ _ _ _ _ hx hu
    have hd2:d=.agg (u.cells++cs):=by
     unfold D.cons at hc
     split at hc <;> first | cases hc;done | (cases hc;rename_i e1 e2;cases e2;rfl) | skip
     all_goals first | (cases hc;rfl) | cases hc
    refine⟨u.cells++cs,hd2,by simp[FK];omega,fun f q' hq=>?_,fun k hk1 hk2=>?_⟩
    ·cases f with
     | zero=>simp at hq;subst hq;rw[ho];exact⟨by omega,x,u,hx,hu⟩
     | succ f=>
      obtain⟨h5,x',u',h3,h4⟩:=h1 f q' (by simpa using hq)
      exact⟨h5,x',u',by rw[show i+(f+1)=i+1+f from by omega];exact h3,h4⟩
    ·by_cases hk:k<off+q.1.2
     ·refine⟨0,q,x,u,rfl,by omega,by omega,by rw[ho];exact hx,hu,?_⟩
      rw[List.getElem?_append_left (by omega),ho]
     ·obtain⟨f,q',x',u',h3,h4,h5,h6,h7,h8⟩:=h2 k (by omega) hk2
      refine⟨f+1,q',x',u',by simpa using h3,h4,h5,by rw[show i+(f+1)=i+1+f from by omega];exact h6,h7,?_⟩
      rw[List.getElem?_append_right (by omega),FK,show k-off-q.1.2=k-(off+q.1.2) from by omega]
      exact h8
   ·cases h
  ·cases h


theorem FY {pl:List (Nat×Nat)}(h:Mq pl=true){i j:Nat}{p q:Nat×Nat}(hi:pl[i]? = some p)(hj:pl[j]? = some q)(hne:i≠j):p.1+p.2≤q.1∨q.1+q.2≤p.1:=by
 have h1:=List.all_eq_true.1 h i (List.mem_range.2 (List.getElem?_eq_some_iff.1 hi).1)
 have h2:=List.all_eq_true.1 h1 j (List.mem_range.2 (List.getElem?_eq_some_iff.1 hj).1)
 simp only[hne,decide_false,Bool.false_or,hi,hj,WK,Bool.or_eq_true,decide_eq_true_eq] at h2
 exact h2

theorem mapM_length {α β:Type}{f:α→Option β}:∀{l:List α} {r:List β},l.mapM f=some r→r.length=l.length
 | [],r,h=>by simp at h;subst h;rfl
 | a :: l,r,h=>by
  simp only[List.mapM_cons,Option.bind_eq_bind,Option.pure_def,Option.bind_eq_some_iff,Option.some.injEq] at h
  obtain⟨b,_,r',h2,rfl⟩:=h
  simp[mapM_length h2]

theorem Iq {nz:Bool} {o:Oper} {t:TypeId} {parts:Array (Nat×Operand)} {ct:Operand→SV} {ix:Nat} {r:eV} (ho:o.op=.build t parts) (hv:∀x,ef w ρ env (a.eval x) (ct x)) (hl:Ir nz P t parts.toList ct ix=some r) (h:cu w0 X w a σ env ρ)
  (hd:∀d,o.dst=some d→d<σ.tmps.length) (hb:cn P env ix r.bind):r.eM=none∧gq P o a w w0 X (σ.put o.dst r.val) env:=by
 unfold Ir at hl
 split at hl
 ·rename_i it fields hit hu
  split at hl
  ·rename_i z pl hz BF
   split at hl
   ·rename_i y hy
    split at hl
    ·rename_i hc
     obtain⟨hnd,hin,hap⟩:=hc
     cases hl
     refine⟨rfl,?_⟩
     obtain⟨dz,cV,cW⟩:=hb
     have aqY:pl.length=fields.toList.length:=mapM_length BF
     have To:∀i off size agg x u,zY nz z (parts.toList.map fun p=>(p.1,ct p.2)) i off size agg=some x→x.eval env=some u→u.cells.length=size ∧
       ((∃p,p∈parts.toList∧p.1=i∧bU w ρ.S (a.eval p.2) u∧u.DJ=true)∨((∀p,p∈parts.toList→p.1≠i)∧∃ds,u=.agg ds∧D.mD nz ((z.cells.toList.drop off).take size)=some ds)):=by
      intro i off size agg x u hx qc
      unfold zY at hx
      split at hx
      ·rename_i p hp
       split at hx
       ·rename_i hag
        obtain⟨x',hx',rfl⟩:=Option.map_eq_some_iff.1 hx
        have hmem:=List.mem_of_find?_eq_some hp
        have hpi:=List.find?_some hp
        simp only[beq_iff_eq] at hpi
        obtain⟨p0,hp0,rfl⟩:=List.mem_map.1 hmem
        obtain⟨d,pY,mT⟩:=SV.ck hx' (hv p0.2)
        obtain⟨h1,h2,h3⟩:=Pm hag pY mT qc
        exact⟨h2,.inl ⟨p0,hp0,hpi,h1,h3⟩⟩
       ·cases hx
      ·rename_i hnone
       obtain⟨ds,hds,hx⟩:=Option.bind_eq_some_iff.1 hx
       split at hx
       ·rename_i cP
        cases hx
        simp only[E.eval,Option.some.injEq] at qc
        subst qc
        refine⟨cP,.inr ⟨fun p hp hpi=>?_,ds,rfl,hds⟩⟩
        have:=List.find?_eq_none.1 hnone (p.1,ct p.2) (List.mem_map.2 ⟨p,hp,rfl⟩)
        simp[hpi] at this
       ·cases hx
     obtain⟨cs,rfl,dG,hf,Yq⟩:=EZ (fun i off size agg x u h1 h2=>(To i off size agg x u h1 h2).1) hy cV
     rw[Nat.zero_add] at dG
     have ak0:∀(i:Nat) (q:Nat×Nat),pl[i]? = some q→∃b,(pl.zip (py P fields))[i]? = some (q,b):=by
      intro i q hq
      have hi:=(List.getElem?_eq_some_iff.1 hq).1
      have hi2:i<(py P fields).length:=by simp only[py,List.length_map];omega
      exact⟨(py P fields)[i],by rw[List.getElem?_zip_eq_some];exact⟨hq,List.getElem?_eq_getElem hi2⟩⟩
     have aaX:∀(i:Nat) (q:(Nat×Nat)×Bool),(pl.zip (py P fields))[i]? = some q→pl[i]? = some q.1:=by
      intro i q hq
      rw[List.getElem?_zip_eq_some] at hq
      exact hq.1
     have hpart:∀p,p∈parts.toList→∃off,pl[p.1]? = some (off,(a.eval p.2).cells.size)∧off+(a.eval p.2).cells.size≤z.cells.size:=by
      intro p hp
      have hlt:p.1<pl.length:=by
       have:=List.all_eq_true.1 hin p hp
       simpa using this
      obtain⟨b,hb⟩:=ak0 p.1 pl[p.1] (List.getElem?_eq_getElem hlt)
      obtain⟨hle,x,u,h1,h2⟩:=hf p.1 _ hb
      rw[Nat.zero_add] at h1
      obtain⟨h3,h4⟩:=To _ _ _ _ _ _ h1 h2
      rcases h4 with⟨p',hp',hpi,hr,hnt⟩ | ⟨hno,_⟩
      ·have:=rJ hnd hp' hp hpi
       subst this
       have hsz:=(hr.cellAt hnt).1
       rw[h3] at hsz
       exact⟨pl[p'.1].1,by rw[hsz];exact List.getElem?_eq_getElem hlt,by rw[hsz];exact hle⟩
      ·exact absurd rfl (hno p hp)
     obtain⟨r,hr,tI,Fs⟩:=I4 (place:=fun i=>pl.toArray[i]?) (parts.toList.map fun p=>(p.1,a.eval p.2)) z.cells (fun p hp=>by
      obtain⟨q,hq,rfl⟩:=List.mem_map.1 hp
      obtain⟨off,h1,h2⟩:=hpart q hq
      exact⟨off,by simpa using h1,h2⟩)
     have Oi:P.built t (parts.map fun(x:Nat×Operand)=>(x.1,a.eval x.2)).toList=some r:=by
      unfold Program.built
      simp only[hit,hu,hz]
      unfold BJ at BF
      simp only[BF,Array.toList_map]
      exact hr
     have hcell:∀(k:Nat) (c:D),cs[k]? = some c→c.one=true∧∃v,r[k]? = some v∧bU w ρ.S v c:=by
      intro k c hk
      have hkz:k<z.cells.size:=by rw[←dG];exact(List.getElem?_eq_some_iff.1 hk).1
      obtain⟨f,q,x,u,h1,h2,h3,h4,h5,h6⟩:=Yq k (Nat.zero_le _) hkz
      rw[Nat.sub_zero] at h6
      rw[Nat.zero_add] at h4
      have afz:=aaX f q h1
      obtain⟨h7,h8⟩:=To _ _ _ _ _ _ h4 h5
      have huc:u.cells[k-q.1.1]? = some c:=h6 ▸ hk
      have U_:∀p,p∈parts.toList→p.1≠f→¬JE (fun i=>pl.toArray[i]?) (p.1,a.eval p.2) k:=by
       rintro p hp hne ⟨off,size,h9,h10,h11⟩
       simp only[List.getElem?_toArray] at h9
       have:=FY hap h9 afz hne
       simp only at this
       omega
      rcases h8 with⟨p,hp,hpi,hrd,hnt⟩ | ⟨hno,ds,rfl,hds⟩
      ·obtain⟨h9,v,h10,h11⟩:=(hrd.cellAt hnt).2 _ c huc
       have hsz:=(hrd.cellAt hnt).1
       rw[h7] at hsz
       refine⟨h9,v,?_,h11⟩
       have:=(Fs k hkz).2 (p.1,a.eval p.2) q.1.1 (List.mem_map.2 ⟨p,hp,rfl⟩) (by simp only[List.getElem?_toArray,hpi,afz,hsz]) h2 (by simp only[hsz];exact h3) fun q' Yf hne=>by
        obtain⟨p',hp',rfl⟩:=List.mem_map.1 Yf
        refine U_ p' hp' fun e=>hne ?_
        rw[rJ hnd hp' hp (e.trans hpi.symm)]
       rw[this];exact h10
      ·have:=(Fs k hkz).1 fun q' Yf=>by
        obtain⟨p',hp',rfl⟩:=List.mem_map.1 Yf
        exact U_ p' hp' (hno p' hp')
       rw[this]
       obtain⟨_,hrd⟩:=D.ng (w:=w) (S:=ρ.S) hds
       have mM:((z.cells.toList.drop q.1.1).take q.1.2)[k-q.1.1]? = some z.cells[k]:=by
        rw[List.getElem?_take,if_pos (by omega),List.getElem?_drop,show q.1.1+(k-q.1.1)=k from by omega]
        simp[hkz]
       obtain⟨h9,h10⟩:=hrd _ _ c mM huc
       exact⟨h10,z.cells[k],Array.getElem?_eq_getElem hkz,h9⟩
     refine bS h hd (v:=.agg r) ?_ (.e (d:=.agg cs) (by simp only[E.eval];exact cW) (.agg (by rw[tI,dG]) (fun k c hk=>(hcell k c hk).1) fun k v c Qcz hk=>?_) (by simp))
     ·unfold execOp
      simp only[ho,Sem.run_bind,run_build w t _ r Oi,Result.andThen_ok,Sem.run_pure]
     ·obtain⟨_,v',h1,h2⟩:=hcell k c hk
      rw[Qcz] at h1
      cases h1
      exact h2
    ·cases hl
   ·cases hl
  ·cases hl
 ·cases hl

end
end
end

section
noncomputable section

def jv (obj:Nat→Option bl):Option cz:=
 match obj bN with
 | some (.store cf _)=>some cf
 | _=>none

def Jh (agg:Bool)(n:Nat)(x:E):E:=if agg then .bB n x else .cons (.bt x) .nil

def UO (o:Oper)(act:List (E×Bool))(obj:Nat→Option bl):Bool:=
 match act,o.dst,jv obj with
 | _ :: _,_,_=>true
 | [],some d,some cf=>cf.ab7.contains d
 | _,_,_=>false

def RE (P:Program)(o:Oper)(ct:Operand→SV)(act:List (E×Bool))(obj:Nat→Option bl)(ix:Nat):Option eV:=
 if UO o act obj then
  match o.op with
  | .box t x=>(match lN P t,w9 P t,(ct x).jx with
   | some agg,some n,some x'=>some { val:=.e (.sym ix) true,bind:=some (.ev (.gE (Jh agg n x'))) }
   | _,_,_=>none)
  | .buildSlice t len parts=>(NG P t len (parts.toList) ct (some 0) ix).map fun r=>{ val:=.e (.sym ix) true,bind:=r.bind }
  | _=>none
 else none

def Gx:Operand→Bool
 | .const (.slice none 0 0)=>true
 | _=>false

def Ro (s:Operand)(sv:SV):SV:=if Gx s=true then .e (.const .cq) true else sv

theorem XT {w:World}{ρ:dJ}{env:List D}{a:Act}{s:Operand}{sv:SV}(h:ef w ρ env (a.eval s) sv):ef w ρ env (a.eval s) (Ro s sv):=by
 unfold Ro
 split
 ·rename_i hn
  unfold Gx at hn
  split at hn
  ·exact .e rfl .cq fun _=>rfl
  ·cases hn
 ·exact h

def wJ (P:Program)(o:Oper)(ct:Operand→SV)(hO:Option bl)(ix:Nat):Option eV:=
 match hO,o.dst with
 | some (.store cf h),some d=>
  if cf.ro then none else match o.op with
  | .alloc t=>if cf.Ca.contains d then(match(P.info? t).bind (·.zero) with
   | some z=>(match D.mD cf.FB z.cells.toList with
    | some ds=>some { val:=.e (.aU h) true,eM:=some (bN,.store cf (.sym ix)),bind:=some (.ev (.cI t z.cells.size h (.const (.agg ds)))) }
    | none=>none)
   | none=>none) else none
  | .box t x=>if cf.Ca.contains d then(match lN P t,w9 P t,(ct x).jx with
   | some agg,some n,some x'=>if agg=true∨n=1 then some { val:=.e (.aU h) true,eM:=some (bN,.store cf (.sym ix)),bind:=some (.ev (.cI t n h (Jh agg n x'))) } else none
   | _,_,_=>none) else none
  | .makeSlice t n c=>if cf.Ca.contains d then(match GA cf.FB P t (ct n) (ct c) (some 0) ix,P.underlying t with
   | some { bind:=some (.ev y),.. },some (.slice e)=>(match P.info? e with
    | some i=>if 0<i.size then some { val:=.e (.bO h y) true,eM:=some (bN,.store cf (.sym ix)),bind:=some (.ev (.a_ e i.size h y)) } else none
    | none=>none)
   | _,_=>none) else none
  | .buildSlice t len parts=>if cf.Ca.contains d then(match NG P t len parts.toList ct (some 0) ix,P.underlying t with
   | some { bind:=some (.ev y),.. },some (.slice e)=>(match P.info? e with
    | some i=>if 0<i.size then some { val:=.e (.bO h y) true,eM:=some (bN,.store cf (.sym ix)),bind:=some (.ev (.a_ e i.size h y)) } else none
    | none=>none)
   | _,_=>none) else none
  | .assign x=>if cf.Ca.contains d then(match x with
   | .const (.slice none 0 0)=>some { val:=.e (.const .cq) true }
   | _=>none) else none
  | .call c=>(match c.callee with
   | .builtin .append=>(match c.args.toList,c.argTypes.toList with
    | [s,x],[t,t']=>if t=t'∧¬(Gx s=true∧cf.ab7.contains d=true) then(match Ro s (ct s),(ct x).jx,P.underlying t with
     | .e s' _,some x',some (.slice e)=>(match P.info? e with
      | some i=>(match i.zero with
       | some z=>if z.cells.size=i.size∧0<i.size∧e≠SM then some { val:=.e (.apps h s' x') true,eM:=some (bN,.store cf (.sym ix)),bind:=some (.ev (.fU e i.size i.bytes h s' x')) } else none
       | none=>none)
      | none=>none)
     | _,_,_=>none) else none
    | _,_=>none)
   | _=>none)
  | _=>none
 | _,_=>none

def YZ (o:Oper):Bool:=
 match o.op with
 | .load _ _ | .store _ _ _ | .alloc _ | .box _ _ | .makeSlice _ _ _ | .assign _ | .buildSlice _ _ _ | .makeMap _ _ | .mapUpdate _ _ _ _ | .insert _ _ _ _ | .lookup _ _ _ _ | .range _ _ | .entry _ | .mapEntry _ _ _ | .entryStore _ _ _ _ | .next _ true | .convert _ _ _ | .indexAddr _ (.global _) _=>true
 | .call c=>(match c.callee with | .value _=>true | .invoke _ _=>true | .builtin .append=>true | .builtin .len=>true | .builtin .delete=>true | .builtin .unsafeString=>true | _=>false)
 | _=>false

def SV.Nu:SV→Bool
 | .e _ _=>true
 | .cond _ sv=>sv.Nu
 | _=>false

theorem MY {act:List (E×Bool)}{sv:SV}{x:E}{s:Bool}(h:sv.strip act=.e x s):sv.Nu=true:=by
 unfold SV.strip at h
 split at h
 ·split at h
  ·subst h;rfl
  ·cases h
 ·subst h;rfl

def zy:Option bl→Option cz
 | some (.store cf _)=>some cf
 | _=>none

def Ig (cf:Option cz):Callee→Bool
 | .value (.func g)=>(match cf with | some cf=>cf.aeA.contains g | none=>false)
 | _=>false

def iq (o:Oper)(m:Operand→Bool)(cf:Option cz):Bool:=
 match o.op with
 | .load _ x=>m x
 | .store _ x _=>m x
 | .alloc _ | .box _ _ | .makeSlice _ _ _ | .buildSlice _ _ _ | .convert _ _ _=>match cf,o.dst with
  | some cf,some d=>cf.Ca.contains d
  | _,_=>false
 | .makeMap _ _ | .mapUpdate _ _ _ _ | .insert _ _ _ _ | .lookup _ _ _ _ | .range _ _ | .entry _ | .mapEntry _ _ _ | .entryStore _ _ _ _ | .next _ true | .indexAddr _ (.global _) _=>true
 | .call c=>(match c.callee with
  | .value _=>!Ig cf c.callee
  | .invoke _ _=>true
  | .builtin .append=>match c.args.toList with
   | s :: _=>m s||Gx s
   | []=>false
  | .builtin .len=>(match cf with
   | some cf=>c.argTypes.toList.any cf.maps.contains
   | none=>false)
  | .builtin .delete=>true
  | .builtin .unsafeString=>true
  | _=>false)
 | _=>false

def RA (P:Program)(o:Oper)(ct:Operand→SV)(obj:Nat→Option bl)(ix:Nat):Option eV:=
 if YZ o=true then wJ P o ct (obj bN) ix else none

section
variable {P:Program} {w w0:World} {X:kG} {a:Act} {σ:af} {env:List D} {ρ:dJ}

theorem Hi {S:Sets}{agg:Bool}{n:Nat}{x:E}{d dc:D}{v:Value}(hx:x.eval env=some d)(hr:bU w S v d)(hc:(Jh agg n x).eval env=some dc):∃cs,dc=.agg cs∧v.cells.size=cs.length∧(agg=true→cs.length=n)∧(agg=false→cs.length=1)∧(∀(i:Nat) (u:Value),v.cells[i]? = some u→u.oneCell'=true) ∧
  (∀(i:Nat) (c:D),cs[i]? = some c→c.one=true)∧∀(i:Nat) (u:Value) (c:D),v.cells[i]? = some u→cs[i]? = some c→bU w S u c:=by
 unfold Jh at hc
 split at hc
 ·rename_i ic
  simp only[E.eval,hx,Option.bind_some] at hc
  unfold D.bB at hc
  split at hc
  ·rename_i cs
   split at hc
   ·rename_i hl
    cases hc
    obtain⟨vs,rfl,hvl,ho,hh⟩:=hr.lV
    refine⟨cs,rfl,hvl,fun _=>hl,(by simp[ic]),fun i u hu=>?_,fun i c hc=>ho i c hc,hh⟩
    have hi:i<cs.length:=by rw[←hvl];exact(Array.getElem?_eq_some_iff.1 hu).1
    exact(hh i u _ hu (List.getElem?_eq_getElem hi)).one (ho i _ (List.getElem?_eq_getElem hi))
   ·cases hc
  ·cases hc
 ·rename_i ic
  simp only[E.eval,hx,Option.bind_some,D.bt] at hc
  by_cases h1:d.one=true
  ·rw[if_pos h1] at hc
   simp only[Option.bind_some,D.L5 h1] at hc
   cases hc
   obtain⟨g1,g2,g3⟩:=hr.Mc (by rw[D.Qhz h1];simp[h1])
   rw[D.Qhz h1] at g1 g3
   refine⟨[d],rfl,g1,(by simp[ic]),fun _=>rfl,g2,fun i c hc=>?_,g3⟩
   cases i with
   | zero=>simp at hc;subst hc;exact h1
   | succ i=>simp at hc
  ·rw[if_neg h1] at hc
   cases hc

theorem NL {o:Oper}{ct:Operand→SV}{act:List (E×Bool)}{ix:Nat}{r:eV}(hv:∀x,ef w ρ env (a.eval x) (ct x))(hl:RE P o ct act σ.obj ix=some r)(h:cu w0 X w a σ env ρ)(hd:∀d,o.dst=some d→d<σ.tmps.length)(hb:cn P env ix r.bind) :
  r.eM=none∧gq P o a w w0 X (σ.put o.dst r.val) env:=by
 unfold RE at hl
 split at hl
 ·split at hl
  ·rename_i t x ho
   split at hl
   ·rename_i agg n x' hg hn hx
    cases hl
    obtain⟨dx,pY,mT⟩:=SV.ck hx (hv x)
    obtain⟨d,he,cW⟩:=hb
    simp only[E.eval,Option.bind_eq_some_iff] at he
    obtain⟨dc,hdc,he⟩:=he
    obtain⟨cs,rfl,h1,_,_,h2,h3,h4⟩:=Hi pY mT hdc
    simp only[D.gE] at he
    cases he
    have hrun:(execOp a.eval o).run P w=.ok (.value (.pointer (some ⟨w.heap.size,0,none⟩))) (w.alloc (.cells (a.eval x).cells t)):=by
     unfold execOp
     simp only[ho,Instr.box,Sem.run_bind,Result.andThen_ok,newVar,newRow,Sem.run_pure,run_newObj]
     rfl
    have bn:=h.WM (.cells (a.eval x).cells t)
    have hK:bW ρ.S w (w.alloc (.cells (a.eval x).cells t)):=bW.alloc h.cells _
    refine⟨rfl,c_ hrun (bn.put hd (.e (d:=.ptr cs) (by simp[E.eval,cW]) ?_ fun _=>rfl))⟩
    have hcell:∀(j:Nat) (c:D),cs[j]? = some c→∃u,(a.eval x).cells[j]? = some u:=fun j c hj=>⟨_,Array.getElem?_eq_getElem (by rw[h1];exact(List.getElem?_eq_some_iff.1 hj).1)⟩
    refine .ptr (val:=fun j=>(a.eval x).cells.getD j undef) h3 (fun j c hj=>.inr rfl) (fun j c hj=>?_) fun j c hj=>?_
    ·obtain⟨u,hu⟩:=hcell j c hj
     rw[gD (heap_alloc_new w _),Nat.zero_add,hu,Array.getD_eq_getD_getElem?,hu]
     rfl
    ·obtain⟨u,hu⟩:=hcell j c hj
     rw[Array.getD_eq_getD_getElem?,hu]
     exact(h4 j u c hu hj).keep hK (ρ.S.rN _)
   ·cases hl
  ·rename_i t len parts ho
   obtain⟨r0,U6,rfl⟩:=Option.map_eq_some_iff.1 hl
   unfold NG at U6
   split at U6
   ·rename_i e ig hu
    split at U6
    ·rename_i i agg y hi hag hy
     split at U6
     ·rename_i hc
      cases U6
      obtain⟨hidx,hpos,hsmall,ic,hzero⟩:=hc
      have hsz:w9 P e=some i.size:=by simp[w9,hi]
      rw[hag,hsz] at hy
      simp only[Option.getD_some] at hy
      obtain⟨dz,cV,cW⟩:=hb
      obtain⟨z,hz⟩:=Option.isSome_iff_exists.1 hzero
      obtain⟨r,ds,rfl,Of,U0,tI,hml,hrow⟩:=P7 ho hv hu hi hy hidx hpos hsmall ic hz cV
      have bn:=h.WM (.cells r e)
      have hK:bW ρ.S w (w.alloc (.cells r e)):=bW.alloc h.cells _
      refine⟨rfl,c_ U0 (bn.put hd (.e (d:=.bq ds) (by simp[E.eval,cW]) ?_ fun _=>rfl))⟩
      have hown:(w.alloc (.cells r e)).ownsRow 0 e i.size (.slice (some ⟨w.heap.size,0,none⟩) len len) len r.toList:=World.ownsRow_lit w r len (Nat.zero_le _) hml tI
      exact HX hown Of (hrow.keep hK (ρ.S.rN _)) fun b hb j hj=>.inr (by simpa[Value.ownBlock] using hb.symm)
     ·cases U6
    ·cases U6
   ·cases U6
  ·cases hl
 ·cases hl

theorem H8 {S:Sets}{size:Nat}{v:Value}{ys:List D}(h:bU w S v (.bq ys))(hz:bK size ys=true) :
  (v=.slice none 0 0∧ys=[])∨∃(ad:Addr) (m c:Nat) (news:List Value),v=.slice (some ad) m c∧ys.length=m∧news.length=m*size∧(∀j u,news[j]? = some u→w.cell? (ad.add j)=some u)∧(∀u∈news,u.oneCell'=true)∧mj w S size news ys:=by
 have Mx:∀(i:Nat) (e:D),ys[i]? = some e→e.cells.length=size:=fun i e he=>oZ hz he
 cases h with
 | nil=>exact .inl ⟨rfl,rfl⟩
 | @emp ad c _=>exact .inr ⟨ad,0,c,[],rfl,rfl,by simp,by simp,by simp,by simp,Mx,by simp⟩
 | @bq b off len cap size' _ val hl hc hm My ho hS hw hr=>
  right
  refine⟨⟨b,off,none⟩,len,cap,(List.range (len*size)).map fun q=>val (q / size) (q % size),rfl,hl.symm,by simp,?_,?_,by simp[hl],Mx,?_⟩
  all_goals
   have mM:∀q,q<len*size→∃e d,ys[q / size]? = some e∧e.cells[q % size]? = some d∧size'=size:=by
    intro q hq
    have hs:0<size:=by
     rcases Nat.eq_zero_or_pos size with h0 | h0
     ·subst h0;simp at hq
     ·exact h0
    have hi:q / size<ys.length:=by rw[←hl];exact(Nat.div_lt_iff_lt_mul hs).2 hq
    have dG:=Mx _ _ (List.getElem?_eq_getElem hi)
    have hj:q % size<(ys[q / size]).cells.length:=by rw[dG];exact Nat.mod_lt _ hs
    exact⟨_,_,List.getElem?_eq_getElem hi,List.getElem?_eq_getElem hj,(My _ _ (List.getElem?_eq_getElem hi)).symm.trans dG⟩
  ·intro j u hu
   simp only[List.getElem?_map,Option.map_eq_some_iff] at hu
   obtain⟨q,hq,rfl⟩:=hu
   obtain⟨hjl,rfl⟩:=List.getElem?_eq_some_iff.1 hq
   simp only[List.length_range] at hjl
   simp only[List.getElem_range]
   obtain⟨e,d,h1,h2,rfl⟩:=mM j hjl
   have:=hw _ _ _ _ h1 h2
   rw[iR]
   have FO:=Nat.div_add_mod j size'
   rw[Nat.mul_comm] at FO
   rw[show off+j=off+j / size'*size'+j % size' from by omega]
   exact this
  ·intro u hu
   simp only[List.mem_map,List.mem_range] at hu
   obtain⟨q,hq,rfl⟩:=hu
   obtain⟨e,d,h1,h2,rfl⟩:=mM q hq
   exact(hr _ _ _ _ h1 h2).one (ho _ _ _ _ h1 h2)
  ·intro i e j d he hd
   obtain⟨hlt,hj⟩:=uP Mx he hd
   refine⟨ho _ _ _ _ he hd,val i j,?_,hr _ _ _ _ he hd⟩
   have hq:i*size+j<len*size:=by rw[hl];exact hlt
   rw[List.getElem?_map,List.getElem?_range hq]
   have hs:0<size:=by omega
   have h1:(i*size+j) / size=i:=by
    rw[Nat.mul_comm,Nat.mul_add_div hs,Nat.div_eq_of_lt hj,Nat.add_zero]
   have h2:(i*size+j) % size=j:=by
    rw[Nat.mul_comm,Nat.mul_add_mod,Nat.mod_eq_of_lt hj]
   simp[h1,h2]

theorem xS {sz:Nat}:∀{n:Nat} {cs:List D} {i:Nat},i<n→(chunks sz n cs)[i]? = some ((cs.drop (i*sz)).take sz)
 | 0,_,_,h=>absurd h (Nat.not_lt_zero _)
 | n+1,cs,0,_=>by simp[chunks]
 | n+1,cs,i+1,h=>by
  rw[chunks,List.getElem?_cons_succ,xS (by omega),List.drop_drop,Nat.succ_mul,Nat.add_comm]
theorem Qry {sz:Nat}:∀{n:Nat} {cs:List D},(chunks sz n cs).length=n
 | 0,_=>rfl
 | n+1,cs=>by rw[chunks,List.length_cons,Qry]

theorem yN {S:Sets}{aJ:Nat→Prop}{bs:List D}{size:Nat}{v:Value}{dy:D}{ys:List D}(hst:dF w S aJ bs)(h:bU w S v dy)(ha:D.JN (.st bs) size dy=some ys)(hz:bK size ys=true) :
  (ys=[]∧(v=.slice none 0 0∨∃ad c,v=.slice (some ad) 0 c))∨∃(ad:Addr) (m c:Nat) (news:List Value),v=.slice (some ad) m c∧ys.length=m∧news.length=m*size∧(∀j u,news[j]? = some u→w.cell? (ad.add j)=some u)∧(∀u∈news,u.oneCell'=true)∧mj w S size news ys:=by
 unfold D.JN at ha
 split at ha
 ·cases ha
  rcases H8 h hz with⟨h1,h2⟩ | h1
  ·exact .inl ⟨h2,.inl h1⟩
  ·exact .inr h1
 ·cases ha
  cases h
  exact .inl ⟨rfl,.inl rfl⟩
 ·rename_i j off m
  split at ha
  ·rename_i hm
   subst hm
   cases ha
   cases h
   exact .inl ⟨rfl,.inr ⟨_,_,rfl⟩⟩
  ·obtain⟨aE,Qhv,ha⟩:=Option.bind_eq_some_iff.1 ha
   split at ha
   ·rename_i hfit
    cases ha
    obtain⟨hf,vs,⟨e',hh,hty⟩,hsz,hlen,hone,hr,oa⟩:=hst.cells j _ _ _ (oW Qhv)
    cases h with
    | @sl _ _ _ c hj hle GR h0=>
    right
    refine⟨⟨S.loc j,off,none⟩,m,c,(vs.toList.drop off).take (m*size),rfl,by simp[Qry],?_,fun q u hq=>?_,fun u hu=>?_,?_,fun i e he=>oZ hz he,fun i e q d he hd=>?_⟩
    ·rw[List.length_take,List.length_drop,Array.length_toList]
     omega
    ·rw[List.getElem?_take] at hq
     split at hq
     ·rw[List.getElem?_drop] at hq
      rw[iR]
      simp only[World.cell?,hh]
      simpa using hq
     ·cases hq
    ·obtain⟨q,hq⟩:=List.getElem?_of_mem hu
     rw[List.getElem?_take] at hq
     split at hq
     ·rename_i hql
      rw[List.getElem?_drop] at hq
      have dG:off+q<aE.2.2.length:=by omega
      have hd:=List.getElem?_eq_getElem dG
      exact(hr _ _ _ (by simpa using hq) hd).one (hone _ _ hd)
     ·cases hq
    ·rw[List.length_take,List.length_drop,Array.length_toList,List.length_map,Qry]
     omega
    ·have hi:i<m:=by
      have:=(List.getElem?_eq_some_iff.1 he).1
      rw[List.length_map,Qry] at this
      exact this
     rw[List.getElem?_map,xS hi] at he
     cases he
     simp only[D.cells] at hd
     rw[List.getElem?_take] at hd
     split at hd
     ·rename_i hq
      rw[List.drop_drop,List.getElem?_drop] at hd
      have hlt:i*size+q<m*size:=by
       have:(i+1)*size≤m*size:=Nat.mul_le_mul_right _ hi
       rw[Nat.succ_mul] at this
       omega
      refine⟨hone _ _ hd,?_⟩
      have hvl:off+(i*size+q)<vs.size:=by omega
      refine⟨vs[off+(i*size+q)],?_,hr _ _ _ (Array.getElem?_eq_getElem hvl) (by rw[←Nat.add_assoc];exact hd)⟩
      rw[List.getElem?_take,if_pos hlt,List.getElem?_drop]
      simp[hvl]
     ·cases hd
   ·cases ha
 ·cases ha

theorem mj.append {S:Sets}{size:Nat}{xs ys:List Value}{es fs:List D}(h:mj w S size xs es)(k:mj w S size ys fs):mj w S size (xs++ys) (es++fs):=by
 obtain⟨h1,h2,h3⟩:=h
 obtain⟨k1,k2,k3⟩:=k
 refine⟨by simp[h1,k1,Nat.add_mul],fun i e he=>?_,fun i e j d he hd=>?_⟩
 ·rw[List.getElem?_append] at he
  split at he
  ·exact h2 i e he
  ·exact k2 _ e he
 ·rw[List.getElem?_append] at he
  split at he
  ·obtain⟨h4,v,h5,h6⟩:=h3 i e j d he hd
   refine⟨h4,v,?_,h6⟩
   rw[List.getElem?_append_left (by rw[h1];exact(uP h2 he hd).1)]
   exact h5
  ·rename_i hi
   obtain⟨h4,v,h5,h6⟩:=k3 _ e j d he hd
   refine⟨h4,v,?_,h6⟩
   have hle:es.length*size≤i*size:=Nat.mul_le_mul_right _ (by omega)
   rw[List.getElem?_append_right (by rw[h1];omega),h1]
   rw[show i*size+j-es.length*size=(i-es.length)*size+j from by rw[Nat.sub_mul];omega]
   exact h5


/-! ## new blocks of Qiw store -/

def Sets.more (S:Sets)(b k:Nat)(l:Loop×Code:=default):Sets:={ mem:=S.mem,loc:=fun i=>if i=S.n then b else S.loc i,n:=S.n+1,cap:=fun i=>if i=S.n then k else S.cap i,hold:=S.hold,mH:=fun i=>if i=S.n then l else S.mH i }

theorem Sets.qw (S:Sets)(b k:Nat)(l:Loop×Code:=default):S≤S.more b k l:=
 ⟨fun _ _ h=>h,Nat.le_succ _,fun i hi=>by simp[Sets.more,Nat.ne_of_lt hi],fun i hi=>by simp[Sets.more,Nat.ne_of_lt hi],rfl,fun i hi=>by simp[Sets.more,Nat.ne_of_lt hi]⟩

theorem pK {w':World} {bs lg:List D} {k b:Nat} {l:Loop×Code} {z:D} {bV:Nat→Prop} (hst:dF w ρ.S ρ.aJ bs) (hK:bW ρ.S w w') (uY:lg.length=bs.length) (hold:∀(i:Nat) (x:D),lg[i]? = some x→x.live=true→bs[i]? = some x∧ρ.S.loc i≠b∧w'.heap[ρ.S.loc i]? = w.heap[ρ.S.loc i]?)
  (hf:∀c,bV c↔(ρ.aJ c∨c=b))
  (GK:∀e sz cs,z=.aE e sz cs→∃vs:Array Value,o7 w' b vs e∧vs.size=k*sz∧cs.length≤vs.size∧(∀(j:Nat) (d:D),cs[j]? = some d→d.one=true)∧∀(j:Nat) (v:Value) (d:D),vs[j]? = some v→cs[j]? = some d→bU w ρ.S v d)
  (UR:∀dL,z=.iE dL→∃(es:Array MapEntry) (clock:Nat),w'.heap[b]? = some (.map es clock)∧aaZ es clock dL∧∀(j:Nat) (e:MapEntry) (kv:D),es[j]? = some e→(D.kept dL)[j]? = some kv→∃dk dv,kv=.bh [dk,dv]∧bU w ρ.S e.key dk∧bU w ρ.S e.val dv)
  (hS:∀off,¬ρ.S b off) (hz3:z.isIt=true→A8 (ρ.S.more b k l) ρ.S.n w'.heap[b]? z:=by intro hz;cases hz):dF w' (ρ.S.more b k l) bV (lg++[z]):=by
 have hle:=ρ.S.qw b k l
 have gT:∀(i:Nat) (x:D),(lg++[z])[i]? = some x→(i=ρ.S.n∧x=z)∨(i<ρ.S.n∧lg[i]? = some x):=by
  intro i x hi
  rw[List.getElem?_append] at hi
  split at hi
  ·rename_i hlt
   exact .inr ⟨by rw[hst.n,←uY];exact hlt,hi⟩
  ·rename_i hge
   have ZA:i-lg.length=0:=by
    have:=(List.getElem?_eq_some_iff.1 hi).1
    simp at this
    omega
   rw[ZA] at hi
   simp only[List.getElem?_cons_zero,Option.some.injEq] at hi
   exact .inl ⟨by rw[hst.n,←uY];omega,hi.symm⟩
 have h1:(ρ.S.more b k l).loc ρ.S.n=b:=by simp[Sets.more]
 have h2:(ρ.S.more b k l).cap ρ.S.n=k:=by simp[Sets.more]
 refine⟨by simp[Sets.more,hst.n,uY],fun i e' sz' cs' hi=>?_,fun c off hc hs=>?_,fun i dL hi=>?_,fun i j x y hi hj hx hy hl=>?_,fun i y hi hy=>?_⟩
 ·rcases gT i _ hi with⟨rfl,hz⟩ | ⟨hlt,hi⟩
  ·rw[h1,h2]
   obtain⟨vs,g1,g2,g3,g4,g5⟩:=GK _ _ _ hz.symm
   exact⟨(hf b).2 (.inr rfl),vs,g1,g2,g3,g4,fun j v d hv hd=>(g5 j v d hv hd).keep hK hle,hS⟩
  ·obtain⟨hi',hne,hh⟩:=hold i _ hi rfl
   obtain⟨g1,us,g2,g3,g4,g5,g6,g7⟩:=hst.cells i _ _ _ hi'
   rw[hle.loc i hlt,hle.cap i hlt]
   exact⟨(hf _).2 (.inl g1),us,g2.to hh,g3,g4,g5,fun j v d hv hd=>(g6 j v d hv hd).keep hK hle,g7⟩
 ·rcases(hf c).1 hc with h1 | rfl
  ·exact hst.Cw c off h1 hs
  ·exact hS off hs
 ·rcases gT i _ hi with⟨rfl,hz⟩ | ⟨hlt,hi⟩
  ·rw[h1]
   obtain⟨es,clock,g1,g2,g3⟩:=UR _ hz.symm
   refine⟨(hf b).2 (.inr rfl),es,clock,g1,g2,hS,fun j e kv he hkv=>?_⟩
   obtain⟨dk,dv,g4,g5,g6⟩:=g3 j e kv he hkv
   exact⟨dk,dv,g4,g5.keep hK hle,g6.keep hK hle⟩
  ·obtain⟨hi',hne,hh⟩:=hold i _ hi rfl
   obtain⟨g1,es,clock,g2,g3,g4,g5⟩:=hst.maps i _ hi'
   rw[hle.loc i hlt]
   refine⟨(hf _).2 (.inl g1),es,clock,by rw[hh];exact g2,g3,g4,fun j e kv he hkv=>?_⟩
   obtain⟨dk,dv,g6,g7,g8⟩:=g5 j e kv he hkv
   exact⟨dk,dv,g6,g7.keep hK hle,g8.keep hK hle⟩
 ·rcases gT i _ hi with⟨rfl,_⟩ | ⟨hlt,hi⟩ <;> rcases gT j _ hj with⟨rfl,_⟩ | ⟨hlt',hj⟩
  ·rfl
  ·rw[hle.loc j hlt',h1] at hl
   exact absurd hl.symm (hold j _ hj hy).2.1
  ·rw[hle.loc i hlt,h1] at hl
   exact absurd hl (hold i _ hi hx).2.1
  ·rw[hle.loc i hlt,hle.loc j hlt'] at hl
   exact hst.inj i j _ _ (hold i _ hi hx).1 (hold j _ hj hy).1 hx hy hl
 ·rcases gT i _ hi with⟨rfl,hz⟩ | ⟨hlt,hi⟩
  ·subst hz
   rw[h1]
   exact⟨(hf b).2 (.inr rfl),hz3 hy,hS⟩
  ·obtain⟨hi',hne,hh⟩:=hold i _ hi (D.jQ hy)
   obtain⟨g1,g2,g4⟩:=hst.FJ i _ hi' hy
   rw[hle.loc i hlt,hh]
   exact⟨(hf _).2 (.inl g1),g2.to hle.n hle.loc (hle.mH i hlt) hlt,g4⟩

theorem Gf {w':World} {bs lg:List D} {vs:Array Value} {e:TypeId} {sz k b:Nat} {cs:List D} {bV:Nat→Prop} (hst:dF w ρ.S ρ.aJ bs) (hK:bW ρ.S w w') (uY:lg.length=bs.length) (hold:∀(i:Nat) (x:D),lg[i]? = some x→x.live=true→bs[i]? = some x∧ρ.S.loc i≠b∧w'.heap[ρ.S.loc i]? = w.heap[ρ.S.loc i]?)
  (hf:∀c,bV c↔(ρ.aJ c∨c=b)) (hb:w'.heap[b]? = some (.cells vs e (0,0))) (hvs:vs.size=k*sz) (dG:cs.length≤vs.size) (hone:∀(j:Nat) (d:D),cs[j]? = some d→d.one=true)
  (hr:∀(j:Nat) (v:Value) (d:D),vs[j]? = some v→cs[j]? = some d→bU w ρ.S v d) (hS:∀off,¬ρ.S b off):dF w' (ρ.S.more b k) bV (lg++[.aE e sz cs]):=by
 refine pK hst hK uY hold hf (fun e' sz' cs' hz=>?_) (fun dL hz=>by cases hz) hS
 cases hz
 exact⟨vs,.of hb,hvs,dG,hone,hr⟩

theorem cu.Aw (h:cu w0 X w a σ env ρ) {cf:cz} {x x':E} (dN:σ.obj bN=some (.store cf x)) (hro:cf.ro=false) {bs:List D} (jC:x.eval env=some (.st bs)) {ob:Obj} {k:Nat} {l:Loop×Code} {z:D}
  (GK:∀e sz cs,z=.aE e sz cs→∃vs:Array Value,ob=.cells vs e (0,0)∧vs.size=k*sz∧cs.length≤vs.size∧(∀(j:Nat) (d:D),cs[j]? = some d→d.one=true)∧∀(j:Nat) (v:Value) (d:D),vs[j]? = some v→cs[j]? = some d→bU w ρ.S v d)
  (UR:∀dL,z=.iE dL→∃(es:Array MapEntry) (clock:Nat),ob=.map es clock∧aaZ es clock dL∧∀(j:Nat) (e:MapEntry) (kv:D),es[j]? = some e→(D.kept dL)[j]? = some kv→∃dk dv,kv=.bh [dk,dv]∧bU w ρ.S e.key dk∧bU w ρ.S e.val dv)
  (hx':x'.eval env=some (.st (bs++[z]))) (hz3:z.isIt=true→A8 (ρ.S.more w.heap.size k l) ρ.S.n (some ob) z:=by intro hz;cases hz) :
  cu w0 X (w.alloc ob) a (σ.setObj bN (some (.store cf x'))) env { ρ with S:=ρ.S.more w.heap.size k l,aJ:=fun c=>ρ.aJ c∨c=w.heap.size }∧ρ.S.n=bs.length:=by
 obtain⟨rp,hb0,hst,_⟩:=h.dO _ _ dN
 rw[jC] at hb0
 cases hb0
 have hK:bW ρ.S w (w.alloc ob):=bW.alloc h.cells _
 have hfl:∀b,ρ.aJ b→b<w.heap.size:=gZ h dN
 refine⟨h.Qew dN hro hx' (pK hst hK rfl (fun i x hi hx=>?_) (fun _=>Iff.rfl) (fun e sz cs hz=>?_) (fun dL hz=>?_) (fun off hs=>?_) fun hz=>?_) hK (ρ.S.qw _ _ _) rfl ⟨rfl,Nat.le_refl _⟩ rfl (by simp) (fun b hb _=>Qcx w _ b hb) (fun b hb=>?_) (fun b o hs=>.inl hs) (fun b o hs=>?_),hst.n⟩
 ·have:=hfl _ (hst.jl hi hx)
  exact⟨hi,Nat.ne_of_lt this,Qcx w _ _ this⟩
 ·obtain⟨vs,rfl,g⟩:=GK e sz cs hz
  exact⟨vs,.of (heap_alloc_new w _),g⟩
 ·obtain⟨es,clock,rfl,g⟩:=UR dL hz
  exact⟨es,clock,heap_alloc_new w _,g⟩
 ·have:=h.cells _ off hs;omega
 ·rw[heap_alloc_new w]
  exact hz3 hz
 ·rcases hb with hb | rfl
  ·exact⟨.inl hb,by have:=hfl b hb;simp;omega⟩
  ·exact⟨.inr (Nat.le_refl _),by simp⟩
 ·have:=h.cells b o hs;simp;omega

theorem cu.DP (h:cu w0 X w a σ env ρ) {cf:cz} {x x':E} (dN:σ.obj bN=some (.store cf x)) (hro:cf.ro=false) {bs:List D} (jC:x.eval env=some (.st bs)) {vs:Array Value} {e:TypeId} {sz k:Nat} {cs:List D} (hvs:vs.size=k*sz) (dG:cs.length≤vs.size) (hone:∀(j:Nat) (d:D),cs[j]? = some d→d.one=true)
  (hr:∀(j:Nat) (v:Value) (d:D),vs[j]? = some v→cs[j]? = some d→bU w ρ.S v d) (hx':x'.eval env=some (.st (bs++[.aE e sz cs]))) :
  cu w0 X (w.alloc (.cells vs e)) a (σ.setObj bN (some (.store cf x'))) env { ρ with S:=ρ.S.more w.heap.size k,aJ:=fun c=>ρ.aJ c∨c=w.heap.size }∧ρ.S.n=bs.length:=by
 refine h.Aw dN hro jC (fun e' sz' cs' hz=>?_) (fun dL hz=>by cases hz) hx'
 cases hz
 exact⟨vs,rfl,hvs,dG,hone,hr⟩

theorem E9 {size:Nat}:∀{es:List D},bK size es=true→(Qrj es).length=es.length*size
 | [],_=>by simp[Qrj]
 | e :: es,h=>by
  simp only[bK,List.all_cons,Bool.and_eq_true,beq_iff_eq] at h
  have ih:=E9 (es:=es) (size:=size) (by simpa[bK] using h.2)
  simp only[Qrj,List.flatMap_cons,List.length_append,List.length_cons] at ih ⊢
  rw[ih,h.1,Nat.add_mul,Nat.one_mul,Nat.add_comm]

theorem E_ {size:Nat}(hs:0<size):∀{es:List D},bK size es=true→∀{j:Nat} {d:D},(Qrj es)[j]? = some d→∃e,es[j / size]? = some e∧e.cells[j % size]? = some d
 | [],_,j,d,h=>by simp[Qrj] at h
 | e :: es,h,j,d,hj=>by
  simp only[bK,List.all_cons,Bool.and_eq_true,beq_iff_eq] at h
  simp only[Qrj,List.flatMap_cons] at hj
  rcases Nat.lt_or_ge j size with hlt | hge
  ·rw[List.getElem?_append_left (by omega)] at hj
   exact⟨e,by rw[Nat.div_eq_of_lt hlt];rfl,by rw[Nat.mod_eq_of_lt hlt];exact hj⟩
  ·rw[List.getElem?_append_right (by omega),h.1] at hj
   obtain⟨e',h1,h2⟩:=E_ hs (es:=es) (by simpa[bK] using h.2) hj
   have hd:j / size=(j-size) / size+1:=by
    rw[Nat.div_eq_sub_div hs hge]
   have hm:j % size=(j-size) % size:=by rw[Nat.mod_eq_sub_mod hge]
   exact⟨e',by rw[hd];simpa using h1,by rw[hm];exact h2⟩

theorem mj.flat {S:Sets}{size:Nat}{xs:List Value}{es:List D}(hs:0<size)(h:mj w S size xs es):bK size es=true∧(Qrj es).length=xs.length∧∀(j:Nat) (v:Value) (d:D),xs[j]? = some v→(Qrj es)[j]? = some d→bU w S v d∧d.one=true:=by
 obtain⟨h1,h2,h3⟩:=h
 have hall:bK size es=true:=by
  unfold bK
  rw[List.all_eq_true]
  intro e he
  obtain⟨i,hi⟩:=List.getElem?_of_mem he
  simpa using h2 i e hi
 refine⟨hall,by rw[E9 hall,h1],fun j v d hv hd=>?_⟩
 obtain⟨e,he,fz⟩:=E_ hs hall hd
 obtain⟨g1,u,g2,g3⟩:=h3 _ e _ d he fz
 have FO:j / size*size+j % size=j:=by rw[Nat.mul_comm];exact Nat.div_add_mod j size
 rw[FO,hv] at g2
 cases g2
 exact⟨g3,g1⟩

theorem EA {w':World}{k:Nat}{hx:E}{bs:List D}{bV:Nat→Prop}(jC:hx.eval env=some (.st bs))(hn:ρ.S.n=bs.length):ef w' { ρ with S:=ρ.S.more w.heap.size k,aJ:=bV } env (.pointer (some ⟨w.heap.size,0,none⟩)) (.e (.aU hx) true):=by
 refine .e (d:=.loc bs.length 0) (by simp only[E.eval,jC];rfl) ?_ fun _=>rfl
 have:=bU.loc (w:=w') (S:=ρ.S.more w.heap.size k) (i:=bs.length) (off:=0) (by simp[Sets.more,hn])
 have hl:(ρ.S.more w.heap.size k).loc bs.length=w.heap.size:=by simp[Sets.more,hn]
 rwa [hl] at this

theorem VQ {w':World}{hx y:E}{bs:List D}{es:List D}{bV:Nat→Prop}(jC:hx.eval env=some (.st bs))(S8:y.eval env=some (.bq es))(hm:es.length≤maxLen)(hn:ρ.S.n=bs.length):ef w' { ρ with S:=ρ.S.more w.heap.size es.length,aJ:=bV } env (.slice (some ⟨w.heap.size,0,none⟩) es.length es.length) (.e (.bO hx y) true):=by
 refine .e (d:=.sl bs.length 0 es.length) (by simp only[E.eval,jC,S8];rfl) ?_ fun _=>rfl
 have:=bU.sl (w:=w') (S:=ρ.S.more w.heap.size es.length) (i:=bs.length) (off:=0) (len:=es.length) (c:=es.length) (by simp[Sets.more,hn]) (Nat.le_refl _) hm (fun _=>by simp[Sets.more,hn])
 have hl:(ρ.S.more w.heap.size es.length).loc bs.length=w.heap.size:=by simp[Sets.more,hn]
 rwa [hl] at this

theorem apE {o:Oper}{t:TypeId}{len:Nat}{parts:Array (Nat×Operand)}{ct:Operand→SV}{ix dd:Nat}{r:eV}{y:E}{dl:D}(ho:o.op=.buildSlice t len parts)(hv:∀x,ef w ρ env (a.eval x) (ct x))(hl:NG P t len parts.toList ct (some dd) ix=some r)(hy:r.bind=some (.ev y))(US:y.eval env=some dl) :
  ∃(e:TypeId) (i:TypeInfo) (es:List D) (vs:Array Value),P.underlying t=some (.slice e)∧P.info? e=some i∧dl=.bq es∧(execOp a.eval o).run P w=.ok (.value (.slice (some ⟨w.heap.size,0,none⟩) es.length es.length)) (w.alloc (.cells vs e))∧vs.size=es.length*i.size∧es.length≤maxLen∧mj w ρ.S i.size vs.toList es:=by
 unfold NG at hl
 split at hl
 ·rename_i d e ig hu
  split at hl
  ·rename_i i agg y' hi hag hy'
   split at hl
   ·rename_i hc
    cases hl
    cases hy
    obtain⟨hidx,hpos,hsmall,ic,hzero⟩:=hc
    have hsz:w9 P e=some i.size:=by simp[w9,hi]
    rw[hag,hsz] at hy'
    simp only[Option.getD_some] at hy'
    obtain⟨z,hz⟩:=Option.isSome_iff_exists.1 hzero
    obtain⟨r,ds,rfl,Of,U0,tI,hml,hrow⟩:=P7 ho hv hu hi hy' hidx hpos hsmall ic hz US
    subst Of
    exact⟨e,i,ds,r,hu,hi,rfl,U0,tI,hml,hrow⟩
   ·cases hl
  ·cases hl
 ·cases hl

theorem RC {o:Oper}{t:TypeId}{n c:Operand}{sn sc:SV}{ix dd:Nat}{r:eV}{y:E}{dl:D}{nz:Bool}(ho:o.op=.makeSlice t n c)(hl:GA nz P t sn sc (some dd) ix=some r)(hn:ef w ρ env (a.eval n) sn)(hc:ef w ρ env (a.eval c) sc)(hy:r.bind=some (.ev y))(US:y.eval env=some dl) :
  ∃(e:TypeId) (i:TypeInfo) (es:List D) (vs:Array Value),P.underlying t=some (.slice e)∧P.info? e=some i∧dl=.bq es∧(execOp a.eval o).run P w=.ok (.value (.slice (some ⟨w.heap.size,0,none⟩) es.length es.length)) (w.alloc (.cells vs e))∧vs.size=es.length*i.size∧es.length≤maxLen∧mj w ρ.S i.size vs.toList es:=by
 unfold GA at hl
 split at hl
 ·rename_i d e n' c' ig hu hn' zf
  split at hl
  ·rename_i i hi
   obtain⟨z,hz,hl⟩:=Option.bind_eq_some_iff.1 hl
   obtain⟨dz,hdz,hl⟩:=Option.bind_eq_some_iff.1 hl
   split at hl
   ·rename_i wP
    cases hl
    cases hy
    obtain⟨hsame,hlen,aa0⟩:=wP
    obtain⟨dn,hdn,hrn⟩:=SV.ck hn' hn
    obtain⟨dc,hdc,hrc⟩:=SV.ck zf hc
    rw[←E.dU hsame,hdn] at hdc
    cases hdc
    simp only[E.eval,hdn,Option.bind_some] at US
    unfold D.rep at US
    split at US
    ·rename_i k
     split at US
     ·rename_i hk
      obtain⟨CE,hkb,hkm⟩:=hk
      cases US
      have hzr:bU w ρ.S z dz:=D.Gt hdz
      obtain⟨hzl,hzc⟩:=hzr.cellAt aa0
      rw[hlen] at hzl
      have abc:k≤9223372036854775807:=by
       have h9:k.toNat≤9223372036854775807:=hkm
       omega
      have hbytes:(i.bytes:Int)*k≤281474976710656:=by
       have h1:((k.toNat*i.bytes:Nat):Int)≤140737488355328:=by
        generalize k.toNat*i.bytes=q at hkb ⊢
        omega
       rw[Int.natCast_mul,Int.toNat_of_nonneg CE,Int.mul_comm] at h1
       omega
      have hrun:(execOp a.eval o).run P w=.ok (.value (.slice (some ⟨w.heap.size,0,none⟩) k.toNat k.toNat)) (w.alloc (.cells (madeCells z.cells (k.toNat*i.size)) e)):=by
       unfold execOp
       simp only[ho,hrn.v_eq,hrc.v_eq,Sem.run_bind,run_make w t e i z hu hi hz .i64 .i64 k k CE (Int.le_refl _) hbytes abc,Result.andThen_ok,Sem.run_pure]
      have Lg:∀(m:Nat) (x:D),(List.replicate k.toNat dz)[m]? = some x→x=dz∧m<k.toNat:=by
       intro m x hx
       rw[List.getElem?_replicate] at hx
       split at hx
       ·cases hx;exact⟨rfl,by assumption⟩
       ·cases hx
      refine⟨e,i,List.replicate k.toNat dz,madeCells z.cells (k.toNat*i.size),hu,hi,rfl,by simpa using hrun,by simp[size_madeCells],by simpa using hkm,by simp[size_madeCells],fun m x hx=>by rw[(Lg m x hx).1];exact hlen,fun m x j y hx hy=>?_⟩
      obtain⟨rfl,hmk⟩:=Lg m x hx
      obtain⟨h1,u,h2,h3⟩:=hzc j y hy
      have hj:j<i.size:=by rw[←hlen];exact(List.getElem?_eq_some_iff.1 hy).1
      refine⟨h1,u,?_,h3⟩
      have hlt:m*i.size+j<k.toNat*i.size:=by
       have:(m+1)*i.size≤k.toNat*i.size:=Nat.mul_le_mul_right _ hmk
       rw[Nat.add_mul,Nat.one_mul] at this
       omega
      have hmod:(m*i.size+j) % i.size=j:=by rw[Nat.mul_comm,Nat.mul_add_mod,Nat.mod_eq_of_lt hj]
      have hjz:j<z.cells.size:=by rw[hzl];exact hj
      have qc:u=z.cells[j]:=by rw[Array.getElem?_eq_getElem hjz] at h2;exact(Option.some.inj h2).symm
      rw[Array.getElem?_toList]
      simp only[madeCells,Array.getElem?_map,Array.getElem?_range,hlt,if_true,Option.map_some,hzl,hmod,Option.some.injEq]
      rw[qc]
      exact getElem!_pos z.cells j hjz
     ·cases US
    ·cases US
   ·cases hl
  ·cases hl
 ·cases hl

theorem QA {h:D}{sz:Nat}{y:D}{ys:List D}(ha:D.JN h sz y=some ys):D.cnt y=some ys.length:=by
 unfold D.JN at ha
 split at ha
 ·cases ha;rfl
 ·cases ha;rfl
 ·split at ha
  ·rename_i hm
   subst hm
   cases ha;rfl
  ·obtain⟨b,_,ha⟩:=Option.bind_eq_some_iff.1 ha
   split at ha
   ·cases ha
    simp[D.cnt,Qry]
   ·cases ha
 ·cases ha

theorem Hp {o:Oper} {t e:TypeId} {s x:Operand} {i:TypeInfo} {cf:cz} {hx s' x':E} {ix n cap:Nat} {ad:Option Addr} {bs:List D} {ds:D} (ho:o.op=.call { callee:=.builtin .append,args:=#[s,x],argTypes:=#[t,t] }) (hu:P.underlying t=some (.slice e)) (hi:P.info? e=some i)
  (dN:σ.obj bN=some (.store cf hx)) (hro:cf.ro=false) (jC:hx.eval env=some (.st bs)) (xX:a.eval x=.slice none 0 0∨∃ad c,a.eval x=.slice (some ad) 0 c) (Qh:a.eval s=.slice ad n cap) (hcap:n≤cap) (tI:bU w ρ.S (a.eval s) ds) (hone:ds.one=true)
  (cW:env[ix]? = some (.st bs)) (hval:(E.apps hx s' x').eval env=some ds) (h:cu w0 X w a σ env ρ) (hd:∀d,o.dst=some d→d<σ.tmps.length) :
  gq P o a w w0 X ((σ.setObj bN (some (.store cf (.sym ix)))).put o.dst (.e (.apps hx s' x') true)) env:=by
 obtain⟨rp,hb0,hst,_⟩:=h.dO _ _ dN
 rw[jC] at hb0
 cases hb0
 have bn:=h.Qew (x':=.sym ix) dN hro (by simpa[E.eval] using cW) hst (bW.refl _ _) (Sets.le_refl _) rfl ⟨rfl,Nat.le_refl _⟩ rfl (Nat.le_refl _) (fun _ _ _=>rfl) (fun b hb=>⟨.inl hb,gZ h dN b hb⟩) (fun b o hs=>.inl hs) h.cells
 have hrun:(Builtin.append_ #[t,t] o.type #[a.eval s,a.eval x]).run P w=.ok (a.eval s) w:=by
  rcases xX with Lf | ⟨ad2,c,Lf⟩
  ·rw[Lf,Qh]
   exact lT w t o.type e i hu hi ad n cap hcap
  ·rw[Lf,Qh]
   exact B_ w t o.type e i hu hi ad n cap hcap ad2 c
 refine c_ (v:=a.eval s) ?_ (bn.put (by intro d e;rw[af.aZ];exact hd d e) (.e hval tI fun _=>hone))
 unfold execOp
 simp only[ho,resolve,invoke,builtin,Sem.run_bind,Sem.run_pure,Result.andThen_ok,List.map_toArray,List.map_cons,List.map_nil,hrun]

theorem Wc {o:Oper} {e:TypeId} {i:TypeInfo} {cf:cz} {hx vE:E} {vs:Value} {ix m' n:Nat} {bs lg:List D} {ys cs:List D} {xs news:List Value} {v':Value} {w':World} (hpos:0<i.size)
  (dN:σ.obj bN=some (.store cf hx)) (hro:cf.ro=false) (jC:hx.eval env=some (.st bs)) (hne:ys≠[]) (ak4:ys.length=m') (afD:(Qrj ys).all (·.one)=true) (afE:∀(j:Nat) (d:D),cs[j]? = some d→d.one=true)
  (hown:w.ownsRow 0 e i.size vs n xs) (dG:cs.length=n*i.size) (Qg:∀(j:Nat) (v:Value) (d:D),xs[j]? = some v→cs[j]? = some d→bU w ρ.S v d)
  (uY:lg.length=bs.length) (Zr:∀b,vs.ownBlock=some b→ρ.aJ b∧(∀off,¬ρ.S b off)∧∀(j:Nat) (x:D),lg[j]? = some x→x.live=true→ρ.S.loc j≠b) (hold:∀(j:Nat) (x:D),lg[j]? = some x→x.live=true→bs[j]? = some x)
  (cW:env[ix]? = some (.st (lg++[.aE e i.size (cs++Qrj ys)]))) (hval:vE.eval env=some (.sl bs.length 0 (n+m'))) (h:cu w0 X w a σ env ρ) (hd:∀d,o.dst=some d→d<σ.tmps.length)
  (hrun:(execOp a.eval o).run P w=.ok (.value v') w') (hown':w'.ownsRow 0 e i.size v' (n+m') (xs++news)) (gT:(v'.ownBlock=vs.ownBlock∧QH w w' vs.ownBlock)∨(v'.ownBlock=some w.heap.size∧QH w w' none))
  (hnl:news.length=m'*i.size) (Ym:(Qrj ys).length=news.length) (hfr:∀(j:Nat) (v:Value) (d:D),news[j]? = some v→(Qrj ys)[j]? = some d→bU w ρ.S v d∧d.one=true) :
  gq P o a w w0 X ((σ.setObj bN (some (.store cf (.sym ix)))).put o.dst (.e vE true)) env:=by
 obtain⟨rp,hb0,hst,_⟩:=h.dO _ _ dN
 rw[jC] at hb0
 cases hb0
 have hfl:=gZ h dN
 have aoO:0<m':=by
  rw[←ak4]
  exact List.length_pos_iff.2 hne
 rcases hown'.2 with⟨_,h0⟩ | ⟨g,cap,cur,rfl,_,hg,hnc,GR,hcs,Ek⟩
 ·omega
 have hK:bW ρ.S w w':=by
  intro b off hS
  refine World.cell?_of_block (a:=⟨b,off,none⟩) ?_
  rcases gT with⟨Qcz,s8⟩ | ⟨_,s8⟩
  ·refine s8.block b (h.cells b off hS) fun he=>?_
   exact(Zr b he.symm).2.1 off hS
  ·exact s8.block b (h.cells b off hS) (by simp)
 have Qev:w'.os=w.os∧TL w' w∧w'.output=w.output∧w.heap.size≤w'.heap.size:=by
  rcases gT with⟨_,s8⟩ | ⟨_,s8⟩ <;> exact⟨s8.os,s8.tape,s8.output,s8.size⟩
 have hgb:(ρ.aJ g∨g=w.heap.size)∧(∀off,¬ρ.S g off)∧(∀(j:Nat) (x:D),lg[j]? = some x→x.live=true→ρ.S.loc j≠g)∧g<w'.heap.size:=by
  have afS:g<w'.heap.size:=(Array.getElem?_eq_some_iff.1 hg).1
  rcases gT with⟨Qcz,s8⟩ | ⟨Qcz,s8⟩
  ·obtain⟨g1,g2,g3⟩:=Zr g Qcz.symm
   exact⟨.inl g1,g2,g3,afS⟩
  ·have hge:g=w.heap.size:=by simpa[Value.ownBlock] using Qcz
   refine⟨.inr hge,fun off hs=>?_,fun j x hj hx hl=>?_,afS⟩
   ·have:=h.cells g off hs;omega
   ·have:=hfl _ (hst.jl (hold j _ hj hx) hx);omega
 have mJ:∀b,b<w.heap.size→b≠g→w'.heap[b]? = w.heap[b]?:=by
  intro b hb Va
  rcases gT with⟨Qcz,s8⟩ | ⟨_,s8⟩
  ·refine s8.block b hb fun he=>?_
   have:some b=some g:=by rw[he,←Qcz];rfl
   cases this
   exact Va rfl
  ·exact s8.block b hb (by simp)
 have hxl:xs.length=n*i.size:=hown.1
 have Yp:∀(j:Nat) (v:Value),cur[j]? = some v→j<(n+m')*i.size→(xs++news)[j]? = some v:=by
  intro j v hj hlt
  rw[←Ek,List.getElem?_take,if_pos hlt]
  simpa using hj
 have IN:dF w' (ρ.S.more g cap) (fun b=>ρ.aJ b∨b=g) (lg++[.aE e i.size (cs++Qrj ys)]):=by
  refine Gf hst hK uY (fun j x hj hx=>?_) (fun _=>Iff.rfl) hg hcs ?_ (fun j d hj=>?_) (fun j v d hv JJ=>?_) hgb.2.1
  ·have hj':=hold j _ hj hx
   have:=hgb.2.2.1 j _ hj hx
   exact⟨hj',this,mJ _ (hfl _ (hst.jl hj' hx)) this⟩
  ·rw[List.length_append,dG,Ym,hnl,hcs,←Nat.add_mul]
   exact Nat.mul_le_mul_right _ hnc
  ·rw[List.getElem?_append] at hj
   split at hj
   ·exact afE j d hj
   ·exact List.all_eq_true.1 afD d (List.mem_of_getElem? hj)
  ·have hjl:j<(n+m')*i.size:=by
    have:=(List.getElem?_eq_some_iff.1 JJ).1
    rw[List.length_append,dG,Ym,hnl,←Nat.add_mul] at this
    exact this
   have X_:=Yp j v hv hjl
   rw[List.getElem?_append] at JJ X_
   split at JJ
   ·rename_i hlt
    rw[if_pos (by omega)] at X_
    exact Qg j v d X_ JJ
   ·rename_i hlt
    rw[if_neg (by omega),hxl] at X_
    rw[dG] at JJ
    exact(hfr _ v d X_ JJ).1
 have bn:=h.Qew (x':=.sym ix) dN hro (by simp only[E.eval];exact cW) IN hK (ρ.S.qw g cap) Qev.1 Qev.2.1 Qev.2.2.1 Qev.2.2.2 (fun b hb hnf=>mJ b hb fun e'=>?_) (fun b hb=>?_) (fun b off hs=>.inl hs) (fun b off hs=>Nat.lt_of_lt_of_le (h.cells b off hs) Qev.2.2.2)
 ·refine c_ (v:=.slice (some ⟨g,0,none⟩) (n+m') cap) ?_ (bn.put (by rw[af.aZ];exact hd) (.e (d:=.sl bs.length 0 (n+m')) hval ?_ fun _=>rfl))
  ·exact hrun
  ·have:=bU.sl (w:=w') (S:=ρ.S.more g cap) (i:=bs.length) (off:=0) (len:=n+m') (c:=cap) (by simp[Sets.more,hst.n]) hnc GR (fun _=>by simp[Sets.more,hst.n])
   have hl:(ρ.S.more g cap).loc bs.length=g:=by simp[Sets.more,hst.n]
   rwa [hl] at this
 ·subst e'
  rcases hgb.1 with h1 | h1
  ·exact hnf h1
  ·omega
 ·rcases hb with hb | rfl
  ·exact⟨.inl hb,Nat.lt_of_lt_of_le (hfl b hb) Qev.2.2.2⟩
  ·refine⟨?_,hgb.2.2.2⟩
   rcases hgb.1 with h1 | h1
   ·exact .inl h1
   ·exact .inr (by omega)

theorem Mp {o:Oper} {t e:TypeId} {s x:Operand} {i:TypeInfo} {z:Value} {cf:cz} {hx s' x':E} {ix m n:Nat} {bs lg:List D} {ys cs:List D} {xs:List Value} (ho:o.op=.call { callee:=.builtin .append,args:=#[s,x],argTypes:=#[t,t] }) (hu:P.underlying t=some (.slice e)) (hi:P.info? e=some i) (hz:i.zero=some z) (hzs:z.cells.size=i.size) (hpos:0<i.size)
  (dN:σ.obj bN=some (.store cf hx)) (hro:cf.ro=false) (jC:hx.eval env=some (.st bs)) {dy:D} (mT:bU w ρ.S (a.eval x) dy) (IV:D.JN (.st bs) i.size dy=some ys) (hne:ys≠[]) (S7:ys.length=m) (hall:bK i.size ys=true) (afD:(Qrj ys).all (·.one)=true) (afE:∀(j:Nat) (d:D),cs[j]? = some d→d.one=true)
  (hown:w.ownsRow 0 e i.size (a.eval s) n xs) (dG:cs.length=n*i.size) (Qg:∀(j:Nat) (v:Value) (d:D),xs[j]? = some v→cs[j]? = some d→bU w ρ.S v d) (hml:n+m≤maxLen) (hby:(n+m)*i.bytes≤140737488355328)
  (uY:lg.length=bs.length) (Zr:∀b,(a.eval s).ownBlock=some b→ρ.aJ b∧(∀off,¬ρ.S b off)∧∀(j:Nat) (x:D),lg[j]? = some x→x.live=true→ρ.S.loc j≠b) (hold:∀(j:Nat) (x:D),lg[j]? = some x→x.live=true→bs[j]? = some x)
  (cW:env[ix]? = some (.st (lg++[.aE e i.size (cs++Qrj ys)]))) (hval:(E.apps hx s' x').eval env=some (.sl bs.length 0 (n+m))) (h:cu w0 X w a σ env ρ) (hd:∀d,o.dst=some d→d<σ.tmps.length) :
  gq P o a w w0 X ((σ.setObj bN (some (.store cf (.sym ix)))).put o.dst (.e (.apps hx s' x') true)) env:=by
 obtain⟨rp,hb0,hst,_⟩:=h.dO _ _ dN
 rw[jC] at hb0
 cases hb0
 have hfl:=gZ h dN
 rcases yN hst mT IV hall with⟨h1,_⟩ | ⟨ad,m',c,news,Lf,ak4,hnl,hcells,hone,wO⟩
 ·exact absurd h1 hne
 ·obtain rfl:m'=m:=by omega
  obtain⟨v',w',hrun,hown',gT⟩:=kI (P:=P) w t o.type e i z i.size i.bytes hu hi hz rfl rfl hzs hpos (a.eval s) n xs hown ad m' c news hnl hcells hone hml hby
  rw[←Lf] at hrun
  have hex:(execOp a.eval o).run P w=.ok (.value v') w':=by
   unfold execOp
   simp only[ho,resolve,invoke,builtin,Sem.run_bind,Sem.run_pure,Result.andThen_ok,List.map_toArray,List.map_cons,List.map_nil,hrun]
  obtain⟨Ls,Ym,hfr⟩:=wO.flat hpos
  exact Wc hpos dN hro jC hne ak4 afD afE hown dG Qg uY Zr hold cW hval h hd hex hown' gT hnl Ym hfr

theorem Ny {o:Oper}{ct:Operand→SV}{ix:Nat}{r:eV}(hv:∀x,ef w ρ env (a.eval x) (ct x))(hl:RA P o ct σ.obj ix=some r)(h:cu w0 X w a σ env ρ)(hd:∀d,o.dst=some d→d<σ.tmps.length)(hb:cn P env ix r.bind) :
  (r.eM=none∧gq P o a w w0 X (σ.put o.dst r.val) env)∨∃z,r.eM=some (bN,z)∧gq P o a w w0 X ((σ.setObj bN (some z)).put o.dst r.val) env:=by
 unfold RA at hl
 split at hl
 case isFalse=>cases hl
 unfold wJ at hl
 split at hl
 ·rename_i cf hx dd dN ig
  obtain⟨bs,jC,hst,_⟩:=h.dO _ _ dN
  split at hl
  ·cases hl
  rename_i hro
  have hro:cf.ro=false:=by simpa using hro
  split at hl
  ·rename_i t ho
   split at hl
   ·split at hl
    ·rename_i z hz
     split at hl
     ·rename_i ds hds
      cases hl
      obtain⟨d,he,cW⟩:=hb
      simp only[E.eval,jC,Option.bind_some,D.cI] at he
      split at he
      ·rename_i hone
       cases he
       obtain⟨g1,g2⟩:=D.ng (w:=w) (S:=ρ.S) hds
       have g1':z.cells.size=ds.length:=by simpa using g1
       have hrun:(execOp a.eval o).run P w=.ok (.value (.pointer (some ⟨w.heap.size,0,none⟩))) (w.alloc (.cells z.cells t)):=by
        unfold execOp
        simp only[ho,Instr.alloc,Sem.run_bind,iU hz,Result.andThen_ok,newVar,newRow,Sem.run_pure,run_newObj]
        rfl
       have GK:∀(j:Nat) (d:D),ds[j]? = some d→d.one=true:=fun j d hj=>List.all_eq_true.1 hone d (List.mem_of_getElem? hj)
       obtain⟨bn,hn⟩:=h.DP (k:=1) (sz:=z.cells.size) (cs:=ds) (vs:=z.cells) (e:=t) (x':=.sym ix) dN hro jC (by simp) (by omega) GK (fun j v d hj fz=>(g2 j v d (by simpa using hj) fz).1) (by simp only[E.eval];exact cW)
       exact .inr ⟨_,rfl,c_ hrun (bn.put (by rw[af.aZ];exact hd) (EA jC hn))⟩
      ·cases he
     ·cases hl
    ·cases hl
   ·cases hl
  ·rename_i t x ho
   split at hl
   ·split at hl
    ·rename_i agg n x' hg hn0 uT
     split at hl
     ·rename_i hag
      cases hl
      obtain⟨dx,pY,mT⟩:=SV.ck uT (hv x)
      obtain⟨d,he,cW⟩:=hb
      simp only[E.eval,jC,Option.bind_some,Option.bind_eq_some_iff] at he
      obtain⟨dc,hdc,he⟩:=he
      obtain⟨cs,rfl,h1,h1a,h1b,h2,h3,h4⟩:=Hi pY mT hdc
      simp only[D.cI] at he
      split at he
      ·rename_i hone
       cases he
       have zc:cs.length=n:=by
        cases agg with
        | true=>exact h1a rfl
        | false=>rw[h1b rfl];exact(hag.resolve_left (by simp)).symm
       have hrun:(execOp a.eval o).run P w=.ok (.value (.pointer (some ⟨w.heap.size,0,none⟩))) (w.alloc (.cells (a.eval x).cells t)):=by
        unfold execOp
        simp only[ho,Instr.box,Sem.run_bind,Result.andThen_ok,newVar,newRow,Sem.run_pure,run_newObj]
        rfl
       obtain⟨bn,hn⟩:=h.DP (k:=1) (sz:=n) (cs:=cs) (vs:=(a.eval x).cells) (e:=t) (x':=.sym ix) dN hro jC (by omega) (by omega) h3 h4 (by simp only[E.eval];exact cW)
       exact .inr ⟨_,rfl,c_ hrun (bn.put (by rw[af.aZ];exact hd) (EA jC hn))⟩
      ·cases he
     ·cases hl
    ·cases hl
   ·cases hl
  ·rename_i t n c ho
   split at hl
   ·split at hl
    ·rename_i v0 u0 y e JH hu
     split at hl
     ·rename_i i hi
      split at hl
      ·rename_i hpos
       cases hl
       obtain⟨d,he,cW⟩:=hb
       simp only[E.eval,jC,Option.bind_some,Option.bind_eq_some_iff] at he
       obtain⟨dl,cP,he⟩:=he
       obtain⟨e',i',es,vs,qc,hi',rfl,hrun,hvs,hml,hrow⟩:=RC (ρ:=ρ) (env:=env) ho JH (hv n) (hv c) rfl cP
       rw[hu] at qc
       cases qc
       rw[hi] at hi'
       cases hi'
       obtain⟨hall,hfl,hfr⟩:=hrow.flat hpos
       simp only[D.a_] at he
       split at he
       ·cases he
        rename_i VF
        have hone:∀(j:Nat) (d:D),(Qrj es)[j]? = some d→d.one=true:=fun j d hj=>List.all_eq_true.1 VF.2 d (List.mem_of_getElem? hj)
        obtain⟨bn,hn⟩:=h.DP (k:=es.length) (sz:=i.size) (cs:=Qrj es) (vs:=vs) (e:=e) (x':=.sym ix) dN hro jC hvs (by rw[hfl];simp) hone (fun j v d hj fz=>(hfr j v d (by simpa using hj) fz).1) (by simp only[E.eval];exact cW)
        exact .inr ⟨_,rfl,c_ hrun (bn.put (by rw[af.aZ];exact hd) (VQ jC cP hml hn))⟩
       ·cases he
      ·cases hl
     ·cases hl
    ·cases hl
   ·cases hl
  ·rename_i t len parts ho
   split at hl
   ·split at hl
    ·rename_i v0 u0 y e JH hu
     split at hl
     ·rename_i i hi
      split at hl
      ·rename_i hpos
       cases hl
       obtain⟨d,he,cW⟩:=hb
       simp only[E.eval,jC,Option.bind_some,Option.bind_eq_some_iff] at he
       obtain⟨dl,cP,he⟩:=he
       obtain⟨e',i',es,vs,qc,hi',rfl,hrun,hvs,hml,hrow⟩:=apE (ρ:=ρ) (env:=env) ho hv JH rfl cP
       rw[hu] at qc
       cases qc
       rw[hi] at hi'
       cases hi'
       obtain⟨hall,hfl,hfr⟩:=hrow.flat hpos
       simp only[D.a_] at he
       split at he
       ·cases he
        rename_i VF
        have hone:∀(j:Nat) (d:D),(Qrj es)[j]? = some d→d.one=true:=fun j d hj=>List.all_eq_true.1 VF.2 d (List.mem_of_getElem? hj)
        obtain⟨bn,hn⟩:=h.DP (k:=es.length) (sz:=i.size) (cs:=Qrj es) (vs:=vs) (e:=e) (x':=.sym ix) dN hro jC hvs (by rw[hfl];simp) hone (fun j v d hj fz=>(hfr j v d (by simpa using hj) fz).1) (by simp only[E.eval];exact cW)
        exact .inr ⟨_,rfl,c_ hrun (bn.put (by rw[af.aZ];exact hd) (VQ jC cP hml hn))⟩
       ·cases he
      ·cases hl
     ·cases hl
    ·cases hl
   ·cases hl
  ·rename_i x ho
   split at hl
   ·split at hl
    ·cases hl
     exact .inl ⟨rfl,bS h hd (v:=.slice none 0 0) (by unfold execOp;simp only[ho];rfl) (.e rfl .cq fun _=>rfl)⟩
    ·cases hl
   ·cases hl
  ·rename_i c ho
   obtain⟨callee,args,ts⟩:=c
   simp only at hl
   split at hl
   ·split at hl
    ·rename_i s x t t' hargs hts
     split at hl
     ·rename_i WY
      obtain⟨WY,_⟩:=WY
      subst WY
      have e1:args=#[s,x]:=by rw[←Array.toArray_toList (xs:=args),hargs]
      have e2:ts=#[t,t]:=by rw[←Array.toArray_toList (xs:=ts),hts]
      subst e1 e2
      split at hl
      ·rename_i s' sb x' e hs' hx' hu
       split at hl
       ·rename_i i hi
        split at hl
        ·rename_i z hz
         split at hl
         ·rename_i hc
          cases hl
          have hvs:=XT (hv s)
          rw[hs'] at hvs
          obtain⟨ds,hds,tI,_⟩:=hvs.kC
          obtain⟨dx,pY,mT⟩:=SV.ck hx' (hv x)
          obtain⟨d,he,cW⟩:=hb
          simp only[E.eval,jC,hds,pY,Option.bind_some] at he
          refine .inr ⟨_,rfl,?_⟩
          unfold D.fU at he
          split at he
          ·rename_i ia ys e3 IV _
           cases e3
           have Og:=QA IV
           have Qh:a.eval s=.slice none 0 0:=by
            generalize a.eval s=v at tI
            cases tI
            rfl
           split at he
           ·rename_i wm
            subst wm
            cases he
            have X_:a.eval x=.slice none 0 0∨∃ad c,a.eval x=.slice (some ad) 0 c:=by
             rcases yN hst mT IV (by simp[bK]) with⟨_,h1⟩ | ⟨ad,m,c,news,h1,h2,_⟩
             ·exact h1
             ·exact .inr ⟨ad,c,by rw[h1,←h2];rfl⟩
            exact Hp ho hu hi dN hro jC X_ Qh (Nat.le_refl _) tI rfl (by simpa using cW) (by simp only[E.eval,jC,hds,pY,Option.bind_some,D.apps,Og,List.length_nil,if_true]) h hd
           ·rename_i hne
            split at he
            ·rename_i rT
             cases he
             exact Mp (n:=0) (m:=ys.length) (cs:=[]) (xs:=[]) (lg:=bs) ho hu hi hz hc.1 hc.2.1 dN hro jC mT IV hne rfl rT.2.2.1 rT.2.2.2 (by simp) (by rw[Qh];exact World.ownsRow_nil w 0 e i.size) (by simp) (by simp) (by simpa using rT.2.1) (by simpa using rT.1) rfl (fun b hb=>by rw[Qh] at hb;cases hb) (fun j _ hj _=>hj) (by simpa using cW) (by simp only[E.eval,jC,hds,pY,Option.bind_some,D.apps,Og,if_neg (fun e=>hne (List.eq_nil_of_length_eq_zero e)),Nat.zero_add]) h hd
            ·cases he
          ·rename_i ia k off n ys e3 IV _
           cases e3
           have Og:=QA IV
           split at he
           ·rename_i wm
            subst wm
            cases he
            have alh:=tI
            generalize Qh:a.eval s=v at tI
            cases tI with
            | @sl _ _ _ cc hk hle GR h0=>
             have X_:a.eval x=.slice none 0 0∨∃ad c,a.eval x=.slice (some ad) 0 c:=by
              rcases yN hst mT IV (by simp[bK]) with⟨_,h1⟩ | ⟨ad,m,c,news,h1,h2,_⟩
              ·exact h1
              ·exact .inr ⟨ad,c,by rw[h1,←h2];rfl⟩
             exact Hp ho hu hi dN hro jC X_ Qh hle alh rfl cW (by simp only[E.eval,jC,hds,pY,Option.bind_some,D.apps,Og,List.length_nil,if_true]) h hd
           ·rename_i hne
            obtain⟨aE,Qhv,he⟩:=Option.bind_eq_some_iff.1 he
            split at he
            ·rename_i rT
             cases he
             obtain⟨c0,c1,c2,c3,c4,c5,c6,c7⟩:=rT
             subst c0
             have oh:=oW Qhv
             rw[c1,c2] at oh
             obtain⟨hf,vs,⟨e',hh,hty⟩,hsz,hlen,hone,hr,oa⟩:=hst.cells k _ _ _ oh
             obtain rfl:e=e':=(hty.resolve_left hc.2.2).symm
             generalize Qh:a.eval s=v at tI
             cases tI with
             | @sl _ _ _ cc hk hle GR h0=>
             have hcap:=h0 rfl
             have hown:w.ownsRow 0 e i.size (a.eval s) n (vs.toList.take (n*i.size)):=by
              refine⟨?_,.inr ⟨ρ.S.loc k,cc,vs,Qh,Nat.zero_le _,hh,hle,GR,by rw[hcap];exact hsz,rfl⟩⟩
              rw[List.length_take,Array.length_toList]
              omega
             refine Mp (n:=n) (m:=ys.length) (cs:=aE.2.2) (xs:=vs.toList.take (n*i.size)) (lg:=bs.set k (.bh [])) ho hu hi hz hc.1 hc.2.1 dN hro jC mT IV hne rfl c6 c7 hone hown c3 (fun j v d hj JJ=>?_) c5 c4 (by simp) (fun b hb=>?_) (fun j x hj hx=>?_) cW (by simp only[E.eval,jC,hds,pY,Option.bind_some,D.apps,Og,if_neg (fun e=>hne (List.eq_nil_of_length_eq_zero e))]) h hd
             ·rw[List.getElem?_take] at hj
              split at hj
              ·exact hr j v d (by simpa using hj) JJ
              ·cases hj
             ·rw[Qh] at hb
              have hb':ρ.S.loc k=b:=by simpa[Value.ownBlock] using hb
              subst hb'
              refine⟨hf,oa,fun j x hj hx hl=>?_⟩
              rw[List.getElem?_set] at hj
              split at hj
              ·split at hj <;> cases hj
               cases hx
              ·rename_i Va
               exact Va (hst.inj j k _ _ hj oh hx rfl hl).symm
             ·rw[List.getElem?_set] at hj
              split at hj
              ·split at hj <;> cases hj
               cases hx
              ·exact hj
            ·cases he
          ·cases he
         ·cases hl
        ·cases hl
       ·cases hl
      ·cases hl
     ·cases hl
    ·cases hl
   ·cases hl
  ·cases hl
 ·cases hl

end
end
end

section
noncomputable section

def acJ (P:Program)(f:FuncId)(nm:String):Bool:=
 match P.funcs[f]? with
 | some fn=>fn.body.isNone&&fn.name==nm&&(Extern.findNext fn).isNone
 | none=>false

def ao6 (P:Program)(o:Oper)(ct:Operand→SV)(ix:Nat):Option eV:=
 match o.op with
 | .binOp op t x y _=>(match P.underlying t,ct x,ct y with
  | some (.pointer e),.e x' _,.e y' _=>if IA (ct x)=true∨IA (ct y)=true∨(P.info? e).isNone=true then none else(match op with
   | .eql=>some { val:=.e (.sym ix) true,bind:=some (.ev (.m4 (.peq false) x' y' .nil .nil)) }
   | .neq=>some { val:=.e (.sym ix) true,bind:=some (.ev (.m4 (.peq true) x' y' .nil .nil)) }
   | _=>none)
  | _,_,_=>none)
 | .slice t x (some lo) none none=>(match P.underlying t,(ct x).jx,(ct lo).jx with
  | some (.array n e),some x',some l'=>(w9 P e).bind fun sz=>if n≤maxLen then some { val:=.e (.sym ix) true,bind:=some (.ev (.m4 (.asl n sz) x' l' .nil .nil)) } else none
  | _,_,_=>none)
 | .convert s t x=>(match P.underlying s,P.underlying t,(ct x).jx with
  | some .string,some (.slice e),some x'=>if apI P e=true then some { val:=.e (.sym ix) true,bind:=some (.ev (.m4 .Qhj x' .nil .nil .nil)) } else none
  | _,_,_=>none)
 | .call c=>(match c.callee,c.args.toList with
  | .builtin .unsafeSliceData,[x]=>(ct x).jx.map fun x'=>{ val:=.e (.sym ix) true,bind:=some (.ev (.m4 .usd x' .nil .nil .nil)) }
  | .value f,[x]=>(match ct f with
   | .func (.func f) [] => if acJ P f "internal/abi.NoEscape" = true then some { val := ct x } else none
   | _=>none)
  | .value f,[x,y]=>(match ct f with
   | .func (.func f) [] => if acJ P f "internal/bytealg.IndexByteString" = true then (match (ct x).jx, (ct y).jx with
    | some x',some y'=>some { val:=.e (.sym ix) true,bind:=some (.ev (.m4 .sib x' y' .nil .nil)) }
    | _,_=>none) else none
   | _=>none)
  | _,_=>none)
 | .typeAssert x _ t false=>(match P.underlying t,(ct x).jx with
  | some (.map _ _),some x'=>some { val:=.e (.sym ix) true,bind:=some (.ev (.bt (.m4 (.m0 t) x' .nil .nil .nil))) }
  | _,_=>none)
 | _=>none

theorem an1 {P:Program}{o:Oper}{ct jg:Operand→SV}{ix:Nat}(hv:∀x,x∈o.op.operands→jg x=ct x):ao6 P o jg ix=ao6 P o ct ix:=by
 unfold ao6
 generalize hop:o.op=op at *
 cases op <;> try rfl
 case binOp op t x y yt=>simp only;rw[hv x (by simp[Op.operands]),hv y (by simp[Op.operands])]
 case slice t x lo hi mx=>
  cases lo with
  | none=>rfl
  | some lo=>cases hi <;> cases mx <;> first | rfl | (simp only;rw[hv x (by simp[Op.operands]),hv lo (by simp[Op.operands])])
 case convert s t x=>simp only;rw[hv x (by simp[Op.operands])]
 case typeAssert x xt t ok=>cases ok <;> first | rfl | (simp only;rw[hv x (by simp[Op.operands])])
 case call c=>
  obtain⟨callee,args,ts⟩:=c
  have hargs:∀x,x∈args.toList→jg x=ct x:=fun x hx=>hv x (by
   simp only[Op.operands,Call.operands]
   have:x∈args:=by simpa using hx
   simp[this])
  simp only
  cases callee with
  | builtin b=>
   cases b <;> try rfl
   cases hl:args.toList with
   | nil=>rfl
   | cons x r=>
    cases r with
    | nil=>simp only;rw[hargs x (by rw[hl];simp)]
    | cons _ _=>rfl
  | value f=>
   have hf:=hv f (by simp[Op.operands,Call.operands])
   cases hl:args.toList with
   | nil=>rfl
   | cons x r=>
    cases r with
    | nil=>simp only;rw[hf,hargs x (by rw[hl];simp)]
    | cons y r=>cases r with
     | nil=>simp only;rw[hf,hargs x (by rw[hl];simp),hargs y (by rw[hl];simp)]
     | cons _ _=>rfl
  | invoke r n=>rfl

section
variable {P:Program} {w w0:World} {X:kG} {a:Act} {σ:af} {env:List D} {ρ:dJ}

theorem run_eql_ptr_same {w:World}{tp te:TypeId}{j:TypeInfo}(a:Addr)(hp:P.underlying tp=some (.pointer te))(hte:P.info? te=some j) :
  (binOp .eql tp (.pointer (some a)) (.pointer (some a))).run P w=.ok (.bool true) w:=by
 have h:∀d:Nat,(Op.equalIn (d+1) tp (.pointer (some a)) (.pointer (some a))).run P w=.ok true w:=fun d=>by
  simp[Op.equalIn,run_underlying hp,sizeOf,typeInfo,hte,run_sameAddr_same]
 simp only[binOp]
 simp[Op.equal,Op.maxDepth,h 9999]

theorem aqX {neg:Bool}{t e:TypeId}{i:TypeInfo}{x y:Operand}{v u:Value}{dx dy dz:D}{S:Sets}(ht:P.underlying t=some (.pointer e))(hi:P.info? e=some i)(hz:D.peq neg dx dy=some dz)(hx:bU w S v dx)(hy:bU w S u dy) :
  ∃r,(do eqGuard (bif neg then .neq else .eql) t x y v u;binOp (bif neg then .neq else .eql) t v u:Sem Value).run P w=.ok r w∧bU w S r dz∧dz.one=true:=by
 have hk:kindOf P t=some .ptr:=by unfold kindOf;rw[ht]
 unfold D.peq at hz
 split at hz
 ·split at hz
  ·rename_i hc
   obtain⟨rfl,rfl⟩:=hc
   cases hz
   cases hx
   cases hy
   refine⟨.bool (!neg),?_,.v rfl,rfl⟩
   simp only[eqGuard_at_pointer,Sem.run_bind,Sem.run_pure,Result.andThen_ok]
   cases neg with
   | true=>exact Lib.run_neq_ptr_same w _ ht hi
   | false=>exact run_eql_ptr_same _ ht hi
  ·cases hz
 ·exact XH hk hz hx hy

theorem Qkv {f : FuncId} {nm : String} {e : Array Value → Sem Value} (h : acJ P f nm = true) (hnm : nm ≠ "runtime.NumGoroutine") (he : ∀ fn : Func, fn.name = nm → Extern.find fn = some e) (args : Array Value) : (callFunc f args).run P w = ((e args).run P w).andThen fun v w' => .ok (.value v) w' := by
 unfold acJ at h
 split at h
 ·rename_i fn hf
  simp only[Bool.and_eq_true,beq_iff_eq,Option.isNone_iff_eq_none] at h
  obtain⟨⟨h1,h2⟩,h3⟩:=h
  exact run_callFunc_extern hf (by rw[h2];simpa using hnm) (by rw[h1];rfl) h3 (he fn h2) args w
 ·cases h

theorem Qrq (fn : Func) (h : fn.name = "internal/abi.NoEscape") : Extern.find fn = some Extern.AbiNoEscape.same := by
 unfold Extern.find
 rw[h]
 kernel_rfl

theorem Th (fn : Func) (h : fn.name = "internal/bytealg.IndexByteString") : Extern.find fn = some Extern.BytealgIndexByte.indexByte := by
 unfold Extern.find
 rw[h]
 kernel_rfl

theorem ame {c:Operand}{ct:Operand→SV}{f:FuncId}(hv:∀x,ef w ρ env (a.eval x) (ct x))(hc:ct c=.func (.func f) []):a.eval c=.func (.func f) #[] #[]:=by
 have h:=hv c
 rw[hc] at h
 obtain⟨vs,h1,h2,_⟩:=h.rV
 rw[h1,show vs=#[] from Array.eq_empty_of_size_eq_zero h2]

theorem amF {o:Oper}{c:Operand}{args:Array Operand}{ts:Array TypeId}{f:FuncId}{u:Value}(ho:o.op=.call { callee:=.value c,args:=args,argTypes:=ts })(hc:a.eval c=.func (.func f) #[] #[])(h:(callFunc f (args.map a.eval)).run P w=.ok (.value u) w) :
  (execOp a.eval o).run P w=.ok (.value u) w:=by
 unfold execOp
 simp only[ho,resolve,hc,Deferred.ofValue,invoke,Sem.run_bind,Sem.run_pure,Result.andThen_ok]
 simpa using h

theorem M7 (w:World)(t xT k e:TypeId)(v:Value)(h:P.underlying t=some (.map k e)):(Instr.typeAssert (.iface t v) xT t false).run P w=.ok v w:=by
 simp[Instr.typeAssert,run_underlying h,go_sem,Result.andThen]

theorem an0 {o:Oper}{ct:Operand→SV}{ix:Nat}{r:eV}(hv:∀x,ef w ρ env (a.eval x) (ct x))(hl:ao6 P o ct ix=some r)(h:cu w0 X w a σ env ρ)(hd:∀d,o.dst=some d→d<σ.tmps.length)(hb:cn P env ix r.bind) :
  r.eM=none∧gq P o a w w0 X (σ.put o.dst r.val) env:=by
 unfold ao6 at hl
 split at hl
 ·rename_i op t x y yt ho
  split at hl
  ·rename_i e x' s1 y' s2 ht hx hy
   split at hl
   ·cases hl
   rename_i hc
   have hi:(P.info? e).isSome=true:=by
    cases hi:P.info? e with
    | none=>exact absurd (by rw[hi];simp) hc
    | some _=>rfl
   obtain⟨i,hi⟩:=Option.isSome_iff_exists.1 hi
   have xX:=hv x
   rw[hx] at xX
   have US:=hv y
   rw[hy] at US
   obtain⟨dx,pY,mT,_⟩:=xX.kC
   obtain⟨dy,S4,hry,_⟩:=US.kC
   have key:∀neg:Bool,op=(bif neg then .neq else .eql)→r={ val:=.e (.sym ix) true,bind:=some (.ev (.m4 (.peq neg) x' y' .nil .nil)) }→r.eM=none∧gq P o a w w0 X (σ.put o.dst r.val) env:=by
    rintro neg rfl rfl
    obtain⟨d,he,cW⟩:=hb
    simp only[E.eval,pY,S4,Option.bind_some,D.m4] at he
    obtain⟨u,hrun,RO,h1⟩:=aqX (x:=x) (y:=y) ht hi he mT hry
    refine⟨rfl,bS h hd (v:=u) ?_ (.e (by simp only[E.eval];exact cW) RO fun _=>h1)⟩
    unfold execOp
    simp only[ho,Sem.run_bind] at hrun ⊢
    rw[hrun]
    rfl
   cases op <;> first | (cases hl;done) | skip
   ·exact key false rfl (by cases hl;rfl)
   ·exact key true rfl (by cases hl;rfl)
  ·cases hl
 ·rename_i t x lo ho
  split at hl
  ·rename_i n e x' l' ht hx hlo
   obtain⟨sz,hsz,hl⟩:=Option.bind_eq_some_iff.1 hl
   split at hl
   ·rename_i hn
    cases hl
    obtain⟨dx,pY,mT⟩:=SV.ck hx (hv x)
    obtain⟨dl,cP,hrl⟩:=SV.ck hlo (hv lo)
    obtain⟨d,he,cW⟩:=hb
    simp only[E.eval,pY,cP,Option.bind_some,D.m4] at he
    unfold D.asl at he
    split at he
    ·rename_i i off k l
     split at he
     ·rename_i hc
      obtain⟨h0,h1,h2⟩:=hc
      cases he
      have uT:a.eval x=.pointer (some ⟨ρ.S.loc i,off,none⟩)∧i<ρ.S.n:=by
       generalize a.eval x=v at mT
       cases mT
       exact⟨rfl,by assumption⟩
      have hel:P.elem t=e:=by unfold Program.elem;rw[ht]
      have hal:P.arrayLen t=n:=by unfold Program.arrayLen;rw[ht]
      have hrun:=run_sliceAt_array_l (P:=P) w t ⟨ρ.S.loc i,off,none⟩ (by rw[hel,hal];exact ht) k l h0 (by rw[hal];omega)
      rw[hel,hal,run_sizeOf hsz] at hrun
      simp only[Result.andThen_ok,slicedAt] at hrun
      rw[if_neg (by omega)] at hrun
      refine⟨rfl,bS h hd (v:=.slice (some ⟨ρ.S.loc i,off+l.toNat*sz,none⟩) (n-l.toNat) (n-l.toNat)) ?_ (.e (by simp only[E.eval];exact cW) (.sl uT.2 (Nat.le_refl _) (by omega) fun e=>absurd e (by omega)) fun _=>rfl)⟩
      unfold execOp
      simp only[ho,Option.map_some,Option.map_none,uT.1,hrl.v_eq,Sem.run_bind,hrun,Result.andThen_ok,Sem.run_pure,Addr.add_lit]
     ·cases he
    ·cases he
   ·cases hl
  ·cases hl
 ·rename_i s t x ho
  split at hl
  ·rename_i te x' hs ht hx
   split at hl
   ·rename_i hte
    cases hl
    obtain⟨dx,pY,mT⟩:=SV.ck hx (hv x)
    obtain⟨d,cV,cW⟩:=hb
    simp only[E.eval,pY,Option.bind_some,D.m4] at cV
    unfold D.Qhj at cV
    split at cV
    ·rename_i str
     split at cV
     ·rename_i MB
      cases cV
      have hrun:=run_bytes_of_string (P:=P) w s t te str hs ht (aiV hte)
      have abu:Blw w.heap.size w (w.drew.alloc (.cells (bytesRow str (grownCap w str.size 0 te)) te ((bytesRow str (grownCap w str.size 0 te)).size,(bytesRow str (grownCap w str.size 0 te)).size+1))):=
       ⟨⟨rfl,rfl,rfl,by simp,fun k hk=>Qcx w.drew _ k hk⟩,by simp⟩
      have bn:=h.behind (S':=ρ.S.or fun b _=>b=w.heap.size) abu (ρ.S.rN _) rfl (fun b o hs=>hs.imp_right fun e=>Nat.le_of_eq e.symm) (fun b o hs=>by
       rcases hs with hs | hs
       ·exact Nat.lt_of_lt_of_le (h.cells b o hs) abu.size
       ·simp[hs])
      refine⟨rfl,c_ (v:=.slice (some ⟨w.heap.size,0,none⟩) str.size (grownCap w str.size 0 te)) ?_ (bn.put hd (.e (d:=.bq (cX str)) (by simp only[E.eval];exact cW) ?_ fun _=>rfl))⟩
      ·unfold execOp
       simp only[ho,mT.v_eq,Sem.run_bind,hrun,Result.andThen_ok,Sem.run_pure]
      ·have hl:(cX str).length=str.size:=by unfold cX;rw[List.length_map,Array.length_toList];rfl
       have xF:∀(i:Nat) (e:D),(cX str)[i]? = some e→∃b:UInt8,str.data[i]? = some b∧e=.v (.int .u8 b.toNat):=by
        intro i e he
        simp only[cX,List.getElem?_map,Option.map_eq_some_iff] at he
        obtain⟨b,hb,rfl⟩:=he
        exact⟨b,by simpa using hb,rfl⟩
       have hj0:∀{i:Nat} {e:D} {j:Nat} {d:D},(cX str)[i]? = some e→e.cells[j]? = some d→j=0∧∃b:UInt8,str.data[i]? = some b∧d=.v (.int .u8 b.toNat):=by
        intro i e j d he hd
        obtain⟨b,hb,rfl⟩:=xF i e he
        cases j with
        | zero=>simp[D.cells] at hd;exact⟨rfl,b,hb,hd.symm⟩
        | succ j=>simp[D.cells] at hd
       refine .bq (size:=1) (val:=fun i _=>.int .u8 ((str.data[i]?).getD 0).toNat) hl.symm (grownCap_ge w str.size 0 te) (grownCap_le_maxLen w str.size 0 te MB) (fun i e he=>?_) (fun i e j d he hd=>?_) (fun i e j d he hd=>.inr rfl) (fun i e j d he hd=>?_) fun i e j d he hd=>?_
       ·obtain⟨b,_,rfl⟩:=xF i e he;rfl
       ·obtain⟨_,b,_,rfl⟩:=hj0 he hd;rfl
       ·obtain⟨rfl,b,hb,rfl⟩:=hj0 he hd
        have hlt:i<str.data.size:=(Array.getElem?_eq_some_iff.1 hb).1
        have hh:(w.drew.alloc (.cells (bytesRow str (grownCap w str.size 0 te)) te ((bytesRow str (grownCap w str.size 0 te)).size,(bytesRow str (grownCap w str.size 0 te)).size+1))).heap[w.heap.size]? = some (.cells (bytesRow str (grownCap w str.size 0 te)) te ((bytesRow str (grownCap w str.size 0 te)).size,(bytesRow str (grownCap w str.size 0 te)).size+1)):=heap_alloc_new w.drew _
        rw[gD hh,Nat.zero_add,Nat.mul_one,Nat.add_zero,bytesRow_at str _ i hlt,hb]
        rw[Array.getElem?_eq_getElem hlt] at hb
        rw[←Option.some.inj hb]
        rfl
       ·obtain⟨rfl,b,hb,rfl⟩:=hj0 he hd
        rw[hb]
        exact .v rfl
     ·cases cV
    ·cases cV
   ·cases hl
  ·cases hl
 ·rename_i c ho
  obtain⟨callee,args,ts⟩:=c
  split at hl
  ·rename_i x ku hargs
   obtain⟨x',hx,rfl⟩:=Option.map_eq_some_iff.1 hl
   simp only at ku hargs
   subst ku
   have e1:args=#[x]:=by rw[←Array.toArray_toList (xs:=args),hargs]
   subst e1
   obtain⟨dx,pY,mT⟩:=SV.ck hx (hv x)
   obtain⟨d,he,cW⟩:=hb
   simp only[E.eval,pY,Option.bind_some,D.m4] at he
   have hex:∀u,(Builtin.unsafeSliceData_ ts o.type #[a.eval x]).run P w=.ok u w→(execOp a.eval o).run P w=.ok (.value u) w:=by
    intro u hu
    unfold execOp
    simp only[ho,resolve,invoke,builtin,Sem.run_bind,Sem.run_pure,Result.andThen_ok,List.map_toArray,List.map_cons,List.map_nil,hu]
   unfold D.usd at he
   split at he
   ·cases he
    have uT:a.eval x=.slice none 0 0:=by
     generalize a.eval x=v at mT
     cases mT
     rfl
    exact⟨rfl,bS h hd (hex (.pointer none) (by rw[uT];rfl)) (.e (by simp only[E.eval];exact cW) (.v rfl) fun _=>rfl)⟩
   ·split at he
    ·rename_i i off n hn
     cases he
     obtain⟨c,uT,hi,hc⟩:∃c,a.eval x=.slice (some ⟨ρ.S.loc i,off,none⟩) n c∧i<ρ.S.n∧n≤c:=by
      generalize a.eval x=v at mT
      cases mT
      exact⟨_,rfl,by assumption,by assumption⟩
     exact⟨rfl,bS h hd (hex (.pointer (some ⟨ρ.S.loc i,off,none⟩)) (by rw[uT];exact Lib.run_unsafeSliceData_row w _ _ _ _ _ (by omega))) (.e (by simp only[E.eval];exact cW) (.loc hi) fun _=>rfl)⟩
    ·cases he
   ·cases he
  ·rename_i f x ku hargs
   simp only at ku hargs
   subst ku
   have e1:args=#[x]:=by rw[←Array.toArray_toList (xs:=args),hargs]
   subst e1
   split at hl
   ·rename_i g hg
    split at hl
    ·rename_i hx
     cases hl
     refine⟨rfl,bS h hd (amF ho (ame hv hg) ?_) (hv x)⟩
     rw[Qkv hx (by decide) Qrq]
     simp[Lib.run_noEscape]
    ·cases hl
   ·cases hl
  ·rename_i f x y ku hargs
   simp only at ku hargs
   subst ku
   have e1:args=#[x,y]:=by rw[←Array.toArray_toList (xs:=args),hargs]
   subst e1
   split at hl
   ·rename_i g hg
    split at hl
    ·rename_i hx
     split at hl
     ·rename_i x' y' hx' hy'
      cases hl
      obtain⟨dx,pY,mT⟩:=SV.ck hx' (hv x)
      obtain⟨dy,S4,hry⟩:=SV.ck hy' (hv y)
      obtain⟨d,he,cW⟩:=hb
      simp only[E.eval,pY,S4,Option.bind_some,D.m4] at he
      unfold D.sib at he
      split at he
      ·rename_i s c
       cases he
       refine⟨rfl,bS h hd (amF (u:=.int .i64 (firstIdx s c.toNat.toUInt8)) ho (ame hv hg) ?_) (.e (by simp only[E.eval];exact cW) (.v rfl) fun _=>rfl)⟩
       rw[Qkv hx (by decide) Th]
       have:=run_indexByte_string (P:=P) s c w
       simp only[List.map_toArray,List.map_cons,List.map_nil,mT.v_eq,hry.v_eq,this,Result.andThen_ok]
      ·cases he
     ·cases hl
    ·cases hl
   ·cases hl
  ·cases hl
 ·rename_i x xt t ho
  split at hl
  ·rename_i k e x' hu hx'
   cases hl
   obtain⟨dx,pY,mT⟩:=SV.ck hx' (hv x)
   obtain⟨d,he,cW⟩:=hb
   simp only[E.eval,pY,Option.bind_some,D.m4] at he
   obtain⟨y,hy,he⟩:=Option.bind_eq_some_iff.1 he
   unfold D.bt at he
   split at he
   ·rename_i hone
    cases he
    unfold D.m0 at hy
    split at hy
    ·rename_i t' y'
     split at hy
     ·rename_i WY
      cases hy
      subst WY
      generalize xX:a.eval x=v at mT
      cases mT with
      | oO hrd=>
       refine⟨rfl,bS h hd ?_ (.e (by simp only[E.eval];exact cW) hrd fun _=>hone)⟩
       unfold execOp
       simp only[ho,xX,Sem.run_bind,M7 _ _ _ _ _ _ hu,Result.andThen_ok,Sem.run_pure]
     ·cases hy
    ·cases hy
   ·cases he
  ·cases hl
 ·cases hl


end

/-! ## operations aiY look at Qiw store -/

def atc (cf:cz)(o:Oper):Bool:=
 match o.dst with
 | some d=>cf.Ca.contains d
 | none=>false

def w7 (P:Program)(e:TypeId):Bool:=decide (0<P.depth)&&decide (0<P.cellsOf e)&&decide (e≠SM)&&(match P.info? e with | some i=>decide (i.size≠0) | none=>false)

def Qox (P:Program)(cf:cz)(h:E)(s:Operand)(ct:Operand→SV)(x:SV)(t t':TypeId)(ix:Nat):Option eV:=
 if cf.ro=true then none else match Ro s (ct s),x.jx,P.underlying t,P.underlying t' with
 | .e s' _,some x',some (.slice e),some .string=>(match P.info? e with
  | some i=>(match i.zero with
   | some (.int .u8 0)=>if i.size=1∧i.bytes=1∧e≠SM then some { val:=.e (.apps h s' (.m4 .Qhj x' .nil .nil .nil)) true,eM:=some (bN,.store cf (.sym ix)),bind:=some (.ev (.fU e 1 1 h s' (.m4 .Qhj x' .nil .nil .nil))) } else none
   | _=>none)
  | none=>none)
 | _,_,_,_=>none

def Qkw (P:Program)(o:Oper)(ct:Operand→SV)(hO:Option bl)(ix:Nat):Option eV:=
 match hO with
 | some (.store cf h)=>(match o.op with
  | .convert s t x=>if atc cf o=true then(match P.underlying s,P.underlying t,(ct x).jx with
   | some (.slice e),some .string,some x'=>if apI P e=true then some { val:=.e (.sym ix) true,bind:=some (.ev (.m4 .oY h x' .nil .nil)) } else none
   | some (.pointer e),some .unsafePointer,some x'=>if w7 P e=true then some { val:=.e (.sym ix) true,bind:=some (.ev (.m4 (.tw e (P.cellsOf e)) h x' .nil .nil)) } else none
   | some .unsafePointer,some (.pointer e),some x'=>if w7 P e=true then some { val:=.e (.sym ix) true,bind:=some (.ev (.m4 (.tw e (P.cellsOf e)) h x' .nil .nil)) } else none
   | _,_,_=>none) else none
  | .indexAddr t (.global g) i=>(match P.underlying t,(ct i).jx with
   | some (.array n e),some i'=>(w9 P e).map fun sz=>{ val:=.e (.sym ix) true,bind:=some (.ev (.m4 (.gix g n sz) h i' .nil .nil)) }
   | _,_=>none)
  | .call c=>(match c.callee,c.args.toList,c.argTypes.toList with
   | .builtin .unsafeString,[p,n],[pt,_]=>if cf.ro=true then none else(match P.underlying pt,(ct p).jx,(ct n).jx with
    | some (.pointer e),some p',some n'=>if P.cellsOf e=1∧e≠SM then some { val:=.e (.m4 (.aiq e) h p' n' .nil) true,eM:=some (bN,.store cf (.sym ix)),bind:=some (.ev (.m4 (.aaO e) h p' n' .nil)) } else none
    | _,_,_=>none)
   | .builtin .append,[s,x],[t,t']=>Qox P cf h s ct (ct x) t t' ix
   | _,_,_=>none)
  | _=>none)
 | _=>none

section
variable {P:Program} {w w0:World} {X:kG} {a:Act} {σ:af} {env:List D} {ρ:dJ}

theorem dF.lose {w w':World}{S:Sets}{aJ:Nat→Prop}{bs:List D}{i:Nat}{z:D}(h:dF w S aJ bs)(hz:bs[i]? = some z)(hl:z.live=true)(hK:bW S w w')(hb:∀b,aJ b→b≠S.loc i→w'.heap[b]? = w.heap[b]?):dF w' S (fun b=>aJ b∧b≠S.loc i) (bs.set i (.bh [])):=by
 have hc:∀{j:Nat} {x:D},(bs.set i (.bh []))[j]? = some x→x.live=true→bs[j]? = some x∧S.loc j≠S.loc i:=by
  intro j x hj hx
  rw[List.getElem?_set] at hj
  split at hj
  ·split at hj
   ·cases hj;cases hx
   ·cases hj
  ·rename_i hij
   exact⟨hj,fun e=>hij (h.inj j i _ _ hj hz hx hl e).symm⟩
 have hle:S≤S:=Sets.le_refl _
 refine⟨by rw[h.n];simp,fun j e sz cs hj=>?_,fun b off hf=>h.Cw b off hf.1,fun j dL hj=>?_,fun j k x y hj hk hx hy e=>h.inj j k x y (hc hj hx).1 (hc hk hy).1 hx hy e,fun j x hj hx=>?_⟩
 ·obtain⟨g,hne⟩:=hc hj rfl
  obtain⟨g1,vs,g2,g3,g4,g5,g6,g7⟩:=h.cells j e sz cs g
  exact⟨⟨g1,hne⟩,vs,g2.to (hb _ g1 hne),g3,g4,g5,fun k v d hv hd=>(g6 k v d hv hd).keep hK hle,g7⟩
 ·obtain⟨g,hne⟩:=hc hj rfl
  obtain⟨g1,es,clock,g2,g3,g4,g5⟩:=h.maps j dL g
  refine⟨⟨g1,hne⟩,es,clock,by rw[hb _ g1 hne];exact g2,g3,g4,fun k e kv he hkv=>?_⟩
  obtain⟨dk,dv,k1,k2,k3⟩:=g5 k e kv he hkv
  exact⟨dk,dv,k1,k2.keep hK hle,k3.keep hK hle⟩
 ·obtain⟨g,hne⟩:=hc hj (D.jQ hx)
  obtain⟨g1,g2,g3⟩:=h.FJ j x g hx
  exact⟨⟨g1,hne⟩,by rw[hb _ g1 hne];exact g2,g3⟩

theorem Qqq {w:World}{S:Sets}{aJ:Nat→Prop}{bs:List D}{i:Nat}{b:TypeId×Nat×List D}(hst:dF w S aJ bs)(hb:D.gF (.st bs) i=some b):∃(vs:Array Value) (e':TypeId),w.heap[S.loc i]? = some (.cells vs e' (0,0))∧(b.1≠SM→e'=b.1)∧b.2.2.length≤vs.size∧aJ (S.loc i) ∧
  ∀(j:Nat) (d:D),b.2.2[j]? = some d→d.one=true∧∃v,vs[j]? = some v∧bU w S v d:=by
 obtain⟨hf,vs,⟨e',hh,he⟩,_,hle,hone,hr,_⟩:=hst.cells i _ _ _ (oW hb)
 refine⟨vs,e',hh,fun hne=>he.resolve_left hne,hle,hf,fun j d hj=>⟨hone j d hj,?_⟩⟩
 have hlt:j<vs.size:=Nat.lt_of_lt_of_le (List.getElem?_eq_some_iff.1 hj).1 hle
 exact⟨vs[j],Array.getElem?_eq_getElem hlt,hr j _ d (Array.getElem?_eq_getElem hlt) hj⟩

theorem Qow {w:World}{S:Sets}{aJ:Nat→Prop}{bs:List D}{i off n:Nat}{b:TypeId×Nat×List D}{ns:List Int}(hst:dF w S aJ bs)(hb:D.gF (.st bs) i=some b)(hn:off+n≤b.2.2.length)(oa:bytesOf ((b.2.2.drop off).take n)=some ns) :
  ns.length=n∧∀j,j<n→w.cell? ⟨S.loc i,off+j,none⟩=some (.int .u8 (ns.getD j 0)):=by
 obtain⟨h1,h2⟩:=oX oa
 have hl:ns.length=n:=by
  rw[←h1]
  simp
  omega
 refine⟨hl,fun j hj=>?_⟩
 obtain⟨vs,e',hh,_,hle,_,hc⟩:=Qqq hst hb
 have hjl:off+j<b.2.2.length:=by omega
 obtain⟨g1,v,g2,g3⟩:=hc (off+j) _ (List.getElem?_eq_getElem hjl)
 have hx:=h2 j (b.2.2[off+j]) (by
  rw[List.getElem?_take,if_pos hj,List.getElem?_drop]
  exact List.getElem?_eq_getElem hjl)
 rw[D.Qhz g1] at hx
 simp only[List.cons.injEq,and_true] at hx
 rw[hx] at g3
 rw[gD hh,g2,g3.v_eq]

theorem Qmy {g:Nat}:∀{bs:List D} {k j:Nat},lO g bs k=some j→k≤j∧∃t vs,bs[j-k]? = some (.ju g t vs)
 | [],k,j,h=>by simp[lO] at h
 | x :: r,k,j,h=>by
  have next:lO g r (k+1)=some j→k≤j∧∃t vs,(x :: r)[j-k]? = some (.ju g t vs):=fun h=>by
   obtain⟨h1,t,vs,h2⟩:=Qmy h
   refine⟨by omega,t,vs,?_⟩
   rw[show j-k=(j-(k+1))+1 from by omega]
   simpa using h2
  cases x with
  | ju g' t vs=>
   simp only[lO] at h
   split at h
   ·rename_i hg
    cases h
    subst hg
    exact⟨Nat.le_refl _,t,vs,by simp⟩
   ·exact next h
  | _=>exact next h

theorem atE {w:World}{S:Sets}{aJ:Nat→Prop}{bs:List D}{g len sz:Nat}{i d:D}(hst:dF w S aJ bs)(h:D.gix g len sz (.st bs) i=some d):∃(k:IntKind) (n:Int),i=.v (.int k n)∧0≤n∧n<len∧bU w S (.pointer (some ⟨g,n.toNat*sz,none⟩)) d∧d.one=true:=by
 unfold D.gix at h
 split at h
 ·rename_i e1
  cases e1
  split at h
  ·rename_i hc
   obtain⟨j,hj,rfl⟩:=Option.map_eq_some_iff.1 h
   obtain⟨_,_,vs,hz⟩:=Qmy hj
   obtain⟨_,⟨wo,_⟩,_⟩:=hst.FJ _ _ hz rfl
   refine⟨_,_,rfl,hc.1,hc.2,?_,rfl⟩
   rw[Nat.sub_zero] at hz wo
   rw[←wo]
   exact .loc (by rw[hst.n];exact(List.getElem?_eq_some_iff.1 hz).1)
  ·cases h
 ·cases h

theorem aqU {e:TypeId}(h:w7 P e=true):0<P.depth∧0<P.cellsOf e∧e≠SM∧∃i,P.info? e=some i∧i.size≠0:=by
 unfold w7 at h
 simp only[Bool.and_eq_true,decide_eq_true_eq] at h
 obtain⟨⟨⟨h1,h2⟩,h3⟩,h4⟩:=h
 refine⟨h1,h2,h3,?_⟩
 split at h4
 ·exact⟨_,by assumption,by simpa using h4⟩
 ·cases h4

theorem ao5 {e:TypeId}{c:Nat}(hd:0<P.depth)(hc:0<P.cellsOf e)(h:0<c):liesAt P P.depth e c 0 e 1=true:=by
 obtain⟨n,hn⟩:∃n,P.depth=n+1:=⟨P.depth-1,by omega⟩
 have hs:∀m,sameLayout P (m+1) e e=true:=fun m=>by simp[sameLayout]
 rw[hn]
 simp only[liesAt,rowAt,hn,hs]
 simp[show P.cellsOf e≠0 by omega,show 1≤c by omega]

theorem apn {S:Sets}{aJ:Nat→Prop}{bs:List D}{e:TypeId}{v:Value}{p d:D}{s t:TypeId}(hst:dF w S aJ bs)(hk:w7 P e=true)(hu:(P.underlying s=some (.pointer e)∧P.underlying t=some .unsafePointer)∨(P.underlying s=some .unsafePointer∧P.underlying t=some (.pointer e)))(hp:bU w S v p)(h:D.tw e (P.cellsOf e) (.st bs) p=some d) :
  (convert s t v).run P w=.ok v w∧d=p∧d.one=true:=by
 obtain⟨h1,h2,h3,j,h4,h5⟩:=aqU hk
 unfold D.tw at h
 split at h
 ·cases h
  obtain rfl:=hp.v_eq
  refine⟨?_,rfl,rfl⟩
  rcases hu with⟨a1,a2⟩ | ⟨a1,a2⟩ <;> simp[convert,run_underlying a1,run_underlying a2,Conv.unsafePointer]
 ·obtain⟨b,hb,h⟩:=Option.bind_eq_some_iff.1 h
  split at h
  ·rename_i hc
   cases h
   cases hp
   obtain⟨vs,e',hh,hee,hle,_,_⟩:=Qqq hst hb
   have he':e'=e:=by rw[hee (by rw[hc.1];exact h3),hc.1]
   subst he'
   refine⟨?_,rfl,rfl⟩
   have hsz:P.cellsOf e'≤vs.size:=Nat.le_trans hc.2 hle
   rcases hu with⟨a1,a2⟩ | ⟨a1,a2⟩
   ·exact Lib.run_to_unsafe (e:=e') (cells:=vs.size) w _ a1 a2 h4 h5 (by simp[World.shape?,hh]) (Nat.lt_of_lt_of_le h2 hsz)
   ·exact Lib.run_from_unsafe (e:=e') (cells:=vs.size) w _ a1 a2 h4 (by simp[World.shape?,hh]) (ao5 h1 h2 (Nat.div_pos hsz h2))
  ·cases h
 ·cases h

theorem api {S:Sets}{aJ:Nat→Prop}{bs:List D}{v:Value}{x d:D}{s t e:TypeId}(hst:dF w S aJ bs)(hs:P.underlying s=some (.slice e))(he:P.underlying e=some (.int .u8))(ht:P.underlying t=some .string)(hx:bU w S v x)(h:D.oY (.st bs) x=some d) :
  ∃u:ByteArray,(convert s t v).run P w=.ok (.string u) w∧d=.v (.string u):=by
 unfold D.oY at h
 split at h
 ·cases h
  cases hx
  exact⟨_,run_convert_bytes_nil w s e hs he _ _ t ht,rfl⟩
 ·obtain⟨b,hb,h⟩:=Option.bind_eq_some_iff.1 h
  split at h
  ·rename_i hc
   obtain⟨ns,oa,rfl⟩:=Option.map_eq_some_iff.1 h
   obtain⟨g1,g2⟩:=Qow hst hb hc.1 oa
   cases hx
   exact⟨_,run_convert_bytes_arg w s e hs he _ _ _ _ ns g1 g2 t ht,rfl⟩
  ·cases h
 ·unfold D.anq at h
  split at h
  ·obtain⟨ns,oa,rfl⟩:=Option.map_eq_some_iff.1 h
   exact⟨_,anp hx oa hs he ht,rfl⟩
  ·cases h

theorem ala {ns:List Int}(h:ns.all (fun x=>decide (0≤x)&&decide (x<256))=true):∃l:List UInt8,l.length=ns.length∧strOfNums ns=⟨l.toArray⟩∧∀(j:Nat) (x:UInt8),l[j]? = some x→ns.getD j 0=x.toNat:=by
 refine⟨ns.map fun n=>UInt8.ofNat n.toNat,by simp,by simp[strOfNums],fun j x hx=>?_⟩
 rw[List.getElem?_map] at hx
 obtain⟨n,hn,rfl⟩:=Option.map_eq_some_iff.1 hx
 have:=List.all_eq_true.1 h n (List.mem_of_getElem? hn)
 simp only[Bool.and_eq_true,decide_eq_true_eq] at this
 rw[List.getD_eq_getElem?_getD,hn]
 simp
 omega

theorem Qmq (w:World) (t u ty e:TypeId) (i:TypeInfo) (ht:P.underlying t=some (.slice e)) (hu:P.underlying u=some .string) (hi:P.info? e=some i) (hz:i.zero=some (.int .u8 0)) (hsize:i.size=1) (hby:i.bytes=1)
  (v:Value) (n:Nat) (xs:List Value) (hown:w.ownsRow 0 e 1 v n xs) (s:ByteArray) (hs:0<s.size) (h63:n+s.size≤maxLen) (hbytes:n+s.size≤140737488355328) :
  ∃v' w',(Builtin.append_ #[t,u] ty #[v,.string s]).run P w=.ok v' w'∧w'.ownsRow 0 e 1 v' (n+s.size) (xs++Lib.strCells s) ∧
   ((v'.ownBlock=v.ownBlock∧QH w w' v.ownBlock)∨(v'.ownBlock=some w.heap.size∧QH w w' none)):=by
 have hsmall:n+s.size≤9223372036854775807:=by simp only[maxLen] at h63;omega
 have hxl:xs.length=n:=by simpa using hown.1
 have hlen:(xs++Lib.strCells s).length=(n+s.size)*1:=by rw[List.length_append,hxl,Lib.strCells_length,Nat.mul_one]
 have grown:∀(old:Nat),old<n+s.size →
   (w.drew.alloc (.cells (xs.toArray++(Lib.strCells s).toArray++Builtin.zeroCells (Value.int .u8 0).cells (grownCap w (n+s.size) old e-(n+s.size))) e)).ownsRow 0 e 1
    (.slice (some ⟨w.heap.size,0,none⟩) (n+s.size) (grownCap w (n+s.size) old e)) (n+s.size) (xs++Lib.strCells s) ∧
   QH w (w.drew.alloc (.cells (xs.toArray++(Lib.strCells s).toArray++Builtin.zeroCells (Value.int .u8 0).cells (grownCap w (n+s.size) old e-(n+s.size))) e)) none:=by
  intro old ho
  have hge:=grownCap_ge w (n+s.size) old e
  have GR:grownCap w (n+s.size) old e≤maxLen:=grownCap_le_maxLen w (n+s.size) old e h63
  refine⟨⟨hlen,.inr ⟨w.heap.size,_,_,rfl,Nat.zero_le _,heap_alloc_new w.drew _,hge,GR,?_,?_⟩⟩,⟨rfl,⟨rfl,by simp⟩,rfl,by simp,fun k hk _=>Qcx w.drew _ k hk⟩⟩
  ·simp only[Array.size_append,List.size_toArray,size_zeroCells,hxl,Lib.strCells_length,Value.cells]
   simp
   omega
  ·simp only[Array.toList_append,List.append_assoc]
   rw[←List.append_assoc,←hlen]
   exact List.take_left
 rcases hown.2 with⟨rfl,rfl⟩ | ⟨g,cap,cur,rfl,hbg,hg,hnc,GR,hcs,Ek⟩
 ·have hx:xs=[]:=List.eq_nil_of_length_eq_zero hxl
  subst hx
  have hr:=run_append_nil_string (P:=P) w t u ty e i _ ht hu hi hz s hs (by omega) (by rw[hby];omega)
  have s8:=grown 0 (by omega)
  simp only[Nat.zero_add,List.nil_append,Array.empty_append] at s8 ⊢
  have hce:(s.data.map fun b=>Value.int .u8 b.toNat)=(Lib.strCells s).toArray:=by
   apply Array.ext'
   simp[Lib.strCells]
  rw[hce] at hr
  exact⟨_,_,hr,s8.1,.inr ⟨rfl,s8.2⟩⟩
 ·by_cases hroom:n+s.size≤cap
  ·have hfit:n+s.size≤cur.size:=by omega
   have hr:=Lib.run_append_room_string (P:=P) w t u ty e i ht hu hi hsize g n cap cur hg s hroom hfit
   refine⟨_,_,hr,⟨hlen,.inr ⟨g,cap,_,rfl,hbg,setRow_heap w g cur _ e _ hg,hroom,GR,?_,?_⟩⟩,.inl ⟨rfl,⟨rfl,⟨rfl,Nat.le_refl _⟩,rfl,by simp,fun k _ hk=>setRow_other w g k _ (fun e=>hk (by simp[Value.ownBlock,e]))⟩⟩⟩
   ·simp only[List.size_toArray,List.length_append,List.length_take,List.length_drop,Array.length_toList,Lib.strCells_length]
    omega
   ·rw[show cur.toList.take n=xs from by rw[←Ek,Nat.mul_one],←hlen]
    exact List.take_left
  ·have holds:∀j u,xs[j]? = some u→w.cell? ((⟨g,0,none⟩:Addr).add j)=some u:=hown.cells (g:=g) rfl
   have hr:=Lib.run_append_grow_string (P:=P) w t u ty e i _ ht hu hi hz ⟨g,0,none⟩ n cap xs (by rw[hsize,hxl,Nat.mul_one]) holds s (by omega) (by omega) (growslice_fits (by omega) (by rw[hby];omega))
   have s8:=grown cap (by omega)
   exact⟨_,_,hr,s8.1,.inr ⟨rfl,s8.2⟩⟩

theorem ano (s:ByteArray):Qrj (cX s)=cX s∧(cX s).length=s.size∧bK 1 (cX s)=true∧∀{w:World} {S:Sets} (j:Nat) (v:Value) (d:D),(Lib.strCells s)[j]? = some v→(cX s)[j]? = some d→bU w S v d∧d.one=true:=by
 have hc:∀l:List UInt8,Qrj (l.map fun b:UInt8=>D.v (.int .u8 b.toNat))=l.map fun b:UInt8=>D.v (.int .u8 b.toNat):=by
  intro l
  induction l with
  | nil=>rfl
  | cons x r ih=>simp only[List.map_cons,Qrj,List.flatMap_cons,D.cells] at ih ⊢;rw[ih];rfl
 refine⟨hc _,by unfold cX;rw[List.length_map,Array.length_toList];rfl,by unfold bK cX;rw[List.all_eq_true];intro e he;obtain⟨b,_,rfl⟩:=List.mem_map.1 he;rfl,fun j v d hv hd=>?_⟩
 simp only[Lib.strCells,cX,List.getElem?_map,Option.map_eq_some_iff] at hv hd
 obtain⟨b,hb,rfl⟩:=hv
 obtain⟨b',hb',rfl⟩:=hd
 rw[hb] at hb'
 cases hb'
 exact⟨.v rfl,rfl⟩

theorem Qnq (w:World)(t u ty e:TypeId)(i:TypeInfo)(ht:P.underlying t=some (.slice e))(hu:P.underlying u=some .string)(hi:P.info? e=some i)(ad:Option Addr)(n cap:Nat)(hn:n≤cap)(s:ByteArray)(hs:s.size=0) :
  (Builtin.append_ #[t,u] ty #[.slice ad n cap,.string s]).run P w=.ok (.slice ad n cap) w:=by
 have hf:(Builtin.firstCells i.size 0 (.string s)).run P w=.ok #[] w:=by simp[Builtin.firstCells]
 cases ad <;> simp[Builtin.append_,run_underlying ht,run_underlying hu,sizeOf,typeInfo,hi,Builtin.lenOf,hs,hn,hf,storeCells]

theorem al7 {o:Oper} {s x:Operand} {t t':TypeId} {cf:cz} {hx:E} {ct:Operand→SV} {ix:Nat} {r:eV} (ho:o.op=.call { callee:=.builtin .append,args:=#[s,x],argTypes:=#[t,t'] }) (hv:∀x,ef w ρ env (a.eval x) (ct x)) (dN:σ.obj bN=some (.store cf hx)) (hl:Qox P cf hx s ct (ct x) t t' ix=some r)
  (h:cu w0 X w a σ env ρ) (hd:∀d,o.dst=some d→d<σ.tmps.length) (hb:cn P env ix r.bind):∃z,r.eM=some (bN,z)∧gq P o a w w0 X ((σ.setObj bN (some z)).put o.dst r.val) env:=by
 obtain⟨bs,jC,hst,_⟩:=h.dO _ _ dN
 unfold Qox at hl
 split at hl
 ·cases hl
 rename_i hro
 replace hro:cf.ro=false:=by simpa using hro
 split at hl
 ·rename_i s' sb x' e hs' hx' hu qc
  split at hl
  ·rename_i i hi
   split at hl
   ·rename_i hz
    split at hl
    ·rename_i hc
     obtain⟨hi1,hi2,hne⟩:=hc
     cases hl
     have hvs:=XT (hv s)
     rw[hs'] at hvs
     obtain⟨ds,hds,tI,_⟩:=hvs.kC
     obtain⟨dx,pY,mT⟩:=SV.ck hx' (hv x)
     obtain⟨d,he,cW⟩:=hb
     simp only[E.eval,jC,hds,pY,Option.bind_some,D.m4] at he
     refine⟨_,rfl,?_⟩
     obtain⟨dy,S4,he⟩:=Option.bind_eq_some_iff.1 he
     obtain⟨str,rfl,MB,rfl⟩:∃str:ByteArray,dx=.v (.string str)∧str.size≤maxLen∧dy=.bq (cX str):=by
      unfold D.Qhj at S4
      split at S4
      ·split at S4
       ·cases S4;exact⟨_,rfl,by assumption,rfl⟩
       ·cases S4
      ·cases S4
     obtain⟨zb,hlen,hall,hrd⟩:=ano str
     have xX:a.eval x=.string str:=mT.v_eq
     have hyE:(E.m4 .Qhj x' .nil .nil .nil).eval env=some (.bq (cX str)):=by simp only[E.eval,pY,Option.bind_some,D.m4,S4]
     have fH:∀{v':Value} {w':World},(Builtin.append_ #[t,t'] o.type #[a.eval s,.string str]).run P w=.ok v' w'→(execOp a.eval o).run P w=.ok (.value v') w':=by
      intro v' w' hr
      rw[←xX] at hr
      unfold execOp
      simp only[ho,resolve,invoke,builtin,Sem.run_bind,Sem.run_pure,Result.andThen_ok,List.map_toArray,List.map_cons,List.map_nil,hr]
     have ar6:∀{ad:Option Addr} {n cap:Nat} {ds':D},cX str=[]→a.eval s=.slice ad n cap→n≤cap→bU w ρ.S (a.eval s) ds'→ds'.one=true→env[ix]? = some (.st bs)→(E.apps hx s' (.m4 .Qhj x' .nil .nil .nil)).eval env=some ds'→gq P o a w w0 X ((σ.setObj bN (some (.store cf (.sym ix)))).put o.dst (.e (.apps hx s' (.m4 .Qhj x' .nil .nil .nil)) true)) env:=by
      intro ad n cap ds' wm Qh hcap ay_ hone cW hval
      have hs0:str.size=0:=by rw[←hlen,wm];rfl
      have bn:=h.Qew (x':=.sym ix) dN hro (by simpa[E.eval] using cW) hst (bW.refl _ _) (Sets.le_refl _) rfl ⟨rfl,Nat.le_refl _⟩ rfl (Nat.le_refl _) (fun _ _ _=>rfl) (fun b hb=>⟨.inl hb,gZ h dN b hb⟩) (fun b o hs=>.inl hs) h.cells
      refine c_ (v:=a.eval s) (fH ?_) (bn.put (by intro d e;rw[af.aZ];exact hd d e) (.e hval ay_ fun _=>hone))
      rw[Qh]
      exact Qnq w t t' o.type e i hu qc hi ad n cap hcap str hs0
     have arL:∀{n:Nat} {cs xs:List Value} {fk lg:List D},cX str≠[]→n+(cX str).length≤maxLen→(n+(cX str).length)*1≤140737488355328→(∀(j:Nat) (d:D),fk[j]? = some d→d.one=true)→w.ownsRow 0 e 1 (a.eval s) n xs→fk.length=n*1→(∀(j:Nat) (v:Value) (d:D),xs[j]? = some v→fk[j]? = some d→bU w ρ.S v d) →
       lg.length=bs.length→(∀b,(a.eval s).ownBlock=some b→ρ.aJ b∧(∀off,¬ρ.S b off)∧∀(j:Nat) (x:D),lg[j]? = some x→x.live=true→ρ.S.loc j≠b)→(∀(j:Nat) (x:D),lg[j]? = some x→x.live=true→bs[j]? = some x)→env[ix]? = some (.st (lg++[.aE e 1 (fk++Qrj (cX str))])) →
       (E.apps hx s' (.m4 .Qhj x' .nil .nil .nil)).eval env=some (.sl bs.length 0 (n+(cX str).length))→gq P o a w w0 X ((σ.setObj bN (some (.store cf (.sym ix)))).put o.dst (.e (.apps hx s' (.m4 .Qhj x' .nil .nil .nil)) true)) env:=by
      intro n cs xs fk lg hnn hml hby afE hown dG Qg uY Zr hold cW hval
      have hs0:0<str.size:=by rw[←hlen];exact List.length_pos_iff.2 hnn
      obtain⟨v',w',hrun,hown',gT⟩:=Qmq w t t' o.type e i hu qc hi hz hi1 hi2 (a.eval s) n xs hown str hs0 (by rw[hlen] at hml;exact hml) (by rw[hlen] at hby;omega)
      refine Wc (i:=i) (n:=n) (m':=(cX str).length) (cs:=fk) (news:=Lib.strCells str) (by omega) dN hro jC hnn rfl (by rw[zb,List.all_eq_true];intro d hd;obtain⟨b,_,rfl⟩:=List.mem_map.1 hd;rfl) afE (by rw[hi1];exact hown) (by rw[hi1];exact dG) Qg uY Zr hold (by rw[hi1];exact cW) hval h hd (fH hrun) (by rw[hi1,hlen];exact hown') gT (by rw[Lib.strCells_length,hlen,hi1,Nat.mul_one]) (by rw[zb,hlen,Lib.strCells_length]) (fun j v d hv hd=>?_)
      rw[zb] at hd
      exact hrd j v d hv hd
     unfold D.fU at he
     split at he
     ·rename_i ia ys e3 IV _ _
      cases e3
      have IV:cX str=ys:=by simpa[D.JN] using IV
      subst IV
      have Qh:a.eval s=.slice none 0 0:=by
       generalize a.eval s=v at tI
       cases tI
       rfl
      split at he
      ·rename_i wm
       cases he
       exact ar6 wm Qh (Nat.le_refl _) tI rfl cW (by simp only[E.eval,jC,hds,pY,Option.bind_some,D.m4,S4,D.apps,D.cnt,wm,List.length_nil,if_true])
      ·rename_i hnn
       split at he
       ·rename_i rT
        cases he
        exact arL (n:=0) (cs:=[]) (xs:=[]) (fk:=[]) (lg:=bs) hnn (by simpa using rT.2.1) (by simpa using rT.1) (by simp) (by rw[Qh];exact World.ownsRow_nil w 0 e 1) (by simp) (by simp) rfl (fun b hb=>by rw[Qh] at hb;cases hb) (fun j _ hj _=>hj) (by simpa using cW) (by simp only[E.eval,jC,hds,pY,Option.bind_some,D.m4,S4,D.apps,D.cnt,if_neg (fun e=>hnn (List.eq_nil_of_length_eq_zero e)),Nat.zero_add])
       ·cases he
     ·rename_i ia k off n ys e3 IV _ _
      cases e3
      have IV:cX str=ys:=by simpa[D.JN] using IV
      subst IV
      split at he
      ·rename_i wm
       cases he
       have alh:=tI
       generalize Qh:a.eval s=v at tI
       cases tI with
       | @sl _ _ _ cc hk hle GR h0=>
        exact ar6 wm Qh hle alh rfl cW (by simp only[E.eval,jC,hds,pY,Option.bind_some,D.m4,S4,D.apps,D.cnt,wm,List.length_nil,if_true])
      ·rename_i hnn
       obtain⟨aE,Qhv,he⟩:=Option.bind_eq_some_iff.1 he
       split at he
       ·rename_i rT
        cases he
        obtain⟨c0,c1,c2,c3,c4,c5,c6,c7⟩:=rT
        subst c0
        have oh:=oW Qhv
        rw[c1,c2] at oh
        obtain⟨hf,vs,⟨e',hh,hty⟩,hsz,hlen',hone,hr,oa⟩:=hst.cells k _ _ _ oh
        obtain rfl:e=e':=(hty.resolve_left hne).symm
        generalize Qh:a.eval s=v at tI
        cases tI with
        | @sl _ _ _ cc hk hle GR h0=>
        have hcap:=h0 rfl
        have hown:w.ownsRow 0 e 1 (a.eval s) n (vs.toList.take (n*1)):=by
         refine⟨?_,.inr ⟨ρ.S.loc k,cc,vs,Qh,Nat.zero_le _,hh,hle,GR,by rw[hcap];exact hsz,rfl⟩⟩
         rw[List.length_take,Array.length_toList]
         omega
        refine arL (n:=n) (cs:=[]) (xs:=vs.toList.take (n*1)) (fk:=aE.2.2) (lg:=bs.set k (.bh [])) hnn c5 c4 hone hown c3 (fun j v d hj JJ=>?_) (by simp) (fun b hb=>?_) (fun j x hj hx=>?_) cW (by simp only[E.eval,jC,hds,pY,Option.bind_some,D.m4,S4,D.apps,D.cnt,if_neg (fun e=>hnn (List.eq_nil_of_length_eq_zero e))])
        ·rw[List.getElem?_take] at hj
         split at hj
         ·exact hr j v d (by simpa using hj) JJ
         ·cases hj
        ·rw[Qh] at hb
         have hb':ρ.S.loc k=b:=by simpa[Value.ownBlock] using hb
         subst hb'
         refine⟨hf,oa,fun j x hj hx hl=>?_⟩
         rw[List.getElem?_set] at hj
         split at hj
         ·split at hj <;> cases hj
          cases hx
         ·rename_i Va
          exact Va (hst.inj j k _ _ hj oh hx rfl hl).symm
        ·rw[List.getElem?_set] at hj
         split at hj
         ·split at hj <;> cases hj
          cases hx
         ·exact hj
       ·cases he
     ·cases he
    ·cases hl
   ·cases hl
  ·cases hl
 ·cases hl

theorem alR {o:Oper}{ct:Operand→SV}{ix:Nat}{r:eV}(hv:∀x,ef w ρ env (a.eval x) (ct x))(hl:Qkw P o ct (σ.obj bN) ix=some r)(h:cu w0 X w a σ env ρ)(hd:∀d,o.dst=some d→d<σ.tmps.length)(hb:cn P env ix r.bind) :
  (r.eM=none∧gq P o a w w0 X (σ.put o.dst r.val) env)∨∃z,r.eM=some (bN,z)∧gq P o a w w0 X ((σ.setObj bN (some z)).put o.dst r.val) env:=by
 unfold Qkw at hl
 split at hl
 case h_2=>cases hl
 rename_i cf hx dN
 obtain⟨bs,jC,hst,_⟩:=h.dO _ _ dN
 split at hl
 ·rename_i s t x ho
  split at hl
  case isFalse=>cases hl
  have conv:∀{v:Value},(convert s t (a.eval x)).run P w=.ok v w→(execOp a.eval o).run P w=.ok (.value v) w:=fun hr=>by
   unfold execOp
   simp only[ho,Sem.run_bind,hr,Result.andThen_ok,Sem.run_pure]
  have tw:∀{e:TypeId} {x':E},(ct x).jx=some x'→w7 P e=true→((P.underlying s=some (.pointer e)∧P.underlying t=some .unsafePointer)∨(P.underlying s=some .unsafePointer∧P.underlying t=some (.pointer e)))→cn P env ix (some (.ev (.m4 (.tw e (P.cellsOf e)) hx x' .nil .nil)))→gq P o a w w0 X (σ.put o.dst (.e (.sym ix) true)) env:=by
   intro e x' hx' hk hu hb
   obtain⟨dx,pY,mT⟩:=SV.ck hx' (hv x)
   obtain⟨d,he,cW⟩:=hb
   simp only[E.eval,jC,pY,Option.bind_some,D.m4] at he
   obtain⟨g1,rfl,g2⟩:=apn hst hk hu mT he
   exact bS h hd (conv g1) (.e (by simp only[E.eval];exact cW) mT fun _=>g2)
  split at hl
  ·rename_i e x' hs ht hx'
   split at hl
   ·rename_i he
    cases hl
    obtain⟨dx,pY,mT⟩:=SV.ck hx' (hv x)
    obtain⟨d,cV,cW⟩:=hb
    simp only[E.eval,jC,pY,Option.bind_some,D.m4] at cV
    obtain⟨u,g1,rfl⟩:=api hst hs (aiV he) ht mT cV
    exact .inl ⟨rfl,bS h hd (conv g1) (.e (by simp only[E.eval];exact cW) (.v rfl) fun _=>rfl)⟩
   ·cases hl
  ·rename_i e x' hs ht hx'
   split at hl
   ·rename_i hk
    cases hl
    exact .inl ⟨rfl,tw hx' hk (.inl ⟨hs,ht⟩) hb⟩
   ·cases hl
  ·rename_i e x' hs ht hx'
   split at hl
   ·rename_i hk
    cases hl
    exact .inl ⟨rfl,tw hx' hk (.inr ⟨hs,ht⟩) hb⟩
   ·cases hl
  ·cases hl
 ·rename_i t g i ho
  split at hl
  ·rename_i n e i' ht hi'
   obtain⟨sz,hsz,rfl⟩:=Option.map_eq_some_iff.1 hl
   obtain⟨di,hdi,hri⟩:=SV.ck hi' (hv i)
   obtain⟨d,cV,cW⟩:=hb
   simp only[E.eval,jC,hdi,Option.bind_some,D.m4] at cV
   obtain⟨k,m,rfl,h0,h1,hrd,h2⟩:=atE hst cV
   have he:P.elem t=e:=by simp[Program.elem,ht]
   have hlen:P.arrayLen t=n:=by simp[Program.arrayLen,ht]
   refine .inl ⟨rfl,bS h hd (v:=.pointer (some ⟨g,m.toNat*sz,none⟩)) ?_ (.e (by simp only[E.eval];exact cW) hrd fun _=>h2)⟩
   have hr:=run_indexAt_array (P:=P) w t ⟨g,0,none⟩ k m (by rw[he,hlen];exact ht)
   rw[hlen,if_pos ⟨h0,h1⟩,he,run_sizeOf hsz] at hr
   simp only[Result.andThen_ok,iR,Nat.zero_add] at hr
   have hg:a.eval (.global g)=.pointer (some ⟨g,0,none⟩):=rfl
   unfold execOp
   simp only[ho,hg,hri.v_eq,Sem.run_bind,hr,Result.andThen_ok,Sem.run_pure]
  ·cases hl
 ·rename_i c ho
  obtain⟨callee,args,ts⟩:=c
  split at hl
  ·rename_i p n pt nt ku hargs hts
   simp only at ku hargs hts
   subst ku
   have e1:args=#[p,n]:=by rw[←Array.toArray_toList (xs:=args),hargs]
   have e2:ts=#[pt,nt]:=by rw[←Array.toArray_toList (xs:=ts),hts]
   subst e1 e2
   split at hl
   ·cases hl
   rename_i hro
   replace hro:cf.ro=false:=by simpa using hro
   split at hl
   ·rename_i e p' n' hpt hp' hn'
    split at hl
    ·rename_i hce
     cases hl
     obtain⟨dp,hdp,Ye⟩:=SV.ck hp' (hv p)
     obtain⟨dn,hdn,hrn⟩:=SV.ck hn' (hv n)
     obtain⟨d,cV,cW⟩:=hb
     simp only[E.eval,jC,hdp,hdn,Option.bind_some,D.m4] at cV
     refine .inr ⟨_,rfl,?_⟩
     have hex:∀{u:Value} {w':World},(Builtin.unsafeString_ #[pt,nt] o.type #[a.eval p,a.eval n]).run P w=.ok u w'→(execOp a.eval o).run P w=.ok (.value u) w':=by
      intro u w' hu
      unfold execOp
      simp only[ho,resolve,invoke,builtin,Sem.run_bind,Sem.run_pure,Result.andThen_ok,List.map_toArray,List.map_cons,List.map_nil,hu]
     obtain⟨ds,hds,fp⟩:=Option.bind_eq_some_iff.1 cV
     have hval:(E.m4 (.aiq e) hx p' n' .nil).eval env=some ds:=by simp only[E.eval,jC,hdp,hdn,Option.bind_some,D.m4,hds]
     unfold D.aiq at hds
     split at hds
     ·cases hds
      cases fp
      have bn:=h.Qew (x':=.sym ix) dN hro (by simpa[E.eval] using cW) hst (bW.refl _ _) (Sets.le_refl _) rfl ⟨rfl,Nat.le_refl _⟩ rfl (Nat.le_refl _) (fun _ _ _=>rfl) (fun b hb=>⟨.inl hb,gZ h dN b hb⟩) (fun b o hs=>.inl hs) h.cells
      exact c_ (hex (by rw[Ye.v_eq,hrn.v_eq];rfl)) (bn.put (by intro d e;rw[af.aZ];exact hd d e) (.e hval (.v rfl) fun _=>rfl))
     ·rename_i i m
      obtain⟨b,hb0,hds⟩:=Option.bind_eq_some_iff.1 hds
      split at hds
      ·rename_i hc
       obtain⟨hm0,hml,awa,MB⟩:=hc
       obtain⟨ns,oa,hds⟩:=Option.bind_eq_some_iff.1 hds
       split at hds
       ·rename_i hall
        cases hds
        cases fp
        obtain⟨hnl,hcell⟩:=Qow (off:=0) (n:=m.toNat) hst hb0 (by omega) (by simpa using oa)
        obtain⟨vs,e',hh,hee,hle,hfi,_⟩:=Qqq hst hb0
        have he':e'=e:=by rw[hee (by rw[awa];exact hce.2),awa]
        subst he'
        obtain⟨l,W0,uY,hl3⟩:=ala hall
        have hpe:a.eval p=.pointer (some ⟨ρ.S.loc i,0,none⟩):=by
         generalize a.eval p=v at Ye
         cases Ye
         rfl
        have S_:m=(l.length:Nat):=by omega
        have hne:l≠[]:=by
         intro e
         subst e
         simp at S_
         omega
        have hrun:=Lib.run_unsafeString_row (P:=P) w pt nt o.type e' hpt hce.1 (ρ.S.loc i) vs.size (by simp[World.shape?,hh]) l hne (by omega) (by unfold maxLen at MB;omega) (fun j x hx=>by
         have hj:j<m.toNat:=by have:=(List.getElem?_eq_some_iff.1 hx).1;omega
         have:=hcell j hj
         rw[hl3 j x hx,Nat.zero_add] at this
         rw[iR,Nat.zero_add]
         exact this)
        rw[←S_] at hrun
        have atp:∀b,b≠ρ.S.loc i→(w.freeze ⟨ρ.S.loc i,0,none⟩ l.length).heap[b]? = w.heap[b]?:=by
         intro b hb
         unfold World.freeze
         split
         ·rfl
         ·simp only[Array.getElem?_modify]
          rw[if_neg (fun e=>hb e.symm)]
        have Qev:(w.freeze ⟨ρ.S.loc i,0,none⟩ l.length).os=w.os∧TL (w.freeze ⟨ρ.S.loc i,0,none⟩ l.length) w∧(w.freeze ⟨ρ.S.loc i,0,none⟩ l.length).output=w.output∧(w.freeze ⟨ρ.S.loc i,0,none⟩ l.length).heap.size=w.heap.size:=by
         unfold World.freeze
         split
         ·exact⟨rfl,.refl _,rfl,rfl⟩
         ·exact⟨rfl,⟨rfl,Nat.le_refl _⟩,rfl,by simp⟩
        have hK:bW ρ.S w (w.freeze ⟨ρ.S.loc i,0,none⟩ l.length):=fun b off hS=>World.cell?_of_block (a:=⟨b,off,none⟩) (atp b fun e=>hst.Cw _ off hfi (e ▸ hS))
        have IN:=hst.lose (oW hb0) rfl hK fun b _ hb=>atp b hb
        have bn:=h.Qew (x':=.sym ix) dN hro (by simpa[E.eval] using cW) IN hK (Sets.le_refl _) Qev.1 Qev.2.1 Qev.2.2.1 (by rw[Qev.2.2.2];exact Nat.le_refl _) (fun b _ hnf=>atp b fun e=>hnf (e ▸ hfi)) (fun b hb=>⟨.inl hb.1,by rw[Qev.2.2.2];exact gZ h dN b hb.1⟩) (fun b o hs=>.inl hs) (fun b off hs=>by rw[Qev.2.2.2];exact h.cells b off hs)
        exact c_ (hex (by rw[hpe,hrn.v_eq];exact hrun)) (bn.put (by intro d e;rw[af.aZ];exact hd d e) (.e hval (by rw[uY];exact .v rfl) fun _=>rfl))
       ·cases hds
      ·cases hds
     ·cases hds
    ·cases hl
   ·cases hl
  ·rename_i s x t t' ku hargs hts
   simp only at ku hargs hts
   subst ku
   have e1:args=#[s,x]:=by rw[←Array.toArray_toList (xs:=args),hargs]
   have e2:ts=#[t,t']:=by rw[←Array.toArray_toList (xs:=ts),hts]
   subst e1 e2
   exact .inr (al7 ho hv dN hl h hd hb)
  ·cases hl
 ·cases hl

end
end
end

section
noncomputable section

def Qqj (P:Program)(o:Oper)(ct:Operand→SV)(hO:Option bl)(ix:Nat):Option eV:=
 match hO with
 | some (.store cf h)=>(match o.op with
  | .call c=>(match c.callee,c.args.toList with
   | .value (.func f), [x] => if acJ P f "maps.clone" = true ∧ cf.ro = false ∧ cf.aeA.contains f = false then
     (ct x).jx.map fun x'=>{ val:=.e (.m4 .anW h x' .nil .nil) true,eM:=some (bN,.store cf (.sym ix)),bind:=some (.ev (.m4 .anX h x' .nil .nil)) } else none
   | _,_=>none)
  | _=>none)
 | _=>none

section
variable {P:Program} {w w0:World} {X:kG} {a:Act} {σ:af} {env:List D} {ρ:dJ}

theorem S5 (fn : Func) (h : fn.name = "maps.clone") : Extern.find fn = some Extern.MapsClone.clone := by
 unfold Extern.find
 rw[h]
 kernel_rfl

theorem WX {r:Nat}{es:Array MapEntry}{clock:Nat}(t:TypeId)(hb:w.heap[r]? = some (.map es clock)) :
  (Extern.MapsClone.clone #[.iface t (.map (some r))]).run P w=.ok (.iface t (.map (some w.heap.size))) (w.alloc (.map es clock)):=by
 have e:Extern.MapsClone.clone #[.iface t (.map (some r))]=(getObj r >>= fun o=>match o with
   | .map entries clock=>(newObj (.map entries clock) >>= fun n=>pure (.iface t (.map (some n))))
   | _ => stuck "maps.clone: a map expected") := rfl
 rw[e]
 simp[MapKept.run_getObj_map hb,Result.andThen,go_sem]

theorem an2 {o:Oper}{ct:Operand→SV}{ix:Nat}{r:eV}(hv:∀x,ef w ρ env (a.eval x) (ct x))(hl:Qqj P o ct (σ.obj bN) ix=some r)(h:cu w0 X w a σ env ρ)(hd:∀d,o.dst=some d→d<σ.tmps.length)(hb:cn P env ix r.bind) :
  ∃z,r.eM=some (bN,z)∧gq P o a w w0 X ((σ.setObj bN (some z)).put o.dst r.val) env:=by
 unfold Qqj at hl
 split at hl
 case h_2=>cases hl
 rename_i cf hx dN
 obtain⟨bs,jC,hst,_⟩:=h.dO _ _ dN
 split at hl
 case h_2=>cases hl
 rename_i c ho
 obtain⟨callee,args,ts⟩:=c
 simp only at hl
 split at hl
 case h_2=>cases hl
 rename_i f x hargs
 have e1:args=#[x]:=by rw[←Array.toArray_toList (xs:=args),hargs]
 subst e1
 split at hl
 case isFalse=>cases hl
 rename_i hc
 obtain⟨Od,hro,_⟩:=hc
 obtain⟨x',hx',rfl⟩:=Option.map_eq_some_iff.1 hl
 obtain⟨dx,pY,mT⟩:=SV.ck hx' (hv x)
 obtain⟨d,cV,cW⟩:=hb
 simp only[E.eval,jC,pY,Option.bind_some,D.m4] at cV
 refine⟨_,rfl,?_⟩
 unfold D.anX at cV
 split at cV
 case h_2=>cases cV
 rename_i ia t i azs
 cases azs
 split at cV
 case h_2=>cases cV
 rename_i dL hkv
 cases cV
 obtain⟨hf,es,clock,hh,hsz,oa,hr⟩:=hst.maps i _ hkv
 have hex:a.eval x=.iface t (.map (some (ρ.S.loc i))):=by
  generalize a.eval x=v at mT
  cases mT with
  | oO hrd=>
   cases hrd
   rfl
 have hrun:(execOp a.eval o).run P w=.ok (.value (.iface t (.map (some w.heap.size)))) (w.alloc (.map es clock)):=by
  unfold execOp
  have h1:a.eval (.func f)=.func (.func f) #[] #[]:=rfl
  have h2:(callFunc f #[a.eval x]).run P w=.ok (.value (.iface t (.map (some w.heap.size)))) (w.alloc (.map es clock)):=by
   rw[Qkv Od (by decide) S5,hex,WX t hh]
   rfl
  simp only[ho,resolve,h1,Deferred.ofValue,invoke,Sem.run_bind,Sem.run_pure,Result.andThen_ok,List.map_toArray,List.map_cons,List.map_nil,List.append_nil,Array.append_empty,Array.empty_append,h2]
 obtain⟨bn,hn⟩:=h.Aw (k:=0) (z:=.iE dL) (ob:=.map es clock) (x':=.sym ix) dN hro jC (fun e sz cs hz=>by cases hz) (fun wk hz=>by cases hz;exact⟨es,clock,rfl,hsz,hr⟩) (by simp only[E.eval];exact cW)
 refine c_ hrun (bn.put (by rw[af.aZ];exact hd) ?_)
 refine .e (d:=.oO t (.mp bs.length)) (by simp only[E.eval,jC,pY,Option.bind_some,D.m4,D.anW,hkv]) ?_ fun _=>rfl
 have:=bU.mp (w:=w.alloc (.map es clock)) (S:=ρ.S.more w.heap.size 0) (i:=bs.length) (by simp[Sets.more,hn])
 have hl:(ρ.S.more w.heap.size 0).loc bs.length=w.heap.size:=by simp[Sets.more,hn]
 rw[hl] at this
 exact .oO this

theorem an3 {o:Oper}{ct jg:Operand→SV}{hO:Option bl}{ix:Nat}(hv:∀x,x∈o.op.operands→jg x=ct x):Qqj P o jg hO ix=Qqj P o ct hO ix:=by
 unfold Qqj
 split
 ·split
  ·rename_i c ho
   obtain⟨callee,args,ts⟩:=c
   split
   ·rename_i f x ku hargs
    simp only at ku hargs
    rw[hv x (by
     rw[ho]
     have:x∈args:=by
      have:x∈args.toList:=by rw[hargs];simp
      simpa using this
     simp only[Op.operands,Call.operands]
     simp[this])]
   ·rfl
  ·rfl
 ·rfl

end
end
end
end Go.Am
