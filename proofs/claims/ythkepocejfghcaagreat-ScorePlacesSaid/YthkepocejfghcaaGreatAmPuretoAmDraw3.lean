/-
  Several texts, one behind the other.
-/
import Derived.Test.YthkepocejfghcaaGreatAmBasetoAmTok
import Derived.Laws.Slices
import Derived.Laws.Small
import Derived.Laws.MakeOwn
import Derived.Great.BuildSlice
import Derived.Laws.Tables
import Derived.MapKept
import Derived.Maps.RangeRun
set_option linter.unusedSimpArgs false
set_option linter.unusedVariables false
namespace Go.Am
section
noncomputable section

def loE (ct:Operand→SV):Option Operand→Option E
 | none=>some (.const (.v (.int .i64 0)))
 | some x=>(ct x).jx

def hiE (ct:Operand→SV)(l:E):Option Operand→Option E
 | none=>some (.aR l)
 | some x=>(ct x).jx

def isIface (P:Program)(t:TypeId):Bool:=match P.underlying t with | some (.interface _)=>true | some _=>false | none=>true

def Uu (P:Program)(t:TypeId)(x:SV)(lo hi:Option E)(ix:Nat):Option eV:=
 match P.underlying t,x.jx,lo,hi with
 | some (.slice e),some x',some l,some h=>(w9 P e).map fun n=>{ val:=.e (.sym ix) true,bind:=some (.ev (.sub n x' l h)) }
 | _,_,_,_=>none

def Qc:Operand→Bool
 | .const .nilIface=>true
 | _=>false

def Ij (P:Program)(t:TypeId)(x:SV)(y:Operand)(neg:Bool)(ix:Nat):Option eV:=
 match P.underlying t with
 | some (.interface _)=>if Qc y then x.jx.map fun x'=>{ val:=.e (.sym ix) true,bind:=some (.ev (.m4 (.UQ neg) x' .nil .nil .nil)) } else none
 | _=>none

def DZ (P:Program)(t:TypeId)(x:SV)(ix:Nat):Option eV:=
 if isIface P t then none else match x.jx,((P.info? t).bind (·.zero)).bind D.wI with
 | some x',some z=>some { val:=.bh [.e (.az 0 (.sym ix)) false,.e (.az 1 (.sym ix)) true],bind:=some (.ev (.m4 (.Hz t) x' (.const z) .nil .nil)) }
 | _,_=>none

def Gz (P:Program)(o:Oper)(ct:Operand→SV)(ix:Nat):Option eV:=
 match o.op with
 | .binOp .eql t x y _=>Ij P t (ct x) y false ix
 | .binOp .neq t x y _=>Ij P t (ct x) y true ix
 | .typeAssert x _ t true=>DZ P t (ct x) ix
 | .makeInterface t x=>if isIface P t then none else(ct x).jx.map fun x'=>{ val:=.e (.oO t x') true }
 | .slice t x lo hi none=>((ct x).jx).bind fun x'=>Uu P t (ct x) (loE ct lo) (hiE ct x' hi) ix
 | .call c=>match c.callee,c.args.toList with
  | .builtin .max,[x,y]=>(match(ct x).jx,(ct y).jx with
   | some x',some y'=>some { val:=.e (.sym ix) true,bind:=some (.ev (.mm true x' y')) }
   | _,_=>none)
  | .builtin .min,[x,y]=>(match(ct x).jx,(ct y).jx with
   | some x',some y'=>some { val:=.e (.sym ix) true,bind:=some (.ev (.mm false x' y')) }
   | _,_=>none)
  | _,_=>none
 | _=>none

theorem KI {P:Program}{o:Oper}{ct jg:Operand→SV}{ix:Nat}(hv:∀x,x∈o.op.operands→jg x=ct x):Gz P o jg ix=Gz P o ct ix:=by
 unfold Gz
 generalize hop:o.op=op at *
 cases op <;> try rfl
 case makeInterface t x=>simp only;rw[hv x (by simp[Op.operands])]
 case binOp op t x y yt=>cases op <;> first | rfl | (simp only;rw[hv x (by simp[Op.operands])])
 case typeAssert x xt t ok=>cases ok <;> first | rfl | (simp only;rw[hv x (by simp[Op.operands])])
 case slice t x lo hi mx=>
  cases mx with
  | some m=>rfl
  | none=>
   simp only
   rw[hv x (by simp[Op.operands])]
   have h1:loE jg lo=loE ct lo:=by
    cases lo with
    | none=>rfl
    | some y=>simp only[loE];rw[hv y (by simp[Op.operands])]
   have h2:∀l,hiE jg l hi=hiE ct l hi:=by
    intro l
    cases hi with
    | none=>rfl
    | some y=>simp only[hiE];rw[hv y (by simp[Op.operands])]
   simp only[h1,h2]
 case call c=>
  obtain⟨callee,args,ts⟩:=c
  simp only[Op.operands] at hv ⊢
  have hargs:∀x,x∈args.toList→jg x=ct x:=by
   intro x hx
   refine hv x ?_
   unfold Call.operands
   have:x∈args:=by simpa using hx
   simp
   cases callee <;> simp[this]
  split
  ·rename_i x y hx
   rw[hargs x (by rw[hx];simp),hargs y (by rw[hx];simp)]
  ·rename_i x y hx
   rw[hargs x (by rw[hx];simp),hargs y (by rw[hx];simp)]
  ·rfl

section
variable {P:Program} {w w0:World} {X:kG} {a:Act} {σ:af} {env:List D} {ρ:dJ}

theorem YL {t e:TypeId}(h:P.underlying t=some (.slice e)):P.elem t=e:=by
 simp[Program.elem,h]

theorem aac {S:Sets}{ad:Option Addr}{len cap n:Nat}{es:List D}{l h:Nat}(hr:bU w S (.slice ad len cap) (.bq es))(hz:bK n es=true)(h1:l≤h)(h2:h≤es.length)(m:Nat)(hm:h≤m)(hmc:m≤cap) :
  bU w S (sliced ad l h m n) (.bq ((es.drop l).take (h-l))):=by
 have Mx:∀(i:Nat) (e:D),es[i]? = some e→e.cells.length=n:=fun i e he=>oZ hz he
 cases hr with
 | nil=>
  simp at h2
  have hl0:l=0:=by omega
  have hm0:m=0:=by omega
  subst hl0 hm0 h2
  exact .nil
 | emp hm'=>
  simp at h2
  have hl0:l=0:=by omega
  subst hl0 h2
  unfold sliced
  simp only[Nat.sub_self,List.take_zero]
  by_cases hml:m=0
  ·simp only[hml,if_true]
   exact .emp (Nat.zero_le _)
  ·simp only[if_neg hml,Option.map_some]
   exact .emp (by omega)
 | @bq b off _ _ size _ val hl hc hm' My ho hS hw hr=>
  unfold sliced
  have hidx:∀(i:Nat) (e:D),((es.drop l).take (h-l))[i]? = some e→es[l+i]? = some e∧i<h-l:=by
   intro i e he
   rw[List.getElem?_take] at he
   split at he
   ·rename_i hi
    exact⟨by simpa using he,hi⟩
   ·cases he
  by_cases hml:m=l
  ·have hhl:h=l:=by omega
   subst hml hhl
   simp only[if_true,Nat.sub_self,List.take_zero]
   exact .bq (size:=size) (val:=val) (by simp) (Nat.le_refl _) (by simp[maxLen]) (by simp) (by simp) (by simp) (by simp) (by simp)
  ·simp only[if_neg hml,Option.map_some]
   rw[iR]
   have hsz:∀(i:Nat) (e:D),es[i]? = some e→size=n:=fun i e he=>(My i e he).symm.trans (Mx i e he)
   refine .bq (size:=n) (val:=fun i j=>val (l+i) j) (by simp;omega) (by omega) (by omega) (fun i e he=>Mx _ e (hidx i e he).1) (fun i e j d he hd=>ho _ e j d (hidx i e he).1 hd) (fun i e j d he hd=>?_) (fun i e j d he hd=>?_) fun i e j d he hd=>hr _ e j d (hidx i e he).1 hd
   ·have h5:=(hidx i e he).1
    have:=hS _ e j d h5 hd
    rw[hsz _ e h5] at this
    rwa [show off+l*n+i*n+j=off+(l+i)*n+j from by rw[Nat.add_mul];omega]
   ·have h5:=(hidx i e he).1
    have:=hw _ e j d h5 hd
    rw[hsz _ e h5] at this
    rwa [show off+l*n+i*n+j=off+(l+i)*n+j from by rw[Nat.add_mul];omega]


theorem RH {t:TypeId}(h:isIface P t=false)(v:Value):(Instr.makeInterface t v).run P w=.ok (.iface t v) w:=by
 unfold isIface at h
 cases hu:P.underlying t with
 | none=>rw[hu] at h;cases h
 | some d=>
  rw[hu] at h
  unfold Instr.makeInterface
  rw[Sem.run_bind,run_underlying hu]
  cases d <;> first | rfl | simp at h

theorem aeB {ct:Operand→SV}(hv:∀x,ef w ρ env (a.eval x) (ct x)){lo:Option Operand}{l:E}(h:loE ct lo=some l){k:IntKind}{n:Int}(he:l.eval env=some (.v (.int k n))):(lo=none∧n=0)∨∃x,lo=some x∧a.eval x=.int k n:=by
 cases lo with
 | none=>simp[loE] at h;subst h;simp[E.eval] at he;exact .inl ⟨rfl,he.2.symm⟩
 | some x=>
  obtain⟨d,hd,hr⟩:=SV.ck h (hv x)
  rw[he] at hd
  cases hd
  exact .inr ⟨x,rfl,hr.v_eq⟩

theorem afR {ct:Operand→SV}(hv:∀x,ef w ρ env (a.eval x) (ct x)){hi:Option Operand}{x' l:E}(h:hiE ct x' hi=some l){dx:D}{len:Nat}(hx:x'.eval env=some dx)(qz:D.aR dx=some (.v (.int .i64 len))){k:IntKind}{n:Int}(he:l.eval env=some (.v (.int k n))):(hi=none∧n=len)∨∃x,hi=some x∧a.eval x=.int k n:=by
 cases hi with
 | none=>simp[hiE] at h;subst h;simp[E.eval,hx,qz] at he;exact .inl ⟨rfl,he.2.symm⟩
 | some x=>
  obtain⟨d,hd,hr⟩:=SV.ck h (hv x)
  rw[he] at hd
  cases hd
  exact .inr ⟨x,rfl,hr.v_eq⟩

theorem Ch {t:TypeId}{ms:Array (String×TypeId)}(hu:P.underlying t=some (.interface ms))(d:Nat)(t':TypeId)(v:Value):(Op.equalIn (d+1) t (.iface t' v) .nilIface).run P w=.ok false w:=by
 simp[Op.equalIn,run_underlying hu]

theorem Cg {t:TypeId}{ms:Array (String×TypeId)}(hu:P.underlying t=some (.interface ms))(d:Nat):(Op.equalIn (d+1) t .nilIface .nilIface).run P w=.ok true w:=by
 simp[Op.equalIn,run_underlying hu]

theorem BY {t:TypeId}{ms:Array (String×TypeId)}(hu:P.underlying t=some (.interface ms))(t':TypeId)(v:Value):(binOp .eql t (.iface t' v) .nilIface).run P w=.ok (.bool false) w∧(binOp .neq t (.iface t' v) .nilIface).run P w=.ok (.bool true) w:=by
 have h1:(Op.equal t (.iface t' v) .nilIface).run P w=.ok false w:=Ch hu 9999 t' v
 constructor <;> simp only[binOp,Sem.run_bind,h1,Result.andThen_ok,Sem.run_pure] <;> rfl

theorem BX {t:TypeId}{ms:Array (String×TypeId)}(hu:P.underlying t=some (.interface ms)):(binOp .eql t .nilIface .nilIface).run P w=.ok (.bool true) w∧(binOp .neq t .nilIface .nilIface).run P w=.ok (.bool false) w:=by
 have h1:(Op.equal t .nilIface .nilIface).run P w=.ok true w:=Cg hu 9999
 constructor <;> simp only[binOp,Sem.run_bind,h1,Result.andThen_ok,Sem.run_pure] <;> rfl

theorem FR {op:BinOp}{t:TypeId}{x:Operand}(t':TypeId)(v:Value):(eqGuard op t x (.const .nilIface) (.iface t' v) .nilIface).run P w=.ok () w:=by
 unfold eqGuard
 cases op <;> simp

theorem FQ {op:BinOp}{t:TypeId}{x:Operand}:(eqGuard op t x (.const .nilIface) .nilIface .nilIface).run P w=.ok () w:=by
 unfold eqGuard
 cases op <;> simp

theorem yU {o:Oper}{ct:Operand→SV}{op:BinOp}{neg:Bool}{t yt:TypeId}{x y:Operand}{ix:Nat}{r:eV}(ho:o.op=.binOp op t x y yt)(hop:op=.eql∧neg=false∨op=.neq∧neg=true)(hv:∀x,ef w ρ env (a.eval x) (ct x))(hl:Ij P t (ct x) y neg ix=some r)(h:cu w0 X w a σ env ρ)(hd:∀d,o.dst=some d→d<σ.tmps.length)(hb:cn P env ix r.bind) :
  r.eM=none∧gq P o a w w0 X (σ.put o.dst r.val) env:=by
 unfold Ij at hl
 split at hl
 ·rename_i ms hu
  split at hl
  ·rename_i hy
   obtain⟨x',hx',rfl⟩:=Option.map_eq_some_iff.1 hl
   obtain⟨dx,pY,mT⟩:=SV.ck hx' (hv x)
   obtain⟨dz,cV,cW⟩:=hb
   simp only[E.eval,pY,Option.bind_some,D.m4] at cV
   have S8:y=.const .nilIface:=by
    unfold Qc at hy
    split at hy
    ·rfl
    ·simp at hy
   subst S8
   have fin:∀b:Bool,dz=.bool b→(do eqGuard op t x (.const .nilIface) (a.eval x) (a.eval (.const .nilIface));binOp op t (a.eval x) (a.eval (.const .nilIface)):Sem Value).run P w=.ok (.bool b) w→gq P o a w w0 X (σ.put o.dst (.e (.sym ix) true)) env:=by
    rintro b rfl hrun
    refine bS h hd (v:=.bool b) ?_ (.e (d:=.bool b) (by simp only[E.eval];exact cW) (.v rfl) fun _=>rfl)
    unfold execOp
    simp only[ho]
    rw[Sem.run_bind,hrun]
    rfl
   refine⟨rfl,?_⟩
   generalize xX:a.eval x=xv at mT fin
   have hc:a.eval (.const .nilIface)=.nilIface:=rfl
   rw[hc] at fin
   split at cV
   ·cases cV
    cases mT
    refine fin neg rfl ?_
    rw[Sem.run_bind,FR,Result.andThen_ok]
    rcases hop with⟨rfl,rfl⟩ | ⟨rfl,rfl⟩
    ·exact(BY hu _ _).1
    ·exact(BY hu _ _).2
   ·cases cV
    rw[mT.v_eq] at fin
    refine fin (!neg) rfl ?_
    rw[Sem.run_bind,FQ,Result.andThen_ok]
    rcases hop with⟨rfl,rfl⟩ | ⟨rfl,rfl⟩
    ·exact(BX hu).1
    ·exact(BX hu).2
   ·cases cV
  ·cases hl
 ·cases hl

theorem DY {o:Oper}{ct:Operand→SV}{xt t:TypeId}{x:Operand}{ix:Nat}{r:eV}(ho:o.op=.typeAssert x xt t true)(hv:∀x,ef w ρ env (a.eval x) (ct x))(hl:DZ P t (ct x) ix=some r)(h:cu w0 X w a σ env ρ)(hd:∀d,o.dst=some d→d<σ.tmps.length)(hb:cn P env ix r.bind) :
  r.eM=none∧gq P o a w w0 X (σ.put o.dst r.val) env:=by
 unfold DZ at hl
 split at hl
 ·cases hl
 rename_i hif
 split at hl
 ·rename_i x' z hx' hz
  cases hl
  obtain⟨zv,X9,hz⟩:=Option.bind_eq_some_iff.1 hz
  obtain⟨dx,pY,mT⟩:=SV.ck hx' (hv x)
  obtain⟨dz,cV,cW⟩:=hb
  simp only[E.eval,pY,Option.bind_some,D.m4] at cV
  have fin:∀(b:Bool) (d:D) (v:Value),dz=.bh [d,.bool b]→bU w ρ.S v d→(Instr.typeAssert (a.eval x) xt t true).run P w=.ok (.tuple #[v,.bool b]) w→gq P o a w w0 X (σ.put o.dst (.bh [.e (.az 0 (.sym ix)) false,.e (.az 1 (.sym ix)) true])) env:=by
   rintro b d v rfl hrd hrun
   refine bS h hd (v:=.tuple #[v,.bool b]) ?_ (.bh rfl fun i u c hu hc=>?_)
   ·unfold execOp
    simp only[ho,Sem.run_bind,hrun,Result.andThen_ok,Sem.run_pure]
   ·match i with
    | 0=>
     simp at hu hc
     subst hu hc
     exact .e (d:=d) (by simp[E.eval,cW,D.az]) hrd (by simp)
    | 1=>
     simp at hu hc
     subst hu hc
     exact .e (d:=.bool b) (by simp[E.eval,cW,D.az]) (.v rfl) fun _=>rfl
    | i+2=>simp at hc
  refine⟨rfl,?_⟩
  have hnot:∃k,P.underlying t=some k∧∀ms,k≠.interface ms:=by
   unfold isIface at hif
   cases hu:P.underlying t with
   | none=>rw[hu] at hif;simp at hif
   | some k=>
    rw[hu] at hif
    refine⟨k,rfl,?_⟩
    rintro ms rfl
    simp at hif
  obtain⟨k,hu,hk⟩:=hnot
  generalize xX:a.eval x=xv at mT fin
  split at cV
  ·rename_i t' d
   cases cV
   cases mT with
   | oO hrd=>
   by_cases ht:t'=t
   ·refine fin true d _ (by rw[if_pos ht]) hrd ?_
    unfold Instr.typeAssert
    simp only[Sem.run_bind,run_underlying hu,Result.andThen_ok]
    cases k <;> first | exact absurd rfl (hk _) | simp[ht]
   ·refine fin false z zv (by rw[if_neg ht]) (D.lE hz) ?_
    unfold Instr.typeAssert
    simp only[Sem.run_bind,run_underlying hu,Result.andThen_ok]
    cases k <;> first | exact absurd rfl (hk _) | simp[ht,iU X9]
  ·cases cV
   rw[mT.v_eq] at fin
   refine fin false z zv rfl (D.lE hz) ?_
   unfold Instr.typeAssert
   simp only[Sem.run_bind,run_underlying hu,Result.andThen_ok]
   cases k <;> first | exact absurd rfl (hk _) | simp[iU X9]
  ·cases cV
 ·cases hl

theorem KH {o:Oper}{ct:Operand→SV}{ix:Nat}{r:eV}(hv:∀x,ef w ρ env (a.eval x) (ct x))(hl:Gz P o ct ix=some r)(h:cu w0 X w a σ env ρ)(hd:∀d,o.dst=some d→d<σ.tmps.length)(hb:cn P env ix r.bind) :
  r.eM=none∧gq P o a w w0 X (σ.put o.dst r.val) env:=by
 unfold Gz at hl
 split at hl
 ·rename_i t x y yt ho
  exact yU ho (.inl ⟨rfl,rfl⟩) hv hl h hd hb
 ·rename_i t x y yt ho
  exact yU ho (.inr ⟨rfl,rfl⟩) hv hl h hd hb
 ·rename_i x xt t ho
  exact DY ho hv hl h hd hb
 ·rename_i t x ho
  split at hl
  ·cases hl
  ·rename_i hif
   obtain⟨x',hx',rfl⟩:=Option.map_eq_some_iff.1 hl
   obtain⟨d,pY,mT⟩:=SV.ck hx' (hv x)
   refine⟨rfl,bS h hd (v:=.iface t (a.eval x)) ?_ (.e (d:=.oO t d) (by simp[E.eval,pY]) (.oO mT) fun _=>rfl)⟩
   unfold execOp
   simp only[ho,Sem.run_bind,RH (by simpa using hif),Result.andThen_ok,Sem.run_pure]
 ·rename_i t x lo hi ho
  obtain⟨x',hx',hl⟩:=Option.bind_eq_some_iff.1 hl
  unfold Uu at hl
  split at hl
  ·rename_i e x'' l hh hu afh hlo hhi
   rw[hx'] at afh
   cases afh
   obtain⟨n,hn,rfl⟩:=Option.map_eq_some_iff.1 hl
   obtain⟨dx,pY,mT⟩:=SV.ck hx' (hv x)
   obtain⟨dz,cV,cW⟩:=hb
   simp only[E.eval,pY,Option.bind_some,Option.bind_eq_some_iff] at cV
   obtain⟨dl,hdl,dh,hdh,cV⟩:=cV
   have hel:=YL hu
   have qc:P.underlying t=some (.slice (P.elem t)):=by rw[hel];exact hu
   have hsize:(sizeOf (P.elem t)).run P w=.ok n w:=by rw[hel];exact run_sizeOf hn w
   have go:∀(ad:Option Addr) (len cap:Nat) (k1 k2:IntKind) (lv Cd:Int),a.eval x=.slice ad len cap→len≤cap→D.aR dx=some (.v (.int .i64 len))→dl=.v (.int k1 lv)→dh=.v (.int k2 Cd)→0≤lv→lv≤Cd→Cd≤(len:Int)→bU w ρ.S (sliced ad lv.toNat Cd.toNat cap n) dz→dz.one=true →
     gq P o a w w0 X (σ.put o.dst (.e (.sym ix) true)) env:=by
    rintro ad len cap k1 k2 lv Cd xX hcap qz rfl rfl h0 h1 h2 hrd hone
    have fin:(Instr.slice t (.slice ad len cap) (lo.map a.eval) (hi.map a.eval) none).run P w=.ok (sliced ad lv.toNat Cd.toNat cap n) w→gq P o a w w0 X (σ.put o.dst (.e (.sym ix) true)) env:=by
     intro hrun
     refine bS h hd (v:=sliced ad lv.toNat Cd.toNat cap n) ?_ (.e (d:=dz) (by simp only[E.eval];exact cW) hrd fun _=>hone)
     unfold execOp
     simp only[ho,Option.map_none,xX,Sem.run_bind,run_sliceAt_slice w t _ _ _ _ qc,hrun,Result.andThen_ok,Sem.run_pure]
    rcases aeB hv hlo hdl with⟨rfl,rfl⟩ | ⟨xl,rfl,su⟩ <;> rcases afR hv hhi pY qz hdh with⟨rfl,rfl⟩ | ⟨xh,rfl,hxh⟩
    ·refine fin ?_
     simp only[Option.map_none,run_slice_all w t ad len cap qc,hsize,Result.andThen_ok]
     simp
    ·refine fin ?_
     simp only[Option.map_none,Option.map_some,hxh,run_slice_h w t ad len cap qc k2 Cd (by omega) (by omega),hsize,Result.andThen_ok]
     simp
    ·refine fin ?_
     simp only[Option.map_none,Option.map_some,su,run_slice_l w t ad len cap qc k1 lv h0 (by omega),hsize,Result.andThen_ok]
     simp
    ·refine fin ?_
     simp only[Option.map_some,su,hxh,run_slice_lh w t ad len cap qc k1 k2 lv Cd h0 h1 (by omega),hsize,Result.andThen_ok]
   unfold D.sub at cV
   split at cV
   ·rename_i es k1 lv k2 Cd
    split at cV
    ·rename_i hc
     obtain⟨h0,h1,h2,hz⟩:=hc
     cases cV
     refine⟨rfl,?_⟩
     obtain⟨ad,len,cap,xX,hlen⟩:=mT.D1
     have hcap:len≤cap:=by
      rw[xX] at mT
      cases mT with
      | nil=>exact Nat.le_refl _
      | emp _=>exact Nat.zero_le _
      | bq hl hc hm=>exact hc
     rw[xX] at mT
     refine go ad len cap k1 k2 lv Cd xX hcap (by simp[D.aR,hlen]) rfl rfl h0 h1 (by omega) ?_ rfl
     have:=aac (l:=lv.toNat) (h:=Cd.toNat) mT hz (by omega) (by omega) cap (by omega) (Nat.le_refl _)
     rwa [show(Cd-lv).toNat=Cd.toNat-lv.toNat from by omega]
    ·cases cV
   ·rename_i j off ln k1 lv k2 Cd
    split at cV
    ·rename_i hc
     obtain⟨h0,h1,h2,hn0⟩:=hc
     split at cV
     case isFalse hlh=>
      cases cV
      refine⟨rfl,?_⟩
      generalize xX:a.eval x=xv at mT
      cases mT with
      | @sl _ _ _ cap hj hle GR ZH=>
      refine go _ ln cap k1 k2 lv Cd xX hle rfl rfl rfl h0 h1 h2 ?_ rfl
      unfold sliced
      rw[show Cd.toNat-lv.toNat=0 from by omega]
      split
      ·exact .emp (by omega)
      ·exact .emp (by omega)
     rename_i hlh
     cases cV
     refine⟨rfl,?_⟩
     generalize xX:a.eval x=xv at mT
     cases mT with
     | @sl _ _ _ cap hj hle GR ZH=>
     refine go _ ln cap k1 k2 lv Cd xX hle rfl rfl rfl h0 h1 h2 ?_ rfl
     unfold sliced
     have hlt:lv.toNat=0∨cap≠lv.toNat:=by omega
     by_cases hml:cap=lv.toNat
     ·have hz:lv.toNat=0:=by omega
      simp only[hml,if_true]
      have hh:Cd.toNat=0:=by omega
      rw[show(Cd-lv).toNat=0 from by omega,hz,hh]
      simp only[Nat.zero_mul,Nat.add_zero,Nat.sub_self]
      exact .sl hj (Nat.le_refl _) (by omega) fun e=>by rw[←ZH e];omega
     ·simp only[if_neg hml,Option.map_some]
      rw[iR,show(Cd-lv).toNat=Cd.toNat-lv.toNat from by omega]
      refine .sl hj (by omega) (by omega) fun e=>?_
      have:lv.toNat*n=0:=by omega
      have hl0:lv.toNat=0:=by
       rcases Nat.mul_eq_zero.1 this with h | h
       ·exact h
       ·omega
      rw[←ZH (by omega)]
      omega
    ·cases cV
   ·rename_i k1 lv k2 Cd
    split at cV
    ·rename_i hc
     obtain⟨rfl,rfl⟩:=hc
     cases cV
     refine⟨rfl,?_⟩
     generalize xX:a.eval x=xv at mT
     cases mT with
     | cq=>
     refine go none 0 0 k1 k2 0 0 xX (Nat.le_refl _) rfl rfl rfl (Int.le_refl _) (Int.le_refl _) (Int.le_refl _) ?_ rfl
     unfold sliced
     simp only[Int.toNat_zero,if_true,Nat.sub_self]
     exact .cq
    ·cases cV
   ·cases cV
  ·cases hl
 ·rename_i c ho
  obtain⟨callee,args,ts⟩:=c
  simp only at hl
  split at hl
  ·rename_i x y hargs
   split at hl
   ·rename_i x' y' hx' hy'
    cases hl
    obtain⟨dx,pY,mT⟩:=SV.ck hx' (hv x)
    obtain⟨dy,hdy,hry⟩:=SV.ck hy' (hv y)
    obtain⟨dz,cV,cW⟩:=hb
    simp only[E.eval,pY,hdy,Option.bind_some] at cV
    unfold D.mm at cV
    split at cV
    ·rename_i k p k' q
     split at cV
     ·rename_i hk
      subst hk
      cases cV
      have e1:args=#[x,y]:=by rw[←Array.toArray_toList (xs:=args),hargs]
      subst e1
      refine⟨rfl,bS h hd (v:=.int k (if q > p then q else p)) ?_ (.e (by simp only[E.eval];exact cW) (.v rfl) fun _=>rfl)⟩
      unfold execOp
      simp only[ho,resolve,invoke,builtin,Sem.run_bind,Sem.run_pure,Result.andThen_ok,List.map_toArray,List.map_cons,List.map_nil,mT.v_eq,hry.v_eq,run_max_int2]
     ·cases cV
    ·cases cV
   ·cases hl
  ·rename_i x y hargs
   split at hl
   ·rename_i x' y' hx' hy'
    cases hl
    obtain⟨dx,pY,mT⟩:=SV.ck hx' (hv x)
    obtain⟨dy,hdy,hry⟩:=SV.ck hy' (hv y)
    obtain⟨dz,cV,cW⟩:=hb
    simp only[E.eval,pY,hdy,Option.bind_some] at cV
    unfold D.mm at cV
    split at cV
    ·rename_i k p k' q
     split at cV
     ·rename_i hk
      subst hk
      cases cV
      have e1:args=#[x,y]:=by rw[←Array.toArray_toList (xs:=args),hargs]
      subst e1
      refine⟨rfl,bS h hd (v:=.int k (if q<p then q else p)) ?_ (.e (by simp only[E.eval];exact cW) (.v rfl) fun _=>rfl)⟩
      unfold execOp
      simp only[ho,resolve,invoke,builtin,Sem.run_bind,Sem.run_pure,Result.andThen_ok,List.map_toArray,List.map_cons,List.map_nil,mT.v_eq,hry.v_eq,run_min_int2]
     ·cases cV
    ·cases cV
   ·cases hl
  ·cases hl
 ·cases hl

end
end
end

section
noncomputable section

def D.DJ:D→Bool
 | .bh _=>false
 | _=>true

def D.Nj (nz:Bool)(y:Value):Option D:=if nz=true then(match y with
 | .slice none 0 0=>some .cq
 | y=>D.wI y) else D.wI y

theorem D.Gt {w:World}{S:Sets}{nz:Bool}{v:Value}{d:D}(h:D.Nj nz v=some d):bU w S v d:=by
 unfold D.Nj at h
 split at h
 ·split at h
  ·cases h;exact .cq
  ·exact D.lE h
 ·exact D.lE h

def GA (nz:Bool)(P:Program)(t:TypeId)(n c:SV)(dst:Option Tmp)(ix:Nat):Option eV:=
 match dst,P.underlying t,n.jx,c.jx with
 | some d,some (.slice e),some n',some c'=>match P.info? e with
  | some i=>(i.zero).bind fun z=>(D.Nj nz z).bind fun dz=>
    if n'.same c'=true∧dz.cells.length=i.size∧dz.DJ=true then some { val:=.oc d,eM:=some (d,.row (.sym ix) i.size),bind:=some (.ev (.rep i.bytes n' dz)) } else none
  | none=>none
 | _,_,_,_=>none

section
variable {P:Program} {w w0:World} {X:kG} {a:Act} {σ:af} {env:List D} {ρ:dJ}

theorem bU.cellAt {S:Sets}{v:Value}{d:D}(h:bU w S v d)(hd:d.DJ=true) :
  v.cells.size=d.cells.length∧∀(j:Nat) (x:D),d.cells[j]? = some x→x.one=true∧∃u,v.cells[j]? = some u∧bU w S u x:=by
 have one:d.one=true→v.cells.size=d.cells.length∧∀(j:Nat) (x:D),d.cells[j]? = some x→x.one=true∧∃u,v.cells[j]? = some u∧bU w S u x:=by
  intro h1
  have hc:v.cells=#[v]:=by
   have:=h.one h1
   cases v <;> first | rfl | simp[Value.oneCell'] at this
  rw[hc,D.cells_one h1]
  refine⟨rfl,fun j x hx=>?_⟩
  cases j with
  | zero=>simp at hx;subst hx;exact⟨h1,v,rfl,h⟩
  | succ j=>simp at hx
 cases d with
 | agg ds=>
  obtain⟨vs,rfl,hl,ho,hr⟩:=h.lV
  refine⟨hl,fun j x hx=>⟨ho j x hx,?_⟩⟩
  have hj:j<vs.size:=by rw[hl];exact(List.getElem?_eq_some_iff.1 hx).1
  exact⟨vs[j],Array.getElem?_eq_getElem hj,hr j _ x (Array.getElem?_eq_getElem hj) hx⟩
 | bh ds=>cases hd
 | blk _ _ _=>cases h
 | st _=>cases h
 | iE _=>cases h
 | itb _ _ _=>cases h
 | oM _=>cases h
 | _=>exact one rfl

theorem KP {o:Oper} {t:TypeId} {n c:Operand} {sn sc:SV} {ix:Nat} {r:eV} {nz:Bool} (ho:o.op=.makeSlice t n c) (hl:GA nz P t sn sc o.dst ix=some r) (hn:ef w ρ env (a.eval n) sn) (hc:ef w ρ env (a.eval c) sc) (h:cu w0 X w a σ env ρ)
  (hd:∀d,o.dst=some d→d<σ.tmps.length) (hm:σ.mem.length=σ.tmps.length) (hb:cn P env ix r.bind) (hf:∀u,r.eM=some u→σ.obj u.1=none∧σ.aT u.1):∃ob x,r.eM=some (ob,x)∧gq P o a w w0 X ((σ.setObj ob (some x)).put o.dst r.val) env:=by
 unfold GA at hl
 split at hl
 ·rename_i d e n' c' ig hu hn' zf
  split at hl
  ·rename_i i hi
   obtain⟨z,hz,hl⟩:=Option.bind_eq_some_iff.1 hl
   obtain⟨dz,hdz,hl⟩:=Option.bind_eq_some_iff.1 hl
   split at hl
   ·rename_i wP
    cases hl
    obtain⟨hsame,hlen,aa0⟩:=wP
    obtain⟨hfree,ox⟩:=hf _ rfl
    refine⟨d,_,rfl,?_⟩
    have hdl:=hd d ig
    obtain⟨dn,hdn,hrn⟩:=SV.ck hn' hn
    obtain⟨dc,hdc,hrc⟩:=SV.ck zf hc
    rw[←E.dU hsame,hdn] at hdc
    cases hdc
    obtain⟨dy,cV,cW⟩:=hb
    simp only[E.eval,hdn,Option.bind_some] at cV
    unfold D.rep at cV
    split at cV
    ·rename_i k
     split at cV
     ·rename_i hk
      obtain⟨CE,hkb,hkm⟩:=hk
      cases cV
      have hzr:bU w ρ.S z dz:=D.Gt hdz
      obtain⟨hzl,hzc⟩:=hzr.cellAt aa0
      rw[hlen] at hzl
      have abc:k≤9223372036854775807:=by
       have h9:k.toNat≤9223372036854775807:=hkm
       omega
      have hbytes:(i.bytes:Int)*k≤281474976710656:=by
       have h1:((k.toNat*i.bytes:Nat):Int)≤140737488355328:=by
        generalize k.toNat*i.bytes=q at hkb ⊢
        omega
       rw[Int.natCast_mul,Int.toNat_of_nonneg CE,Int.mul_comm] at h1
       omega
      have hrun:(execOp a.eval o).run P w=.ok (.value (.slice (some ⟨w.heap.size,0,none⟩) k.toNat k.toNat)) (w.alloc (.cells (madeCells z.cells (k.toNat*i.size)) e)):=by
       unfold execOp
       simp only[ho,hrn.v_eq,hrc.v_eq,Sem.run_bind,run_make w t e i z hu hi hz .i64 .i64 k k CE (Int.le_refl _) hbytes abc,Result.andThen_ok,Sem.run_pure]
      have hK:bW ρ.S w (w.alloc (.cells (madeCells z.cells (k.toNat*i.size)) e)):=bW.alloc h.cells _
      have bn:=h.fI (o:=d) (x:=.row (.sym ix) i.size) (v:=.slice (some ⟨w.heap.size,0,none⟩) k.toNat k.toNat) (by rw[hm];exact hdl) hfree ox hK (fun b hb=>Qcx w _ b hb) rfl ⟨rfl,Nat.le_refl _⟩ rfl (by simp) ?_ ?_
      ·refine c_ hrun (bn.put (by rw[ig];intro d' e;cases e;rw[af.aZ];exact hdl) ?_)
       have hval:(ρ.fI d w.heap.size (.slice (some ⟨w.heap.size,0,none⟩) k.toNat k.toNat)).val d=.slice (some ⟨w.heap.size,0,none⟩) k.toNat k.toNat:=by simp[dJ.fI]
       have hs:ef (w.alloc (.cells (madeCells z.cells (k.toNat*i.size)) e)) (ρ.fI d w.heap.size (.slice (some ⟨w.heap.size,0,none⟩) k.toNat k.toNat)) env ((ρ.fI d w.heap.size (.slice (some ⟨w.heap.size,0,none⟩) k.toNat k.toNat)).val d) (.oc d):=.oc
       rwa [hval] at hs
      ·have hbk:(ρ.fI d w.heap.size (.slice (some ⟨w.heap.size,0,none⟩) k.toNat k.toNat)).blk d=w.heap.size:=by simp[dJ.fI]
       have Lg:∀(m:Nat) (x:D),(List.replicate k.toNat dz)[m]? = some x→x=dz∧m<k.toNat:=by
        intro m x hx
        rw[List.getElem?_replicate] at hx
        split at hx
        ·cases hx;exact⟨rfl,by assumption⟩
        ·cases hx
       refine⟨madeCells z.cells (k.toNat*i.size),e,List.replicate k.toNat dz,by rw[hbk];exact heap_alloc_new w _,by simp only[E.eval];exact cW,fun m x hx=>by rw[(Lg m x hx).1];exact hlen,by simp[size_madeCells],fun m x j y hx hy=>?_,by rw[hbk];simp[dJ.fI],by simpa using hkm,fun off hs=>?_⟩
       ·obtain⟨rfl,hmk⟩:=Lg m x hx
        obtain⟨h1,u,h2,h3⟩:=hzc j y hy
        have hj:j<i.size:=by rw[←hlen];exact(List.getElem?_eq_some_iff.1 hy).1
        refine⟨h1,u,?_,h3.keep hK (Sets.le_refl _)⟩
        have hlt:m*i.size+j<k.toNat*i.size:=by
         have:(m+1)*i.size≤k.toNat*i.size:=Nat.mul_le_mul_right _ hmk
         rw[Nat.add_mul,Nat.one_mul] at this
         omega
        have hmod:(m*i.size+j) % i.size=j:=by rw[Nat.mul_comm,Nat.mul_add_mod,Nat.mod_eq_of_lt hj]
        have hjz:j<z.cells.size:=by rw[hzl];exact hj
        have qc:u=z.cells[j]:=by rw[Array.getElem?_eq_getElem hjz] at h2;exact(Option.some.inj h2).symm
        simp only[madeCells,Array.getElem?_map,Array.getElem?_range,hlt,if_true,Option.map_some,hzl,hmod,Option.some.injEq]
        rw[qc]
        exact getElem!_pos z.cells j hjz
       ·rw[hbk] at hs
        have:=h.cells _ off hs
        omega
      ·intro b hb
       simpa[bY,dJ.fI] using hb.symm
     ·cases cV
    ·cases cV
   ·cases hl
  ·cases hl
 ·cases hl

end
end
end

section
noncomputable section

def Pn (agg:Bool)(n:Nat)(x:E):E:=if agg then .bB n x else .bt x

def GC (agg:Bool)(n:Nat):List SV→Option E
 | []=>some (.const (.bq []))
 | s :: r=>match s.jx,GC agg n r with
  | some x,some y=>some (.bz (Pn agg n x) y)
  | _,_=>none

def NG (P:Program)(t:TypeId)(len:Nat)(parts:List (Nat×Operand))(ct:Operand→SV)(dst:Option Tmp)(ix:Nat):Option eV:=
 match dst,P.underlying t with
 | some d,some (.slice e)=>match P.info? e,lN P e,GC ((lN P e).getD false) ((w9 P e).getD 0) (parts.map fun p=>ct p.2) with
  | some i,some agg,some y=>
    if parts.map (·.1)=List.range len∧0<i.size∧len*i.size≤16777216∧(agg=true∨i.size=1)∧i.zero.isSome=true then some { val:=.own (.sym ix) d,eM:=some (d,.tok e i.size),bind:=some (.ev y) } else none
  | _,_,_=>none
 | _,_=>none

section
variable {P:Program} {w w0:World} {X:kG} {a:Act} {σ:af} {env:List D} {ρ:dJ}

theorem Pm {agg:Bool}{n:Nat}{x:E}{d u:D}{v:Value}{S:Sets}(JK:agg=true∨n=1)(hx:x.eval env=some d)(hr:bU w S v d)(hu:(Pn agg n x).eval env=some u):bU w S v u∧u.cells.length=n∧u.DJ=true:=by
 unfold Pn at hu
 split at hu
 ·simp only[E.eval,hx,Option.bind_some] at hu
  unfold D.bB at hu
  split at hu
  ·split at hu
   ·rename_i hl;cases hu;exact⟨hr,hl,rfl⟩
   ·cases hu
  ·cases hu
 ·rename_i hna
  simp only[E.eval,hx,Option.bind_some] at hu
  unfold D.bt at hu
  split at hu
  ·rename_i h1
   cases hu
   refine⟨hr,?_,?_⟩
   ·rw[D.cells_one h1,JK.resolve_left hna];rfl
   ·cases d <;> first | rfl | simp[D.one] at h1
  ·cases hu

theorem KS {agg:Bool}{n:Nat}{S:Sets}(JK:agg=true∨n=1):∀{wD:List SV} {vs:List Value} {y:E} {d:D},GC agg n wD=some y→vs.length=wD.length→(∀(i:Nat) (v:Value) (s:SV) (x:E),vs[i]? = some v→wD[i]? = some s→s.jx=some x→∃d,x.eval env=some d∧bU w S v d)→y.eval env=some d →
  ∃ds,d=.bq ds∧ds.length=vs.length∧∀(i:Nat) (v:Value) (u:D),vs[i]? = some v→ds[i]? = some u→bU w S v u∧u.cells.length=n∧u.DJ=true
 | [],vs,y,d,h,hl,_,hd=>by
  simp[GC] at h;subst h
  simp[E.eval] at hd;subst hd
  have:vs=[]:=List.eq_nil_of_length_eq_zero (by simpa using hl)
  subst this
  exact⟨[],rfl,rfl,by simp⟩
 | s :: r,vs,y,d,h,hl,hh,hd=>by
  match vs,hl with
  | v :: vs,hl=>
   simp only[GC] at h
   split at h
   ·rename_i x y' hx hy
    cases h
    simp only[E.eval,Option.bind_eq_some_iff] at hd
    obtain⟨u,hu,d',fz,hc⟩:=hd
    obtain⟨ds,rfl,hdl,hds⟩:=KS (vs:=vs) JK hy (by simpa using hl) (fun i v s x h1 h2 h3=>hh (i+1) v s x (by simpa using h1) (by simpa using h2) h3) fz
    simp only[D.bz,Option.some.injEq] at hc
    subst hc
    obtain⟨dx,pY,mT⟩:=hh 0 v s x rfl rfl hx
    refine⟨u :: ds,rfl,by simp[hdl],fun i v' u' hv qc=>?_⟩
    cases i with
    | zero=>simp at hv qc;subst hv qc;exact Pm JK pY mT hu
    | succ i=>exact hds i v' u' (by simpa using hv) (by simpa using qc)
   ·cases h

theorem B9 (w:World)(t e:TypeId)(i:TypeInfo)(hu:P.underlying t=some (.slice e))(hi:P.info? e=some i):(Instr.buildSlice t 0 #[]).run P w=.ok (.slice (some ⟨w.heap.size,0,none⟩) 0 0) (w.alloc (.cells #[] e)):=by
 simp[Instr.buildSlice,run_underlying hu,sizeOf,typeInfo,hi,Instr.fill,newRow]
 rw[show Array.range 0=#[] from Array.size_eq_zero_iff.1 (by simp)]
 simp

theorem P7 {o:Oper} {t e:TypeId} {len:Nat} {parts:Array (Nat×Operand)} {ct:Operand→SV} {i:TypeInfo} {agg:Bool} {y:E} {z:Value} {dz:D} (ho:o.op=.buildSlice t len parts) (hv:∀x,ef w ρ env (a.eval x) (ct x)) (hu:P.underlying t=some (.slice e)) (hi:P.info? e=some i)
  (hy:GC agg i.size (parts.toList.map fun p=>ct p.2)=some y) (hidx:parts.toList.map (·.1)=List.range len) (hpos:0<i.size) (hsmall:len*i.size≤16777216) (hagg:agg=true∨i.size=1) (hz:i.zero=some z) (cV:y.eval env=some dz) :
  ∃(r:Array Value) (ds:List D),dz=.bq ds∧ds.length=len∧(execOp a.eval o).run P w=.ok (.value (.slice (some ⟨w.heap.size,0,none⟩) len len)) (w.alloc (.cells r e))∧r.size=len*i.size∧len≤maxLen∧mj w ρ.S i.size r.toList ds:=by
 have Qak:parts.toList.length=len:=by
  have:=congrArg List.length hidx
  simpa using this
 obtain⟨ds,rfl,Yo,hds⟩:=KS (w:=w) (S:=ρ.S) (vs:=parts.toList.map fun p=>a.eval p.2) hagg hy (by simp) (fun j v s x h1 h2 h3=>by
  simp only[List.getElem?_map,Option.map_eq_some_iff] at h1 h2
  obtain⟨p,hp,rfl⟩:=h1
  obtain⟨q,hq,rfl⟩:=h2
  rw[hp] at hq;cases hq
  exact SV.ck h3 (hv p.2)) cV
 have Of:ds.length=len:=by rw[Yo];simpa using Qak
 have hparts:(parts.map fun(x:Nat×Operand)=>(x.1,a.eval x.2)).toList=((parts.toList.map fun p=>a.eval p.2).zipIdx 0).map fun x=>(x.2,x.1):=by
  apply List.ext_getElem?
  intro j
  simp only[Array.toList_map,List.getElem?_map,List.getElem?_zipIdx,Nat.zero_add]
  cases hp:parts.toList[j]? with
  | none=>rfl
  | some p=>
   have h1:(parts.toList.map (·.1))[j]? = some p.1:=by rw[List.getElem?_map,hp];rfl
   rw[hidx] at h1
   have h2:p.1=j:=by
    have hj:j<(List.range len).length:=(List.getElem?_eq_some_iff.1 h1).1
    rw[List.getElem?_range (by simpa using hj)] at h1
    exact(Option.some.inj h1).symm
   simp[h2]
 have hcs:∀v,v∈parts.toList.map (fun p=>a.eval p.2)→v.cells.size=i.size:=by
  intro v Qcz
  obtain⟨j,hj⟩:=List.getElem?_of_mem Qcz
  have hjl:j<ds.length:=by rw[Yo];exact(List.getElem?_eq_some_iff.1 hj).1
  obtain⟨h1,h2,h3⟩:=hds j v _ hj (List.getElem?_eq_getElem hjl)
  rw[(h1.cellAt h3).1,h2]
 have hrun:∃r:Array Value,(Instr.buildSlice t len (parts.map fun(x:Nat×Operand)=>(x.1,a.eval x.2))).run P w=.ok (.slice (some ⟨w.heap.size,0,none⟩) len len) (w.alloc (.cells r e))∧r.size=len*i.size ∧
   ∀k,k<len*i.size→r[k]? = ((parts.toList.map fun p=>a.eval p.2)[k / i.size]?).bind fun v=>v.cells[k % i.size]?:=by
  rcases Nat.eq_zero_or_pos len with h0 | h0
  ·subst h0
   have:parts=#[]:=by
    have:parts.toList=[]:=List.eq_nil_of_length_eq_zero Qak
    rw[←Array.toArray_toList (xs:=parts),this]
   subst this
   refine⟨#[],?_,by simp,fun k hk=>by simp at hk⟩
   rw[show(#[]:Array (Nat×Operand)).map (fun x=>(x.1,a.eval x.2))=#[] from by simp]
   exact B9 w t e i hu hi
  ·have IM:0<len*i.size:=Nat.mul_pos h0 hpos
   obtain⟨r,hr,tI,Fs⟩:=Great.fill_dense hpos (parts.toList.map fun p=>a.eval p.2) 0 ((Array.range (len*i.size)).map (z.cells[· % z.cells.size]!)) hcs (by simp[Qak])
   refine⟨r,run_buildSlice w t e len _ r i z hu hi hz (by omega) (by omega) (by rw[hparts];exact hr),by rw[tI];simp,fun k hk=>?_⟩
   rw[Fs k,if_pos ⟨by omega,by simpa[Qak] using hk⟩,Nat.sub_zero]
 obtain⟨r,hrun,tI,Fs⟩:=hrun
 have hml:len≤maxLen:=by
  have:len≤len*i.size:=Nat.le_mul_of_pos_right _ hpos
  have h9:len≤9223372036854775807:=by omega
  exact h9
 have Mx:∀(j:Nat) (u:D),ds[j]? = some u→u.cells.length=i.size:=fun j u hj=>by
  have hjl:j<(parts.toList.map fun p=>a.eval p.2).length:=by rw[←Yo];exact(List.getElem?_eq_some_iff.1 hj).1
  exact(hds j _ u (List.getElem?_eq_getElem hjl) hj).2.1
 have hrow:mj w ρ.S i.size r.toList ds:=by
  refine⟨by simp[tI,Of],Mx,fun j u q x hj hq=>?_⟩
  have hjl:j<(parts.toList.map fun p=>a.eval p.2).length:=by rw[←Yo];exact(List.getElem?_eq_some_iff.1 hj).1
  obtain⟨h1,h2,h3⟩:=hds j _ u (List.getElem?_eq_getElem hjl) hj
  obtain⟨h4,v,h5,h6⟩:=(h1.cellAt h3).2 q x hq
  obtain⟨hlt,hqs⟩:=uP Mx hj hq
  refine⟨h4,v,?_,h6⟩
  have hdiv:(j*i.size+q) / i.size=j:=by rw[Nat.mul_comm,Nat.mul_add_div hpos,Nat.div_eq_of_lt hqs,Nat.add_zero]
  have hmod:(j*i.size+q) % i.size=q:=by rw[Nat.mul_comm,Nat.mul_add_mod,Nat.mod_eq_of_lt hqs]
  rw[Array.getElem?_toList,Fs _ (by rw[←Of];exact hlt),hdiv,hmod,List.getElem?_eq_getElem hjl]
  exact h5
 refine⟨r,ds,rfl,Of,?_,tI,hml,hrow⟩
 unfold execOp
 simp only[ho,Sem.run_bind,hrun,Result.andThen_ok,Sem.run_pure]

theorem NF {o:Oper} {t:TypeId} {len:Nat} {parts:Array (Nat×Operand)} {ct:Operand→SV} {ix:Nat} {r:eV} (ho:o.op=.buildSlice t len parts) (hv:∀x,ef w ρ env (a.eval x) (ct x)) (hl:NG P t len parts.toList ct o.dst ix=some r) (h:cu w0 X w a σ env ρ)
  (hd:∀d,o.dst=some d→d<σ.tmps.length) (hm:σ.mem.length=σ.tmps.length) (hb:cn P env ix r.bind) (hf:∀u,r.eM=some u→σ.obj u.1=none∧σ.aT u.1):∃ob x,r.eM=some (ob,x)∧gq P o a w w0 X ((σ.setObj ob (some x)).put o.dst r.val) env:=by
 unfold NG at hl
 split at hl
 ·rename_i d e ig hu
  split at hl
  ·rename_i i agg y hi JK hy
   split at hl
   ·rename_i hc
    cases hl
    obtain⟨hidx,hpos,hsmall,hagg,hzero⟩:=hc
    obtain⟨hfree,ox⟩:=hf _ rfl
    refine⟨d,_,rfl,?_⟩
    have hdl:=hd d ig
    have hsz:w9 P e=some i.size:=by simp[w9,hi]
    rw[JK,hsz] at hy
    simp only[Option.getD_some] at hy
    obtain⟨dz,cV,cW⟩:=hb
    obtain⟨z,hz⟩:=Option.isSome_iff_exists.1 hzero
    obtain⟨r,ds,rfl,Of,U0,tI,hml,hrow⟩:=P7 ho hv hu hi hy hidx hpos hsmall hagg hz cV
    have hK:bW ρ.S w (w.alloc (.cells r e)):=bW.alloc h.cells _
    have hown:(w.alloc (.cells r e)).ownsRow 0 e i.size (.slice (some ⟨w.heap.size,0,none⟩) len len) len r.toList:=World.ownsRow_lit w r len (Nat.zero_le _) hml tI
    have bn:=h.Fl (w':=w.alloc (.cells r e)) (k:=d) (by rw[hm];exact hdl) hfree ox hown hK (fun o' y' b h1 h2=>?_) (fun b hb=>?_) (fun b hb off _ hS=>?_) rfl ⟨rfl,Nat.le_refl _⟩ rfl (by simp) (fun b hb _=>Qcx w _ b (Nat.lt_of_lt_of_le hb h.grown))
    ·refine c_ (v:=.slice (some ⟨w.heap.size,0,none⟩) len len) ?_ (bn.put (by rw[ig];intro d' e;cases e;rw[af.aZ];exact hdl) ?_)
     ·exact U0
     ·exact .own (es:=ds) (by simp only[E.eval];exact cW) (HX hown Of (hrow.keep hK (ρ.S.rN _)) fun b hb j hj=>.inr ⟨hb,hj⟩) (by simp[dJ.lR])
    ·have:=(h.own o' y' b h1 h2).2
     refine⟨Qcx w _ b this,?_⟩
     simp[Value.ownBlock]
     omega
    ·simp[Value.ownBlock] at hb
     exact .inl (by rw[←hb];exact h.grown)
    ·simp[Value.ownBlock] at hb
     have:=h.cells b off hS
     omega
   ·cases hl
  ·cases hl
 ·cases hl

end
end
end

section
noncomputable section

def zY (nz:Bool)(z:Value)(parts:List (Nat×SV))(i off size:Nat)(agg:Bool):Option E:=
 match parts.find? (fun p=>p.1==i) with
 | some p=>if agg=true∨size=1 then p.2.jx.map (Pn agg size) else none
 | none=>(D.mD nz ((z.cells.toList.drop off).take size)).bind fun ds=>if ds.length=size then some (.const (.agg ds)) else none

def E0 (nz:Bool)(z:Value)(parts:List (Nat×SV)):Nat→Nat→List ((Nat×Nat)×Bool)→Option E
 | _,off,[]=>if off=z.cells.size then some .nil else none
 | i,off,p :: r=>if p.1.1=off then(match zY nz z parts i off p.1.2 p.2,E0 nz z parts (i+1) (off+p.1.2) r with
   | some x,some y=>some (.cons x y)
   | _,_=>none) else none

def BJ (P:Program)(fields:Array Field):Option (List (Nat×Nat)):=fields.toList.mapM fun f=>(P.info? f.type).map fun i=>(f.offset,i.size)
def py (P:Program)(fields:Array Field):List Bool:=fields.toList.map fun f=>(lN P f.type).getD false

def Mq (pl:List (Nat×Nat)):Bool:=(List.range pl.length).all fun i=>(List.range pl.length).all fun j=>decide (i=j)||(match pl[i]?,pl[j]? with | some p,some q=>WK p q | _,_=>true)

def Ir (nz:Bool)(P:Program)(t:TypeId)(parts:List (Nat×Operand))(ct:Operand→SV)(ix:Nat):Option eV:=
 match P.info? t,P.underlying t with
 | some it,some (.struct fields)=>match it.zero,BJ P fields with
  | some z,some pl=>match E0 nz z (parts.map fun p=>(p.1,ct p.2)) 0 0 (pl.zip (py P fields)) with
   | some y=>if(parts.map (·.1)).Nodup∧parts.all (fun p=>decide (p.1<pl.length))=true∧Mq pl=true then some { val:=.e (.sym ix) false,bind:=some (.ev y) } else none
   | none=>none
  | _,_=>none
 | _,_=>none

section
variable {P:Program} {w w0:World} {X:kG} {a:Act} {σ:af} {env:List D} {ρ:dJ}

theorem EZ {nz:Bool}{z:Value}{parts:List (Nat×SV)}(hlen:∀i off size agg x u,zY nz z parts i off size agg=some x→x.eval env=some u→u.cells.length=size):∀{l:List ((Nat×Nat)×Bool)} {i off:Nat} {y:E} {d:D},E0 nz z parts i off l=some y→y.eval env=some d →
  ∃cs,d=.agg cs∧off+cs.length=z.cells.size∧(∀(f:Nat) (q:(Nat×Nat)×Bool),l[f]? = some q→q.1.1+q.1.2≤z.cells.size∧∃x u,zY nz z parts (i+f) q.1.1 q.1.2 q.2=some x∧x.eval env=some u) ∧
  ∀k,off≤k→k<z.cells.size→∃f q x u,l[f]? = some q∧q.1.1≤k∧k<q.1.1+q.1.2∧zY nz z parts (i+f) q.1.1 q.1.2 q.2=some x∧x.eval env=some u∧cs[k-off]? = u.cells[k-q.1.1]?
 | [],i,off,y,d,h,hd=>by
  simp only[E0] at h
  split at h
  ·rename_i ho
   cases h
   simp only[E.eval,Option.some.injEq] at hd
   subst hd
   exact⟨[],rfl,by simpa using ho,by simp,fun k h1 h2=>by omega⟩
  ·cases h
 | q :: r,i,off,y,d,h,hd=>by
  simp only[E0] at h
  split at h
  ·rename_i ho
   split at h
   ·rename_i x y' hx hy
    cases h
    simp only[E.eval,Option.bind_eq_some_iff] at hd
    obtain⟨u,hu,d',fz,hc⟩:=hd
    obtain⟨cs,rfl,hl,h1,h2⟩:=EZ hlen hy fz
    have FK:=hlen _ _ _ _ _ _ hx hu
    have hd2:d=.agg (u.cells++cs):=by
     unfold D.cons at hc
     split at hc <;> first | cases hc;done | (cases hc;rename_i e1 e2;cases e2;rfl) | skip
     all_goals first | (cases hc;rfl) | cases hc
    refine⟨u.cells++cs,hd2,by simp[FK];omega,fun f q' hq=>?_,fun k hk1 hk2=>?_⟩
    ·cases f with
     | zero=>simp at hq;subst hq;rw[ho];exact⟨by omega,x,u,hx,hu⟩
     | succ f=>
      obtain⟨h5,x',u',h3,h4⟩:=h1 f q' (by simpa using hq)
      exact⟨h5,x',u',by rw[show i+(f+1)=i+1+f from by omega];exact h3,h4⟩
    ·by_cases hk:k<off+q.1.2
     ·refine⟨0,q,x,u,rfl,by omega,by omega,by rw[ho];exact hx,hu,?_⟩
      rw[List.getElem?_append_left (by omega),ho]
     ·obtain⟨f,q',x',u',h3,h4,h5,h6,h7,h8⟩:=h2 k (by omega) hk2
      refine⟨f+1,q',x',u',by simpa using h3,h4,h5,by rw[show i+(f+1)=i+1+f from by omega];exact h6,h7,?_⟩
      rw[List.getElem?_append_right (by omega),FK,show k-off-q.1.2=k-(off+q.1.2) from by omega]
      exact h8
   ·cases h
  ·cases h


theorem FY {pl:List (Nat×Nat)}(h:Mq pl=true){i j:Nat}{p q:Nat×Nat}(hi:pl[i]? = some p)(hj:pl[j]? = some q)(hne:i≠j):p.1+p.2≤q.1∨q.1+q.2≤p.1:=by
 have h1:=List.all_eq_true.1 h i (List.mem_range.2 (List.getElem?_eq_some_iff.1 hi).1)
 have h2:=List.all_eq_true.1 h1 j (List.mem_range.2 (List.getElem?_eq_some_iff.1 hj).1)
 simp only[hne,decide_false,Bool.false_or,hi,hj,WK,Bool.or_eq_true,decide_eq_true_eq] at h2
 exact h2

theorem Bt {α β:Type}{f:α→Option β}:∀{l:List α} {r:List β},l.mapM f=some r→r.length=l.length
 | [],r,h=>by simp at h;subst h;rfl
 | a :: l,r,h=>by
  simp only[List.mapM_cons,Option.bind_eq_bind,Option.pure_def,Option.bind_eq_some_iff,Option.some.injEq] at h
  obtain⟨b,_,r',h2,rfl⟩:=h
  simp[Bt h2]

theorem Iq {nz:Bool} {o:Oper} {t:TypeId} {parts:Array (Nat×Operand)} {ct:Operand→SV} {ix:Nat} {r:eV} (ho:o.op=.build t parts) (hv:∀x,ef w ρ env (a.eval x) (ct x)) (hl:Ir nz P t parts.toList ct ix=some r) (h:cu w0 X w a σ env ρ)
  (hd:∀d,o.dst=some d→d<σ.tmps.length) (hb:cn P env ix r.bind):r.eM=none∧gq P o a w w0 X (σ.put o.dst r.val) env:=by
 unfold Ir at hl
 split at hl
 ·rename_i it fields hit hu
  split at hl
  ·rename_i z pl hz BF
   split at hl
   ·rename_i y hy
    split at hl
    ·rename_i hc
     obtain⟨hnd,hin,hap⟩:=hc
     cases hl
     refine⟨rfl,?_⟩
     obtain⟨dz,cV,cW⟩:=hb
     have aqY:pl.length=fields.toList.length:=Bt BF
     have To:∀i off size agg x u,zY nz z (parts.toList.map fun p=>(p.1,ct p.2)) i off size agg=some x→x.eval env=some u→u.cells.length=size ∧
       ((∃p,p∈parts.toList∧p.1=i∧bU w ρ.S (a.eval p.2) u∧u.DJ=true)∨((∀p,p∈parts.toList→p.1≠i)∧∃ds,u=.agg ds∧D.mD nz ((z.cells.toList.drop off).take size)=some ds)):=by
      intro i off size agg x u hx qc
      unfold zY at hx
      split at hx
      ·rename_i p hp
       split at hx
       ·rename_i JK
        obtain⟨x',hx',rfl⟩:=Option.map_eq_some_iff.1 hx
        have hmem:=List.mem_of_find?_eq_some hp
        have hpi:=List.find?_some hp
        simp only[beq_iff_eq] at hpi
        obtain⟨p0,hp0,rfl⟩:=List.mem_map.1 hmem
        obtain⟨d,pY,mT⟩:=SV.ck hx' (hv p0.2)
        obtain⟨h1,h2,h3⟩:=Pm JK pY mT qc
        exact⟨h2,.inl ⟨p0,hp0,hpi,h1,h3⟩⟩
       ·cases hx
      ·rename_i hnone
       obtain⟨ds,hds,hx⟩:=Option.bind_eq_some_iff.1 hx
       split at hx
       ·rename_i hdl
        cases hx
        simp only[E.eval,Option.some.injEq] at qc
        subst qc
        refine⟨hdl,.inr ⟨fun p hp hpi=>?_,ds,rfl,hds⟩⟩
        have:=List.find?_eq_none.1 hnone (p.1,ct p.2) (List.mem_map.2 ⟨p,hp,rfl⟩)
        simp[hpi] at this
       ·cases hx
     obtain⟨cs,rfl,dG,hf,Yq⟩:=EZ (fun i off size agg x u h1 h2=>(To i off size agg x u h1 h2).1) hy cV
     rw[Nat.zero_add] at dG
     have ak0:∀(i:Nat) (q:Nat×Nat),pl[i]? = some q→∃b,(pl.zip (py P fields))[i]? = some (q,b):=by
      intro i q hq
      have hi:=(List.getElem?_eq_some_iff.1 hq).1
      have hi2:i<(py P fields).length:=by simp only[py,List.length_map];omega
      exact⟨(py P fields)[i],by rw[List.getElem?_zip_eq_some];exact⟨hq,List.getElem?_eq_getElem hi2⟩⟩
     have aaX:∀(i:Nat) (q:(Nat×Nat)×Bool),(pl.zip (py P fields))[i]? = some q→pl[i]? = some q.1:=by
      intro i q hq
      rw[List.getElem?_zip_eq_some] at hq
      exact hq.1
     have hpart:∀p,p∈parts.toList→∃off,pl[p.1]? = some (off,(a.eval p.2).cells.size)∧off+(a.eval p.2).cells.size≤z.cells.size:=by
      intro p hp
      have hlt:p.1<pl.length:=by
       have:=List.all_eq_true.1 hin p hp
       simpa using this
      obtain⟨b,hb⟩:=ak0 p.1 pl[p.1] (List.getElem?_eq_getElem hlt)
      obtain⟨hle,x,u,h1,h2⟩:=hf p.1 _ hb
      rw[Nat.zero_add] at h1
      obtain⟨h3,h4⟩:=To _ _ _ _ _ _ h1 h2
      rcases h4 with⟨p',IM,hpi,hr,hnt⟩ | ⟨hno,_⟩
      ·have:=rJ hnd IM hp hpi
       subst this
       have hsz:=(hr.cellAt hnt).1
       rw[h3] at hsz
       exact⟨pl[p'.1].1,by rw[hsz];exact List.getElem?_eq_getElem hlt,by rw[hsz];exact hle⟩
      ·exact absurd rfl (hno p hp)
     obtain⟨r,hr,tI,Fs⟩:=I4 (place:=fun i=>pl.toArray[i]?) (parts.toList.map fun p=>(p.1,a.eval p.2)) z.cells (fun p hp=>by
      obtain⟨q,hq,rfl⟩:=List.mem_map.1 hp
      obtain⟨off,h1,h2⟩:=hpart q hq
      exact⟨off,by simpa using h1,h2⟩)
     have Oi:P.built t (parts.map fun(x:Nat×Operand)=>(x.1,a.eval x.2)).toList=some r:=by
      unfold Program.built
      simp only[hit,hu,hz]
      unfold BJ at BF
      simp only[BF,Array.toList_map]
      exact hr
     have hcell:∀(k:Nat) (c:D),cs[k]? = some c→c.one=true∧∃v,r[k]? = some v∧bU w ρ.S v c:=by
      intro k c hk
      have hkz:k<z.cells.size:=by rw[←dG];exact(List.getElem?_eq_some_iff.1 hk).1
      obtain⟨f,q,x,u,h1,h2,h3,h4,h5,h6⟩:=Yq k (Nat.zero_le _) hkz
      rw[Nat.sub_zero] at h6
      rw[Nat.zero_add] at h4
      have afz:=aaX f q h1
      obtain⟨h7,h8⟩:=To _ _ _ _ _ _ h4 h5
      have huc:u.cells[k-q.1.1]? = some c:=h6 ▸ hk
      have U_:∀p,p∈parts.toList→p.1≠f→¬JE (fun i=>pl.toArray[i]?) (p.1,a.eval p.2) k:=by
       rintro p hp hne ⟨off,size,h9,tV,VM⟩
       simp only[List.getElem?_toArray] at h9
       have:=FY hap h9 afz hne
       simp only at this
       omega
      rcases h8 with⟨p,hp,hpi,hrd,hnt⟩ | ⟨hno,ds,rfl,hds⟩
      ·obtain⟨h9,v,tV,VM⟩:=(hrd.cellAt hnt).2 _ c huc
       have hsz:=(hrd.cellAt hnt).1
       rw[h7] at hsz
       refine⟨h9,v,?_,VM⟩
       have:=(Fs k hkz).2 (p.1,a.eval p.2) q.1.1 (List.mem_map.2 ⟨p,hp,rfl⟩) (by simp only[List.getElem?_toArray,hpi,afz,hsz]) h2 (by simp only[hsz];exact h3) fun q' Yf hne=>by
        obtain⟨p',IM,rfl⟩:=List.mem_map.1 Yf
        refine U_ p' IM fun e=>hne ?_
        rw[rJ hnd IM hp (e.trans hpi.symm)]
       rw[this];exact tV
      ·have:=(Fs k hkz).1 fun q' Yf=>by
        obtain⟨p',IM,rfl⟩:=List.mem_map.1 Yf
        exact U_ p' IM (hno p' IM)
       rw[this]
       obtain⟨_,hrd⟩:=D.ng (w:=w) (S:=ρ.S) hds
       have mM:((z.cells.toList.drop q.1.1).take q.1.2)[k-q.1.1]? = some z.cells[k]:=by
        rw[List.getElem?_take,if_pos (by omega),List.getElem?_drop,show q.1.1+(k-q.1.1)=k from by omega]
        simp[hkz]
       obtain⟨h9,tV⟩:=hrd _ _ c mM huc
       exact⟨tV,z.cells[k],Array.getElem?_eq_getElem hkz,h9⟩
     refine bS h hd (v:=.agg r) ?_ (.e (d:=.agg cs) (by simp only[E.eval];exact cW) (.agg (by rw[tI,dG]) (fun k c hk=>(hcell k c hk).1) fun k v c Qcz hk=>?_) (by simp))
     ·unfold execOp
      simp only[ho,Sem.run_bind,run_build w t _ r Oi,Result.andThen_ok,Sem.run_pure]
     ·obtain⟨_,v',h1,h2⟩:=hcell k c hk
      rw[Qcz] at h1
      cases h1
      exact h2
    ·cases hl
   ·cases hl
  ·cases hl
 ·cases hl

end
end
end

section
noncomputable section

def jv (obj:Nat→Option bl):Option cz:=
 match obj bN with
 | some (.store cf _)=>some cf
 | _=>none

def Jh (agg:Bool)(n:Nat)(x:E):E:=if agg then .bB n x else .cons (.bt x) .nil

def UO (o:Oper)(act:List (E×Bool))(obj:Nat→Option bl):Bool:=
 match act,o.dst,jv obj with
 | _ :: _,_,_=>true
 | [],some d,some cf=>cf.ab7.contains d
 | _,_,_=>false

def RE (P:Program)(o:Oper)(ct:Operand→SV)(act:List (E×Bool))(obj:Nat→Option bl)(ix:Nat):Option eV:=
 if UO o act obj then
  match o.op with
  | .box t x=>(match lN P t,w9 P t,(ct x).jx with
   | some agg,some n,some x'=>some { val:=.e (.sym ix) true,bind:=some (.ev (.gE (Jh agg n x'))) }
   | _,_,_=>none)
  | .buildSlice t len parts=>(NG P t len (parts.toList) ct (some 0) ix).map fun r=>{ val:=.e (.sym ix) true,bind:=r.bind }
  | _=>none
 else none

def Gx:Operand→Bool
 | .const (.slice none 0 0)=>true
 | _=>false

def Ro (s:Operand)(sv:SV):SV:=if Gx s=true then .e (.const .cq) true else sv

theorem XT {w:World}{ρ:dJ}{env:List D}{a:Act}{s:Operand}{sv:SV}(h:ef w ρ env (a.eval s) sv):ef w ρ env (a.eval s) (Ro s sv):=by
 unfold Ro
 split
 ·rename_i hn
  unfold Gx at hn
  split at hn
  ·exact .e rfl .cq fun _=>rfl
  ·cases hn
 ·exact h

def wJ (P:Program)(o:Oper)(ct:Operand→SV)(hO:Option bl)(ix:Nat):Option eV:=
 match hO,o.dst with
 | some (.store cf h),some d=>
  if cf.ro then none else match o.op with
  | .alloc t=>if cf.Ca.contains d then(match(P.info? t).bind (·.zero) with
   | some z=>(match D.mD cf.FB z.cells.toList with
    | some ds=>some { val:=.e (.aU h) true,eM:=some (bN,.store cf (.sym ix)),bind:=some (.ev (.cI t z.cells.size h (.const (.agg ds)))) }
    | none=>none)
   | none=>none) else none
  | .box t x=>if cf.Ca.contains d then(match lN P t,w9 P t,(ct x).jx with
   | some agg,some n,some x'=>if agg=true∨n=1 then some { val:=.e (.aU h) true,eM:=some (bN,.store cf (.sym ix)),bind:=some (.ev (.cI t n h (Jh agg n x'))) } else none
   | _,_,_=>none) else none
  | .makeSlice t n c=>if cf.Ca.contains d then(match GA cf.FB P t (ct n) (ct c) (some 0) ix,P.underlying t with
   | some { bind:=some (.ev y),.. },some (.slice e)=>(match P.info? e with
    | some i=>if 0<i.size then some { val:=.e (.bO h y) true,eM:=some (bN,.store cf (.sym ix)),bind:=some (.ev (.a_ e i.size h y)) } else none
    | none=>none)
   | _,_=>none) else none
  | .assign x=>if cf.Ca.contains d then(match x with
   | .const (.slice none 0 0)=>some { val:=.e (.const .cq) true }
   | _=>none) else none
  | .call c=>(match c.callee with
   | .builtin .append=>(match c.args.toList,c.argTypes.toList with
    | [s,x],[t,t']=>if t=t'∧¬(Gx s=true∧cf.ab7.contains d=true) then(match Ro s (ct s),(ct x).jx,P.underlying t with
     | .e s' _,some x',some (.slice e)=>(match P.info? e with
      | some i=>(match i.zero with
       | some z=>if z.cells.size=i.size∧0<i.size∧e≠SM then some { val:=.e (.apps h s' x') true,eM:=some (bN,.store cf (.sym ix)),bind:=some (.ev (.fU e i.size i.bytes h s' x')) } else none
       | none=>none)
      | none=>none)
     | _,_,_=>none) else none
    | _,_=>none)
   | _=>none)
  | _=>none
 | _,_=>none

def YZ (o:Oper):Bool:=
 match o.op with
 | .load _ _ | .store _ _ _ | .alloc _ | .box _ _ | .makeSlice _ _ _ | .assign _ | .buildSlice _ _ _ | .makeMap _ _ | .mapUpdate _ _ _ _ | .insert _ _ _ _ | .lookup _ _ _ _ | .range _ _ | .entry _ | .mapEntry _ _ _ | .entryStore _ _ _ _=>true
 | .call c=>(match c.callee with | .value _=>true | .builtin .append=>true | .builtin .len=>true | .builtin .delete=>true | _=>false)
 | _=>false

def SV.Nu:SV→Bool
 | .e _ _=>true
 | .cond _ sv=>sv.Nu
 | _=>false

theorem MY {act:List (E×Bool)}{sv:SV}{x:E}{s:Bool}(h:sv.strip act=.e x s):sv.Nu=true:=by
 unfold SV.strip at h
 split at h
 ·split at h
  ·subst h;rfl
  ·cases h
 ·subst h;rfl

def zy:Option bl→Option cz
 | some (.store cf _)=>some cf
 | _=>none

def Ig (cf:Option cz):Callee→Bool
 | .value (.func g)=>(match cf with | some cf=>cf.aeA.contains g | none=>false)
 | _=>false

def iq (o:Oper)(m:Operand→Bool)(cf:Option cz):Bool:=
 match o.op with
 | .load _ x=>m x
 | .store _ x _=>m x
 | .alloc _ | .box _ _ | .makeSlice _ _ _=>match cf,o.dst with
  | some cf,some d=>cf.Ca.contains d
  | _,_=>false
 | .makeMap _ _ | .mapUpdate _ _ _ _ | .insert _ _ _ _ | .lookup _ _ _ _ | .range _ _ | .entry _ | .mapEntry _ _ _ | .entryStore _ _ _ _=>true
 | .call c=>(match c.callee with
  | .value _=>!Ig cf c.callee
  | .builtin .append=>match c.args.toList with
   | s :: _=>m s||Gx s
   | []=>false
  | .builtin .len=>(match cf with
   | some cf=>c.argTypes.toList.any cf.maps.contains
   | none=>false)
  | .builtin .delete=>true
  | _=>false)
 | _=>false

def RA (P:Program)(o:Oper)(ct:Operand→SV)(obj:Nat→Option bl)(ix:Nat):Option eV:=
 if YZ o=true then wJ P o ct (obj bN) ix else none

section
variable {P:Program} {w w0:World} {X:kG} {a:Act} {σ:af} {env:List D} {ρ:dJ}

theorem Hi {S:Sets}{agg:Bool}{n:Nat}{x:E}{d dc:D}{v:Value}(hx:x.eval env=some d)(hr:bU w S v d)(hc:(Jh agg n x).eval env=some dc):∃cs,dc=.agg cs∧v.cells.size=cs.length∧(agg=true→cs.length=n)∧(agg=false→cs.length=1)∧(∀(i:Nat) (u:Value),v.cells[i]? = some u→u.oneCell'=true) ∧
  (∀(i:Nat) (c:D),cs[i]? = some c→c.one=true)∧∀(i:Nat) (u:Value) (c:D),v.cells[i]? = some u→cs[i]? = some c→bU w S u c:=by
 unfold Jh at hc
 split at hc
 ·rename_i hagg
  simp only[E.eval,hx,Option.bind_some] at hc
  unfold D.bB at hc
  split at hc
  ·rename_i cs
   split at hc
   ·rename_i hl
    cases hc
    obtain⟨vs,rfl,hvl,ho,hh⟩:=hr.lV
    refine⟨cs,rfl,hvl,fun _=>hl,(by simp[hagg]),fun i u hu=>?_,fun i c hc=>ho i c hc,hh⟩
    have hi:i<cs.length:=by rw[←hvl];exact(Array.getElem?_eq_some_iff.1 hu).1
    exact(hh i u _ hu (List.getElem?_eq_getElem hi)).one (ho i _ (List.getElem?_eq_getElem hi))
   ·cases hc
  ·cases hc
 ·rename_i hagg
  simp only[E.eval,hx,Option.bind_some,D.bt] at hc
  by_cases h1:d.one=true
  ·rw[if_pos h1] at hc
   simp only[Option.bind_some,D.L5 h1] at hc
   cases hc
   obtain⟨g1,g2,g3⟩:=hr.Mc (by rw[D.cells_one h1];simp[h1])
   rw[D.cells_one h1] at g1 g3
   refine⟨[d],rfl,g1,(by simp[hagg]),fun _=>rfl,g2,fun i c hc=>?_,g3⟩
   cases i with
   | zero=>simp at hc;subst hc;exact h1
   | succ i=>simp at hc
  ·rw[if_neg h1] at hc
   cases hc

theorem NL {o:Oper}{ct:Operand→SV}{act:List (E×Bool)}{ix:Nat}{r:eV}(hv:∀x,ef w ρ env (a.eval x) (ct x))(hl:RE P o ct act σ.obj ix=some r)(h:cu w0 X w a σ env ρ)(hd:∀d,o.dst=some d→d<σ.tmps.length)(hb:cn P env ix r.bind) :
  r.eM=none∧gq P o a w w0 X (σ.put o.dst r.val) env:=by
 unfold RE at hl
 split at hl
 ·split at hl
  ·rename_i t x ho
   split at hl
   ·rename_i agg n x' hg hn hx
    cases hl
    obtain⟨dx,pY,mT⟩:=SV.ck hx (hv x)
    obtain⟨d,he,cW⟩:=hb
    simp only[E.eval,Option.bind_eq_some_iff] at he
    obtain⟨dc,hdc,he⟩:=he
    obtain⟨cs,rfl,h1,_,_,h2,h3,h4⟩:=Hi pY mT hdc
    simp only[D.gE] at he
    cases he
    have hrun:(execOp a.eval o).run P w=.ok (.value (.pointer (some ⟨w.heap.size,0,none⟩))) (w.alloc (.cells (a.eval x).cells t)):=by
     unfold execOp
     simp only[ho,Instr.box,Sem.run_bind,Result.andThen_ok,newVar,newRow,Sem.run_pure,run_newObj]
     rfl
    have bn:=h.WM (.cells (a.eval x).cells t)
    have hK:bW ρ.S w (w.alloc (.cells (a.eval x).cells t)):=bW.alloc h.cells _
    refine⟨rfl,c_ hrun (bn.put hd (.e (d:=.ptr cs) (by simp[E.eval,cW]) ?_ fun _=>rfl))⟩
    have hcell:∀(j:Nat) (c:D),cs[j]? = some c→∃u,(a.eval x).cells[j]? = some u:=fun j c hj=>⟨_,Array.getElem?_eq_getElem (by rw[h1];exact(List.getElem?_eq_some_iff.1 hj).1)⟩
    refine .ptr (val:=fun j=>(a.eval x).cells.getD j undef) h3 (fun j c hj=>.inr rfl) (fun j c hj=>?_) fun j c hj=>?_
    ·obtain⟨u,hu⟩:=hcell j c hj
     rw[gD (heap_alloc_new w _),Nat.zero_add,hu,Array.getD_eq_getD_getElem?,hu]
     rfl
    ·obtain⟨u,hu⟩:=hcell j c hj
     rw[Array.getD_eq_getD_getElem?,hu]
     exact(h4 j u c hu hj).keep hK (ρ.S.rN _)
   ·cases hl
  ·rename_i t len parts ho
   obtain⟨r0,U6,rfl⟩:=Option.map_eq_some_iff.1 hl
   unfold NG at U6
   split at U6
   ·rename_i e ig hu
    split at U6
    ·rename_i i agg y hi JK hy
     split at U6
     ·rename_i hc
      cases U6
      obtain⟨hidx,hpos,hsmall,hagg,hzero⟩:=hc
      have hsz:w9 P e=some i.size:=by simp[w9,hi]
      rw[JK,hsz] at hy
      simp only[Option.getD_some] at hy
      obtain⟨dz,cV,cW⟩:=hb
      obtain⟨z,hz⟩:=Option.isSome_iff_exists.1 hzero
      obtain⟨r,ds,rfl,Of,U0,tI,hml,hrow⟩:=P7 ho hv hu hi hy hidx hpos hsmall hagg hz cV
      have bn:=h.WM (.cells r e)
      have hK:bW ρ.S w (w.alloc (.cells r e)):=bW.alloc h.cells _
      refine⟨rfl,c_ U0 (bn.put hd (.e (d:=.bq ds) (by simp[E.eval,cW]) ?_ fun _=>rfl))⟩
      have hown:(w.alloc (.cells r e)).ownsRow 0 e i.size (.slice (some ⟨w.heap.size,0,none⟩) len len) len r.toList:=World.ownsRow_lit w r len (Nat.zero_le _) hml tI
      exact HX hown Of (hrow.keep hK (ρ.S.rN _)) fun b hb j hj=>.inr (by simpa[Value.ownBlock] using hb.symm)
     ·cases U6
    ·cases U6
   ·cases U6
  ·cases hl
 ·cases hl

theorem H8 {S:Sets}{size:Nat}{v:Value}{ys:List D}(h:bU w S v (.bq ys))(hz:bK size ys=true) :
  (v=.slice none 0 0∧ys=[])∨∃(ad:Addr) (m c:Nat) (news:List Value),v=.slice (some ad) m c∧ys.length=m∧news.length=m*size∧(∀j u,news[j]? = some u→w.cell? (ad.add j)=some u)∧(∀u∈news,u.oneCell'=true)∧mj w S size news ys:=by
 have Mx:∀(i:Nat) (e:D),ys[i]? = some e→e.cells.length=size:=fun i e he=>oZ hz he
 cases h with
 | nil=>exact .inl ⟨rfl,rfl⟩
 | @emp ad c _=>exact .inr ⟨ad,0,c,[],rfl,rfl,by simp,by simp,by simp,by simp,Mx,by simp⟩
 | @bq b off len cap size' _ val hl hc hm My ho hS hw hr=>
  right
  refine⟨⟨b,off,none⟩,len,cap,(List.range (len*size)).map fun q=>val (q / size) (q % size),rfl,hl.symm,by simp,?_,?_,by simp[hl],Mx,?_⟩
  all_goals
   have mM:∀q,q<len*size→∃e d,ys[q / size]? = some e∧e.cells[q % size]? = some d∧size'=size:=by
    intro q hq
    have hs:0<size:=by
     rcases Nat.eq_zero_or_pos size with h0 | h0
     ·subst h0;simp at hq
     ·exact h0
    have hi:q / size<ys.length:=by rw[←hl];exact(Nat.div_lt_iff_lt_mul hs).2 hq
    have dG:=Mx _ _ (List.getElem?_eq_getElem hi)
    have hj:q % size<(ys[q / size]).cells.length:=by rw[dG];exact Nat.mod_lt _ hs
    exact⟨_,_,List.getElem?_eq_getElem hi,List.getElem?_eq_getElem hj,(My _ _ (List.getElem?_eq_getElem hi)).symm.trans dG⟩
  ·intro j u hu
   simp only[List.getElem?_map,Option.map_eq_some_iff] at hu
   obtain⟨q,hq,rfl⟩:=hu
   obtain⟨hjl,rfl⟩:=List.getElem?_eq_some_iff.1 hq
   simp only[List.length_range] at hjl
   simp only[List.getElem_range]
   obtain⟨e,d,h1,h2,rfl⟩:=mM j hjl
   have:=hw _ _ _ _ h1 h2
   rw[iR]
   have FO:=Nat.div_add_mod j size'
   rw[Nat.mul_comm] at FO
   rw[show off+j=off+j / size'*size'+j % size' from by omega]
   exact this
  ·intro u hu
   simp only[List.mem_map,List.mem_range] at hu
   obtain⟨q,hq,rfl⟩:=hu
   obtain⟨e,d,h1,h2,rfl⟩:=mM q hq
   exact(hr _ _ _ _ h1 h2).one (ho _ _ _ _ h1 h2)
  ·intro i e j d he hd
   obtain⟨hlt,hj⟩:=uP Mx he hd
   refine⟨ho _ _ _ _ he hd,val i j,?_,hr _ _ _ _ he hd⟩
   have hq:i*size+j<len*size:=by rw[hl];exact hlt
   rw[List.getElem?_map,List.getElem?_range hq]
   have hs:0<size:=by omega
   have h1:(i*size+j) / size=i:=by
    rw[Nat.mul_comm,Nat.mul_add_div hs,Nat.div_eq_of_lt hj,Nat.add_zero]
   have h2:(i*size+j) % size=j:=by
    rw[Nat.mul_comm,Nat.mul_add_mod,Nat.mod_eq_of_lt hj]
   simp[h1,h2]

theorem xS {sz:Nat}:∀{n:Nat} {cs:List D} {i:Nat},i<n→(chunks sz n cs)[i]? = some ((cs.drop (i*sz)).take sz)
 | 0,_,_,h=>absurd h (Nat.not_lt_zero _)
 | n+1,cs,0,_=>by simp[chunks]
 | n+1,cs,i+1,h=>by
  rw[chunks,List.getElem?_cons_succ,xS (by omega),List.drop_drop,Nat.succ_mul,Nat.add_comm]
theorem l5 {sz:Nat}:∀{n:Nat} {cs:List D},(chunks sz n cs).length=n
 | 0,_=>rfl
 | n+1,cs=>by rw[chunks,List.length_cons,l5]

theorem yN {S:Sets}{aJ:Nat→Prop}{bs:List D}{size:Nat}{v:Value}{dy:D}{ys:List D}(hst:dF w S aJ bs)(h:bU w S v dy)(ha:D.JN (.st bs) size dy=some ys)(hz:bK size ys=true) :
  (ys=[]∧(v=.slice none 0 0∨∃ad c,v=.slice (some ad) 0 c))∨∃(ad:Addr) (m c:Nat) (news:List Value),v=.slice (some ad) m c∧ys.length=m∧news.length=m*size∧(∀j u,news[j]? = some u→w.cell? (ad.add j)=some u)∧(∀u∈news,u.oneCell'=true)∧mj w S size news ys:=by
 unfold D.JN at ha
 split at ha
 ·cases ha
  rcases H8 h hz with⟨h1,h2⟩ | h1
  ·exact .inl ⟨h2,.inl h1⟩
  ·exact .inr h1
 ·cases ha
  cases h
  exact .inl ⟨rfl,.inl rfl⟩
 ·rename_i j off m
  split at ha
  ·rename_i hm
   subst hm
   cases ha
   cases h
   exact .inl ⟨rfl,.inr ⟨_,_,rfl⟩⟩
  ·obtain⟨blk,hblk,ha⟩:=Option.bind_eq_some_iff.1 ha
   split at ha
   ·rename_i hfit
    cases ha
    obtain⟨hf,vs,⟨e',hh,FL⟩,hsz,hlen,hone,hr,oa⟩:=hst.cells j _ _ _ (oW hblk)
    cases h with
    | @sl _ _ _ c hj hle GR h0=>
    right
    refine⟨⟨S.loc j,off,none⟩,m,c,(vs.toList.drop off).take (m*size),rfl,by simp[l5],?_,fun q u hq=>?_,fun u hu=>?_,?_,fun i e he=>oZ hz he,fun i e q d he hd=>?_⟩
    ·rw[List.length_take,List.length_drop,Array.length_toList]
     omega
    ·rw[List.getElem?_take] at hq
     split at hq
     ·rw[List.getElem?_drop] at hq
      rw[iR]
      simp only[World.cell?,hh]
      simpa using hq
     ·cases hq
    ·obtain⟨q,hq⟩:=List.getElem?_of_mem hu
     rw[List.getElem?_take] at hq
     split at hq
     ·rename_i hql
      rw[List.getElem?_drop] at hq
      have dG:off+q<blk.2.2.length:=by omega
      have hd:=List.getElem?_eq_getElem dG
      exact(hr _ _ _ (by simpa using hq) hd).one (hone _ _ hd)
     ·cases hq
    ·rw[List.length_take,List.length_drop,Array.length_toList,List.length_map,l5]
     omega
    ·have hi:i<m:=by
      have:=(List.getElem?_eq_some_iff.1 he).1
      rw[List.length_map,l5] at this
      exact this
     rw[List.getElem?_map,xS hi] at he
     cases he
     simp only[D.cells] at hd
     rw[List.getElem?_take] at hd
     split at hd
     ·rename_i hq
      rw[List.drop_drop,List.getElem?_drop] at hd
      have hlt:i*size+q<m*size:=by
       have:(i+1)*size≤m*size:=Nat.mul_le_mul_right _ hi
       rw[Nat.succ_mul] at this
       omega
      refine⟨hone _ _ hd,?_⟩
      have hvl:off+(i*size+q)<vs.size:=by omega
      refine⟨vs[off+(i*size+q)],?_,hr _ _ _ (Array.getElem?_eq_getElem hvl) (by rw[←Nat.add_assoc];exact hd)⟩
      rw[List.getElem?_take,if_pos hlt,List.getElem?_drop]
      simp[hvl]
     ·cases hd
   ·cases ha
 ·cases ha

theorem mj.append {S:Sets}{size:Nat}{xs ys:List Value}{es fs:List D}(h:mj w S size xs es)(k:mj w S size ys fs):mj w S size (xs++ys) (es++fs):=by
 obtain⟨h1,h2,h3⟩:=h
 obtain⟨k1,k2,k3⟩:=k
 refine⟨by simp[h1,k1,Nat.add_mul],fun i e he=>?_,fun i e j d he hd=>?_⟩
 ·rw[List.getElem?_append] at he
  split at he
  ·exact h2 i e he
  ·exact k2 _ e he
 ·rw[List.getElem?_append] at he
  split at he
  ·obtain⟨h4,v,h5,h6⟩:=h3 i e j d he hd
   refine⟨h4,v,?_,h6⟩
   rw[List.getElem?_append_left (by rw[h1];exact(uP h2 he hd).1)]
   exact h5
  ·rename_i hi
   obtain⟨h4,v,h5,h6⟩:=k3 _ e j d he hd
   refine⟨h4,v,?_,h6⟩
   have hle:es.length*size≤i*size:=Nat.mul_le_mul_right _ (by omega)
   rw[List.getElem?_append_right (by rw[h1];omega),h1]
   rw[show i*size+j-es.length*size=(i-es.length)*size+j from by rw[Nat.sub_mul];omega]
   exact h5


/-! ## new blocks of the store -/

def Sets.more (S:Sets)(b k:Nat)(l:Loop×Code:=default):Sets:={ mem:=S.mem,loc:=fun i=>if i=S.n then b else S.loc i,n:=S.n+1,cap:=fun i=>if i=S.n then k else S.cap i,hold:=S.hold,mH:=fun i=>if i=S.n then l else S.mH i }

theorem Sets.qw (S:Sets)(b k:Nat)(l:Loop×Code:=default):S≤S.more b k l:=
 ⟨fun _ _ h=>h,Nat.le_succ _,fun i hi=>by simp[Sets.more,Nat.ne_of_lt hi],fun i hi=>by simp[Sets.more,Nat.ne_of_lt hi],rfl,fun i hi=>by simp[Sets.more,Nat.ne_of_lt hi]⟩

theorem pK {w':World} {bs lg:List D} {k b:Nat} {l:Loop×Code} {z:D} {bV:Nat→Prop} (hst:dF w ρ.S ρ.aJ bs) (hK:bW ρ.S w w') (uY:lg.length=bs.length) (hold:∀(i:Nat) (x:D),lg[i]? = some x→x.live=true→bs[i]? = some x∧ρ.S.loc i≠b∧w'.heap[ρ.S.loc i]? = w.heap[ρ.S.loc i]?)
  (hf:∀c,bV c↔(ρ.aJ c∨c=b))
  (GK:∀e sz cs,z=.blk e sz cs→∃vs:Array Value,o7 w' b vs e∧vs.size=k*sz∧cs.length≤vs.size∧(∀(j:Nat) (d:D),cs[j]? = some d→d.one=true)∧∀(j:Nat) (v:Value) (d:D),vs[j]? = some v→cs[j]? = some d→bU w ρ.S v d)
  (UR:∀dL,z=.iE dL→∃(es:Array MapEntry) (clock:Nat),w'.heap[b]? = some (.map es clock)∧aaZ es clock dL∧∀(j:Nat) (e:MapEntry) (kv:D),es[j]? = some e→(D.kept dL)[j]? = some kv→∃dk dv,kv=.bh [dk,dv]∧bU w ρ.S e.key dk∧bU w ρ.S e.val dv)
  (hS:∀off,¬ρ.S b off) (hz3:z.isIt=true→A8 (ρ.S.more b k l) ρ.S.n w'.heap[b]? z:=by intro hz;cases hz):dF w' (ρ.S.more b k l) bV (lg++[z]):=by
 have hle:=ρ.S.qw b k l
 have gT:∀(i:Nat) (x:D),(lg++[z])[i]? = some x→(i=ρ.S.n∧x=z)∨(i<ρ.S.n∧lg[i]? = some x):=by
  intro i x hi
  rw[List.getElem?_append] at hi
  split at hi
  ·rename_i hlt
   exact .inr ⟨by rw[hst.n,←uY];exact hlt,hi⟩
  ·rename_i hge
   have ZA:i-lg.length=0:=by
    have:=(List.getElem?_eq_some_iff.1 hi).1
    simp at this
    omega
   rw[ZA] at hi
   simp only[List.getElem?_cons_zero,Option.some.injEq] at hi
   exact .inl ⟨by rw[hst.n,←uY];omega,hi.symm⟩
 have h1:(ρ.S.more b k l).loc ρ.S.n=b:=by simp[Sets.more]
 have h2:(ρ.S.more b k l).cap ρ.S.n=k:=by simp[Sets.more]
 refine⟨by simp[Sets.more,hst.n,uY],fun i e' sz' cs' hi=>?_,fun c off hc hs=>?_,fun i dL hi=>?_,fun i j x y hi hj hx hy hl=>?_,fun i y hi hy=>?_⟩
 ·rcases gT i _ hi with⟨rfl,hz⟩ | ⟨hlt,hi⟩
  ·rw[h1,h2]
   obtain⟨vs,g1,g2,g3,g4,g5⟩:=GK _ _ _ hz.symm
   exact⟨(hf b).2 (.inr rfl),vs,g1,g2,g3,g4,fun j v d hv hd=>(g5 j v d hv hd).keep hK hle,hS⟩
  ·obtain⟨hi',hne,hh⟩:=hold i _ hi rfl
   obtain⟨g1,us,g2,g3,g4,g5,g6,g7⟩:=hst.cells i _ _ _ hi'
   rw[hle.loc i hlt,hle.cap i hlt]
   exact⟨(hf _).2 (.inl g1),us,g2.to hh,g3,g4,g5,fun j v d hv hd=>(g6 j v d hv hd).keep hK hle,g7⟩
 ·rcases(hf c).1 hc with h1 | rfl
  ·exact hst.Cw c off h1 hs
  ·exact hS off hs
 ·rcases gT i _ hi with⟨rfl,hz⟩ | ⟨hlt,hi⟩
  ·rw[h1]
   obtain⟨es,clock,g1,g2,g3⟩:=UR _ hz.symm
   refine⟨(hf b).2 (.inr rfl),es,clock,g1,g2,hS,fun j e kv he hkv=>?_⟩
   obtain⟨dk,dv,g4,g5,g6⟩:=g3 j e kv he hkv
   exact⟨dk,dv,g4,g5.keep hK hle,g6.keep hK hle⟩
  ·obtain⟨hi',hne,hh⟩:=hold i _ hi rfl
   obtain⟨g1,es,clock,g2,g3,g4,g5⟩:=hst.maps i _ hi'
   rw[hle.loc i hlt]
   refine⟨(hf _).2 (.inl g1),es,clock,by rw[hh];exact g2,g3,g4,fun j e kv he hkv=>?_⟩
   obtain⟨dk,dv,g6,g7,g8⟩:=g5 j e kv he hkv
   exact⟨dk,dv,g6,g7.keep hK hle,g8.keep hK hle⟩
 ·rcases gT i _ hi with⟨rfl,_⟩ | ⟨hlt,hi⟩ <;> rcases gT j _ hj with⟨rfl,_⟩ | ⟨hlt',hj⟩
  ·rfl
  ·rw[hle.loc j hlt',h1] at hl
   exact absurd hl.symm (hold j _ hj hy).2.1
  ·rw[hle.loc i hlt,h1] at hl
   exact absurd hl (hold i _ hi hx).2.1
  ·rw[hle.loc i hlt,hle.loc j hlt'] at hl
   exact hst.inj i j _ _ (hold i _ hi hx).1 (hold j _ hj hy).1 hx hy hl
 ·rcases gT i _ hi with⟨rfl,hz⟩ | ⟨hlt,hi⟩
  ·subst hz
   rw[h1]
   exact⟨(hf b).2 (.inr rfl),hz3 hy,hS⟩
  ·obtain⟨hi',hne,hh⟩:=hold i _ hi (D.jQ hy)
   obtain⟨g1,g2,g4⟩:=hst.FJ i _ hi' hy
   rw[hle.loc i hlt,hh]
   exact⟨(hf _).2 (.inl g1),g2.to hle.n hle.loc (hle.mH i hlt),g4⟩

theorem Gf {w':World} {bs lg:List D} {vs:Array Value} {e:TypeId} {sz k b:Nat} {cs:List D} {bV:Nat→Prop} (hst:dF w ρ.S ρ.aJ bs) (hK:bW ρ.S w w') (uY:lg.length=bs.length) (hold:∀(i:Nat) (x:D),lg[i]? = some x→x.live=true→bs[i]? = some x∧ρ.S.loc i≠b∧w'.heap[ρ.S.loc i]? = w.heap[ρ.S.loc i]?)
  (hf:∀c,bV c↔(ρ.aJ c∨c=b)) (hb:w'.heap[b]? = some (.cells vs e (0,0))) (hvs:vs.size=k*sz) (dG:cs.length≤vs.size) (hone:∀(j:Nat) (d:D),cs[j]? = some d→d.one=true)
  (hr:∀(j:Nat) (v:Value) (d:D),vs[j]? = some v→cs[j]? = some d→bU w ρ.S v d) (hS:∀off,¬ρ.S b off):dF w' (ρ.S.more b k) bV (lg++[.blk e sz cs]):=by
 refine pK hst hK uY hold hf (fun e' sz' cs' hz=>?_) (fun dL hz=>by cases hz) hS
 cases hz
 exact⟨vs,.of hb,hvs,dG,hone,hr⟩

theorem cu.Aw (h:cu w0 X w a σ env ρ) {cf:cz} {x x':E} (dN:σ.obj bN=some (.store cf x)) (hro:cf.ro=false) {bs:List D} (jC:x.eval env=some (.st bs)) {ob:Obj} {k:Nat} {l:Loop×Code} {z:D}
  (GK:∀e sz cs,z=.blk e sz cs→∃vs:Array Value,ob=.cells vs e (0,0)∧vs.size=k*sz∧cs.length≤vs.size∧(∀(j:Nat) (d:D),cs[j]? = some d→d.one=true)∧∀(j:Nat) (v:Value) (d:D),vs[j]? = some v→cs[j]? = some d→bU w ρ.S v d)
  (UR:∀dL,z=.iE dL→∃(es:Array MapEntry) (clock:Nat),ob=.map es clock∧aaZ es clock dL∧∀(j:Nat) (e:MapEntry) (kv:D),es[j]? = some e→(D.kept dL)[j]? = some kv→∃dk dv,kv=.bh [dk,dv]∧bU w ρ.S e.key dk∧bU w ρ.S e.val dv)
  (hx':x'.eval env=some (.st (bs++[z]))) (hz3:z.isIt=true→A8 (ρ.S.more w.heap.size k l) ρ.S.n (some ob) z:=by intro hz;cases hz) :
  cu w0 X (w.alloc ob) a (σ.setObj bN (some (.store cf x'))) env { ρ with S:=ρ.S.more w.heap.size k l,aJ:=fun c=>ρ.aJ c∨c=w.heap.size }∧ρ.S.n=bs.length:=by
 obtain⟨rp,hb0,hst,_⟩:=h.dO _ _ dN
 rw[jC] at hb0
 cases hb0
 have hK:bW ρ.S w (w.alloc ob):=bW.alloc h.cells _
 have hfl:∀b,ρ.aJ b→b<w.heap.size:=gZ h dN
 refine⟨h.iu dN hro hx' (pK hst hK rfl (fun i x hi hx=>?_) (fun _=>Iff.rfl) (fun e sz cs hz=>?_) (fun dL hz=>?_) (fun off hs=>?_) fun hz=>?_) hK (ρ.S.qw _ _ _) rfl ⟨rfl,Nat.le_refl _⟩ rfl (by simp) (fun b hb _=>Qcx w _ b hb) (fun b hb=>?_) (fun b o hs=>.inl hs) (fun b o hs=>?_),hst.n⟩
 ·have:=hfl _ (hst.jl hi hx)
  exact⟨hi,Nat.ne_of_lt this,Qcx w _ _ this⟩
 ·obtain⟨vs,rfl,g⟩:=GK e sz cs hz
  exact⟨vs,.of (heap_alloc_new w _),g⟩
 ·obtain⟨es,clock,rfl,g⟩:=UR dL hz
  exact⟨es,clock,heap_alloc_new w _,g⟩
 ·have:=h.cells _ off hs;omega
 ·rw[heap_alloc_new w]
  exact hz3 hz
 ·rcases hb with hb | rfl
  ·exact⟨.inl hb,by have:=hfl b hb;simp;omega⟩
  ·exact⟨.inr (Nat.le_refl _),by simp⟩
 ·have:=h.cells b o hs;simp;omega

theorem cu.DP (h:cu w0 X w a σ env ρ) {cf:cz} {x x':E} (dN:σ.obj bN=some (.store cf x)) (hro:cf.ro=false) {bs:List D} (jC:x.eval env=some (.st bs)) {vs:Array Value} {e:TypeId} {sz k:Nat} {cs:List D} (hvs:vs.size=k*sz) (dG:cs.length≤vs.size) (hone:∀(j:Nat) (d:D),cs[j]? = some d→d.one=true)
  (hr:∀(j:Nat) (v:Value) (d:D),vs[j]? = some v→cs[j]? = some d→bU w ρ.S v d) (hx':x'.eval env=some (.st (bs++[.blk e sz cs]))) :
  cu w0 X (w.alloc (.cells vs e)) a (σ.setObj bN (some (.store cf x'))) env { ρ with S:=ρ.S.more w.heap.size k,aJ:=fun c=>ρ.aJ c∨c=w.heap.size }∧ρ.S.n=bs.length:=by
 refine h.Aw dN hro jC (fun e' sz' cs' hz=>?_) (fun dL hz=>by cases hz) hx'
 cases hz
 exact⟨vs,rfl,hvs,dG,hone,hr⟩

theorem E9 {size:Nat}:∀{es:List D},bK size es=true→(cB es).length=es.length*size
 | [],_=>by simp[cB]
 | e :: es,h=>by
  simp only[bK,List.all_cons,Bool.and_eq_true,beq_iff_eq] at h
  have ih:=E9 (es:=es) (size:=size) (by simpa[bK] using h.2)
  simp only[cB,List.flatMap_cons,List.length_append,List.length_cons] at ih ⊢
  rw[ih,h.1,Nat.add_mul,Nat.one_mul,Nat.add_comm]

theorem E_ {size:Nat}(hs:0<size):∀{es:List D},bK size es=true→∀{j:Nat} {d:D},(cB es)[j]? = some d→∃e,es[j / size]? = some e∧e.cells[j % size]? = some d
 | [],_,j,d,h=>by simp[cB] at h
 | e :: es,h,j,d,hj=>by
  simp only[bK,List.all_cons,Bool.and_eq_true,beq_iff_eq] at h
  simp only[cB,List.flatMap_cons] at hj
  rcases Nat.lt_or_ge j size with hlt | hge
  ·rw[List.getElem?_append_left (by omega)] at hj
   exact⟨e,by rw[Nat.div_eq_of_lt hlt];rfl,by rw[Nat.mod_eq_of_lt hlt];exact hj⟩
  ·rw[List.getElem?_append_right (by omega),h.1] at hj
   obtain⟨e',h1,h2⟩:=E_ hs (es:=es) (by simpa[bK] using h.2) hj
   have hd:j / size=(j-size) / size+1:=by
    rw[Nat.div_eq_sub_div hs hge]
   have hm:j % size=(j-size) % size:=by rw[Nat.mod_eq_sub_mod hge]
   exact⟨e',by rw[hd];simpa using h1,by rw[hm];exact h2⟩

theorem mj.flat {S:Sets}{size:Nat}{xs:List Value}{es:List D}(hs:0<size)(h:mj w S size xs es):bK size es=true∧(cB es).length=xs.length∧∀(j:Nat) (v:Value) (d:D),xs[j]? = some v→(cB es)[j]? = some d→bU w S v d∧d.one=true:=by
 obtain⟨h1,h2,h3⟩:=h
 have hall:bK size es=true:=by
  unfold bK
  rw[List.all_eq_true]
  intro e he
  obtain⟨i,hi⟩:=List.getElem?_of_mem he
  simpa using h2 i e hi
 refine⟨hall,by rw[E9 hall,h1],fun j v d hv hd=>?_⟩
 obtain⟨e,he,fz⟩:=E_ hs hall hd
 obtain⟨g1,u,g2,g3⟩:=h3 _ e _ d he fz
 have FO:j / size*size+j % size=j:=by rw[Nat.mul_comm];exact Nat.div_add_mod j size
 rw[FO,hv] at g2
 cases g2
 exact⟨g3,g1⟩

theorem EA {w':World}{k:Nat}{hx:E}{bs:List D}{bV:Nat→Prop}(jC:hx.eval env=some (.st bs))(hn:ρ.S.n=bs.length):ef w' { ρ with S:=ρ.S.more w.heap.size k,aJ:=bV } env (.pointer (some ⟨w.heap.size,0,none⟩)) (.e (.aU hx) true):=by
 refine .e (d:=.loc bs.length 0) (by simp only[E.eval,jC];rfl) ?_ fun _=>rfl
 have:=bU.loc (w:=w') (S:=ρ.S.more w.heap.size k) (i:=bs.length) (off:=0) (by simp[Sets.more,hn])
 have hl:(ρ.S.more w.heap.size k).loc bs.length=w.heap.size:=by simp[Sets.more,hn]
 rwa [hl] at this

theorem VQ {w':World}{hx y:E}{bs:List D}{es:List D}{bV:Nat→Prop}(jC:hx.eval env=some (.st bs))(S8:y.eval env=some (.bq es))(hm:es.length≤maxLen)(hn:ρ.S.n=bs.length):ef w' { ρ with S:=ρ.S.more w.heap.size es.length,aJ:=bV } env (.slice (some ⟨w.heap.size,0,none⟩) es.length es.length) (.e (.bO hx y) true):=by
 refine .e (d:=.sl bs.length 0 es.length) (by simp only[E.eval,jC,S8];rfl) ?_ fun _=>rfl
 have:=bU.sl (w:=w') (S:=ρ.S.more w.heap.size es.length) (i:=bs.length) (off:=0) (len:=es.length) (c:=es.length) (by simp[Sets.more,hn]) (Nat.le_refl _) hm (fun _=>by simp[Sets.more,hn])
 have hl:(ρ.S.more w.heap.size es.length).loc bs.length=w.heap.size:=by simp[Sets.more,hn]
 rwa [hl] at this

theorem RC {o:Oper}{t:TypeId}{n c:Operand}{sn sc:SV}{ix dd:Nat}{r:eV}{y:E}{dl:D}{nz:Bool}(ho:o.op=.makeSlice t n c)(hl:GA nz P t sn sc (some dd) ix=some r)(hn:ef w ρ env (a.eval n) sn)(hc:ef w ρ env (a.eval c) sc)(hy:r.bind=some (.ev y))(US:y.eval env=some dl) :
  ∃(e:TypeId) (i:TypeInfo) (es:List D) (vs:Array Value),P.underlying t=some (.slice e)∧P.info? e=some i∧dl=.bq es∧(execOp a.eval o).run P w=.ok (.value (.slice (some ⟨w.heap.size,0,none⟩) es.length es.length)) (w.alloc (.cells vs e))∧vs.size=es.length*i.size∧es.length≤maxLen∧mj w ρ.S i.size vs.toList es:=by
 unfold GA at hl
 split at hl
 ·rename_i d e n' c' ig hu hn' zf
  split at hl
  ·rename_i i hi
   obtain⟨z,hz,hl⟩:=Option.bind_eq_some_iff.1 hl
   obtain⟨dz,hdz,hl⟩:=Option.bind_eq_some_iff.1 hl
   split at hl
   ·rename_i wP
    cases hl
    cases hy
    obtain⟨hsame,hlen,aa0⟩:=wP
    obtain⟨dn,hdn,hrn⟩:=SV.ck hn' hn
    obtain⟨dc,hdc,hrc⟩:=SV.ck zf hc
    rw[←E.dU hsame,hdn] at hdc
    cases hdc
    simp only[E.eval,hdn,Option.bind_some] at US
    unfold D.rep at US
    split at US
    ·rename_i k
     split at US
     ·rename_i hk
      obtain⟨CE,hkb,hkm⟩:=hk
      cases US
      have hzr:bU w ρ.S z dz:=D.Gt hdz
      obtain⟨hzl,hzc⟩:=hzr.cellAt aa0
      rw[hlen] at hzl
      have abc:k≤9223372036854775807:=by
       have h9:k.toNat≤9223372036854775807:=hkm
       omega
      have hbytes:(i.bytes:Int)*k≤281474976710656:=by
       have h1:((k.toNat*i.bytes:Nat):Int)≤140737488355328:=by
        generalize k.toNat*i.bytes=q at hkb ⊢
        omega
       rw[Int.natCast_mul,Int.toNat_of_nonneg CE,Int.mul_comm] at h1
       omega
      have hrun:(execOp a.eval o).run P w=.ok (.value (.slice (some ⟨w.heap.size,0,none⟩) k.toNat k.toNat)) (w.alloc (.cells (madeCells z.cells (k.toNat*i.size)) e)):=by
       unfold execOp
       simp only[ho,hrn.v_eq,hrc.v_eq,Sem.run_bind,run_make w t e i z hu hi hz .i64 .i64 k k CE (Int.le_refl _) hbytes abc,Result.andThen_ok,Sem.run_pure]
      have Lg:∀(m:Nat) (x:D),(List.replicate k.toNat dz)[m]? = some x→x=dz∧m<k.toNat:=by
       intro m x hx
       rw[List.getElem?_replicate] at hx
       split at hx
       ·cases hx;exact⟨rfl,by assumption⟩
       ·cases hx
      refine⟨e,i,List.replicate k.toNat dz,madeCells z.cells (k.toNat*i.size),hu,hi,rfl,by simpa using hrun,by simp[size_madeCells],by simpa using hkm,by simp[size_madeCells],fun m x hx=>by rw[(Lg m x hx).1];exact hlen,fun m x j y hx hy=>?_⟩
      obtain⟨rfl,hmk⟩:=Lg m x hx
      obtain⟨h1,u,h2,h3⟩:=hzc j y hy
      have hj:j<i.size:=by rw[←hlen];exact(List.getElem?_eq_some_iff.1 hy).1
      refine⟨h1,u,?_,h3⟩
      have hlt:m*i.size+j<k.toNat*i.size:=by
       have:(m+1)*i.size≤k.toNat*i.size:=Nat.mul_le_mul_right _ hmk
       rw[Nat.add_mul,Nat.one_mul] at this
       omega
      have hmod:(m*i.size+j) % i.size=j:=by rw[Nat.mul_comm,Nat.mul_add_mod,Nat.mod_eq_of_lt hj]
      have hjz:j<z.cells.size:=by rw[hzl];exact hj
      have qc:u=z.cells[j]:=by rw[Array.getElem?_eq_getElem hjz] at h2;exact(Option.some.inj h2).symm
      rw[Array.getElem?_toList]
      simp only[madeCells,Array.getElem?_map,Array.getElem?_range,hlt,if_true,Option.map_some,hzl,hmod,Option.some.injEq]
      rw[qc]
      exact getElem!_pos z.cells j hjz
     ·cases US
    ·cases US
   ·cases hl
  ·cases hl
 ·cases hl

theorem QA {h:D}{sz:Nat}{y:D}{ys:List D}(ha:D.JN h sz y=some ys):D.cnt y=some ys.length:=by
 unfold D.JN at ha
 split at ha
 ·cases ha;rfl
 ·cases ha;rfl
 ·split at ha
  ·rename_i hm
   subst hm
   cases ha;rfl
  ·obtain⟨b,_,ha⟩:=Option.bind_eq_some_iff.1 ha
   split at ha
   ·cases ha
    simp[D.cnt,l5]
   ·cases ha
 ·cases ha

theorem Hp {o:Oper} {t e:TypeId} {s x:Operand} {i:TypeInfo} {cf:cz} {hx s' x':E} {ix n cap:Nat} {ad:Option Addr} {bs:List D} {ds:D} (ho:o.op=.call { callee:=.builtin .append,args:=#[s,x],argTypes:=#[t,t] }) (hu:P.underlying t=some (.slice e)) (hi:P.info? e=some i)
  (dN:σ.obj bN=some (.store cf hx)) (hro:cf.ro=false) (jC:hx.eval env=some (.st bs)) (xX:a.eval x=.slice none 0 0∨∃ad c,a.eval x=.slice (some ad) 0 c) (Qh:a.eval s=.slice ad n cap) (hcap:n≤cap) (tI:bU w ρ.S (a.eval s) ds) (hone:ds.one=true)
  (cW:env[ix]? = some (.st bs)) (hval:(E.apps hx s' x').eval env=some ds) (h:cu w0 X w a σ env ρ) (hd:∀d,o.dst=some d→d<σ.tmps.length) :
  gq P o a w w0 X ((σ.setObj bN (some (.store cf (.sym ix)))).put o.dst (.e (.apps hx s' x') true)) env:=by
 obtain⟨rp,hb0,hst,_⟩:=h.dO _ _ dN
 rw[jC] at hb0
 cases hb0
 have bn:=h.iu (x':=.sym ix) dN hro (by simpa[E.eval] using cW) hst (bW.refl _ _) (Sets.le_refl _) rfl ⟨rfl,Nat.le_refl _⟩ rfl (Nat.le_refl _) (fun _ _ _=>rfl) (fun b hb=>⟨.inl hb,gZ h dN b hb⟩) (fun b o hs=>.inl hs) h.cells
 have hrun:(Builtin.append_ #[t,t] o.type #[a.eval s,a.eval x]).run P w=.ok (a.eval s) w:=by
  rcases xX with Lf | ⟨ad2,c,Lf⟩
  ·rw[Lf,Qh]
   exact lT w t o.type e i hu hi ad n cap hcap
  ·rw[Lf,Qh]
   exact B_ w t o.type e i hu hi ad n cap hcap ad2 c
 refine c_ (v:=a.eval s) ?_ (bn.put (by intro d e;rw[af.aZ];exact hd d e) (.e hval tI fun _=>hone))
 unfold execOp
 simp only[ho,resolve,invoke,builtin,Sem.run_bind,Sem.run_pure,Result.andThen_ok,List.map_toArray,List.map_cons,List.map_nil,hrun]

theorem Mp {o:Oper} {t e:TypeId} {s x:Operand} {i:TypeInfo} {z:Value} {cf:cz} {hx s' x':E} {ix m n:Nat} {bs lg:List D} {ys cs:List D} {xs:List Value} (ho:o.op=.call { callee:=.builtin .append,args:=#[s,x],argTypes:=#[t,t] }) (hu:P.underlying t=some (.slice e)) (hi:P.info? e=some i) (hz:i.zero=some z) (hzs:z.cells.size=i.size) (hpos:0<i.size)
  (dN:σ.obj bN=some (.store cf hx)) (hro:cf.ro=false) (jC:hx.eval env=some (.st bs)) {dy:D} (mT:bU w ρ.S (a.eval x) dy) (IV:D.JN (.st bs) i.size dy=some ys) (hne:ys≠[]) (S7:ys.length=m) (hall:bK i.size ys=true) (afD:(cB ys).all (·.one)=true) (afE:∀(j:Nat) (d:D),cs[j]? = some d→d.one=true)
  (hown:w.ownsRow 0 e i.size (a.eval s) n xs) (dG:cs.length=n*i.size) (Qg:∀(j:Nat) (v:Value) (d:D),xs[j]? = some v→cs[j]? = some d→bU w ρ.S v d) (hml:n+m≤maxLen) (hby:(n+m)*i.bytes≤140737488355328)
  (uY:lg.length=bs.length) (Zr:∀b,(a.eval s).ownBlock=some b→ρ.aJ b∧(∀off,¬ρ.S b off)∧∀(j:Nat) (x:D),lg[j]? = some x→x.live=true→ρ.S.loc j≠b) (hold:∀(j:Nat) (x:D),lg[j]? = some x→x.live=true→bs[j]? = some x)
  (cW:env[ix]? = some (.st (lg++[.blk e i.size (cs++cB ys)]))) (hval:(E.apps hx s' x').eval env=some (.sl bs.length 0 (n+m))) (h:cu w0 X w a σ env ρ) (hd:∀d,o.dst=some d→d<σ.tmps.length) :
  gq P o a w w0 X ((σ.setObj bN (some (.store cf (.sym ix)))).put o.dst (.e (.apps hx s' x') true)) env:=by
 obtain⟨rp,hb0,hst,_⟩:=h.dO _ _ dN
 rw[jC] at hb0
 cases hb0
 have hfl:=gZ h dN
 rcases yN hst mT IV hall with⟨h1,_⟩ | ⟨ad,m',c,news,Lf,ak4,hnl,hcells,hone,wO⟩
 ·exact absurd h1 hne
 ·obtain rfl:m'=m:=by omega
  obtain⟨v',w',hrun,hown',gT⟩:=kI (P:=P) w t o.type e i z i.size i.bytes hu hi hz rfl rfl hzs hpos (a.eval s) n xs hown ad m' c news hnl hcells hone hml hby
  rw[←Lf] at hrun
  obtain⟨Ls,Ym,hfr⟩:=wO.flat hpos
  have aoO:0<m':=by
   rw[←ak4]
   exact List.length_pos_iff.2 hne
  rcases hown'.2 with⟨_,h0⟩ | ⟨g,cap,cur,rfl,_,hg,hnc,GR,hcs,Ek⟩
  ·omega
  have hK:bW ρ.S w w':=by
   intro b off hS
   refine World.cell?_of_block (a:=⟨b,off,none⟩) ?_
   rcases gT with⟨Qcz,s8⟩ | ⟨_,s8⟩
   ·refine s8.block b (h.cells b off hS) fun he=>?_
    exact(Zr b he.symm).2.1 off hS
   ·exact s8.block b (h.cells b off hS) (by simp)
  have ow:w'.os=w.os∧TL w' w∧w'.output=w.output∧w.heap.size≤w'.heap.size:=by
   rcases gT with⟨_,s8⟩ | ⟨_,s8⟩ <;> exact⟨s8.os,s8.tape,s8.output,s8.size⟩
  have hgb:(ρ.aJ g∨g=w.heap.size)∧(∀off,¬ρ.S g off)∧(∀(j:Nat) (x:D),lg[j]? = some x→x.live=true→ρ.S.loc j≠g)∧g<w'.heap.size:=by
   have afS:g<w'.heap.size:=(Array.getElem?_eq_some_iff.1 hg).1
   rcases gT with⟨Qcz,s8⟩ | ⟨Qcz,s8⟩
   ·obtain⟨g1,g2,g3⟩:=Zr g Qcz.symm
    exact⟨.inl g1,g2,g3,afS⟩
   ·have hge:g=w.heap.size:=by simpa[Value.ownBlock] using Qcz
    refine⟨.inr hge,fun off hs=>?_,fun j x hj hx hl=>?_,afS⟩
    ·have:=h.cells g off hs;omega
    ·have:=hfl _ (hst.jl (hold j _ hj hx) hx);omega
  have mJ:∀b,b<w.heap.size→b≠g→w'.heap[b]? = w.heap[b]?:=by
   intro b hb Va
   rcases gT with⟨Qcz,s8⟩ | ⟨_,s8⟩
   ·refine s8.block b hb fun he=>?_
    have:some b=some g:=by rw[he,←Qcz];rfl
    cases this
    exact Va rfl
   ·exact s8.block b hb (by simp)
  have su:xs.length=n*i.size:=hown.1
  have Yp:∀(j:Nat) (v:Value),cur[j]? = some v→j<(n+m')*i.size→(xs++news)[j]? = some v:=by
   intro j v hj hlt
   rw[←Ek,List.getElem?_take,if_pos hlt]
   simpa using hj
  have IN:dF w' (ρ.S.more g cap) (fun b=>ρ.aJ b∨b=g) (lg++[.blk e i.size (cs++cB ys)]):=by
   refine Gf hst hK uY (fun j x hj hx=>?_) (fun _=>Iff.rfl) hg hcs ?_ (fun j d hj=>?_) (fun j v d hv JJ=>?_) hgb.2.1
   ·have hj':=hold j _ hj hx
    have:=hgb.2.2.1 j _ hj hx
    exact⟨hj',this,mJ _ (hfl _ (hst.jl hj' hx)) this⟩
   ·rw[List.length_append,dG,Ym,hnl,hcs,←Nat.add_mul]
    exact Nat.mul_le_mul_right _ hnc
   ·rw[List.getElem?_append] at hj
    split at hj
    ·exact afE j d hj
    ·exact List.all_eq_true.1 afD d (List.mem_of_getElem? hj)
   ·have hjl:j<(n+m')*i.size:=by
     have:=(List.getElem?_eq_some_iff.1 JJ).1
     rw[List.length_append,dG,Ym,hnl,←Nat.add_mul] at this
     exact this
    have X_:=Yp j v hv hjl
    rw[List.getElem?_append] at JJ X_
    split at JJ
    ·rename_i hlt
     rw[if_pos (by omega)] at X_
     exact Qg j v d X_ JJ
    ·rename_i hlt
     rw[if_neg (by omega),su] at X_
     rw[dG] at JJ
     exact(hfr _ v d X_ JJ).1
  have bn:=h.iu (x':=.sym ix) dN hro (by simp only[E.eval];exact cW) IN hK (ρ.S.qw g cap) ow.1 ow.2.1 ow.2.2.1 ow.2.2.2 (fun b hb hnf=>mJ b hb fun e'=>?_) (fun b hb=>?_) (fun b off hs=>.inl hs) (fun b off hs=>Nat.lt_of_lt_of_le (h.cells b off hs) ow.2.2.2)
  ·refine c_ (v:=.slice (some ⟨g,0,none⟩) (n+m') cap) ?_ (bn.put (by rw[af.aZ];exact hd) (.e (d:=.sl bs.length 0 (n+m')) hval ?_ fun _=>rfl))
   ·unfold execOp
    simp only[ho,resolve,invoke,builtin,Sem.run_bind,Sem.run_pure,Result.andThen_ok,List.map_toArray,List.map_cons,List.map_nil,hrun]
   ·have:=bU.sl (w:=w') (S:=ρ.S.more g cap) (i:=bs.length) (off:=0) (len:=n+m') (c:=cap) (by simp[Sets.more,hst.n]) hnc GR (fun _=>by simp[Sets.more,hst.n])
    have hl:(ρ.S.more g cap).loc bs.length=g:=by simp[Sets.more,hst.n]
    rwa [hl] at this
  ·subst e'
   rcases hgb.1 with h1 | h1
   ·exact hnf h1
   ·omega
  ·rcases hb with hb | rfl
   ·exact⟨.inl hb,Nat.lt_of_lt_of_le (hfl b hb) ow.2.2.2⟩
   ·refine⟨?_,hgb.2.2.2⟩
    rcases hgb.1 with h1 | h1
    ·exact .inl h1
    ·exact .inr (by omega)

theorem Ny {o:Oper}{ct:Operand→SV}{ix:Nat}{r:eV}(hv:∀x,ef w ρ env (a.eval x) (ct x))(hl:RA P o ct σ.obj ix=some r)(h:cu w0 X w a σ env ρ)(hd:∀d,o.dst=some d→d<σ.tmps.length)(hb:cn P env ix r.bind) :
  (r.eM=none∧gq P o a w w0 X (σ.put o.dst r.val) env)∨∃z,r.eM=some (bN,z)∧gq P o a w w0 X ((σ.setObj bN (some z)).put o.dst r.val) env:=by
 unfold RA at hl
 split at hl
 case isFalse=>cases hl
 unfold wJ at hl
 split at hl
 ·rename_i cf hx dd dN ig
  obtain⟨bs,jC,hst,_⟩:=h.dO _ _ dN
  split at hl
  ·cases hl
  rename_i hro
  have hro:cf.ro=false:=by simpa using hro
  split at hl
  ·rename_i t ho
   split at hl
   ·split at hl
    ·rename_i z hz
     split at hl
     ·rename_i ds hds
      cases hl
      obtain⟨d,he,cW⟩:=hb
      simp only[E.eval,jC,Option.bind_some,D.cI] at he
      split at he
      ·rename_i hone
       cases he
       obtain⟨g1,g2⟩:=D.ng (w:=w) (S:=ρ.S) hds
       have g1':z.cells.size=ds.length:=by simpa using g1
       have hrun:(execOp a.eval o).run P w=.ok (.value (.pointer (some ⟨w.heap.size,0,none⟩))) (w.alloc (.cells z.cells t)):=by
        unfold execOp
        simp only[ho,Instr.alloc,Sem.run_bind,iU hz,Result.andThen_ok,newVar,newRow,Sem.run_pure,run_newObj]
        rfl
       have GK:∀(j:Nat) (d:D),ds[j]? = some d→d.one=true:=fun j d hj=>List.all_eq_true.1 hone d (List.mem_of_getElem? hj)
       obtain⟨bn,hn⟩:=h.DP (k:=1) (sz:=z.cells.size) (cs:=ds) (vs:=z.cells) (e:=t) (x':=.sym ix) dN hro jC (by simp) (by omega) GK (fun j v d hj fz=>(g2 j v d (by simpa using hj) fz).1) (by simp only[E.eval];exact cW)
       exact .inr ⟨_,rfl,c_ hrun (bn.put (by rw[af.aZ];exact hd) (EA jC hn))⟩
      ·cases he
     ·cases hl
    ·cases hl
   ·cases hl
  ·rename_i t x ho
   split at hl
   ·split at hl
    ·rename_i agg n x' hg hn0 uT
     split at hl
     ·rename_i JK
      cases hl
      obtain⟨dx,pY,mT⟩:=SV.ck uT (hv x)
      obtain⟨d,he,cW⟩:=hb
      simp only[E.eval,jC,Option.bind_some,Option.bind_eq_some_iff] at he
      obtain⟨dc,hdc,he⟩:=he
      obtain⟨cs,rfl,h1,h1a,h1b,h2,h3,h4⟩:=Hi pY mT hdc
      simp only[D.cI] at he
      split at he
      ·rename_i hone
       cases he
       have zc:cs.length=n:=by
        cases agg with
        | true=>exact h1a rfl
        | false=>rw[h1b rfl];exact(JK.resolve_left (by simp)).symm
       have hrun:(execOp a.eval o).run P w=.ok (.value (.pointer (some ⟨w.heap.size,0,none⟩))) (w.alloc (.cells (a.eval x).cells t)):=by
        unfold execOp
        simp only[ho,Instr.box,Sem.run_bind,Result.andThen_ok,newVar,newRow,Sem.run_pure,run_newObj]
        rfl
       obtain⟨bn,hn⟩:=h.DP (k:=1) (sz:=n) (cs:=cs) (vs:=(a.eval x).cells) (e:=t) (x':=.sym ix) dN hro jC (by omega) (by omega) h3 h4 (by simp only[E.eval];exact cW)
       exact .inr ⟨_,rfl,c_ hrun (bn.put (by rw[af.aZ];exact hd) (EA jC hn))⟩
      ·cases he
     ·cases hl
    ·cases hl
   ·cases hl
  ·rename_i t n c ho
   split at hl
   ·split at hl
    ·rename_i v0 u0 y e JH hu
     split at hl
     ·rename_i i hi
      split at hl
      ·rename_i hpos
       cases hl
       obtain⟨d,he,cW⟩:=hb
       simp only[E.eval,jC,Option.bind_some,Option.bind_eq_some_iff] at he
       obtain⟨dl,hdl,he⟩:=he
       obtain⟨e',i',es,vs,qc,hi',rfl,hrun,hvs,hml,hrow⟩:=RC (ρ:=ρ) (env:=env) ho JH (hv n) (hv c) rfl hdl
       rw[hu] at qc
       cases qc
       rw[hi] at hi'
       cases hi'
       obtain⟨hall,hfl,hfr⟩:=hrow.flat hpos
       simp only[D.a_] at he
       split at he
       ·cases he
        rename_i VF
        have hone:∀(j:Nat) (d:D),(cB es)[j]? = some d→d.one=true:=fun j d hj=>List.all_eq_true.1 VF.2 d (List.mem_of_getElem? hj)
        obtain⟨bn,hn⟩:=h.DP (k:=es.length) (sz:=i.size) (cs:=cB es) (vs:=vs) (e:=e) (x':=.sym ix) dN hro jC hvs (by rw[hfl];simp) hone (fun j v d hj fz=>(hfr j v d (by simpa using hj) fz).1) (by simp only[E.eval];exact cW)
        exact .inr ⟨_,rfl,c_ hrun (bn.put (by rw[af.aZ];exact hd) (VQ jC hdl hml hn))⟩
       ·cases he
      ·cases hl
     ·cases hl
    ·cases hl
   ·cases hl
  ·rename_i x ho
   split at hl
   ·split at hl
    ·cases hl
     exact .inl ⟨rfl,bS h hd (v:=.slice none 0 0) (by unfold execOp;simp only[ho];rfl) (.e rfl .cq fun _=>rfl)⟩
    ·cases hl
   ·cases hl
  ·rename_i c ho
   obtain⟨callee,args,ts⟩:=c
   simp only at hl
   split at hl
   ·split at hl
    ·rename_i s x t t' hargs hts
     split at hl
     ·rename_i WY
      obtain⟨WY,_⟩:=WY
      subst WY
      have e1:args=#[s,x]:=by rw[←Array.toArray_toList (xs:=args),hargs]
      have e2:ts=#[t,t]:=by rw[←Array.toArray_toList (xs:=ts),hts]
      subst e1 e2
      split at hl
      ·rename_i s' sb x' e hs' hx' hu
       split at hl
       ·rename_i i hi
        split at hl
        ·rename_i z hz
         split at hl
         ·rename_i hc
          cases hl
          have hvs:=XT (hv s)
          rw[hs'] at hvs
          obtain⟨ds,hds,tI,_⟩:=hvs.kC
          obtain⟨dx,pY,mT⟩:=SV.ck hx' (hv x)
          obtain⟨d,he,cW⟩:=hb
          simp only[E.eval,jC,hds,pY,Option.bind_some] at he
          refine .inr ⟨_,rfl,?_⟩
          unfold D.fU at he
          split at he
          ·rename_i ia ys e3 IV _
           cases e3
           have Og:=QA IV
           have Qh:a.eval s=.slice none 0 0:=by
            generalize a.eval s=v at tI
            cases tI
            rfl
           split at he
           ·rename_i wm
            subst wm
            cases he
            have X_:a.eval x=.slice none 0 0∨∃ad c,a.eval x=.slice (some ad) 0 c:=by
             rcases yN hst mT IV (by simp[bK]) with⟨_,h1⟩ | ⟨ad,m,c,news,h1,h2,_⟩
             ·exact h1
             ·exact .inr ⟨ad,c,by rw[h1,←h2];rfl⟩
            exact Hp ho hu hi dN hro jC X_ Qh (Nat.le_refl _) tI rfl (by simpa using cW) (by simp only[E.eval,jC,hds,pY,Option.bind_some,D.apps,Og,List.length_nil,if_true]) h hd
           ·rename_i hne
            split at he
            ·rename_i rT
             cases he
             exact Mp (n:=0) (m:=ys.length) (cs:=[]) (xs:=[]) (lg:=bs) ho hu hi hz hc.1 hc.2.1 dN hro jC mT IV hne rfl rT.2.2.1 rT.2.2.2 (by simp) (by rw[Qh];exact World.ownsRow_nil w 0 e i.size) (by simp) (by simp) (by simpa using rT.2.1) (by simpa using rT.1) rfl (fun b hb=>by rw[Qh] at hb;cases hb) (fun j _ hj _=>hj) (by simpa using cW) (by simp only[E.eval,jC,hds,pY,Option.bind_some,D.apps,Og,if_neg (fun e=>hne (List.eq_nil_of_length_eq_zero e)),Nat.zero_add]) h hd
            ·cases he
          ·rename_i ia k off n ys e3 IV _
           cases e3
           have Og:=QA IV
           split at he
           ·rename_i wm
            subst wm
            cases he
            have alh:=tI
            generalize Qh:a.eval s=v at tI
            cases tI with
            | @sl _ _ _ cc hk hle GR h0=>
             have X_:a.eval x=.slice none 0 0∨∃ad c,a.eval x=.slice (some ad) 0 c:=by
              rcases yN hst mT IV (by simp[bK]) with⟨_,h1⟩ | ⟨ad,m,c,news,h1,h2,_⟩
              ·exact h1
              ·exact .inr ⟨ad,c,by rw[h1,←h2];rfl⟩
             exact Hp ho hu hi dN hro jC X_ Qh hle alh rfl cW (by simp only[E.eval,jC,hds,pY,Option.bind_some,D.apps,Og,List.length_nil,if_true]) h hd
           ·rename_i hne
            obtain⟨blk,hblk,he⟩:=Option.bind_eq_some_iff.1 he
            split at he
            ·rename_i rT
             cases he
             obtain⟨c0,c1,c2,c3,c4,c5,c6,c7⟩:=rT
             subst c0
             have oh:=oW hblk
             rw[c1,c2] at oh
             obtain⟨hf,vs,⟨e',hh,FL⟩,hsz,hlen,hone,hr,oa⟩:=hst.cells k _ _ _ oh
             obtain rfl:e=e':=(FL.resolve_left hc.2.2).symm
             generalize Qh:a.eval s=v at tI
             cases tI with
             | @sl _ _ _ cc hk hle GR h0=>
             have hcap:=h0 rfl
             have hown:w.ownsRow 0 e i.size (a.eval s) n (vs.toList.take (n*i.size)):=by
              refine⟨?_,.inr ⟨ρ.S.loc k,cc,vs,Qh,Nat.zero_le _,hh,hle,GR,by rw[hcap];exact hsz,rfl⟩⟩
              rw[List.length_take,Array.length_toList]
              omega
             refine Mp (n:=n) (m:=ys.length) (cs:=blk.2.2) (xs:=vs.toList.take (n*i.size)) (lg:=bs.set k (.bh [])) ho hu hi hz hc.1 hc.2.1 dN hro jC mT IV hne rfl c6 c7 hone hown c3 (fun j v d hj JJ=>?_) c5 c4 (by simp) (fun b hb=>?_) (fun j x hj hx=>?_) cW (by simp only[E.eval,jC,hds,pY,Option.bind_some,D.apps,Og,if_neg (fun e=>hne (List.eq_nil_of_length_eq_zero e))]) h hd
             ·rw[List.getElem?_take] at hj
              split at hj
              ·exact hr j v d (by simpa using hj) JJ
              ·cases hj
             ·rw[Qh] at hb
              have hb':ρ.S.loc k=b:=by simpa[Value.ownBlock] using hb
              subst hb'
              refine⟨hf,oa,fun j x hj hx hl=>?_⟩
              rw[List.getElem?_set] at hj
              split at hj
              ·split at hj <;> cases hj
               cases hx
              ·rename_i Va
               exact Va (hst.inj j k _ _ hj oh hx rfl hl).symm
             ·rw[List.getElem?_set] at hj
              split at hj
              ·split at hj <;> cases hj
               cases hx
              ·exact hj
            ·cases he
          ·cases he
         ·cases hl
        ·cases hl
       ·cases hl
      ·cases hl
     ·cases hl
    ·cases hl
   ·cases hl
  ·cases hl
 ·cases hl

end
end
end

section
noncomputable section
open Go.MapKept (bytes_beq run_findKey heap_set)

def wL (P:Program)(t:TypeId):Option Kd:=
 match jB P t with
 | some .int=>some .int
 | some .str=>some .str
 | some (.agg ks)=>some (.agg ks)
 | _=>none

def uH (P:Program)(t:TypeId):Option (TypeId×TypeId×Kd):=
 match P.underlying t with
 | some (.map k e)=>(wL P k).map fun kd=>(k,e,kd)
 | _=>none

def qv (P:Program)(o:Oper)(ct:Operand→SV)(hO:Option bl)(ix:Nat):Option eV:=
 match hO with
 | some (.store cf h)=>
  match o.op with
  | .makeMap _ none=>if cf.ro then none else some { val:=.e (.m4 .abR h .nil .nil .nil) true,eM:=some (bN,.store cf (.sym ix)),bind:=some (.ev (.m4 .aaA h .nil .nil .nil)) }
  | .mapUpdate t m k x | .insert t m k x=>if cf.ro then none else(match uH P t,(ct m).jx,(ct k).jx,(ct x).jx with
   | some (_,_,kd),some m',some k',some x'=>some { val:=.cE,eM:=some (bN,.store cf (.sym ix)),bind:=some (.ev (.m4 (.put kd) h m' k' x')) }
   | _,_,_,_=>none)
  | .lookup t m k ok=>(match uH P t,(ct m).jx,(ct k).jx with
   | some (_,e,kd),some m',some k'=>(match((P.info? e).bind (·.zero)).bind D.wI,lN P e with
    | some z,some agg=>if ok then some { val:=.bh [.e (.az 0 (.sym ix)) false,.e (.az 1 (.sym ix)) true],bind:=some (.ev (.m4 (.VO kd) h m' k' (.const z))) }
      else some { val:=.e (.sym ix) (!agg),bind:=some (.ev (.m4 (.get kd agg) h m' k' (.const z))) }
    | _,_=>none)
   | _,_,_=>none)
  | .range t m=>if cf.ro then none else(match uH P t,(ct m).jx with
   | some _,some m'=>some { val:=.e (.aU h) true,eM:=some (bN,.store cf (.sym ix)),bind:=some (.ev (.m4 .rng h m' .nil .nil)) }
   | _,_=>none)
  | .mapEntry t m k=>if cf.ro then none else(match uH P t,(ct m).jx,(ct k).jx with
   | some (_,e,kd),some m',some k'=>(((P.info? e).bind (·.zero)).bind D.wI).map fun z=>
     { val:=.bh [.e (.az 0 (.m4 (.V2 kd) h m' k' (.const z))) false,.e (.az 1 (.m4 (.V2 kd) h m' k' (.const z))) true],eM:=some (bN,.store cf (.sym ix)),bind:=some (.ev (.m4 (.ab0 kd) h m' k' (.const z))) }
   | _,_,_=>none)
  | .entryStore _ m s x=>if cf.ro then none else(match(ct m).jx,(ct s).jx,(ct x).jx with
   | some m',some s',some x'=>some { val:=.cE,eM:=some (bN,.store cf (.sym ix)),bind:=some (.ev (.m4 .om h m' s' x')) }
   | _,_,_=>none)
  | .entry it=>(ct it).jx.map fun p=>{ val:=.bh [.e (.az 0 (.sym ix)) false,.e (.az 1 (.sym ix)) false],bind:=some (.ev (.m4 .entry h p .nil .nil)) }
  | .call c=>(match c.callee with
   | .builtin .len=>(match c.args.toList,c.argTypes.toList with
    | [x],[t]=>if cf.maps.contains t then(match uH P t,(ct x).jx with
     | some _,some m'=>some { val:=.e (.sym ix) true,bind:=some (.ev (.m4 .aaC h m' .nil .nil)) }
     | _,_=>none) else none
    | _,_=>none)
   | .builtin .delete=>if cf.ro then none else(match c.args.toList,c.argTypes.toList with
    | [x,k],t :: _=>(match uH P t,(ct x).jx,(ct k).jx with
     | some (_,_,kd),some m',some k'=>some { val:=.cE,eM:=some (bN,.store cf (.sym ix)),bind:=some (.ev (.m4 (.del kd) h m' k' .nil)) }
     | _,_,_=>none)
    | _,_=>none)
   | _=>none)
  | _=>none
 | _=>none

def lmap (P:Program)(o:Oper)(ct:Operand→SV)(obj:Nat→Option bl)(ix:Nat):Option eV:=
 if YZ o=true then qv P o ct (obj bN) ix else none

section
variable {P:Program} {w w0:World} {X:kG} {a:Act} {σ:af} {env:List D} {ρ:dJ}

theorem BT {cs:Array Value}{n:Nat}{em:Bool}(hn:0<n):∀(fs:List Field) (i:Nat) (ks:List Nat),gP P i fs=some ks→i+ks.length=cs.size →
  (forIn fs PUnit.unit (fun (f : Field) (_ : PUnit) => (if f.name ≠ "_" then do
   let x ←part f.type cs f.offset
   Instr.checkKey em n f.type x
   pure (ForInStep.yield PUnit.unit)
   else pure (ForInStep.yield PUnit.unit):Sem (ForInStep PUnit)))).run P w=.ok PUnit.unit w
 | [],i,ks,hf,hl=>by simp
 | f :: fs,i,ks,hf,hl=>by
  obtain⟨m,rfl⟩:∃m,n=m+1:=⟨n-1,by omega⟩
  simp only[gP] at hf
  split at hf
  ·rename_i hc
   obtain⟨hoff,hname⟩:=hc
   have key:∀{ks':List Nat} {k:TypeDesc},gP P (i+1) fs=some ks'→ks.length=ks'.length+1→P.underlying f.type=some k→lN P f.type=some false→(∀v:Value,(Instr.checkKey em (m+1) f.type v).run P w=.ok () w) →
     (forIn (f :: fs) PUnit.unit (fun (f : Field) (_ : PUnit) => (if f.name ≠ "_" then do
      let x ←part f.type cs f.offset
      Instr.checkKey em (m+1) f.type x
      pure (ForInStep.yield PUnit.unit)
      else pure (ForInStep.yield PUnit.unit):Sem (ForInStep PUnit)))).run P w=.ok PUnit.unit w:=by
    intro ks' k hks k9 hu hagg Td
    have mU:i<cs.size:=by omega
    have hp:(part f.type cs f.offset).run P w=.ok cs[i] w:=sJ hagg (by rw[hoff];simp[mU])
    have ih:=BT (cs:=cs) (em:=em) (Nat.succ_pos m) fs (i+1) ks' hks (by omega)
    simp only[List.forIn_cons,Sem.run_bind,hname,ne_eq,not_false_eq_true,if_true,Result.andThen_ok,hp,Td,Sem.run_pure]
    exact ih
   split at hf
   ·rename_i q hu
    obtain⟨ks',hks,rfl⟩:=Option.map_eq_some_iff.1 hf
    exact key hks rfl hu (by unfold lN;rw[hu];rfl) fun v=>by
     unfold Instr.checkKey
     simp[run_underlying hu,Result.andThen]
   ·rename_i hu
    obtain⟨ks',hks,rfl⟩:=Option.map_eq_some_iff.1 hf
    exact key hks rfl hu (by unfold lN;rw[hu];rfl) fun v=>by
     unfold Instr.checkKey
     simp[run_underlying hu,Result.andThen]
   ·rename_i hu
    obtain⟨ks',hks,rfl⟩:=Option.map_eq_some_iff.1 hf
    exact key hks rfl hu (by unfold lN;rw[hu];rfl) fun v=>by
     unfold Instr.checkKey
     simp[run_underlying hu,Result.andThen]
   ·cases hf
  ·cases hf

theorem nA {t:TypeId}{kd:Kd}(h:wL P t=some kd):jB P t=some kd∧(kd=.int∨kd=.str∨∃ks,kd=.agg ks):=by
 unfold wL at h
 split at h <;> cases h <;> exact⟨by assumption,by simp⟩

theorem xy {t:TypeId}{ks:List Nat}(h:jB P t=some (.agg ks)):∃fs:Array Field,P.underlying t=some (.struct fs)∧P.stoodInHeld t=false∧gP P 0 fs.toList=some ks:=by
 unfold jB at h
 split at h <;> simp at h
 rename_i fs hu
 unfold tf at h
 rw[hu] at h
 simp only at h
 split at h
 ·rename_i hc
  exact⟨fs,hu,hc.1,h⟩
 ·cases h

theorem xx {t:TypeId}(h:jB P t=some .int):∃q,P.underlying t=some (.int q):=by
 unfold jB at h
 split at h <;> simp at h
 exact⟨_,by assumption⟩

theorem xw {t:TypeId}(h:jB P t=some .str):P.underlying t=some .string:=by
 unfold jB at h
 split at h <;> simp at h
 assumption

theorem qo {t:TypeId}{kd:Kd}{v:Value}{d:D}{em:Bool}{S:Sets}(h:wL P t=some kd)(hr:bU w S v d)(hd:D.P9 kd d=true):(Instr.checkKey em 10000 t v).run P w=.ok () w:=by
 obtain⟨hk,hc⟩:=nA h
 rcases hc with rfl | rfl | ⟨ks,rfl⟩
 ·obtain⟨q,hu⟩:=xx hk
  unfold Instr.checkKey
  simp[run_underlying hu,Result.andThen]
 ·have hu:=xw hk
  unfold Instr.checkKey
  simp[run_underlying hu,Result.andThen]
 ·obtain⟨fs,hu,_,hfl⟩:=xy hk
  cases d <;> simp[D.P9] at hd
  rename_i ds
  obtain⟨vs,rfl,hl,_⟩:=hr.lV
  unfold Instr.checkKey
  simp only[Sem.run_bind,run_underlying hu,Result.andThen_ok]
  rw[←Array.forIn_toList]
  rw[BT (cs:=vs) (by omega) fs.toList 0 ks hfl (by omega)]
  rfl

theorem Sb {t:TypeId}{ks:List Nat}{v u:Value}{dx dy:List D}{b:Bool}{S:Sets}(hk:jB P t=some (.agg ks))(hx:bU w S v (.agg dx))(hy:bU w S u (.agg dy))(hb:D.eqs ks dx dy=some b):(Op.equal t v u).run P w=.ok b w:=by
 obtain⟨fs,hu,hst,hfl⟩:=xy hk
 obtain⟨xs,rfl,su,_,Qg⟩:=hx.lV
 obtain⟨ys,rfl,xW,_,hyr⟩:=hy.lV
 have hfo:P.fieldsOf t=fs:=by simp[Program.fieldsOf,hu]
 show(Op.equalIn 10000 t (.agg xs) (.agg ys)).run P w=.ok b w
 rw[run_equalIn_agg w 9999 t xs ys (by rw[hfo];exact hu) hst,hfo]
 exact sM (d:=9998) su xW Qg hyr fs.toList 0 ks b hfl (by simpa using hb)

theorem D_ {kd:Kd}{x y:D}{b:Bool}(h:D.Ea kd x y=some b):D.bin .eql kd x y=some (.v (.bool b)):=by
 unfold D.Ea at h
 split at h
 ·rename_i e;cases h;exact e
 ·cases h

theorem B0 {x y:D}{b:Bool}(h:D.bin .eql .int x y=some (.v (.bool b))):∃k m n,x=.v (.int k m)∧y=.v (.int k n)∧b=(m==n):=by
 unfold D.bin at h
 split at h <;> (try contradiction)
 ·rename_i k m k' n
  simp only[mq] at h
  split at h
  ·rename_i hk
   subst hk
   cases h
   exact⟨_,_,_,rfl,rfl,rfl⟩
  ·cases h

theorem BZ {x y:D}{b:Bool}(h:D.bin .eql .str x y=some (.v (.bool b))):∃m n,x=.v (.string m)∧y=.v (.string n)∧b=(m.toList==n.toList):=by
 unfold D.bin at h
 split at h <;> (try contradiction)
 ·cases h
  exact⟨_,_,rfl,rfl,rfl⟩

theorem B3 {ks:List Nat}{x y:D}{b:Bool}(h:D.bin .eql (.agg ks) x y=some (.v (.bool b))):∃dx dy,x=.agg dx∧y=.agg dy∧D.eqs ks dx dy=some b:=by
 unfold D.bin at h
 split at h <;> (try contradiction)
 ·rename_i hh
  cases hh
  obtain⟨b',hb',hb⟩:=Option.map_eq_some_iff.1 h
  cases hb
  exact⟨_,_,rfl,rfl,hb'⟩

theorem Jq (m n:ByteArray):(m==n)=(m.toList==n.toList):=by
 apply Bool.eq_iff_iff.2
 rw[bytes_beq]
 constructor
 ·rintro rfl;simp
 ·intro h
  have:=eq_of_beq h
  have hd:m.data=n.data:=by simpa[ByteArray.toList_eq] using this
  cases m
  cases n
  simp only at hd
  rw[hd]

def ahz (P:Program)(w:World)(t:TypeId)(v u:Value)(b:Bool):Kd→Prop
 | .agg _=>(Op.equal t v u).run P w=.ok b w
 | _=>∃k,P.underlying t=some k∧Instr.sameNow k v u=some b

def vC (P:Program)(w:World)(t:TypeId)(v:Value)(es:List MapEntry)(i:Nat)(r:Option (Nat×Value)):Kd→Prop
 | .agg _=>(Instr.findAsking t v es i).run P w=.ok r w
 | _=>∃k,P.underlying t=some k∧Instr.findNow k v es i=some r

theorem Y_ {S:Sets}{t:TypeId}{kd:Kd}{v u:Value}{d dk:D}{b:Bool}(h:wL P t=some kd)(hr:bU w S v d)(Oe:bU w S u dk)(hb:D.Ea kd d dk=some b):ahz P w t v u b kd:=by
 have hb:=D_ hb
 obtain⟨hk,hc⟩:=nA h
 rcases hc with rfl | rfl | ⟨ks,rfl⟩
 ·obtain⟨q,hu⟩:=xx hk
  obtain⟨k,m,n,rfl,rfl,rfl⟩:=B0 hb
  rw[hr.v_eq,Oe.v_eq]
  exact⟨_,hu,by simp[Instr.sameNow]⟩
 ·have hu:=xw hk
  obtain⟨m,n,rfl,rfl,rfl⟩:=BZ hb
  rw[hr.v_eq,Oe.v_eq]
  exact⟨_,hu,by simp only[Instr.sameNow,Option.some.injEq];exact Jq m n⟩
 ·obtain⟨dx,dy,rfl,rfl,hb'⟩:=B3 hb
  exact Sb hk hr Oe hb'

def oq (w:World)(S:Sets)(es:List MapEntry)(dL:List D):Prop:=
 es.length=dL.length∧∀(j:Nat) (e:MapEntry) (kv:D),es[j]? = some e→dL[j]? = some kv→∃dk dv,kv=.bh [dk,dv]∧bU w S e.key dk∧bU w S e.val dv

theorem oq.tail {S:Sets}{e:MapEntry}{es:List MapEntry}{kv:D}{dL:List D}(h:oq w S (e :: es) (kv :: dL)):oq w S es dL:=
 ⟨by simpa using h.1,fun j e kv h1 h2=>h.2 (j+1) e kv (by simpa using h1) (by simpa using h2)⟩

theorem adw (l:List D):D.kept (.bh [] :: l)=l:=rfl
theorem aic (l:List D):D.lost (.bh [] :: l)=true:=rfl

theorem oq.afq {S:Sets}{es:List MapEntry}{dL:List D}(hl:D.lost dL=false)(h:oq w S es dL):oq w S es (D.kept dL):=by
 rwa [D.acF hl]

theorem VU {S:Sets}{t:TypeId}{kd:Kd}{v:Value}{d:D}(h:wL P t=some kd)(hr:bU w S v d):∀(es:List MapEntry) (dL:List D) (i:Nat) (r:Option (Nat×D)),oq w S es dL→D.Kx kd d dL i=some r →
  (r=none∧vC P w t v es i none kd)∨∃j dv e dk,r=some (j,dv)∧vC P w t v es i (some (j,e.val)) kd∧i≤j∧es[j-i]? = some e∧bU w S e.val dv∧bU w S e.key dk∧D.Ea kd d dk=some true
 | [],[],i,r,_,hf=>by
  simp only[D.Kx] at hf
  cases hf
  obtain⟨hk,hc⟩:=nA h
  rcases hc with rfl | rfl | ⟨ks,rfl⟩
  ·obtain⟨q,hu⟩:=xx hk
   exact .inl ⟨rfl,_,hu,rfl⟩
  ·exact .inl ⟨rfl,_,xw hk,rfl⟩
  ·exact .inl ⟨rfl,by simp[vC,Instr.findAsking]⟩
 | e :: es,kv :: dL,i,r,he,hf=>by
  obtain⟨dk,dv,rfl,Oe,cV⟩:=he.2 0 e kv rfl rfl
  simp only[D.Kx] at hf
  obtain⟨hk,hc⟩:=nA h
  split at hf
  ·rename_i hb
   cases hf
   have hn:=Y_ h hr Oe hb
   refine .inr ⟨i,dv,e,dk,rfl,?_,Nat.le_refl _,by simp,cV,Oe,hb⟩
   rcases hc with rfl | rfl | ⟨ks,rfl⟩
   ·obtain⟨k,hu,hs⟩:=hn
    exact⟨k,hu,by simp[Instr.findNow,hs]⟩
   ·obtain⟨k,hu,hs⟩:=hn
    exact⟨k,hu,by simp[Instr.findNow,hs]⟩
   ·have hn:(Op.equal t v e.key).run P w=.ok true w:=hn
    simp[vC,Instr.findAsking,hn]
  ·rename_i hb
   have hn:=Y_ h hr Oe hb
   have step:∀r',vC P w t v es (i+1) r' kd→vC P w t v (e :: es) i r' kd:=by
    intro r' h1
    rcases hc with rfl | rfl | ⟨ks,rfl⟩
    ·obtain⟨k,hu,hs⟩:=hn
     obtain⟨k',qc,h1⟩:=h1
     rw[hu] at qc
     cases qc
     exact⟨k,hu,by simp[Instr.findNow,hs,h1]⟩
    ·obtain⟨k,hu,hs⟩:=hn
     obtain⟨k',qc,h1⟩:=h1
     rw[hu] at qc
     cases qc
     exact⟨k,hu,by simp[Instr.findNow,hs,h1]⟩
    ·have hn:(Op.equal t v e.key).run P w=.ok false w:=hn
     have h1:(Instr.findAsking t v es (i+1)).run P w=.ok r' w:=h1
     simp[vC,Instr.findAsking,hn,h1]
   rcases VU h hr es dL (i+1) r he.tail hf with⟨g1,g2⟩ | ⟨j,dv',e',dk',g1,g2,g3,g4,g5⟩
   ·exact .inl ⟨g1,step _ g2⟩
   ·refine .inr ⟨j,dv',e',dk',g1,step _ g2,by omega,?_,g5⟩
    rw[show j-i=(j-(i+1))+1 from by omega]
    simpa using g4
  ·cases hf
 | [],_ :: _,_,_,he,_ | _ :: _,[],_,_,he,_=>by simp[oq] at he

theorem Dj {t:TypeId}{kd:Kd}{v:Value}{es:List MapEntry}{r:Option (Nat×Value)}(h:wL P t=some kd)(hf:vC P w t v es 0 r kd):(Instr.findKey t v es).run P w=.ok r w:=by
 obtain⟨hk,hc⟩:=nA h
 rcases hc with rfl | rfl | ⟨ks,rfl⟩
 ·obtain⟨k,hu,hs⟩:=hf
  exact run_findKey hu hs
 ·obtain⟨k,hu,hs⟩:=hf
  exact run_findKey hu hs
 ·obtain⟨fs,hu,_⟩:=xy hk
  cases es with
  | nil=>
   have:r=none:=by
    have hf:(Instr.findAsking t v [] 0).run P w=.ok r w:=hf
    simp[Instr.findAsking] at hf
    exact hf.symm
   subst this
   exact run_findKey hu rfl
  | cons e es=>
   have hf:(Instr.findAsking t v (e :: es) 0).run P w=.ok r w:=hf
   have hn:Instr.findNow (.struct fs) v (e :: es) 0=none:=by
    unfold Instr.findNow
    simp[Instr.sameNow]
   simp only[Instr.findKey,Sem.run_bind,run_underlying hu,Result.andThen_ok,hn,hf]

theorem vR {S:Sets}{t:TypeId}{kd:Kd}{v:Value}{d:D}{es:List MapEntry}{dL:List D}{r:Option (Nat×D)}(h:wL P t=some kd)(hr:bU w S v d)(he:oq w S es dL)(hf:D.uD kd d dL=some r) :
  D.P9 kd d=true∧((r=none∧(Instr.findKey t v es).run P w=.ok none w)∨∃j dv e dk,r=some (j,dv)∧(Instr.findKey t v es).run P w=.ok (some (j,e.val)) w∧es[j]? = some e∧bU w S e.val dv∧bU w S e.key dk∧D.Ea kd d dk=some true):=by
 unfold D.uD at hf
 split at hf
 ·rename_i hok
  refine⟨hok,?_⟩
  rcases VU h hr es dL 0 r he hf with⟨g1,g2⟩ | ⟨j,dv,e,dk,g1,g2,_,g3,g4⟩
  ·exact .inl ⟨g1,Dj h g2⟩
  ·exact .inr ⟨j,dv,e,dk,g1,Dj h g2,g3,g4⟩
 ·cases hf

theorem Bi {S:Sets}{t:TypeId}{kd:Kd}{v u:Value}{d dk:D}(h:wL P t=some kd)(hr:bU w S v d)(Oe:bU w S u dk)(hb:D.Ea kd d dk=some true):Instr.sameBits 10000 u v=true:=by
 have hb:=D_ hb
 obtain⟨hk,hc⟩:=nA h
 rcases hc with rfl | rfl | ⟨ks,rfl⟩
 ·obtain⟨k,m,n,rfl,rfl,hmn⟩:=B0 hb
  rw[hr.v_eq,Oe.v_eq]
  have:m=n:=by simpa using hmn.symm
  simp[Instr.sameBits,this]
 ·obtain⟨m,n,rfl,rfl,hmn⟩:=BZ hb
  rw[hr.v_eq,Oe.v_eq]
  rw[←Jq] at hmn
  have:m=n:=(bytes_beq m n).1 hmn.symm
  subst this
  have hh:(m==m)=true:=(bytes_beq m m).2 rfl
  simp[Instr.sameBits,hh]
 ·obtain⟨dx,dy,rfl,rfl,hb'⟩:=B3 hb
  obtain⟨xs,rfl,su,_,Qg⟩:=hr.lV
  obtain⟨ys,rfl,xW,_,hyr⟩:=Oe.lV
  have cells:∀(ks:List Nat) (dx dy:List D),D.eqs ks dx dy=some true→dx.length=dy.length∧∀(i:Nat) (x y:D),dx[i]? = some x→dy[i]? = some y→∀u v:Value,bU w S v x→bU w S u y→Instr.sameBits 9999 u v=true:=by
   intro ks
   induction ks with
   | nil=>
    intro dx dy he
    cases dx <;> cases dy <;> simp[D.eqs] at he ⊢
   | cons k ks ih=>
    intro dx dy he
    unfold D.eqs at he
    split at he <;> (try contradiction)
    ·rename_i ks1 k1 a r k2 b s e1 
     split at he
     ·rename_i hkk
      subst hkk
      obtain⟨b',h1,h2⟩:=Option.map_eq_some_iff.1 he
      simp only[Bool.and_eq_true,beq_iff_eq] at h2
      obtain⟨rfl,rfl⟩:=h2
      have e2:ks=ks1:=by simp only[List.cons.injEq] at e1;exact e1.2
      subst e2
      obtain⟨g1,g2⟩:=ih r s h1
      refine⟨by simp[g1],fun i x y hx hy u v hv hu=>?_⟩
      cases i with
      | zero=>
       simp only[List.getElem?_cons_zero,Option.some.injEq] at hx hy
       subst hx hy
       rw[hv.v_eq,hu.v_eq]
       simp[Instr.sameBits]
      | succ i=>exact g2 i x y (by simpa using hx) (by simpa using hy) u v hv hu
     ·cases he
    ·rename_i ks1 a r b s e1
     obtain⟨b',h1,h2⟩:=Option.map_eq_some_iff.1 he
     simp only[Bool.and_eq_true,beq_iff_eq] at h2
     obtain⟨rfl,rfl⟩:=h2
     have e2:ks=ks1:=by simp only[List.cons.injEq] at e1;exact e1.2
     subst e2
     obtain⟨g1,g2⟩:=ih r s h1
     refine⟨by simp[g1],fun i x y hx hy u v hv hu=>?_⟩
     cases i with
     | zero=>
      simp only[List.getElem?_cons_zero,Option.some.injEq] at hx hy
      subst hx hy
      rw[hv.v_eq,hu.v_eq]
      simp[Instr.sameBits]
     | succ i=>exact g2 i x y (by simpa using hx) (by simpa using hy) u v hv hu
    ·rename_i ks1 a r b s e1
     obtain⟨b',h1,h2⟩:=Option.map_eq_some_iff.1 he
     simp only[Bool.and_eq_true] at h2
     obtain⟨hab,rfl⟩:=h2
     rw[←Jq] at hab
     have hab:=(bytes_beq a b).1 hab
     subst hab
     have hh:(a==a)=true:=(bytes_beq a a).2 rfl
     have e2:ks=ks1:=by simp only[List.cons.injEq] at e1;exact e1.2
     subst e2
     obtain⟨g1,g2⟩:=ih r s h1
     refine⟨by simp[g1],fun i x y hx hy u v hv hu=>?_⟩
     cases i with
     | zero=>
      simp only[List.getElem?_cons_zero,Option.some.injEq] at hx hy
      subst hx hy
      rw[hv.v_eq,hu.v_eq]
      simp[Instr.sameBits,hh]
     | succ i=>exact g2 i x y (by simpa using hx) (by simpa using hy) u v hv hu
  obtain⟨g1,g2⟩:=cells ks dx dy hb'
  unfold Instr.sameBits
  simp only[Bool.and_eq_true,beq_iff_eq,List.all_eq_true]
  refine⟨by omega,fun p hp=>?_⟩
  obtain⟨i,hi,hpi⟩:=List.mem_iff_getElem.1 hp
  simp only[List.length_zip,Array.length_toList] at hi
  simp only[List.getElem_zip] at hpi
  subst hpi
  refine g2 i (dx[i]'(by omega)) (dy[i]'(by omega)) (by simp) (by simp) _ _ (Qg i _ _ ?_ ?_) (hyr i _ _ ?_ ?_) <;> simp

theorem oA.push {es:Array MapEntry}{clock n:Nat}(h:oA es clock n)(v x:Value):oA (es.push { key:=v,val:=x,born:=clock }) (clock+1) (es.push { key:=v,val:=x,born:=clock }).size where
 len:=rfl
 YQ:=by simp[h.YQ,h.len]
 born:=fun j e he=>by
  rw[Array.getElem?_push] at he
  split at he
  ·cases he
   rename_i hj
   simp[hj,h.YQ,h.len]
  ·exact h.born j e he

theorem oA.modify {es:Array MapEntry}{clock n:Nat}(h:oA es clock n)(j:Nat)(f:MapEntry→MapEntry)(hf:∀e,(f e).born=e.born):oA (es.modify j f) clock (es.modify j f).size where
 len:=rfl
 YQ:=by simp[h.YQ,h.len]
 born:=fun k e he=>by
  simp only[Array.getElem?_modify] at he
  split at he
  ·obtain⟨e0,h0,rfl⟩:=Option.map_eq_some_iff.1 he
   rw[hf]
   exact h.born k e0 h0
  ·exact h.born k e he

theorem ac0 {dL:List D}{k u:D}(h:D.lost dL=false):D.lost (dL++[.bh [k,u]])=false:=by
 unfold D.lost at h ⊢
 cases dL with
 | nil=>rfl
 | cons x r=>
  simp only[List.cons_append]
  split at h
  ·cases h
  ·rename_i hx
   split
   ·rename_i e
    simp only[List.cons.injEq] at e
    exact(hx r (by rw[e.1])).elim
   ·rfl

theorem acu {dL:List D}{j:Nat}{k u:D}(h:D.lost dL=false):D.lost (dL.set j (.bh [k,u]))=false:=by
 unfold D.lost at h ⊢
 cases dL with
 | nil=>rfl
 | cons x r=>
  cases j with
  | zero=>rfl
  | succ j=>
   simp only[List.set_cons_succ]
   split at h
   ·cases h
   ·rename_i hx
    split
    ·rename_i e
     simp only[List.cons.injEq] at e
     exact(hx r (by rw[e.1])).elim
    ·rfl

theorem Aa {w':World}{bs:List D}{i:Nat}{dL wk:List D}{es':Array MapEntry}{clock':Nat}(hst:dF w ρ.S ρ.aJ bs)(hK:bW ρ.S w w')(oh:bs[i]? = some (.iE dL))(hh:w'.heap[ρ.S.loc i]? = some (.map es' clock'))(mJ:∀b,b≠ρ.S.loc i→w'.heap[b]? = w.heap[b]?)(he:oq w ρ.S es'.toList (D.kept wk))(hsz:aaZ es' clock' wk) :
  dF w' ρ.S ρ.aJ (bs.set i (.iE wk)):=by
 refine hst.set hK oh rfl (fun j x _ _ hne=>mJ _ hne) (fun e sz cs hz=>by cases hz) (fun aqE hz=>?_) fun hz=>by cases hz
 cases hz
 refine⟨es',clock',hh,hsz,fun j e kv hj hkv=>?_⟩
 obtain⟨dk,dv,h1,h2,h3⟩:=he.2 j e kv (by simpa using hj) hkv
 exact⟨dk,dv,h1,h2.keep hK (Sets.le_refl _),h3.keep hK (Sets.le_refl _)⟩

theorem p6 {bs dL:List D}{m:Value}{dm:D}(hst:dF w ρ.S ρ.aJ bs)(hm:bU w ρ.S m dm)(he:D.entries (.st bs) dm=some dL) :
  (m=.map none∧dL=[])∨∃(i:Nat) (es:Array MapEntry) (clock:Nat) (agh:List D),dm=.mp i∧bs[i]? = some (.iE agh)∧dL=D.kept agh∧m=.map (some (ρ.S.loc i))∧w.heap[ρ.S.loc i]? = some (.map es clock)∧oq w ρ.S es.toList dL∧aaZ es clock agh:=by
 unfold D.entries at he
 split at he
 ·cases he
  exact .inl ⟨hm.v_eq,rfl⟩
 ·rename_i i
  simp only at he
  split at he
  ·rename_i wk oh
   cases he
   obtain⟨hf,es,clock,hh,hsz,oa,hr⟩:=hst.maps i _ oh
   refine .inr ⟨i,es,clock,_,rfl,oh,rfl,?_,hh,⟨by simpa using hsz.size,fun j e kv h1 h2=>hr j e kv (by simpa using h1) h2⟩,hsz⟩
   cases hm
   rfl
  ·cases he
 ·cases he

theorem pV {t k e:TypeId}{kd:Kd}(h:uH P t=some (k,e,kd)):P.underlying t=some (.map k e)∧wL P k=some kd:=by
 unfold uH at h
 split at h
 ·rename_i k' e' hu
  obtain⟨kd',hk,h⟩:=Option.map_eq_some_iff.1 h
  cases h
  exact⟨hu,hk⟩
 ·cases h

theorem D2 {t k e:TypeId}{kd:Kd}{bs dL:List D}{m v z:Value}{dm d:D}{ok:Bool}{r:Option (Nat×D)}(hst:dF w ρ.S ρ.aJ bs)(ht:uH P t=some (k,e,kd))(hm:bU w ρ.S m dm)(hv:bU w ρ.S v d)(he:D.entries (.st bs) dm=some dL)(hf:D.uD kd d dL=some r)(hz:(P.info? e).bind (·.zero)=some z) :
  ∃x:Value,(Instr.lookup t m v ok).run P w=.ok (if ok then .tuple #[x,.bool r.isSome] else x) w∧((r=none∧x=z)∨∃j dv,r=some (j,dv)∧bU w ρ.S x dv):=by
 obtain⟨hu,hk⟩:=pV ht
 rcases p6 hst hm he with⟨rfl,rfl⟩ | ⟨i,es,clock,_,rfl,oh,_,rfl,hh,nL,_⟩
 ·obtain⟨hok,hr⟩:=vR (es:=[]) hk hv ⟨rfl,by simp⟩ hf
  rcases hr with⟨rfl,hrun⟩ | ⟨j,dv,e',dk,_,_,h3,_⟩
  ·refine⟨z,?_,.inl ⟨rfl,rfl⟩⟩
   have Td:(Instr.checkKey (#[]:Array MapEntry).isEmpty 10000 k v).run P w=.ok () w:=qo hk hv hok
   simp only[Instr.lookup,Sem.run_bind,run_underlying hu,Result.andThen_ok,Sem.run_pure,Td,hrun,iU hz,Option.isSome_none]
  ·simp at h3
 ·obtain⟨hok,hr⟩:=vR hk hv nL hf
  have Td:(Instr.checkKey es.isEmpty 10000 k v).run P w=.ok () w:=qo hk hv hok
  rcases hr with⟨rfl,hrun⟩ | ⟨j,dv,e',dk,rfl,hrun,h3,h4,_⟩
  ·refine⟨z,?_,.inl ⟨rfl,rfl⟩⟩
   simp only[Instr.lookup,Sem.run_bind,run_underlying hu,Result.andThen_ok,Sem.run_pure,Go.MapKept.run_getObj_map hh,Td,hrun,iU hz,Option.isSome_none]
  ·refine⟨e'.val,?_,.inr ⟨j,dv,rfl,h4⟩⟩
   simp only[Instr.lookup,Sem.run_bind,run_underlying hu,Result.andThen_ok,Sem.run_pure,Go.MapKept.run_getObj_map hh,Td,hrun,Option.isSome_some]

theorem MM {t k e:TypeId}{kd:Kd}{bs:List D}{i:Nat}{v x:Value}{d dx:D}{m:Value}{d':D}(hst:dF w ρ.S ρ.aJ bs)(ht:uH P t=some (k,e,kd))(hm:bU w ρ.S m (.mp i))(hv:bU w ρ.S v d)(hx:bU w ρ.S x dx)(hput:D.Ul kd (.st bs) (.mp i) d dx=some d') :
  ∃(wk:List D) (es':Array MapEntry) (clock':Nat),(∃dL,bs[i]? = some (.iE dL))∧d'=.st (bs.set i (.iE wk))∧(Instr.mapUpdate t m v x).run P w=.ok () { w with heap:=w.heap.setIfInBounds (ρ.S.loc i) (.map es' clock') }∧oq w ρ.S es'.toList (D.kept wk)∧aaZ es' clock' wk:=by
 obtain⟨hu,hk⟩:=pV ht
 unfold D.Ul at hput
 simp only at hput
 split at hput
 ·rename_i dL oh
  obtain⟨r,hf,hput⟩:=Option.map_eq_some_iff.1 hput
  have hlo:=D.acT hf
  have he:D.entries (.st bs) (.mp i)=some dL:=by simp[D.entries,oh,D.acF hlo]
  rcases p6 hst hm he with⟨rfl,_⟩ | ⟨i',es,clock,agh,e1,af4,_,rfl,hh,nL,GL⟩
  ·cases hm
  cases e1
  rw[oh] at af4
  cases af4
  replace GL:=GL.sz hlo
  obtain⟨hok,hr⟩:=vR hk hv nL hf
  have Td:(Instr.checkKey false 10000 k v).run P w=.ok () w:=qo hk hv hok
  rcases hr with⟨rfl,hrun⟩ | ⟨j,dv,e',dk,rfl,hrun,h3,h4,h5,h6⟩
  ·simp only at hput
   subst hput
   refine⟨_,es.push { key:=v,val:=x,born:=clock },clock+1,⟨_,oh⟩,rfl,?_,.afq (ac0 hlo) ⟨?_,?_⟩,aaZ.of (by have:=GL.push v x;rwa [Array.size_push,GL.len,show dL.length+1=(dL++[D.bh [d,dx]]).length from by simp] at this) (ac0 hlo)⟩
   ·simp only[Instr.mapUpdate,Sem.run_bind,run_underlying hu,Result.andThen_ok,Go.MapKept.run_getObj_map hh,Td,hrun,Go.MapKept.run_setObj_map _ hh]
   ·simp[nL.1]
   ·intro j e2 kv hj hkv
    simp only[Array.toList_push] at hj
    rw[List.getElem?_append] at hj hkv
    rw[nL.1] at hj
    split at hj
    ·rename_i hlt
     rw[if_pos hlt] at hkv
     exact nL.2 j e2 kv hj hkv
    ·rename_i hlt
     rw[if_neg hlt] at hkv
     have h0:j-dL.length=0:=by
      have:=(List.getElem?_eq_some_iff.1 hj).1
      simp at this
      omega
     rw[h0] at hj hkv
     simp only[List.getElem?_cons_zero,Option.some.injEq] at hj hkv
     subst hj hkv
     exact⟨_,_,rfl,hv,hx⟩
  ·simp only at hput
   subst hput
   have hjl:j<es.size:=by simpa using(List.getElem?_eq_some_iff.1 h3).1
   have hkey:((es[j]?).map (·.key)).getD v=e'.key:=by
    have:es[j]? = some e':=by simpa using h3
    simp[this]
   have UW:(Instr.keyThatStays e'.key v).run P w=.ok v w:=by
    simp[Instr.keyThatStays,Bi hk hv h5 h6]
   refine⟨_,es.modify j fun e=>{ e with key:=v,val:=x },clock,⟨_,oh⟩,rfl,?_,.afq (acu hlo) ⟨?_,?_⟩,aaZ.of (by have:=GL.modify j (fun e=>{ e with key:=v,val:=x }) fun _=>rfl;rwa [Array.size_modify,GL.len,←List.length_set (as:=dL) (i:=j) (a:=D.bh [d,dx])] at this) (acu hlo)⟩
   ·simp only[Instr.mapUpdate,Sem.run_bind,run_underlying hu,Result.andThen_ok,Go.MapKept.run_getObj_map hh,Td,hrun,hkey,UW,Go.MapKept.run_setObj_map _ hh]
   ·simpa using nL.1
   ·intro q e2 kv hq hkv
    simp only[Array.getElem?_toList,Array.getElem?_modify] at hq
    rw[List.getElem?_set] at hkv
    by_cases hjq:j=q
    ·subst hjq
     rw[if_pos rfl] at hq hkv
     rw[if_pos (by rw[←nL.1];simpa using hjl)] at hkv
     obtain⟨e0,he0,rfl⟩:=Option.map_eq_some_iff.1 hq
     cases hkv
     exact⟨_,_,rfl,hv,hx⟩
    ·rw[if_neg hjq] at hq hkv
     exact nL.2 q e2 kv (by simpa using hq) hkv
 ·cases hput

theorem Np {t k e:TypeId}{kd:Kd}{bs:List D}{m v zv:Value}{dm d z d':D}(hst:dF w ρ.S ρ.aJ bs)(ht:uH P t=some (k,e,kd))(hm:bU w ρ.S m dm)(hv:bU w ρ.S v d)(X9:(P.info? e).bind (·.zero)=some zv)(hz:D.wI zv=some z)(hput:D.Up kd (.st bs) dm d z=some d') :
  ∃(i:Nat) (dL wk:List D) (es':Array MapEntry) (clock':Nat) (u:Value) (j:Nat) (du:D),dm=.mp i∧bs[i]? = some (.iE dL)∧d'=.st (bs.set i (.iE wk))∧D.P3 kd (.st bs) dm d z=some (.bh [du,.int j])∧(Instr.mapEntry t m v).run P w=.ok (.tuple #[u,.int .i64 j]) { w with heap:=w.heap.setIfInBounds (ρ.S.loc i) (.map es' clock') }∧oq w ρ.S es'.toList (D.kept wk)∧aaZ es' clock' wk∧bU w ρ.S u du:=by
 obtain⟨hu,hk⟩:=pV ht
 unfold D.Up at hput
 split at hput
 ·rename_i i bs' e1
  cases e1
  split at hput
  ·rename_i dL oh
   obtain⟨r,hf,hput⟩:=Option.map_eq_some_iff.1 hput
   have hlo:=D.acT hf
   have he:D.entries (.st bs) (.mp i)=some dL:=by simp[D.entries,oh,D.acF hlo]
   rcases p6 hst hm he with⟨rfl,_⟩ | ⟨i',es,clock,agh,e1,af4,_,rfl,hh,nL,GL⟩
   ·cases hm
   cases e1
   rw[oh] at af4
   cases af4
   replace GL:=GL.sz hlo
   obtain⟨hok,hr⟩:=vR (w:=w) hk hv nL hf
   have Td:=qo (w:=w) (em:=false) hk hv hok
   rcases hr with⟨rfl,hrun⟩ | ⟨j,dv,e',dk,rfl,hrun,h3,h4,h5,h6⟩
   ·simp only at hput
    subst hput
    refine⟨i,dL,_,es.push { key:=v,val:=zv,born:=clock },clock+1,zv,clock,z,rfl,oh,rfl,?_,?_,.afq (ac0 hlo) ⟨?_,?_⟩,aaZ.of (by have:=GL.push v zv;rwa [Array.size_push,GL.len,show dL.length+1=(dL++[D.bh [d,z]]).length from by simp] at this) (ac0 hlo),D.lE hz⟩
    ·unfold D.P3
     rw[he,Option.bind_some,hf,GL.YQ]
     rfl
    ·simp only[Instr.mapEntry,Sem.run_bind,run_underlying hu,Result.andThen_ok,Go.MapKept.run_getObj_map hh,Td,hrun,iU X9,Go.MapKept.run_setObj_map _ hh,Sem.run_pure]
     rfl
    ·simp[←nL.1]
    ·intro q e2 kv hq hkv
     rw[Array.toList_push] at hq
     rw[List.getElem?_append] at hq hkv
     rw[nL.1] at hq
     split at hq
     ·rename_i hlt
      rw[if_pos hlt] at hkv
      exact nL.2 q e2 kv hq hkv
     ·rename_i hge
      rw[if_neg hge] at hkv
      have h0:q-dL.length=0:=by
       have:=(List.getElem?_eq_some_iff.1 hq).1
       simp at this
       omega
      rw[h0] at hq hkv
      simp only[List.getElem?_cons_zero,Option.some.injEq] at hq hkv
      subst hq hkv
      exact⟨_,_,rfl,hv,D.lE hz⟩
   ·simp only at hput
    subst hput
    have hjl:j<es.size:=by simpa using(List.getElem?_eq_some_iff.1 h3).1
    have Tc:es[j]? = some e':=by simpa using h3
    have hkey:((es[j]?).map (·.key)).getD v=e'.key:=by simp[Tc]
    have Er:((es[j]?).map fun x=>(x.born:Int)).getD 0=(j:Int):=by simp[Tc,GL.born j e' Tc]
    have UW:(Instr.keyThatStays e'.key v).run P w=.ok v w:=by
     simp[Instr.keyThatStays,Bi hk hv h5 h6]
    refine⟨i,dL,_,es.modify j fun e=>{ e with key:=v },clock,e'.val,j,dv,rfl,oh,rfl,?_,?_,.afq (acu hlo) ⟨?_,?_⟩,aaZ.of (by have:=GL.modify j (fun e=>{ e with key:=v }) fun _=>rfl;rwa [Array.size_modify,GL.len,←List.length_set (as:=dL) (i:=j) (a:=D.bh [d,dv])] at this) (acu hlo),h4⟩
    ·unfold D.P3
     rw[he,Option.bind_some,hf]
     rfl
    ·simp only[Instr.mapEntry,Sem.run_bind,run_underlying hu,Result.andThen_ok,Go.MapKept.run_getObj_map hh,Td,hrun,hkey,UW,Go.MapKept.run_setObj_map _ hh,Er,Sem.run_pure]
     rfl
    ·simpa using nL.1
    ·intro q e2 kv hq hkv
     simp only[Array.getElem?_toList,Array.getElem?_modify] at hq
     rw[List.getElem?_set] at hkv
     by_cases hjq:j=q
     ·subst hjq
      rw[if_pos rfl] at hq hkv
      rw[if_pos (by rw[←nL.1];simpa using hjl)] at hkv
      rw[Tc] at hq
      cases hq
      cases hkv
      exact⟨_,_,rfl,hv,h4⟩
     ·rw[if_neg hjq] at hq hkv
      exact nL.2 q e2 kv (by simpa using hq) hkv
  ·cases hput
 ·cases hput

theorem Rq {t:TypeId}{bs:List D}{m s x:Value}{dm ds dx d':D}(hst:dF w ρ.S ρ.aJ bs)(hm:bU w ρ.S m dm)(hs:bU w ρ.S s ds)(hx:bU w ρ.S x dx)(hput:D.Uo (.st bs) dm ds dx=some d') :
  ∃(i:Nat) (dL wk:List D) (es':Array MapEntry) (clock':Nat),dm=.mp i∧bs[i]? = some (.iE dL)∧d'=.st (bs.set i (.iE wk))∧(Instr.entryStore t m s x).run P w=.ok () { w with heap:=w.heap.setIfInBounds (ρ.S.loc i) (.map es' clock') }∧oq w ρ.S es'.toList (D.kept wk)∧aaZ es' clock' wk:=by
 unfold D.Uo at hput
 split at hput
 ·rename_i i bs' n e1
  cases e1
  split at hput
  ·rename_i dL oh
   split at hput
   ·rename_i hn0
    obtain⟨hn0,hlo⟩:=hn0
    obtain⟨⟨k,u⟩,W4,e0⟩:=Option.map_eq_some_iff.1 hput
    subst e0
    obtain⟨j,rfl⟩:∃j:Nat,n=j:=⟨n.toNat,by omega⟩
    simp only[Int.toNat_natCast] at W4 ⊢
    have he:D.entries (.st bs) (.mp i)=some dL:=by simp[D.entries,oh,D.acF hlo]
    rcases p6 hst hm he with⟨rfl,_⟩ | ⟨i',es,clock,agh,e1,af4,_,rfl,hh,nL,GL⟩
    ·cases hm
    cases e1
    rw[oh] at af4
    cases af4
    replace GL:=GL.sz hlo
    obtain rfl:=hs.v_eq
    unfold An at W4
    split at W4
    ·rename_i k' u' hk
     cases W4
     have hjl:j<es.size:=by
      have:=(List.getElem?_eq_some_iff.1 hk).1
      rw[GL.len]
      exact this
     have Tc:es[j]? = some es[j]:=Array.getElem?_eq_getElem hjl
     obtain⟨dk,dv,e1,e2,e3⟩:=nL.2 j es[j] _ (by simp[hjl]) hk
     cases e1
     have hfind:es.findIdx? (fun e=>(e.born:Int)==(j:Int))=some j:=by
      rw[Array.findIdx?_eq_some_iff_getElem]
      refine⟨hjl,by simp[GL.born j _ Tc],fun q hq=>?_⟩
      have:=GL.born q es[q] (Array.getElem?_eq_getElem (by omega))
      simp[this]
      omega
     refine⟨i,dL,_,es.modify j fun e=>{ e with val:=x },clock,rfl,oh,rfl,?_,.afq (acu hlo) ⟨?_,?_⟩,aaZ.of (by have:=GL.modify j (fun e=>{ e with val:=x }) fun _=>rfl;rwa [Array.size_modify,GL.len,←List.length_set (as:=dL) (i:=j) (a:=D.bh [k,dx])] at this) (acu hlo)⟩
     ·simp only[Instr.entryStore,Sem.run_bind,Go.MapKept.run_getObj_map hh,Result.andThen_ok,asInt,asIntOf,Sem.run_pure,hfind,Go.MapKept.run_setObj_map _ hh]
     ·simpa using nL.1
     ·intro q e2' kv hq hkv
      simp only[Array.getElem?_toList,Array.getElem?_modify] at hq
      rw[List.getElem?_set] at hkv
      by_cases hjq:j=q
      ·subst hjq
       rw[if_pos rfl] at hq hkv
       rw[if_pos (by rw[←nL.1];simpa using hjl)] at hkv
       rw[Tc] at hq
       cases hq
       cases hkv
       exact⟨_,_,rfl,e2,hx⟩
      ·rw[if_neg hjq] at hq hkv
       exact nL.2 q e2' kv (by simpa using hq) hkv
    ·cases W4
   ·cases hput
  ·cases hput
 ·cases hput

theorem ahM {t k e ty:TypeId}{ts:List TypeId}{kd:Kd}{bs:List D}{v:Value}{d:D}{m:Value}{dm d':D}(hst:dF w ρ.S ρ.aJ bs)(ht:uH P t=some (k,e,kd))(hm:bU w ρ.S m dm)(hv:bU w ρ.S v d)(AR:D.aj1 kd (.st bs) dm d=some d') :
  ∃(i:Nat) (dL wk:List D) (es':Array MapEntry) (clock':Nat),dm=.mp i∧bs[i]? = some (.iE dL)∧d'=.st (bs.set i (.iE wk))∧(Builtin.delete_ (t :: ts).toArray ty #[m,v]).run P w=.ok (.tuple #[]) { w with heap:=w.heap.setIfInBounds (ρ.S.loc i) (.map es' clock') }∧oq w ρ.S es'.toList (D.kept wk)∧aaZ es' clock' wk:=by
 obtain⟨hu,hk⟩:=pV ht
 unfold D.aj1 at AR
 split at AR
 ·rename_i i bs' e1
  cases e1
  split at AR
  ·rename_i dL oh
   obtain⟨r,hf,AR⟩:=Option.map_eq_some_iff.1 AR
   have he:D.entries (.st bs) (.mp i)=some (D.kept dL):=by simp[D.entries,oh]
   rcases p6 hst hm he with⟨rfl,_⟩ | ⟨i',es,clock,agh,e1,af4,_,rfl,hh,nL,GL⟩
   ·cases hm
   cases e1
   rw[oh] at af4
   cases af4
   obtain⟨hok,hr⟩:=vR hk hv nL hf
   have Td:(Instr.checkKey es.isEmpty 10000 k v).run P w=.ok () w:=qo hk hv hok
   rcases hr with⟨rfl,hrun⟩ | ⟨j,dv,e',dk,rfl,hrun,h3,h4,h5,h6⟩
   ·simp only at AR
    subst AR
    refine⟨i,dL,dL,es,clock,rfl,oh,rfl,?_,nL,GL⟩
    simp only[Builtin.delete_,List.getElem?_toArray,List.getElem?_cons_zero,Sem.run_bind,run_underlying hu,Result.andThen_ok,Go.MapKept.run_getObj_map hh,Td,hrun,Go.MapKept.run_setObj_map _ hh,Sem.run_pure]
    simp[Go.MapKept.run_getObj_map hh,Td,hrun,Go.MapKept.run_setObj_map _ hh,Sem.run_pure,run_underlying hu,Result.andThen_ok]
   ·simp only at AR
    subst AR
    refine⟨i,dL,_,es.eraseIdxIfInBounds j,clock,rfl,oh,rfl,?_,⟨?_,?_⟩,?_⟩
    ·simp[Builtin.delete_,Go.MapKept.run_getObj_map hh,Td,hrun,Go.MapKept.run_setObj_map _ hh,Sem.run_pure,run_underlying hu,Result.andThen_ok]
    ·have hjl:j<es.size:=by simpa using(List.getElem?_eq_some_iff.1 h3).1
     have h1:=nL.1
     simp only[adw,List.length_eraseIdx,Array.length_toList,Array.eraseIdxIfInBounds,hjl,dif_pos,Array.size_eraseIdx]
     simp only[Array.length_toList] at h1
     rw[h1,if_pos (by omega)]
    ·have hjl:j<es.size:=by simpa using(List.getElem?_eq_some_iff.1 h3).1
     intro q e2 kv hq hkv
     simp only[Array.eraseIdxIfInBounds,hjl,dif_pos,Array.toList_eraseIdx,adw,List.getElem?_eraseIdx] at hq hkv
     split at hq
     ·rename_i hl
      rw[if_pos hl] at hkv
      exact nL.2 q e2 kv hq hkv
     ·rename_i hl
      rw[if_neg hl] at hkv
      exact nL.2 (q+1) e2 kv hq hkv
    ·have hjl:j<es.size:=by simpa using(List.getElem?_eq_some_iff.1 h3).1
     have h1:=GL.size
     unfold aaZ
     rw[if_pos (aic _)]
     simp only[adw,List.length_eraseIdx,Array.eraseIdxIfInBounds,hjl,dif_pos,Array.size_eraseIdx]
     rw[if_pos (by have:=nL.1;simp only[Array.length_toList] at this;omega),h1]
  ·cases AR
 ·cases AR

theorem ahk {o:Oper}{t:TypeId}{ts:List TypeId}{m k:Operand}{v:Value}{w':World}(ho:o.op=.call { callee:=.builtin .delete,args:=#[m,k],argTypes:=(t :: ts).toArray })(hr:(Builtin.delete_ (t :: ts).toArray o.type #[a.eval m,a.eval k]).run P w=.ok v w'):(execOp a.eval o).run P w=.ok (.value v) w':=by
 unfold execOp
 simp only[ho,resolve,invoke,builtin,Sem.run_bind,Sem.run_pure,Result.andThen_ok,List.map_toArray,List.map_cons,List.map_nil,hr]

/-! ## loops over a map -/

theorem Rp {bs:List D}{dm d:D}(h:D.aaB (.st bs) dm=some d):∃i dL,dm=.mp i∧bs[i]? = some (.iE dL)∧D.lost dL=false∧d=.st (bs++[.itb i dL.length []]):=by
 unfold D.aaB at h
 split at h
 ·rename_i i bs' e
  cases e
  split at h
  ·rename_i dL hi
   split at h
   ·cases h
   rename_i hlo
   cases h
   exact⟨i,dL,rfl,hi,by simpa using hlo,rfl⟩
  ·cases h
 ·cases h

theorem Ks {bs:List D}{p:Value}{dp:D}{bs':List D}{i m n:Nat}{seen:List Nat}{dL:List D}(hst:dF w ρ.S ρ.aJ bs)(hp:bU w ρ.S p dp)(h:D.place (.st bs) dp=some (bs',i,m,n,seen,dL)) :
  bs'=bs∧bs[i]? = some (.itb m n seen)∧p=.pointer (some ⟨ρ.S.loc i,0,none⟩)∧m<ρ.S.n∧w.heap[ρ.S.loc i]? = some (.mapIter (some (ρ.S.loc m)) n seen.toArray n)∧∃es:Array MapEntry,w.heap[ρ.S.loc m]? = some (.map es n)∧oA es n n∧oq w ρ.S es.toList dL∧dL.length=n:=by
 unfold D.place at h
 split at h
 ·rename_i ia i1 e
  cases e
  split at h
  ·rename_i m1 n1 aop hi
   split at h
   ·rename_i aqF hm
    split at h
    ·rename_i hn
     obtain⟨hn,hlo⟩:=hn
     cases h
     obtain⟨_,⟨g1,g2⟩,_⟩:=hst.FJ _ _ hi rfl
     obtain⟨_,es,clock,g3,g4,_,g5⟩:=hst.maps _ _ hm
     replace g4:=g4.sz hlo
     rw[D.acF hlo] at g5
     have hc:clock=n:=g4.YQ.trans hn
     subst hc
     cases hp
     refine⟨rfl,hi,rfl,g1,g2,es,g3,by rw[hn] at g4;exact g4,⟨by simpa using g4.len,fun j e kv h1 h2=>g5 j e kv (by simpa using h1) h2⟩,hn⟩
    ·cases h
   ·cases h
  ·cases h
 ·cases h

theorem Sd {bs:List D}{p:Value}{dp d:D}(hst:dF w ρ.S ρ.aJ bs)(hp:bU w ρ.S p dp)(h:D.Nq (.st bs) dp=some d) :
  ∃v1 v2 d1 d2,(Instr.entry p).run P w=.ok (.tuple #[v1,v2]) w∧d=.bh [d1,d2]∧bU w ρ.S v1 d1∧bU w ρ.S v2 d2:=by
 unfold D.Nq at h
 obtain⟨q,BF,hq⟩:=Option.bind_eq_some_iff.1 h
 obtain⟨bs',i,m,n,seen,dL⟩:=q
 simp only at hq
 obtain⟨rfl,hi,rfl,hm,hit,es,nL,hsz,hrd,hn⟩:=Ks hst hp BF
 obtain⟨j,hj,hq2⟩:=Option.bind_eq_some_iff.1 hq
 obtain⟨⟨k,u⟩,W4,e0⟩:=Option.map_eq_some_iff.1 hq2
 simp only at e0
 subst e0
 unfold An at W4
 split at W4
 ·rename_i k' u' hk
  cases W4
  have hjl:j<es.size:=by
   have:=(List.getElem?_eq_some_iff.1 hk).1
   rw[hsz.len,←hn]
   exact this
  obtain⟨dk,dv,e1,e2,e3⟩:=hrd.2 j es[j] _ (by simp[hjl]) hk
  cases e1
  obtain⟨s',rfl⟩:∃s',seen=s'++[j]:=by
   have:=List.getLast?_eq_some_iff.1 hj
   exact this
  refine⟨es[j].key,es[j].val,_,_,?_,rfl,e2,e3⟩
  have Er:es[j].born=j:=hsz.born j _ (by simp[hjl])
  have hnd:(es.toList.map (·.born)).Nodup:=by
   refine List.pairwise_iff_getElem.2 fun a b ha hb hab=>?_
   have hb':b<es.size:=by simpa using hb
   have ha':a<es.size:=by simpa using ha
   simp only[List.getElem_map,Array.getElem_toList]
   rw[hsz.born a _ (Array.getElem?_eq_getElem ha'),hsz.born b _ (Array.getElem?_eq_getElem hb')]
   omega
  have:=run_entry_at (P:=P) w (ρ.S.loc i) (ρ.S.loc m) n s'.toArray es n es[j] (by rw[hit,Er];simp) nL (by simp) hnd
  exact this
 ·cases W4

theorem Ui {ty:TypeId}{bs:List D}{p:Value}{dp:D}{ys:List D}(hst:dF w ρ.S ρ.aJ bs)(hp:bU w ρ.S p dp)(h:D.Um (.st bs) dp=some (.bq ys)) :
  ∃(v:Value) (w':World) (d:D) (bs':List D),.bh [d,.st bs']∈ys∧(Instr.next p false ty).run P w=.ok v w'∧bU w' ρ.S v d∧dF w' ρ.S ρ.aJ bs'∧bW ρ.S w w'∧w'.os=w.os∧TL w' w∧w'.output=w.output∧w'.heap.size=w.heap.size∧∀b,¬ρ.aJ b→w'.heap[b]? = w.heap[b]?:=by
 unfold D.Um at h
 obtain⟨q,BF,hq⟩:=Option.map_eq_some_iff.1 h
 clear h
 obtain⟨bs',i,m,n,seen,dL⟩:=q
 simp only[D.bq.injEq] at hq
 have h:=hq
 clear hq
 obtain⟨rfl,hi,rfl,hm,hit,es,nL,hsz,hrd,hn⟩:=Ks hst hp BF
 have Er:∀(j:Nat) (x:MapEntry),es[j]? = some x→x.born=j:=hsz.born
 have hold:∀x∈es.toList,x.born<n:=fun x hx=>by
  obtain⟨j,hj⟩:=List.getElem?_of_mem hx
  rw[Er j x (by simpa using hj)]
  have:=(List.getElem?_eq_some_iff.1 hj).1
  rw[Array.length_toList,hsz.len] at this
  exact this
 have hf:=(hst.FJ i _ hi rfl).1
 have oa:∀off,¬ρ.S (ρ.S.loc i) off:=fun off=>hst.Cw _ off hf
 have hleft:∀x∈es.toList,(x∈(leftOf es seen.toArray).toList↔x.born∈D8 n seen):=fun x hx=>by
  have:=hold x hx
  simp only[leftOf,D8,Array.toList_filter,List.mem_filter,List.contains_toArray,List.mem_range,hx,this,true_and]
 rcases run_next_at (P:=P) w ty (ρ.S.loc i) (ρ.S.loc m) n n seen.toArray es n hit nL hold (Nat.le_refl _) with⟨h0,hrun⟩ | ⟨e,he,w1,hw1,hrun⟩
 ·have alL:(D8 n seen).isEmpty=true:=by
   rw[List.isEmpty_iff]
   refine List.eq_nil_iff_forall_not_mem.2 fun j hj=>?_
   have hjn:j<n:=by simp only[D8,List.mem_filter,List.mem_range] at hj;exact hj.1
   have hjl:j<es.size:=by rw[hsz.len];exact hjn
   have hb:=Er j es[j] (Array.getElem?_eq_getElem hjl)
   have:=(hleft es[j] (by simp)).2 (by rw[hb];exact hj)
   rw[Array.eq_empty_of_size_eq_zero h0] at this
   simp at this
  rw[if_pos alL] at h
  subst h
  exact⟨_,w,.bh [.bool false],bs',by simp,hrun,.bh rfl fun j v d hv hd=>by
   match j with
   | 0=>simp at hv hd;subst hv hd;exact .v rfl
   | j+1=>simp at hv,hst,bW.refl _ _,rfl,.refl _,rfl,rfl,fun _ _=>rfl⟩
 ·have afX:e∈es.toList:=by
   simp only[leftOf,Array.toList_filter,List.mem_filter] at he
   exact he.1
  have hj:=(hleft e afX).1 he
  obtain⟨j,Vi⟩:=List.getElem?_of_mem afX
  have Tc:es[j]? = some e:=by simpa using Vi
  have hb:=Er j e Tc
  rw[hb] at hj
  have hne:¬(D8 n seen).isEmpty=true:=fun hh=>by
   rw[List.isEmpty_iff] at hh
   rw[hh] at hj
   cases hj
  rw[if_neg hne] at h
  have hjl:j<dL.length:=by rw[hn,←hsz.len];exact(Array.getElem?_eq_some_iff.1 Tc).1
  obtain⟨dk,dv,e1,e2,e3⟩:=hrd.2 j e dL[j] Vi (by simp)
  have hw:w1.heap=w.heap∧w1.os=w.os∧TL w1 w∧w1.output=w.output:=by
   rcases hw1 with rfl | rfl
   ·exact⟨rfl,rfl,.refl _,rfl⟩
   ·exact⟨rfl,rfl,⟨rfl,Nat.le_succ _⟩,rfl⟩
  have mU:ρ.S.loc i<w.heap.size:=(Array.getElem?_eq_some_iff.1 hit).1
  have kY:∀b,b≠ρ.S.loc i→(ChangeMaps.setBlock w1 (ρ.S.loc i) (.mapIter (some (ρ.S.loc m)) n (seen.toArray.push e.born) n)).heap[b]? = w.heap[b]?:=fun b hb=>by
   simp only[ChangeMaps.setBlock,hw.1,Array.getElem?_setIfInBounds,Ne.symm hb,if_false]
  have xF:(ChangeMaps.setBlock w1 (ρ.S.loc i) (.mapIter (some (ρ.S.loc m)) n (seen.toArray.push e.born) n)).heap[ρ.S.loc i]? = some (.mapIter (some (ρ.S.loc m)) n (seen++[j]).toArray n):=by
   simp only[ChangeMaps.setBlock,hw.1,Array.getElem?_setIfInBounds,if_true,mU,hb]
   simp
  have hK:bW ρ.S w (ChangeMaps.setBlock w1 (ρ.S.loc i) (.mapIter (some (ρ.S.loc m)) n (seen.toArray.push e.born) n)):=fun b o GS=>World.cell?_of_block (a:=⟨b,o,none⟩) (kY b fun e=>oa o (e ▸ GS))
  refine⟨_,_,.bh [.bool true,dk,dv],bs'.set i (.itb m n (seen++[j])),?_,hrun,?_,?_,hK,hw.2.1,⟨hw.2.2.1.tape,hw.2.2.1.dr⟩,hw.2.2.2,by simp[ChangeMaps.setBlock,hw.1],fun b hb=>kY b fun e=>hb (e ▸ hf)⟩
  ·rw[←h,List.mem_filterMap]
   refine⟨j,hj,?_⟩
   unfold An
   rw[List.getElem?_eq_getElem hjl,e1]
   rfl
  ·refine .bh rfl fun q v d hv hd=>?_
   match q with
   | 0=>simp at hv hd;subst hv hd;exact .v rfl
   | 1=>simp at hv hd;subst hv hd;exact e2.keep hK (Sets.le_refl _)
   | 2=>simp at hv hd;subst hv hd;exact e3.keep hK (Sets.le_refl _)
   | q+3=>simp at hv
  ·refine hst.set hK hi rfl (fun k x _ _ hne=>kY _ hne) (fun e sz cs hz=>by cases hz) (fun dL hz=>by cases hz) fun _=>⟨hm,xF⟩

theorem NC {o:Oper}{ct:Operand→SV}{ix:Nat}{r:eV}(hv:∀x,ef w ρ env (a.eval x) (ct x))(hl:lmap P o ct σ.obj ix=some r)(h:cu w0 X w a σ env ρ)(hd:∀d,o.dst=some d→d<σ.tmps.length)(hb:cn P env ix r.bind) :
  (r.eM=none∧gq P o a w w0 X (σ.put o.dst r.val) env)∨∃z,r.eM=some (bN,z)∧gq P o a w w0 X ((σ.setObj bN (some z)).put o.dst r.val) env:=by
 unfold lmap at hl
 split at hl
 case isFalse=>cases hl
 unfold qv at hl
 split at hl
 case h_2=>cases hl
 rename_i cf hx dN
 obtain⟨bs,jC,hst,_⟩:=h.dO _ _ dN
 have eM:∀{t:TypeId} {m k x:Operand} {ty:TypeId×TypeId×Kd} {m' k' x':E},(execOp a.eval o).run P w=((Instr.mapUpdate t (a.eval m) (a.eval k) (a.eval x)).run P w).andThen (fun _ w'=>.ok .skip w')→uH P t=some ty→(ct m).jx=some m'→(ct k).jx=some k'→(ct x).jx=some x'→cf.ro=false →
   cn P env ix (some (.ev (.m4 (.put ty.2.2) hx m' k' x')))→gq P o a w w0 X ((σ.setObj bN (some (.store cf (.sym ix)))).put o.dst .cE) env:=by
  rintro t m k x ⟨kt,e,kd⟩ m' k' x' fH FL hm' hk' hx' hro hb
  obtain⟨dm,FO,hrm⟩:=SV.ck hm' (hv m)
  obtain⟨dk,hdk,Fs⟩:=SV.ck hk' (hv k)
  obtain⟨dx,pY,mT⟩:=SV.ck hx' (hv x)
  obtain⟨d,he,cW⟩:=hb
  simp only[E.eval,jC,FO,hdk,pY,Option.bind_some,D.m4] at he
  have hmp:∃i,dm=.mp i:=by
   unfold D.Ul at he
   split at he
   ·exact⟨_,rfl⟩
   ·cases he
  obtain⟨i,rfl⟩:=hmp
  obtain⟨wk,es',clock',⟨dL,oh⟩,rfl,hrun,nL,GL⟩:=MM hst FL hrm Fs mT he
  rw[hrun] at fH
  obtain⟨hf,es0,Wp,hh,_,oa,_⟩:=hst.maps i _ oh
  obtain⟨g1,g2⟩:=heap_set (o':=.map es' clock') hh
  refine Qdx fH ((h.setBlock (w':={ w with heap:=w.heap.setIfInBounds (ρ.S.loc i) (.map es' clock') }) (.inl rfl) dN (b0:=ρ.S.loc i) hf (by simpa[bl.ro] using hro) (by intro _ hh;exact hh) oa (fun b hb'=>g2 b hb') rfl ⟨rfl,Nat.le_refl _⟩ rfl (by simp) fun hk=>?_).put (by rw[af.aZ];exact hd) .cE)
  exact⟨_,by simp only[E.eval];exact cW,Aa hst hk oh g1 g2 nL GL,rfl⟩
 split at hl
 ·rename_i t ho
  split at hl
  ·cases hl
  rename_i hro
  have hro:cf.ro=false:=by simpa using hro
  cases hl
  obtain⟨d,he,cW⟩:=hb
  simp only[E.eval,jC,Option.bind_some,D.m4] at he
  cases he
  have hrun:(execOp a.eval o).run P w=.ok (.value (.map (some w.heap.size))) (w.alloc (.map #[] 0)):=by
   unfold execOp
   simp only[ho,Option.map_none,Sem.run_bind]
   rfl
  obtain⟨bn,hn⟩:=h.Aw (k:=0) (z:=.iE []) (ob:=.map #[] 0) (x':=.sym ix) dN hro jC (fun e sz cs hz=>by cases hz) (fun dL hz=>by cases hz;exact⟨#[],0,rfl,aaZ.of ⟨rfl,rfl,by simp⟩ rfl,by simp⟩) (by simp only[E.eval];exact cW)
  refine .inr ⟨_,rfl,c_ hrun (bn.put (by rw[af.aZ];exact hd) ?_)⟩
  refine .e (d:=.mp bs.length) (by simp only[E.eval,jC];rfl) ?_ fun _=>rfl
  have:=bU.mp (w:=w.alloc (.map #[] 0)) (S:=ρ.S.more w.heap.size 0) (i:=bs.length) (by simp[Sets.more,hn])
  have hl:(ρ.S.more w.heap.size 0).loc bs.length=w.heap.size:=by simp[Sets.more,hn]
  rwa [hl] at this
 ·rename_i t m k x ho
  split at hl
  ·cases hl
  rename_i hro
  split at hl
  ·rename_i ty m' k' x' FL hm' hk' hx'
   cases hl
   exact .inr ⟨_,rfl,eM (by unfold execOp;rw[ho];simp only[Sem.run_bind,Sem.run_pure]) FL hm' hk' hx' (by simpa using hro) hb⟩
  ·cases hl
 ·rename_i t m k x ho
  split at hl
  ·cases hl
  rename_i hro
  split at hl
  ·rename_i ty m' k' x' FL hm' hk' hx'
   cases hl
   exact .inr ⟨_,rfl,eM (by unfold execOp;rw[ho];simp only[Sem.run_bind,Sem.run_pure]) FL hm' hk' hx' (by simpa using hro) hb⟩
  ·cases hl
 ·rename_i t m k ok ho
  split at hl
  ·rename_i kt e kd m' k' FL hm' hk'
   split at hl
   ·rename_i z agg hz hagg
    obtain⟨zv,X9,hz⟩:=Option.bind_eq_some_iff.1 hz
    obtain⟨dm,FO,hrm⟩:=SV.ck hm' (hv m)
    obtain⟨dk,hdk,Fs⟩:=SV.ck hk' (hv k)
    split at hl
    ·rename_i hok
     subst hok
     cases hl
     obtain⟨d,he,cW⟩:=hb
     simp only[E.eval,jC,FO,hdk,Option.bind_some,D.m4,Option.bind_eq_some_iff,Option.map_eq_some_iff] at he
     obtain⟨dL,Vg,rr,hrr,he⟩:=he
     obtain⟨x,hrun,hx⟩:=D2 (ok:=true) hst FL hrm Fs Vg hrr X9
     have fH:(execOp a.eval o).run P w=.ok (.value (.tuple #[x,.bool rr.isSome])) w:=by
      unfold execOp
      simp only[ho,Sem.run_bind,hrun,Result.andThen_ok,Sem.run_pure,if_true]
     refine .inl ⟨rfl,c_ fH (h.put hd ?_)⟩
     obtain⟨dd,JJ,hxd⟩:∃dd,d=.bh [dd,.bool rr.isSome]∧bU w ρ.S x dd:=by
      rcases hx with⟨rfl,rfl⟩ | ⟨j,dv,rfl,hdv⟩
      ·exact⟨_,he.symm,D.lE hz⟩
      ·exact⟨_,he.symm,hdv⟩
     subst JJ
     refine .bh rfl fun i v c Qcz hc=>?_
     match i with
     | 0=>
      simp at Qcz hc
      subst Qcz hc
      exact .e (d:=dd) (by simp[E.eval,cW,D.az]) hxd (by simp)
     | 1=>
      simp at Qcz hc
      subst Qcz hc
      exact .e (d:=.bool rr.isSome) (by simp[E.eval,cW,D.az]) (.v rfl) (fun _=>rfl)
     | i+2=>simp at hc
    ·rename_i hok
     have hok:ok=false:=by simpa using hok
     subst hok
     cases hl
     obtain⟨d,he,cW⟩:=hb
     simp only[E.eval,jC,FO,hdk,Option.bind_some,D.m4,Option.bind_eq_some_iff] at he
     obtain⟨dL,Vg,rr,hrr,he⟩:=he
     obtain⟨x,hrun,hx⟩:=D2 (ok:=false) hst FL hrm Fs Vg hrr X9
     have fH:(execOp a.eval o).run P w=.ok (.value x) w:=by
      unfold execOp
      simp only[ho,Sem.run_bind,hrun,Result.andThen_ok,Sem.run_pure]
      rfl
     refine .inl ⟨rfl,c_ fH (h.put hd ?_)⟩
     rcases hx with⟨rfl,rfl⟩ | ⟨j,dv,rfl,hdv⟩
     ·simp only at he
      split at he
      ·rename_i hone
       cases he
       exact .e cW (D.lE hz) fun JK=>hone.resolve_left (by simpa using JK)
      ·cases he
     ·simp only at he
      split at he
      ·rename_i hone
       cases he
       exact .e cW hdv fun JK=>hone.resolve_left (by simpa using JK)
      ·cases he
   ·cases hl
  ·cases hl
 ·rename_i t m ho
  split at hl
  ·cases hl
  rename_i hro
  have hro:cf.ro=false:=by simpa using hro
  split at hl
  ·rename_i ty m' FL hm'
   cases hl
   obtain⟨kt,e,kd⟩:=ty
   obtain⟨hu,_⟩:=pV FL
   obtain⟨dm,FO,hrm⟩:=SV.ck hm' (hv m)
   obtain⟨d,he,cW⟩:=hb
   simp only[E.eval,jC,FO,Option.bind_some,D.m4] at he
   obtain⟨i,dL,rfl,oh,hlo,rfl⟩:=Rp he
   obtain⟨hf,es,clock,hh,hsz,oa,hr⟩:=hst.maps i _ oh
   replace hsz:=hsz.sz hlo
   have hlt:i<ρ.S.n:=by rw[hst.n];exact(List.getElem?_eq_some_iff.1 oh).1
   have hme:a.eval m=.map (some (ρ.S.loc i)):=by
    generalize a.eval m=v at hrm
    cases hrm
    rfl
   have hrun:(execOp a.eval o).run P w=.ok (.value (.pointer (some ⟨w.heap.size,0,none⟩))) (w.alloc (.mapIter (some (ρ.S.loc i)) dL.length [].toArray dL.length)):=by
    unfold execOp
    simp only[ho,hme,Instr.range,Sem.run_bind,run_underlying hu,Result.andThen_ok,Go.MapKept.run_getObj_map hh,hsz.YQ,Sem.run_pure]
    rfl
   obtain⟨bn,hn⟩:=h.Aw (k:=0) (z:=.itb i dL.length []) (ob:=.mapIter (some (ρ.S.loc i)) dL.length [].toArray dL.length) (x':=.sym ix) dN hro jC (fun e sz cs hz=>by cases hz) (fun dL hz=>by cases hz) (by simp only[E.eval];exact cW) (fun _=>⟨Nat.lt_succ_of_lt hlt,by rw[(ρ.S.qw w.heap.size 0).loc _ hlt]⟩)
   refine .inr ⟨_,rfl,c_ hrun (bn.put (by rw[af.aZ];exact hd) ?_)⟩
   exact EA jC hn
  ·cases hl
 ·rename_i t m k ho
  split at hl
  ·cases hl
  rename_i hro
  have hro:cf.ro=false:=by simpa using hro
  split at hl
  ·rename_i kt e kd m' k' FL hm' hk'
   obtain⟨z,hz,rfl⟩:=Option.map_eq_some_iff.1 hl
   obtain⟨zv,X9,hz⟩:=Option.bind_eq_some_iff.1 hz
   obtain⟨dm,FO,hrm⟩:=SV.ck hm' (hv m)
   obtain⟨dk,hdk,Fs⟩:=SV.ck hk' (hv k)
   obtain⟨d,he,cW⟩:=hb
   simp only[E.eval,jC,FO,hdk,Option.bind_some,D.m4] at he
   obtain⟨i,dL,wk,es',clock',u,j,du,rfl,oh,rfl,Vr,hrun,nL,GL,hu⟩:=Np (P:=P) hst FL hrm Fs X9 hz he
   have fH:(execOp a.eval o).run P w=.ok (.value (.tuple #[u,.int .i64 j])) { w with heap:=w.heap.setIfInBounds (ρ.S.loc i) (.map es' clock') }:=by
    unfold execOp
    simp only[ho,Sem.run_bind,hrun,Result.andThen_ok,Sem.run_pure]
   obtain⟨hf,es0,Wp,hh,_,oa,_⟩:=hst.maps i _ oh
   obtain⟨g1,g2⟩:=heap_set (o':=.map es' clock') hh
   have hK:bW ρ.S w { w with heap:=w.heap.setIfInBounds (ρ.S.loc i) (.map es' clock') }:=fun b o hs=>World.cell?_of_block (a:=⟨b,o,none⟩) (g2 b fun e=>oa o (e ▸ hs))
   have hX:(E.m4 (.V2 kd) hx m' k' (.const z)).eval env=some (.bh [du,.int j]):=by
    simp only[E.eval,jC,FO,hdk,Option.bind_some,D.m4]
    exact Vr
   refine .inr ⟨_,rfl,c_ fH ((h.setBlock (w':={ w with heap:=w.heap.setIfInBounds (ρ.S.loc i) (.map es' clock') }) (.inl rfl) dN (b0:=ρ.S.loc i) hf (by simpa[bl.ro] using hro) (by intro _ hh;exact hh) oa (fun b hb'=>g2 b hb') rfl ⟨rfl,Nat.le_refl _⟩ rfl (by simp) fun hk=>?_).put (by rw[af.aZ];exact hd) ?_)⟩
   ·exact⟨_,by simp only[E.eval];exact cW,Aa hst hk oh g1 g2 nL GL,rfl⟩
   ·refine .bh rfl fun q v c Qcz hc=>?_
    match q with
    | 0=>
     simp at Qcz hc
     subst Qcz hc
     exact .e (d:=du) (by simp only[E.eval] at hX ⊢;rw[hX];rfl) (hu.keep hK (Sets.le_refl _)) (by simp)
    | 1=>
     simp at Qcz hc
     subst Qcz hc
     exact .e (d:=.int j) (by simp only[E.eval] at hX ⊢;rw[hX];rfl) (.v rfl) fun _=>rfl
    | q+2=>simp at hc
  ·cases hl
 ·rename_i t m s x ho
  split at hl
  ·cases hl
  rename_i hro
  have hro:cf.ro=false:=by simpa using hro
  split at hl
  ·rename_i m' s' x' hm' hs' hx'
   cases hl
   obtain⟨dm,FO,hrm⟩:=SV.ck hm' (hv m)
   obtain⟨ds,hds,tI⟩:=SV.ck hs' (hv s)
   obtain⟨dx,pY,mT⟩:=SV.ck hx' (hv x)
   obtain⟨d,he,cW⟩:=hb
   simp only[E.eval,jC,FO,hds,pY,Option.bind_some,D.m4] at he
   obtain⟨i,dL,wk,es',clock',rfl,oh,rfl,hrun,nL,GL⟩:=Rq (P:=P) (t:=t) hst hrm tI mT he
   have fH:(execOp a.eval o).run P w=.ok .skip { w with heap:=w.heap.setIfInBounds (ρ.S.loc i) (.map es' clock') }:=by
    unfold execOp
    simp only[ho,Sem.run_bind,hrun,Result.andThen_ok,Sem.run_pure]
   obtain⟨hf,es0,Wp,hh,_,oa,_⟩:=hst.maps i _ oh
   obtain⟨g1,g2⟩:=heap_set (o':=.map es' clock') hh
   refine .inr ⟨_,rfl,Qdx fH ((h.setBlock (w':={ w with heap:=w.heap.setIfInBounds (ρ.S.loc i) (.map es' clock') }) (.inl rfl) dN (b0:=ρ.S.loc i) hf (by simpa[bl.ro] using hro) (by intro _ hh;exact hh) oa (fun b hb'=>g2 b hb') rfl ⟨rfl,Nat.le_refl _⟩ rfl (by simp) fun hk=>?_).put (by rw[af.aZ];exact hd) .cE)⟩
   exact⟨_,by simp only[E.eval];exact cW,Aa hst hk oh g1 g2 nL GL,rfl⟩
  ·cases hl
 ·rename_i it ho
  obtain⟨p,hp,rfl⟩:=Option.map_eq_some_iff.1 hl
  obtain⟨dp,hdp,Ye⟩:=SV.ck hp (hv it)
  obtain⟨d,he,cW⟩:=hb
  simp only[E.eval,jC,hdp,Option.bind_some,D.m4] at he
  obtain⟨v1,v2,d1,d2,hrun,rfl,h1,h2⟩:=Sd (P:=P) hst Ye he
  have fH:(execOp a.eval o).run P w=.ok (.value (.tuple #[v1,v2])) w:=by
   unfold execOp
   simp only[ho,Sem.run_bind,hrun,Result.andThen_ok,Sem.run_pure]
  refine .inl ⟨rfl,c_ fH (h.put hd ?_)⟩
  refine .bh rfl fun i v c Qcz hc=>?_
  match i with
  | 0=>
   simp at Qcz hc
   subst Qcz hc
   exact .e (d:=d1) (by simp[E.eval,cW,D.az]) h1 (by simp)
  | 1=>
   simp at Qcz hc
   subst Qcz hc
   exact .e (d:=d2) (by simp[E.eval,cW,D.az]) h2 (by simp)
  | i+2=>simp at hc
 ·rename_i c ho
  split at hl
  ·rename_i ku
   split at hl
   ·rename_i x t hargs hts
    split at hl
    ·split at hl
     ·rename_i ty m' FL hm'
      cases hl
      obtain⟨kt,e,kd⟩:=ty
      obtain⟨hu,_⟩:=pV FL
      obtain⟨dm,FO,hrm⟩:=SV.ck hm' (hv x)
      obtain⟨d,he,cW⟩:=hb
      simp only[E.eval,jC,FO,Option.bind_some,D.m4,Option.map_eq_some_iff] at he
      obtain⟨dL,Vg,rfl⟩:=he
      have ho':o.op=.call { callee:=.builtin .len,args:=#[x],argTypes:=#[t] }:=by
       rw[ho]
       obtain⟨c1,c2,c3⟩:=c
       simp only at ku hargs hts
       subst ku
       congr 2
       ·exact Array.toList_inj.1 (by simpa using hargs)
       ·exact Array.toList_inj.1 (by simpa using hts)
      have fH:(execOp a.eval o).run P w=.ok (.value (.int .i64 dL.length)) w:=by
       refine EK ho' ?_
       rcases p6 hst hrm Vg with⟨e1,rfl⟩ | ⟨i,es,clock,agh,rfl,oh,ek,e1,hh,nL,GL⟩
       ·rw[e1]
        simp only[Builtin.len_,List.getElem?_toArray,List.getElem?_cons_zero,Sem.run_bind,run_underlying hu,Result.andThen_ok,Sem.run_pure]
        rfl
       ·rw[e1]
        simp only[Builtin.len_,List.getElem?_toArray,List.getElem?_cons_zero,Sem.run_bind,run_underlying hu,Result.andThen_ok,Go.MapKept.run_getObj_map hh,Sem.run_pure,GL.size,ek]
        rfl
      exact .inl ⟨rfl,c_ fH (h.put hd (.e cW (.v rfl) fun _=>rfl))⟩
     ·cases hl
    ·cases hl
   ·cases hl
  ·rename_i ku
   split at hl
   ·cases hl
   rename_i hro
   have hro:cf.ro=false:=by simpa using hro
   split at hl
   ·rename_i x y t ts hargs hts
    split at hl
    ·rename_i kt e kd m' k' FL hm' hk'
     cases hl
     obtain⟨dm,FO,hrm⟩:=SV.ck hm' (hv x)
     obtain⟨dk,hdk,Fs⟩:=SV.ck hk' (hv y)
     obtain⟨d,he,cW⟩:=hb
     simp only[E.eval,jC,FO,hdk,Option.bind_some,D.m4] at he
     have ho':o.op=.call { callee:=.builtin .delete,args:=#[x,y],argTypes:=(t :: ts).toArray }:=by
      rw[ho]
      obtain⟨c1,c2,c3⟩:=c
      simp only at ku hargs hts
      subst ku
      congr 2
      ·exact Array.toList_inj.1 (by simpa using hargs)
      ·exact Array.toList_inj.1 (by simpa using hts)
     obtain⟨i,dL,wk,es',clock',rfl,oh,rfl,hrun,nL,GL⟩:=ahM (P:=P) (ty:=o.type) (ts:=ts) hst FL hrm Fs he
     have fH:=ahk (P:=P) (a:=a) ho' hrun
     obtain⟨hf,es0,Wp,hh,_,oa,_⟩:=hst.maps i _ oh
     obtain⟨g1,g2⟩:=heap_set (o':=.map es' clock') hh
     refine .inr ⟨_,rfl,c_ fH ((h.setBlock (w':={ w with heap:=w.heap.setIfInBounds (ρ.S.loc i) (.map es' clock') }) (.inl rfl) dN (b0:=ρ.S.loc i) hf (by simpa[bl.ro] using hro) (by intro _ hh;exact hh) oa (fun b hb'=>g2 b hb') rfl ⟨rfl,Nat.le_refl _⟩ rfl (by simp) fun hk=>?_).put (by rw[af.aZ];exact hd) .cE)⟩
     exact⟨_,by simp only[E.eval];exact cW,Aa hst hk oh g1 g2 nL GL,rfl⟩
    ·cases hl
   ·cases hl
  ·cases hl
 ·cases hl

end
end
end

section
noncomputable section

structure j5 where
 val:SV
 eM:Option (Nat×bl)
 del:Option Nat
 bind:Option Bind
 deriving Inhabited

def eV.eu (r:eV):j5:=⟨r.val,r.eM,none,r.bind⟩

def af.jM (σ:af):Option Nat→af
 | none=>σ
 | some k=>σ.setObj k none

def af.sets (σ:af):Option (Nat×bl)→af
 | none=>σ
 | some u=>σ.setObj u.1 (some u.2)

def af.app (σ:af)(dst:Option Tmp)(e:j5):af:=((σ.jM e.del).sets e.eM).put dst e.val

def lY:Operand→Bool
 | .const (.slice none 0 0)=>true
 | _=>false

def jL (o:Oper):Bool:=
 match o.op with
 | .alloc _ | .box _ _ | .buildSlice _ _ _ | .makeSlice _ _ _=>true
 | .assign x=>lY x
 | .call c=>(match c.callee with | .builtin .append=>true | _=>false)
 | _=>false

def Ad (o:Oper)(σ:af)(e:j5):Bool:=
 !jL o||match e.eM with | some u=>decide (u.1=bN)||(o.op.operands.all fun x=>(σ.ct [] x).aT u.1) | none=>true

def XS (e:j5):Bool:=match e.eM with | some u=>decide (u.1≠bN) | none=>true

theorem Gw {e:j5}(h:XS e=true){u:Nat×bl}(hu:e.eM=some u):u.1≠bN:=by
 unfold XS at h
 rw[hu] at h
 simpa using h

def AS (σ:af)(o:Oper)(e:j5):Prop:=jL o=true→∀u,e.eM=some u→u.1≠bN→σ.obj u.1=none∧σ.aT u.1∧∀x,x∈o.op.operands→(σ.ct [] x).aT u.1=true

theorem J9 {o:Oper}{σ:af}{e:j5}(h:Ad o σ e=true)(hn:jL o=true){u:Nat×bl}(hu:e.eM=some u)(hne:u.1≠bN):∀x,x∈o.op.operands→(σ.ct [] x).aT u.1=true:=by
 simp only[Ad,hn,hu,Bool.not_true,Bool.false_or,Bool.or_eq_true,decide_eq_true_eq] at h
 exact fun x hx=>Array.all_eq_true'.1 (h.resolve_left hne) x hx

def Ih (P:Program)(t:TypeId)(dst:Option Tmp):Option j5:=
 match dst,P.underlying t with
 | some d,some (.slice e)=>(w9 P e).map fun n=>⟨.own (.const (.bq [])) d,some (d,.tok e n),none,none⟩
 | _,_=>none

def vU (P:Program)(t:TypeId)(s x:SV)(dst:Option Tmp)(obj:Nat→Option bl)(ix:Nat):Option j5:=
 match dst,P.underlying t,s with
 | some d,some (.slice e),.own y k=>match obj k,P.info? e,x.jx with
  | some (.tok e' size),some i,some x'=>match i.zero with
   | some z=>if e=e'∧i.size=size∧z.cells.size=size∧0<size then some ⟨.own (.sym ix) d,some (d,.tok e size),some k,some (.ev (.app size i.bytes y x'))⟩ else none
   | none=>none
  | _,_,_=>none
 | _,_,_=>none

def D9 (P:Program)(t:TypeId)(x:SV)(dst:Option Tmp)(ix:Nat):Option j5:=
 match dst,P.underlying t with
 | some d,some (.slice e)=>match P.info? e,x.jx with
  | some i,some x'=>match i.zero with
   | some z=>if z.cells.size=i.size∧0<i.size then some ⟨.own (.sym ix) d,some (d,.tok e i.size),none,some (.ev (.app i.size i.bytes (.const (.bq [])) x'))⟩ else none
   | none=>none
  | _,_=>none
 | _,_=>none

def DN (obj:Nat→Option bl):Bool:=match jv obj with | some cf=>cf.FB | none=>false

def Ii (nz:Bool)(P:Program)(o:Oper)(ct:Operand→SV)(obj:Nat→Option bl)(ix:Nat):Option j5:=
 match o.op with
 | .assign x=>if lY x then Ih P o.type o.dst else none
 | .makeSlice t n c=>(GA nz P t (ct n) (ct c) o.dst ix).map eV.eu
 | .buildSlice t len parts=>(NG P t len parts.toList ct o.dst ix).map eV.eu
 | .call c=>match c.callee with
  | .builtin .append=>match c.args.toList,c.argTypes.toList with
   | [s,x],[t,t']=>if t=t' then(if lY s=true then D9 P t (ct x) o.dst ix else vU P t (ct s) (ct x) o.dst obj ix) else none
   | _,_=>none
  | _=>none
 | _=>none

def AB (P:Program)(nz:Bool)(o:Oper)(ct:Operand→SV)(ix:Nat):Option eV:=
 match o.op with
 | .build t parts=>Ir nz P t parts.toList ct ix
 | _=>Gz P o ct ix

def BN (P:Program)(o:Oper)(ct:List (E×Bool)→Operand→SV)(act:List (E×Bool))(obj:Nat→Option bl)(ix:Nat):Option j5:=
 match RE P o (ct act) act obj ix with
 | some r=>some r.eu
 | none=>match RA P o (ct []) obj ix with
  | some r=>some r.eu
  | none=>match lmap P o (ct act) obj ix with
  | some r=>some r.eu
  | none=>match Ii (DN obj) P o (ct []) obj ix with
   | some e=>if XS e then some e else none
   | none=>match AB P (DN obj) o (ct act) ix with
    | some r=>some r.eu
    | none=>(Gy P o ct act obj ix).bind fun r=>if !jL o||XS r.eu then some r.eu else none

section
variable {P:Program} {w w0:World} {X:kG} {a:Act} {σ:af} {env:List D} {ρ:dJ}

theorem mP {k o:Nat}{y:bl}(hy:(σ.setObj k none).obj o=some y):o≠k∧σ.obj o=some y:=by
 rcases af.Cc hy with⟨_,h⟩ | h
 ·cases h
 ·exact h

theorem cu.V7 (h:cu w0 X w a σ env ρ)(k:Nat):cu w0 X w a (σ.setObj k none) env ρ:=
 ⟨by rw[af.aZ];exact h.size,fun t=>by rw[af.ga];exact h.tmps t,fun o y hy=>h.dO o y (mP hy).2,fun o o' y y' b h1 h2=>h.inj o o' y y' b (mP h1).2 (mP h2).2,fun o y b h1=>h.own o y b (mP h1).2,h.cells,h.os,h.tape,h.output,h.grown,h.old,h.sub,h.new,h.zT,h.hold⟩

theorem wX {k d:Nat}(h:σ.aT d):(σ.setObj k none).aT d:=
 ⟨fun t=>by rw[af.ga];exact h.1 t,fun o y hy=>h.2 o y (mP hy).2⟩

theorem FC {o:Oper} {x:Operand} {e:j5} (ho:o.op=.assign x) (hx:lY x=true) (hl:Ih P o.type o.dst=some e) (h:cu w0 X w a σ env ρ) (hd:∀d,o.dst=some d→d<σ.tmps.length) (hm:σ.mem.length=σ.tmps.length)
  (hf:∀u,e.eM=some u→σ.obj u.1=none∧σ.aT u.1):gq P o a w w0 X (σ.app o.dst e) env:=by
 unfold Ih at hl
 split at hl
 ·rename_i d el ig hu
  obtain⟨n,hn,rfl⟩:=Option.map_eq_some_iff.1 hl
  obtain⟨hfree,ox⟩:=hf _ rfl
  have hdl:=hd d ig
  have uT:a.eval x=.slice none 0 0:=by
   unfold lY at hx
   split at hx
   ·rfl
   ·cases hx
  have bn:=h.Fl (w':=w) (k:=d) (by rw[hm];exact hdl) hfree ox (World.ownsRow_nil w 0 el n) (bW.refl _ _) (fun _ _ _ _ _=>⟨rfl,by simp[Value.ownBlock]⟩) (fun _ hb=>by simp[Value.ownBlock] at hb) (fun _ hb=>by simp[Value.ownBlock] at hb) rfl ⟨rfl,Nat.le_refl _⟩ rfl (Nat.le_refl _) fun _ _ _=>rfl
  refine c_ (v:=.slice none 0 0) (by unfold execOp;simp[ho,uT]) (bn.put (by rw[ig];intro d' e;cases e;rw[af.aZ];exact hdl) ?_)
  exact .own (es:=[]) rfl .nil (by simp[dJ.lR])
 ·cases hl


theorem Gs (h:cu w0 X w a σ env ρ){k:Nat}{e:TypeId}{size:Nat}(hk:σ.obj k=some (.tok e size)){b:Nat}(hb:(ρ.val k).ownBlock=some b):(w0.heap.size≤b∨X.may b)∧b<w.heap.size:=by
 have:=h.own k _ b hk hb
 exact⟨this.1.resolve_left (by simp[bl.ro]),this.2⟩

theorem wK {o:Oper} {t:TypeId} {s x:Operand} {ss sx:SV} {ix:Nat} {e:j5} (ho:o.op=.call { callee:=.builtin .append,args:=#[s,x],argTypes:=#[t,t] }) (hl:vU P t ss sx o.dst σ.obj ix=some e) (hs:ef w ρ env (a.eval s) ss) (hx:ef w ρ env (a.eval x) sx)
  (h:cu w0 X w a σ env ρ) (hd:∀d,o.dst=some d→d<σ.tmps.length) (hm:σ.mem.length=σ.tmps.length) (hb:cn P env ix e.bind) (hf:∀u,e.eM=some u→σ.obj u.1=none∧σ.aT u.1):gq P o a w w0 X (σ.app o.dst e) env:=by
 unfold vU at hl
 split at hl
 ·rename_i d el y k ig hu
  split at hl
  ·rename_i e' size i x' hk hi hx'
   split at hl
   ·rename_i z hz
    split at hl
    ·rename_i hc
     obtain⟨rfl,hsize,hzs,hsz⟩:=hc
     cases hl
     obtain⟨hfree,ox⟩:=hf _ rfl
     have hdl:=hd d ig
     obtain⟨es,nL,hrd,hval⟩:=hs.yH
     obtain⟨dx,pY,mT⟩:=SV.ck hx' hx
     obtain⟨dz,cV,cW⟩:=hb
     simp only[E.eval,nL,pY,Option.bind_some] at cV
     unfold D.app at cV
     split at cV
     ·rename_i xs0 ys heq
      cases heq
      split at cV
      ·rename_i wP
       cases cV
       obtain⟨hby,hml,GK,UR⟩:=wP
       obtain⟨n,xs,hown,Oa⟩:=h.dO k _ hk
       rw[←hval] at hown Oa
       obtain⟨hn,hrow⟩:=XO hown hrd GK
       have GN:d≠k:=fun e=>by rw[e,hk] at hfree;cases hfree
       have AR:=h.V7 k
       have abk:(σ.setObj k none).obj d=none:=by
        rw[af.ep σ none GN];exact hfree
       have mJ:∀o' y' b,(σ.setObj k none).obj o'=some y'→bY ρ o' y' b→b<w.heap.size∧(a.eval s).ownBlock≠some b:=by
        intro o' y' b h1 h2
        have h1':=mP h1
        refine⟨(h.own o' y' b h1'.2 h2).2,fun hg=>h1'.1 ?_⟩
        rw[hval] at hg
        exact h.inj o' k y' _ b h1'.2 hk h2 hg
       have fin:∀(v':Value) (w':World) (m:Nat) (news:List Value),(Builtin.append_ #[t,t] o.type #[a.eval s,a.eval x]).run P w=.ok v' w'→ys.length=m→mj w ρ.S size news ys→w'.ownsRow 0 el size v' (n+m) (xs++news) →
         ((v'.ownBlock=(a.eval s).ownBlock∧QH w w' (a.eval s).ownBlock)∨(v'.ownBlock=some w.heap.size∧QH w w' none))→gq P o a w w0 X (σ.app o.dst ⟨.own (.sym ix) d,some (d,.tok el size),some k,some (.ev (.app size i.bytes y x'))⟩) env:=by
        intro v' w' m news hrun S7 Ll hown' gT
        have ow:w'.os=w.os∧TL w' w∧w'.output=w.output∧w.heap.size≤w'.heap.size:=by
         rcases gT with⟨_,hg⟩ | ⟨_,hg⟩ <;> exact⟨hg.os,hg.tape,hg.output,hg.size⟩
        have s9:∀b,b<w.heap.size→(a.eval s).ownBlock≠some b→w'.heap[b]? = w.heap[b]?:=by
         intro b hb hne
         rcases gT with⟨_,hg⟩ | ⟨_,hg⟩
         ·exact hg.block b hb fun e=>hne e.symm
         ·exact hg.block b hb (by simp)
        have hK:bW ρ.S w w':=by
         intro b i' hS
         by_cases hg:(a.eval s).ownBlock=some b
         ·rcases gT with⟨Qcz,_⟩ | ⟨_,s8⟩
          ·have hlt:i'<n*size:=Nat.lt_of_not_le fun hle=>Oa b hg i' hle hS
           have Vj:i'<xs.length:=by rw[hown.1];exact hlt
           have h1:=hown.cells hg i' _ (List.getElem?_eq_getElem Vj)
           have h2:=hown'.cells (Qcz.trans hg) i' xs[i'] (by rw[List.getElem?_append_left Vj];exact List.getElem?_eq_getElem Vj)
           rw[iR] at h1 h2
           rw[Nat.zero_add] at h1 h2
           rw[h1,h2]
          ·exact World.cell?_of_block (a:=⟨b,i',none⟩) (s8.block b (h.cells b i' hS) (by simp))
         ·exact World.cell?_of_block (a:=⟨b,i',none⟩) (s9 b (h.cells b i' hS) hg)
        have bn:=AR.Fl (w':=w') (k:=d) (e:=el) (size:=size) (v:=v') (n:=n+m) (xs:=xs++news) (by rw[af.fG,hm];exact hdl) abk (wX ox) hown' hK ?_ ?_ ?_ ow.1 ow.2.1 ow.2.2.1 ow.2.2.2 ?_
        ·have UT:(ρ.lR d v' ((n+m)*size)).val d=v':=by simp[dJ.lR]
         refine c_ (v:=v') ?_ (bn.put (by rw[ig];intro d' e;cases e;rw[af.aZ,af.aZ];exact hdl) ?_)
         ·unfold execOp
          simp only[ho,resolve,invoke,builtin,Sem.run_bind,Sem.run_pure,Result.andThen_ok,List.map_toArray,List.map_cons,List.map_nil,hrun]
         ·refine .own (es:=es++ys) (by simp only[E.eval];exact cW) (HX hown' (by simp[hn,S7]) ((hrow.append Ll).keep hK (ρ.S.rN _)) fun b hb i' hi'=>.inr ⟨hb,hi'⟩) UT.symm
        ·intro o' y' b h1 h2
         obtain⟨h3,h4⟩:=mJ o' y' b h1 h2
         refine⟨s9 b h3 h4,?_⟩
         rcases gT with⟨Qcz,_⟩ | ⟨Qcz,_⟩
         ·rw[Qcz];exact h4
         ·rw[Qcz];simp;omega
        ·intro b hb
         rcases gT with⟨Qcz,_⟩ | ⟨Qcz,_⟩
         ·rw[Qcz,hval] at hb;exact(Gs h hk hb).1
         ·rw[Qcz] at hb;cases hb;exact .inl h.grown
        ·intro b hb off hoff hS
         rcases gT with⟨Qcz,_⟩ | ⟨Qcz,_⟩
         ·rw[Qcz] at hb
          refine Oa b hb off (Nat.le_trans (Nat.mul_le_mul_right _ (Nat.le_add_right n m)) hoff) hS
         ·rw[Qcz] at hb;cases hb
          have:=h.cells _ off hS
          omega
        ·intro b hb hnm
         refine s9 b (Nat.lt_of_lt_of_le hb h.grown) fun hg=>?_
         rw[hval] at hg
         rcases(Gs h hk hg).1 with h1 | h1
         ·omega
         ·exact hnm h1
       rcases H8 mT UR with⟨Lf,rfl⟩ | ⟨ad,m,c,news,Lf,S7,hnl,hcells,hone,wO⟩
       ·refine fin (a.eval s) w 0 [] ?_ rfl ⟨by simp,by simp,by simp⟩ (by simpa using hown) (.inl ⟨rfl,⟨rfl,.refl _,rfl,Nat.le_refl _,fun _ _ _=>rfl⟩⟩)
        rw[Lf]
        rcases hown.2 with⟨hv,hn0⟩ | ⟨g,cap,cur,hv,_,_,hnc,_⟩
        ·rw[hv];exact lT w t o.type el i hu hi none 0 0 (Nat.le_refl _)
        ·rw[hv];exact lT w t o.type el i hu hi _ n cap hnc
       ·obtain⟨v',w',hrun,hown',gT⟩:=kI (P:=P) w t o.type el i z size i.bytes hu hi hz hsize rfl hzs hsz (a.eval s) n xs hown ad m c news hnl hcells hone (by rw[←hn,←S7];exact hml) (by rw[←hn,←S7];exact hby)
        rw[←Lf] at hrun
        exact fin v' w' m news hrun S7 wO hown' gT
      ·cases cV
     ·cases cV
    ·cases hl
   ·cases hl
  ·cases hl
 ·cases hl

theorem uM {o:Oper} {t:TypeId} {s x:Operand} {sx:SV} {ix:Nat} {e:j5} (ho:o.op=.call { callee:=.builtin .append,args:=#[s,x],argTypes:=#[t,t] }) (hn:lY s=true) (hl:D9 P t sx o.dst ix=some e) (hx:ef w ρ env (a.eval x) sx)
  (h:cu w0 X w a σ env ρ) (hd:∀d,o.dst=some d→d<σ.tmps.length) (hm:σ.mem.length=σ.tmps.length) (hb:cn P env ix e.bind) (hf:∀u,e.eM=some u→σ.obj u.1=none∧σ.aT u.1):gq P o a w w0 X (σ.app o.dst e) env:=by
 have uV:a.eval s=.slice none 0 0:=by
  unfold lY at hn
  split at hn
  ·rfl
  ·cases hn
 unfold D9 at hl
 split at hl
 ·rename_i d el ig hu
  split at hl
  ·rename_i i x' hi hx'
   split at hl
   ·rename_i z hz
    split at hl
    ·rename_i hc
     obtain⟨hzs,hsz⟩:=hc
     cases hl
     obtain⟨hfree,ox⟩:=hf _ rfl
     have hdl:=hd d ig
     obtain⟨dx,pY,mT⟩:=SV.ck hx' hx
     obtain⟨dz,cV,cW⟩:=hb
     simp only[E.eval,pY,Option.bind_some] at cV
     unfold D.app at cV
     split at cV
     ·rename_i xs0 ys heq
      cases heq
      split at cV
      ·rename_i wP
       cases cV
       obtain⟨hby,hml,_,UR⟩:=wP
       have hown:=World.ownsRow_nil w 0 el i.size
       have dN:(Value.slice none 0 0).ownBlock=none:=rfl
       have fin:∀(v':Value) (w':World) (m:Nat) (news:List Value),(Builtin.append_ #[t,t] o.type #[a.eval s,a.eval x]).run P w=.ok v' w'→ys.length=m→mj w ρ.S i.size news ys→w'.ownsRow 0 el i.size v' (0+m) ([]++news) →
         ((v'.ownBlock=none∧QH w w' none)∨(v'.ownBlock=some w.heap.size∧QH w w' none))→gq P o a w w0 X (σ.app o.dst ⟨.own (.sym ix) d,some (d,.tok el i.size),none,some (.ev (.app i.size i.bytes (.const (.bq [])) x'))⟩) env:=by
        intro v' w' m news hrun S7 Ll hown' gT
        have ow:w'.os=w.os∧TL w' w∧w'.output=w.output∧w.heap.size≤w'.heap.size:=by
         rcases gT with⟨_,hg⟩ | ⟨_,hg⟩ <;> exact⟨hg.os,hg.tape,hg.output,hg.size⟩
        have s9:∀b,b<w.heap.size→w'.heap[b]? = w.heap[b]?:=by
         intro b hb
         rcases gT with⟨_,hg⟩ | ⟨_,hg⟩ <;> exact hg.block b hb (by simp)
        have hK:bW ρ.S w w':=fun b i' hS=>World.cell?_of_block (a:=⟨b,i',none⟩) (s9 b (h.cells b i' hS))
        have bn:=h.Fl (w':=w') (k:=d) (e:=el) (size:=i.size) (v:=v') (n:=0+m) (xs:=[]++news) (by rw[hm];exact hdl) hfree ox hown' hK ?_ ?_ ?_ ow.1 ow.2.1 ow.2.2.1 ow.2.2.2 ?_
        ·have UT:(ρ.lR d v' ((0+m)*i.size)).val d=v':=by simp[dJ.lR]
         refine c_ (v:=v') ?_ (bn.put (by rw[ig];intro d' e;cases e;rw[af.aZ];exact hdl) ?_)
         ·unfold execOp
          simp only[ho,resolve,invoke,builtin,Sem.run_bind,Sem.run_pure,Result.andThen_ok,List.map_toArray,List.map_cons,List.map_nil,hrun]
         ·refine .own (es:=[]++ys) (by simp only[E.eval];exact cW) (HX hown' (by simp[S7]) (mj.keep (by simpa using Ll) hK (ρ.S.rN _)) fun b hb i' hi'=>.inr ⟨hb,hi'⟩) UT.symm
        ·intro o' y' b h1 h2
         have h3:=(h.own o' y' b h1 h2).2
         refine⟨s9 b h3,?_⟩
         rcases gT with⟨Qcz,_⟩ | ⟨Qcz,_⟩
         ·rw[Qcz];simp
         ·rw[Qcz];simp;omega
        ·intro b hb
         rcases gT with⟨Qcz,_⟩ | ⟨Qcz,_⟩
         ·rw[Qcz] at hb;cases hb
         ·rw[Qcz] at hb;cases hb;exact .inl h.grown
        ·intro b hb off hoff hS
         rcases gT with⟨Qcz,_⟩ | ⟨Qcz,_⟩
         ·rw[Qcz] at hb;cases hb
         ·rw[Qcz] at hb;cases hb
          have:=h.cells _ off hS
          omega
        ·intro b hb hnm
         exact s9 b (Nat.lt_of_lt_of_le hb h.grown)
       rcases H8 mT UR with⟨Lf,rfl⟩ | ⟨ad,m,c,news,Lf,S7,hnl,hcells,hone,wO⟩
       ·refine fin (.slice none 0 0) w 0 [] ?_ rfl ⟨by simp,by simp,by simp⟩ (by simpa using hown) (.inl ⟨rfl,⟨rfl,.refl _,rfl,Nat.le_refl _,fun _ _ _=>rfl⟩⟩)
        rw[Lf,uV]
        exact lT w t o.type el i hu hi none 0 0 (Nat.le_refl _)
       ·obtain⟨v',w',hrun,hown',gT⟩:=kI (P:=P) w t o.type el i z i.size i.bytes hu hi hz rfl rfl hzs hsz (.slice none 0 0) 0 [] hown ad m c news hnl hcells hone (by rw[←S7];simpa using hml) (by rw[←S7];simpa using hby)
        rw[←Lf,←uV] at hrun
        exact fin v' w' m news hrun S7 wO hown' (by rw[dN] at gT;exact gT)
      ·cases cV
     ·cases cV
    ·cases hl
   ·cases hl
  ·cases hl
 ·cases hl

theorem Ic {nz:Bool}{o:Oper}{ct:Operand→SV}{ix:Nat}{r:eV}(hv:∀x,ef w ρ env (a.eval x) (ct x))(hl:AB P nz o ct ix=some r)(h:cu w0 X w a σ env ρ)(hd:∀d,o.dst=some d→d<σ.tmps.length)(hb:cn P env ix r.bind) :
  r.eM=none∧gq P o a w w0 X (σ.put o.dst r.val) env:=by
 unfold AB at hl
 split at hl
 ·rename_i ho
  exact Iq ho hv hl h hd hb
 ·exact KH hv hl h hd hb

theorem vm {o:Oper} {act:List (E×Bool)} {ix:Nat} {e:j5} (h:cu w0 X w a σ env ρ) (ha:bI env act) (hl:BN P o σ.ct act σ.obj ix=some e) (hd:∀d,o.dst=some d→d<σ.tmps.length) (hm:σ.mem.length=σ.tmps.length)
  (hb:cn P env ix e.bind) (hf:AS σ o e) (hact:jL o=true→¬(e.eM=none∧e.del=none)→act=[]):gq P o a w w0 X (σ.app o.dst e) env:=by
 have hv:=fun x=>uC (a:=a) h o4 x
 unfold BN at hl
 split at hl
 ·rename_i r hr
  cases hl
  obtain⟨hu,hok⟩:=NL (fun x=>uC (a:=a) h ha x) hr h hd hb
  have:σ.app o.dst r.eu=σ.put o.dst r.val:=by simp[af.app,eV.eu,af.jM,af.sets,hu]
  rw[this];exact hok
 split at hl
 ·rename_i r hr
  cases hl
  rcases Ny hv hr h hd hb with⟨hu,hok⟩ | ⟨z,hu,hok⟩
  ·have:σ.app o.dst r.eu=σ.put o.dst r.val:=by simp[af.app,eV.eu,af.jM,af.sets,hu]
   rw[this];exact hok
  ·have:σ.app o.dst r.eu=(σ.setObj bN (some z)).put o.dst r.val:=by simp[af.app,eV.eu,af.jM,af.sets,hu]
   rw[this];exact hok
 split at hl
 ·rename_i r hr
  cases hl
  rcases NC (fun x=>uC (a:=a) h ha x) hr h hd hb with⟨hu,hok⟩ | ⟨z,hu,hok⟩
  ·have:σ.app o.dst r.eu=σ.put o.dst r.val:=by simp[af.app,eV.eu,af.jM,af.sets,hu]
   rw[this];exact hok
  ·have:σ.app o.dst r.eu=(σ.setObj bN (some z)).put o.dst r.val:=by simp[af.app,eV.eu,af.jM,af.sets,hu]
   rw[this];exact hok
 split at hl
 ·rename_i e' hn
  split at hl
  case isFalse=>cases hl
  rename_i hnH
  cases hl
  have hf:jL o=true→∀u,e.eM=some u→σ.obj u.1=none∧σ.aT u.1∧∀x,x∈o.op.operands→(σ.ct [] x).aT u.1=true:=fun hn u hu=>hf hn u hu (Gw hnH hu)
  unfold Ii at hn
  split at hn
  ·rename_i x ho
   split at hn
   ·rename_i hx
    exact FC ho hx hn h hd hm fun u hu=>by
     have:=hf (by simp[jL,ho,hx]) u hu
     exact⟨this.1,this.2.1⟩
   ·cases hn
  ·rename_i t n c ho
   obtain⟨r,hr,rfl⟩:=Option.map_eq_some_iff.1 hn
   obtain⟨ob,x,hu,hok⟩:=KP ho hr (hv n) (hv c) h hd hm hb fun u hu=>by
    have:=hf (by simp[jL,ho]) u hu
    exact⟨this.1,this.2.1⟩
   have:σ.app o.dst r.eu=(σ.setObj ob (some x)).put o.dst r.val:=by simp[af.app,eV.eu,af.jM,af.sets,hu]
   rw[this];exact hok
  ·rename_i t len parts ho
   obtain⟨r,hr,rfl⟩:=Option.map_eq_some_iff.1 hn
   obtain⟨ob,x,hu,hok⟩:=NF ho hv hr h hd hm hb fun u hu=>by
    have:=hf (by simp[jL,ho]) u hu
    exact⟨this.1,this.2.1⟩
   have:σ.app o.dst r.eu=(σ.setObj ob (some x)).put o.dst r.val:=by simp[af.app,eV.eu,af.jM,af.sets,hu]
   rw[this];exact hok
  ·rename_i c ho
   obtain⟨callee,args,ts⟩:=c
   simp only at hn
   split at hn
   ·split at hn
    ·rename_i s x t t' hargs hts
     split at hn
     ·rename_i WY
      subst WY
      have e1:args=#[s,x]:=by rw[←Array.toArray_toList (xs:=args),hargs]
      have e2:ts=#[t,t]:=by rw[←Array.toArray_toList (xs:=ts),hts]
      subst e1 e2
      split at hn
      ·rename_i wm
       exact uM ho wm hn (hv x) h hd hm hb fun u hu=>by
        have:=hf (by simp[jL,ho]) u hu
        exact⟨this.1,this.2.1⟩
      ·exact wK ho hn (hv s) (hv x) h hd hm hb fun u hu=>by
        have:=hf (by simp[jL,ho]) u hu
        exact⟨this.1,this.2.1⟩
     ·cases hn
    ·cases hn
   ·cases hn
  ·cases hn
 split at hl
 ·rename_i r hr
  cases hl
  obtain⟨hu,hok⟩:=Ic (fun x=>uC (a:=a) h ha x) hr h hd hb
  have:σ.app o.dst r.eu=σ.put o.dst r.val:=by simp[af.app,eV.eu,af.jM,af.sets,hu]
  rw[this];exact hok
 ·obtain⟨r,hr,hl⟩:=Option.bind_eq_some_iff.1 hl
  split at hl
  case isFalse=>cases hl
  rename_i hnH
  cases hl
  have hf:jL o=true→∀u,r.eM=some u→σ.obj u.1=none∧σ.aT u.1∧∀x,x∈o.op.operands→(σ.ct [] x).aT u.1=true:=fun hn u hu=>hf hn u hu (Gw (by simpa[hn] using hnH) hu)
  have hfo:Qq σ o r.eM:=by
   intro ob x hu
   split
   ·rename_i t ho
    have:=hf (by simp[jL,ho]) (ob,x) hu
    exact⟨this.1,this.2.1⟩
   ·rename_i t y ho
    have:=hf (by simp[jL,ho]) (ob,x) hu
    exact⟨this.1,this.2.1,this.2.2 y (by rw[ho];simp[Op.operands])⟩
   ·trivial
  rcases KF h ha hr hd hm hb hfo (fun⟨t,x,ho⟩ hu=>hact (by simp[jL,ho]) fun hh=>hu hh.1) with⟨hu,hok⟩ | ⟨ob,x,hu,hok⟩
  ·have:σ.app o.dst r.eu=σ.put o.dst r.val:=by simp[af.app,eV.eu,af.jM,af.sets,hu]
   rw[this];exact hok
  ·have:σ.app o.dst r.eu=(σ.setObj ob (some x)).put o.dst r.val:=by simp[af.app,eV.eu,af.jM,af.sets,hu]
   rw[this];exact hok

end
end
end

section
noncomputable section

def SV.Tf (k:Nat)(x:E)(sv:SV):SV:=
 match sv with
 | .oc o=>if o=k then .e x true else .oc o
 | sv=>sv

def SV.agw (k:Nat)(x:E)(sv:SV):SV:=
 match sv with
 | .addr o 0=>if o=k then .e x true else .addr o 0
 | sv=>sv

def af.Tf (k:Nat)(σ:af):af:=
 match σ.obj k with
 | some (.row x _)=>{ (σ.setObj k none) with tmps:=σ.tmps.map (SV.Tf k x) }
 | some (.box cs)=>(match SV.MT cs with
  | some y=>{ (σ.setObj k none) with tmps:=σ.tmps.map (SV.agw k (.gE y)) }
  | none=>σ)
 | _=>σ

def bl.Ut (f:SV→SV):bl→bl
 | .box cs=>.box (cs.map f)
 | x=>x

def SV.adX (k:Nat)(y:E)(sv:SV):SV:=
 match sv with
 | .oc o=>if o=k then .e y true else .oc o
 | sv=>sv

def SV.adZ (k:Nat)(y:E)(sv:SV):SV:=
 match sv with
 | .addr o 0=>if o=k then .e y true else .addr o 0
 | sv=>sv

def af.DA (σ:af)(k:Nat)(f:SV→SV)(y:bl):af:={ tmps:=σ.tmps.map f,mem:=(σ.mem.map (Option.map (bl.Ut f))).set k none,hs:=some y }

def af.Rf (k:Nat)(σ:af):af:=
 match σ.obj bN with
 | some (.store cf h)=>if cf.ro=true then σ else(match σ.obj k with
  | some (.row x sz)=>if 0<sz then σ.DA k (SV.adX k (.bO h x)) (.store cf (.a_ SM sz h x)) else σ
  | some (.box cs)=>(match SV.MT cs with
   | some y=>σ.DA k (SV.adZ k (.aU h)) (.store cf (.cI SM cs.length h y))
   | none=>σ)
  | _=>σ)
 | _=>σ

def td (k:Nat)(σ:af):af:=if 1000000<k then σ.Rf (k-1000000) else σ.Tf k

def vh:List Nat→af→af
 | [],σ=>σ
 | k :: ks,σ=>vh ks (td k σ)

def rW (id:Nat)(σ:af):af:=
 match σ.obj bN with
 | some (.store cf _)=>vh ((cf.Ot.filter fun p=>p.1==id).map (·.2)) σ
 | _=>σ

section
variable {w w0:World} {X:kG} {a:Act} {σ:af} {env:List D} {ρ:dJ}

theorem XJ {o:Nat}{x:E}{sz:Nat}(h:iB w ρ env o (.row x sz)):∃d,x.eval env=some d∧bU w (ρ.S.or fun b _=>b=ρ.blk o) (ρ.val o) d∧d.one=true:=by
 obtain⟨vs,ty,es,hh,hx,hz,hsz,hr,hval,hm,_⟩:=h
 refine⟨_,hx,?_,rfl⟩
 rw[hval]
 have mM:∀(i:Nat) (e:D) (j:Nat) (d:D),es[i]? = some e→e.cells[j]? = some d→∃v,vs[i*sz+j]? = some v∧bU w ρ.S v d∧d.one=true:=by
  intro i e j d he hd
  obtain⟨h1,v,h2,h3⟩:=hr i e j d he hd
  exact⟨v,h2,h3,h1⟩
 refine .bq (size:=sz) (val:=fun i j=>vs.getD (i*sz+j) undef) rfl (Nat.le_refl _) hm hz (fun i e j d he hd=>(mM i e j d he hd).choose_spec.2.2) (fun i e j d he hd=>.inr rfl) (fun i e j d he hd=>?_) fun i e j d he hd=>?_
 ·obtain⟨v,h2,_⟩:=mM i e j d he hd
  rw[gD hh,Nat.zero_add,h2,Array.getD_eq_getD_getElem?,h2]
  rfl
 ·obtain⟨v,h2,h3,_⟩:=mM i e j d he hd
  rw[Array.getD_eq_getD_getElem?,h2]
  exact h3.keep (bW.refl _ _) (ρ.S.rN _)

theorem cu.agv (h:cu w0 X w a σ env ρ){k:Nat}{z:bl}(hk:σ.obj k=some z)(hz:bY ρ k z (ρ.blk k))(hro:z.ro=false){f:SV→SV}(hf:∀v sv,ef w { ρ with S:=ρ.S.or fun b _=>b=ρ.blk k } env v sv→ef w { ρ with S:=ρ.S.or fun b _=>b=ρ.blk k } env v (f sv))(hj:f .cE=.cE) :
  cu w0 X w a { (σ.setObj k none) with tmps:=σ.tmps.map f } env { ρ with S:=ρ.S.or fun b _=>b=ρ.blk k }:=by
 have hle:ρ.S≤ρ.S.or fun b _=>b=ρ.blk k:=ρ.S.rN _
 have hm:ρ.vB { ρ with S:=ρ.S.or fun b _=>b=ρ.blk k } (fun _=>False):=⟨⟨fun _ _=>rfl,fun _ _=>rfl,hle⟩,fun _=>rfl,fun _=>rfl⟩
 have Lj:=h.own k _ (ρ.blk k) hk hz
 refine⟨by simpa using h.size,fun t=>?_,fun o y hy=>?_,fun o o' y y' b h1 h2=>h.inj o o' y y' b (mP h1).2 (mP h2).2,fun o y b h1=>h.own o y b (mP h1).2,fun b o hs=>?_,h.os,h.tape,h.output,h.grown,h.old,Sets.le_trans h.sub hle,fun b o hs=>?_,h.zT,h.hold⟩
 ·have hv:=(h.tmps t).keep (bW.refl _ _) hm (fun _ hf=>hf.elim)
  have IJ:af.tmp { (σ.setObj k none) with tmps:=σ.tmps.map f } t=f (σ.tmp t):=by
   simp only[af.gw,List.getD_eq_getElem?_getD,List.getElem?_map]
   cases σ.tmps[t]? with
   | none=>exact hj.symm
   | some _=>rfl
  rw[IJ]
  exact hf _ _ hv
 ·obtain⟨hne,hy'⟩:=mP hy
  refine(h.dO o y hy').keep (bW.refl _ _) hm (fun hf=>hf) (fun _ hf=>hf.elim) (fun _ _=>rfl) fun b off hb hs=>?_
  rcases hs with hs | hs
  ·exact hs
  ·subst hs
   exact absurd (h.inj o k y _ _ hy' hk hb hz) hne
 ·rcases hs with hs | rfl
  ·exact h.cells b o hs
  ·exact Lj.2
 ·rcases hs with hs | rfl
  ·exact h.new b o hs
  ·rcases Lj.1 with g | g | g
   ·exact absurd g.1 (by simp[hro])
   ·exact .inr (.inl g)
   ·exact .inr (.inr g)

theorem cu.Tf (h:cu w0 X w a σ env ρ)(k:Nat):∃ρ',cu w0 X w a (σ.Tf k) env ρ':=by
 unfold af.Tf
 split
 ·rename_i x sz hk
  refine⟨_,h.agv hk rfl rfl (fun v sv hv=>?_) rfl⟩
  unfold SV.Tf
  split
  ·rename_i o
   split
   ·rename_i e
    subst e
    obtain⟨d,h1,h2,h3⟩:=XJ (h.dO _ _ hk)
    rw[hv.sH]
    exact .e h1 h2 fun _=>h3
   ·exact hv
  ·exact hv
 ·rename_i cs hk
  split
  ·rename_i y hy
   refine⟨_,h.agv hk rfl rfl (fun v sv hv=>?_) rfl⟩
   unfold SV.agw
   split
   ·rename_i o
    split
    ·rename_i e
     subst e
     obtain⟨vs,ty,hh,hsz,ho,hr,_⟩:=h.dO _ _ hk
     obtain⟨ds,he,hl,hd⟩:=SV.Cj (vs:=vs.toList) hy (by simpa using hsz) (fun i v hv=>ho i v (by simpa using hv)) (fun i v c hv hc=>hr i v c (by simpa using hv) hc)
     rw[hv.lP]
     refine .e (d:=.ptr ds) (by simp[E.eval,he,D.gE]) ?_ fun _=>rfl
     have hcell:∀(j:Nat) (c:D),ds[j]? = some c→∃u,vs[j]? = some u:=fun j c hj=>⟨_,Array.getElem?_eq_getElem (by have:=(List.getElem?_eq_some_iff.1 hj).1;simp at hl;omega)⟩
     refine .ptr (val:=fun j=>vs.getD j undef) (fun j c hj=>?_) (fun j c hj=>.inr rfl) (fun j c hj=>?_) fun j c hj=>?_
     ·obtain⟨u,hu⟩:=hcell j c hj
      exact(hd j u c (by simpa using hu) hj).2
     ·obtain⟨u,hu⟩:=hcell j c hj
      rw[gD hh,Nat.zero_add,hu,Array.getD_eq_getD_getElem?,hu]
      rfl
     ·obtain⟨u,hu⟩:=hcell j c hj
      rw[Array.getD_eq_getD_getElem?,hu]
      exact(hd j u c (by simpa using hu) hj).1.keep (bW.refl _ _) (ρ.S.rN _)
    ·exact hv
   ·exact hv
  ·exact⟨ρ,h⟩
 ·exact⟨ρ,h⟩

theorem yE {k o:Nat}{f:SV→SV}{y z:bl}(hz:(σ.DA k f y).obj o=some z):(o=bN∧z=y)∨(o≠bN∧o≠k∧∃x,σ.obj o=some x∧z=x.Ut f):=by
 simp only[af.DA,af.dV] at hz
 by_cases ho:o=bN
 ·simp only[ho,if_true,Option.some.injEq] at hz
  exact .inl ⟨ho,hz.symm⟩
 ·simp only[ho,if_false,List.getD_eq_getElem?_getD,List.getElem?_set,List.length_map] at hz
  by_cases hk:k=o
  ·simp only[hk,if_true] at hz
   split at hz <;> cases hz
  ·simp only[hk,if_false,List.getElem?_map] at hz
   refine .inr ⟨ho,Ne.symm hk,?_⟩
   simp only[af.dV]
   simp only[ho,if_false,List.getD_eq_getElem?_getD]
   cases hm:σ.mem[o]? with
   | none=>rw[hm] at hz;cases hz
   | some x=>
    rw[hm] at hz
    cases x with
    | none=>cases hz
    | some x=>
     simp only[Option.map_some,Option.getD_some,Option.some.injEq] at hz
     exact⟨x,rfl,hz.symm⟩

theorem mE {ρ:dJ}{o:Nat}{x:bl}{f:SV→SV}:bY ρ o (x.Ut f)=bY ρ o x:=by
 cases x <;> rfl

theorem cu.adY (h:cu w0 X w a σ env ρ) {k:Nat} {z:bl} (hk:σ.obj k=some z) (hz:bY ρ k z (ρ.blk k)) (hro:z.ro=false) (oa:∀off,¬ρ.S (ρ.blk k) off) {cf:cz} {x x':E} (dN:σ.obj bN=some (.store cf x)) (Tb:k≠bN) {bs:List D} (jC:x.eval env=some (.st bs)) {n sz:Nat} {cs:List D}
  (GK:∃vs:Array Value,o7 w (ρ.blk k) vs SM∧vs.size=n*sz∧cs.length≤vs.size∧(∀(j:Nat) (d:D),cs[j]? = some d→d.one=true)∧∀(j:Nat) (v:Value) (d:D),vs[j]? = some v→cs[j]? = some d→bU w ρ.S v d)
  (hx':x'.eval env=some (.st (bs++[.blk SM sz cs]))) {f:SV→SV} (hf:∀v sv,ρ.S.n=bs.length→ef w { ρ with S:=ρ.S.more (ρ.blk k) n,aJ:=fun c=>ρ.aJ c∨c=ρ.blk k } env v sv→ef w { ρ with S:=ρ.S.more (ρ.blk k) n,aJ:=fun c=>ρ.aJ c∨c=ρ.blk k } env v (f sv)) (hj:f .cE=.cE) :
  cu w0 X w a (σ.DA k f (.store cf x')) env { ρ with S:=ρ.S.more (ρ.blk k) n,aJ:=fun c=>ρ.aJ c∨c=ρ.blk k }:=by
 have hle:=ρ.S.qw (ρ.blk k) n
 have hle2:ρ.Le { ρ with S:=ρ.S.more (ρ.blk k) n,aJ:=fun c=>ρ.aJ c∨c=ρ.blk k } (fun _=>False):=⟨fun _ _=>rfl,fun _ _=>rfl,hle⟩
 obtain⟨rp,hb0,hst,_⟩:=h.dO _ _ dN
 rw[jC] at hb0
 cases hb0
 have Lj:=h.own k _ (ρ.blk k) hk hz
 have za:∀b,ρ.aJ b→b≠ρ.blk k:=fun b hb e=>Tb (h.inj k bN _ _ (ρ.blk k) hk dN hz (e ▸ hb))
 have hblk:∀o y,o≠bN→bY { ρ with S:=ρ.S.more (ρ.blk k) n,aJ:=fun c=>ρ.aJ c∨c=ρ.blk k } o y=bY ρ o y∨∃cf x,y=.store cf x:=by
  intro o y ho
  cases y with
  | store cf x=>exact .inr ⟨cf,x,rfl⟩
  | _=>exact .inl rfl
 have IN:∀o y,o≠bN→σ.obj o=some y→bY { ρ with S:=ρ.S.more (ρ.blk k) n,aJ:=fun c=>ρ.aJ c∨c=ρ.blk k } o y=bY ρ o y:=by
  intro o y ho hy
  rcases hblk o y ho with g | ⟨cf,x,rfl⟩
  ·exact g
  ·obtain⟨_,_,_,e⟩:=h.dO o _ hy
   exact absurd e ho
 have hrd:∀v sv,ef w ρ env v sv→ef w { ρ with S:=ρ.S.more (ρ.blk k) n,aJ:=fun c=>ρ.aJ c∨c=ρ.blk k } env v (f sv):=fun v sv hv=>hf v sv hst.n (hv.Bv (bW.refl _ _) hle2 fun _ hf=>hf.elim)
 refine⟨by simpa[af.DA] using h.size,fun t=>?_,fun o y hy=>?_,fun o o' y y' b h1 h2 tM tK=>?_,fun o y b hy hb=>?_,h.cells,h.os,h.tape,h.output,h.grown,h.old,Sets.le_trans h.sub hle,h.new,h.zT,h.hold⟩
 ·have IJ:(σ.DA k f (.store cf x')).tmp t=f (σ.tmp t):=by
   simp only[af.DA,af.gw,List.getD_eq_getElem?_getD,List.getElem?_map]
   cases σ.tmps[t]? with
   | none=>exact hj.symm
   | some _=>rfl
  rw[IJ]
  exact hrd _ _ (h.tmps t)
 ·rcases yE hy with⟨rfl,rfl⟩ | ⟨ho,hok,y1,hy1,rfl⟩
  ·refine⟨_,hx',pK hst (bW.refl _ _) rfl (fun i x hi hx=>⟨hi,za _ (hst.jl hi hx),rfl⟩) (fun _=>Iff.rfl) (fun e sz' cs' he=>?_) (fun dL he=>by cases he) oa,rfl⟩
   cases he
   exact GK
  ·have:=(h.dO o y1 hy1).Bv (bW.refl _ _) hle2 (fun e=>absurd e ho) (fun hf=>hf) (fun _ hf=>hf.elim) (fun _ _=>rfl) (fun b off _ hs=>hs)
   cases y1 with
   | box cs=>
    obtain⟨vs,ty,g1,g2,g3,g4,g5⟩:=this
    refine⟨vs,ty,g1,by simpa using g2,g3,fun i v c hv hc=>?_,g5⟩
    simp only[List.getElem?_map,Option.map_eq_some_iff] at hc
    obtain⟨c',zf,rfl⟩:=hc
    exact hf _ _ hst.n (g4 i v c' hv zf)
   | _=>exact this
 ·rcases yE h1 with⟨rfl,rfl⟩ | ⟨ho,hok,y1,hy1,rfl⟩ <;> rcases yE h2 with⟨rfl,rfl⟩ | ⟨ho',U9,y2,hy2,rfl⟩
  ·rfl
  ·rw[mE,IN o' y2 ho' hy2] at tK
   rcases tM with tM | rfl
   ·exact h.inj bN o' _ _ b dN hy2 tM tK
   ·exact absurd (h.inj o' k _ _ _ hy2 hk tK hz) U9
  ·rw[mE,IN o y1 ho hy1] at tM
   rcases tK with tK | rfl
   ·exact h.inj o bN _ _ b hy1 dN tM tK
   ·exact absurd (h.inj o k _ _ _ hy1 hk tM hz) hok
  ·rw[mE,IN o y1 ho hy1] at tM
   rw[mE,IN o' y2 ho' hy2] at tK
   exact h.inj o o' _ _ b hy1 hy2 tM tK
 ·rcases yE hy with⟨rfl,rfl⟩ | ⟨ho,hok,y1,hy1,rfl⟩
  ·rcases hb with hb | rfl
   ·have:=h.own bN (.store cf x) b dN hb
    exact this
   ·refine⟨.inr (Lj.1.resolve_left ?_),Lj.2⟩
    rintro⟨e,_⟩
    rw[hro] at e
    cases e
  ·rw[mE,IN o y1 ho hy1] at hb
   have:=h.own o y1 b hy1 hb
   refine⟨?_,this.2⟩
   cases y1 <;> exact this.1

theorem cu.Rf (h:cu w0 X w a σ env ρ)(k:Nat):∃ρ',cu w0 X w a (σ.Rf k) env ρ':=by
 unfold af.Rf
 split
 ·rename_i cf hx dN
  split
  ·exact⟨ρ,h⟩
  obtain⟨bs,jC,hst,_⟩:=h.dO _ _ dN
  split
  ·rename_i x sz hk
   split
   ·rename_i hsz
    have Tb:k≠bN:=fun e=>by rw[e,dN] at hk;cases hk
    obtain⟨vs,ty,es,hh,uT,hz,hvs,hr,hval,hm,oa⟩:=h.dO _ _ hk
    have hrow:mj w ρ.S sz vs.toList es:=⟨by simpa using hvs,hz,fun i e j d he hd=>by
     obtain⟨g1,v,g2,g3⟩:=hr i e j d he hd
     exact⟨g1,v,by simpa using g2,g3⟩⟩
    obtain⟨hall,hfl,hfr⟩:=hrow.flat hsz
    have hone:(cB es).all (·.one)=true:=List.all_eq_true.2 fun d hd=>by
     obtain⟨j,hj⟩:=List.getElem?_of_mem hd
     have hjl:=(List.getElem?_eq_some_iff.1 hj).1
     exact(hfr j vs.toList[j] d (by rw[List.getElem?_eq_getElem (by rw[←hfl];exact hjl)]) hj).2
    refine⟨_,h.adY (n:=es.length) (cs:=cB es) hk rfl rfl oa dN Tb jC ⟨vs,⟨ty,hh,.inl rfl⟩,hvs,by rw[hfl];simp,fun j d hj=>List.all_eq_true.1 hone d (List.mem_of_getElem? hj),fun j v d hv hd=>(hfr j v d (by simpa using hv) hd).1⟩ (by simp only[E.eval,jC,uT,Option.bind_some,D.a_];rw[if_pos ⟨hall,hone⟩]) (fun v sv hn hv=>?_) rfl⟩
    unfold SV.adX
    split
    ·rename_i o
     split
     ·rename_i e
      subst e
      rw[hv.sH]
      refine .e (d:=.sl bs.length 0 es.length) (by simp only[E.eval,jC,uT];rfl) ?_ fun _=>rfl
      show bU w _ (ρ.val o) _
      rw[hval]
      have:=bU.sl (w:=w) (S:=ρ.S.more (ρ.blk o) es.length) (i:=bs.length) (off:=0) (len:=es.length) (c:=es.length) (by simp[Sets.more,hn]) (Nat.le_refl _) hm (fun _=>by simp[Sets.more,hn])
      have hl:(ρ.S.more (ρ.blk o) es.length).loc bs.length=ρ.blk o:=by simp[Sets.more,hn]
      rwa [hl] at this
     ·exact hv
    ·exact hv
   ·exact⟨ρ,h⟩
  ·rename_i cs hk
   split
   ·rename_i y hy
    have Tb:k≠bN:=fun e=>by rw[e,dN] at hk;cases hk
    obtain⟨vs,ty,hh,hsz,ho,hr,oa⟩:=h.dO _ _ hk
    obtain⟨ds,he,hl,hd⟩:=SV.Cj (vs:=vs.toList) hy (by simpa using hsz) (fun i v hv=>ho i v (by simpa using hv)) (fun i v c hv hc=>hr i v c (by simpa using hv) hc)
    have hl':ds.length=vs.size:=by simpa using hl.symm
    have hone:ds.all (·.one)=true:=List.all_eq_true.2 fun d FO=>by
     obtain⟨j,hj⟩:=List.getElem?_of_mem FO
     have hjl:=(List.getElem?_eq_some_iff.1 hj).1
     exact(hd j vs.toList[j] d (by rw[List.getElem?_eq_getElem (by simp;omega)]) hj).2
    refine⟨_,h.adY (n:=1) (cs:=ds) hk rfl rfl oa dN Tb jC ⟨vs,⟨ty,hh,.inl rfl⟩,by rw[hsz,Nat.one_mul],by omega,fun j d hj=>List.all_eq_true.1 hone d (List.mem_of_getElem? hj),fun j v d hv JJ=>(hd j v d (by simpa using hv) JJ).1⟩ (by simp only[E.eval,jC,he,Option.bind_some,D.cI];rw[if_pos hone]) (fun v sv hn hv=>?_) rfl⟩
    unfold SV.adZ
    split
    ·rename_i o
     split
     ·rename_i e
      subst e
      rw[hv.lP]
      refine .e (d:=.loc bs.length 0) (by simp only[E.eval,jC];rfl) ?_ fun _=>rfl
      have:=bU.loc (w:=w) (S:=ρ.S.more (ρ.blk o) 1) (i:=bs.length) (off:=0) (by simp[Sets.more,hn])
      have hl:(ρ.S.more (ρ.blk o) 1).loc bs.length=ρ.blk o:=by simp[Sets.more,hn]
      rwa [hl] at this
     ·exact hv
    ·exact hv
   ·exact⟨ρ,h⟩
  ·exact⟨ρ,h⟩
 ·exact⟨ρ,h⟩

theorem cu.td (h:cu w0 X w a σ env ρ)(k:Nat):∃ρ',cu w0 X w a (td k σ) env ρ':=by
 unfold Go.Am.td
 split
 ·exact h.Rf _
 ·exact h.Tf k

theorem cu.vh:∀(ks:List Nat) {σ:af} {ρ:dJ},cu w0 X w a σ env ρ→∃ρ',cu w0 X w a (vh ks σ) env ρ'
 | [],_,ρ,h=>⟨ρ,h⟩
 | k :: ks,_,_,h=>by
  obtain⟨_,h'⟩:=h.td k
  exact cu.vh ks h'

theorem cu.rW (h:cu w0 X w a σ env ρ)(id:Nat):∃ρ',cu w0 X w a (rW id σ) env ρ':=by
 unfold Go.Am.rW
 split
 ·exact h.vh _
 ·exact⟨ρ,h⟩

theorem YE (k:Nat)(σ:af):(σ.Tf k).tmps.length=σ.tmps.length∧(σ.Tf k).mem.length=σ.mem.length:=by
 unfold af.Tf
 split
 ·refine⟨by simp,?_⟩
  show(σ.setObj k none).mem.length=_
  exact af.fG _ _ _
 ·split
  ·refine⟨by simp,?_⟩
   show(σ.setObj k none).mem.length=_
   exact af.fG _ _ _
  ·exact⟨rfl,rfl⟩
 ·exact⟨rfl,rfl⟩

theorem Km (k:Nat)(f:SV→SV)(y:bl)(σ:af):(σ.DA k f y).tmps.length=σ.tmps.length∧(σ.DA k f y).mem.length=σ.mem.length:=by
 simp[af.DA]

theorem Ou (k:Nat)(σ:af):(td k σ).tmps.length=σ.tmps.length∧(td k σ).mem.length=σ.mem.length:=by
 unfold td
 split
 ·unfold af.Rf
  split
  ·split
   ·exact⟨rfl,rfl⟩
   split
   ·split
    ·exact Km _ _ _ _
    ·exact⟨rfl,rfl⟩
   ·split
    ·exact Km _ _ _ _
    ·exact⟨rfl,rfl⟩
   ·exact⟨rfl,rfl⟩
  ·exact⟨rfl,rfl⟩
 ·exact YE k σ

theorem EC:∀(ks:List Nat) (σ:af),(vh ks σ).tmps.length=σ.tmps.length∧(vh ks σ).mem.length=σ.mem.length
 | [],_=>⟨rfl,rfl⟩
 | k :: ks,σ=>by
  have h1:=EC ks (td k σ)
  have h2:=Ou k σ
  exact⟨h1.1.trans h2.1,h1.2.trans h2.2⟩

theorem R8 (id:Nat)(σ:af):(rW id σ).tmps.length=σ.tmps.length∧(rW id σ).mem.length=σ.mem.length:=by
 unfold rW
 split
 ·exact EC _ _
 ·exact⟨rfl,rfl⟩

end
end
end

section
noncomputable section

/-! ## evaluation ahead of use (for the kernel: the functions change nothing) -/

def Ho (act:List (E×Bool))(ix:Nat)(e:j5):SV×Option Bind:=
 match act,e.bind,e.val with
 | _ :: _,none,.e x s=>if isAtom ix x then(e.val,none) else(.e (.sym ix) s,some (.ev x))
 | _,b,v=>(v,b)

def CA (o:Oper):Bool:=match o.op with | .call c=>(match c.callee with | .value _=>true | _=>false) | _=>false

def Zb (o:Oper)(cf:Option cz):Bool:=match o.op with | .call c=>Ig cf c.callee | _=>false

def nI (o:Oper)(hO:Option bl)(ix:Nat)(e:j5):Bool:=
 !Zb o (zy hO)&&(CA o&&e.del.isNone&&match hO,e.eM with
  | some (.store cf h),some (k,.store Qdy (.az 1 (.sym j)))=>!cf.ro&&decide (k=bN)&&decide (cf=Qdy)&&decide (j=ix)&&(match e.bind with
   | some (.bQ [] _ h' _ _)=>h'.same h
   | some (.fC [] _ h' _ _)=>h'.same h
   | _=>false)
  | _,_=>false)

def R5 (P:Program)(o:Oper)(σ:af)(act:List (E×Bool))(ix:Nat):Option j5:=
 match act with
 | []=>none
 | act=>match o.op with
  | .call c=>(match c.callee with
   | .builtin .append=>(match Ii false P o (σ.ct act) σ.obj ix with
    | some e=>(match e.eM with
     | some (d,.tok _ _)=>if d≠bN∧o.dst=some d then some ⟨.cond act e.val,e.eM,e.del,rU act e.bind⟩ else none
     | _=>none)
    | none=>none)
   | _=>none)
  | _=>none

def oe (P:Program)(ops:Array Oper)(o:Oper)(σ:af)(ix:Nat):Option j5:=
 match Hq ops σ ix o.guard with
 | none=>none
 | some act=>match R5 P o σ act ix with
  | some e=>some e
  | none=>match BN P o σ.ct act σ.obj ix with
  | none=>none
  | some e=>if e.eM.isNone&&e.del.isNone then some ⟨Tm act (Ho act ix e).1,none,none,rU act (Ho act ix e).2⟩ else match act with
   | []=>if Ad o σ e then some e else none
   | act=>if nI o (σ.obj bN) ix e then some ⟨.cond act e.val,e.eM,none,rU act e.bind⟩ else none

def Qck (σ:af)(ob:Nat):Prop:=(σ.obj ob).isNone=true∧σ.kS ob=true

def rX (σ:af)(o:Oper)(e:j5):Bool:=!jL o||match e.eM with | some u=>decide (u.1=bN)||((σ.obj u.1).isNone&&σ.kS u.1) | none=>true

def nT (P:Program)(ops:Array Oper)(o:Oper)(σ:af)(ix:Nat):Option (af×Option Bind):=
 match oe P ops o σ ix with
 | some e=>if qB σ o&&rX σ o e then some (σ.app o.dst e,e.bind) else none
 | none=>none

theorem wG {P:Program}{ops:Array Oper}{o:Oper}{σ:af}{ix:Nat}{e:j5}(h:oe P ops o σ ix=some e)(hd:qB σ o=true)(hf:jL o=true→∀u,e.eM=some u→u.1=bN∨Qck σ u.1) :
  nT P ops o σ ix=some (σ.app o.dst e,e.bind):=by
 have:rX σ o e=true:=by
  unfold rX
  cases hn:jL o with
  | false=>rfl
  | true=>
   cases hu:e.eM with
   | none=>rfl
   | some u=>
    rcases hf hn u hu with h1 | h1
    ·simp[h1]
    ·simp[h1.1,h1.2]
 unfold nT
 rw[h]
 simp[hd,this]

section
variable {P:Program} {w w0:World} {X:kG} {a:Act} {σ:af} {env:List D} {ρ:dJ}

theorem WH {act:List (E×Bool)}{ix:Nat}{e:j5}(h:cn P env ix (Ho act ix e).2):cn P env ix e.bind∧∀(w:World) (ρ:dJ) (v:Value),ef w ρ env v e.val→ef w ρ env v (Ho act ix e).1:=by
 unfold Ho at h ⊢
 split at h
 ·rename_i hb hv
  split at h
  ·rename_i xF
   rw[if_pos xF]
   exact⟨by rw[hb];trivial,fun _ _ _ h=>h⟩
  ·rename_i xF
   rw[if_neg xF]
   refine⟨by rw[hb];trivial,fun w ρ v hs=>?_⟩
   rw[hv] at hs
   obtain⟨d,hx,cW⟩:=h
   obtain⟨d',hx',hr,h1⟩:=hs.kC
   rw[hx] at hx'
   cases hx'
   exact .e (by simp only[E.eval];exact cW) hr h1
 ·exact⟨h,fun _ _ _ h=>h⟩

theorem Om {o:Oper}{act:List (E×Bool)}{ix:Nat}{e:j5}(h:cu w0 X w a σ env ρ)(hm:σ.mem.length=σ.tmps.length)(hd:∀d,o.dst=some d→d<σ.tmps.length)(hg:R5 P o σ act ix=some e)(hf:rX σ o e=true)(hb:cn P env ix e.bind)(qW:∀p,p∈act→∃d,p.1.eval env=some d) :
  (bI env act→gq P o a w w0 X (σ.app o.dst e) env)∧(¬bI env act→∃ρ',cu w0 X w (a.put o.dst undef) (σ.app o.dst e) env ρ'):=by
 unfold R5 at hg
 split at hg
 ·cases hg
 rename_i hact
 split at hg
 ·rename_i c ho
  split at hg
  ·rename_i ku
   split at hg
   ·rename_i e0 hl
    split at hg
    ·rename_i d ty sz aaW
     split at hg
     ·rename_i hc
      obtain⟨hne,ig⟩:=hc
      cases hg
      have hdl:=hd d ig
      have hnew:jL o=true:=by simp[jL,ho,ku]
      simp only[rX,hnew,aaW,Bool.not_true,Bool.false_or,Bool.or_eq_true,decide_eq_true_eq,Bool.and_eq_true,Option.isNone_iff_eq_none] at hf
      obtain⟨hfree,ox⟩:=hf.resolve_left hne
      have ox:=zH ox
      refine⟨fun ha=>?_,fun ha=>?_⟩
      ·have hv:=fun x=>uC (a:=a) h ha x
       have hf':∀u,e0.eM=some u→σ.obj u.1=none∧σ.aT u.1:=fun u hu=>by
        rw[aaW] at hu
        cases hu
        exact⟨hfree,ox⟩
       have hb0:=s_ ha hb
       have hok:gq P o a w w0 X (σ.app o.dst e0) env:=by
        unfold Ii at hl
        rw[ho] at hl
        obtain⟨callee,args,ts⟩:=c
        simp only at ku
        subst ku
        simp only at hl
        split at hl
        ·rename_i s x t t' hargs hts
         split at hl
         ·rename_i WY
          subst WY
          have e1:args=#[s,x]:=by rw[←Array.toArray_toList (xs:=args),hargs]
          have e2:ts=#[t,t]:=by rw[←Array.toArray_toList (xs:=ts),hts]
          subst e1 e2
          split at hl
          ·rename_i wm
           exact uM ho wm hl (hv x) h hd hm hb0 hf'
          ·exact wK ho hl (hv s) (hv x) h hd hm hb0 hf'
         ·cases hl
        ·cases hl
       intro Q
       refine zV (hok Q) ?_
       rintro a' w' ⟨ρ',bn⟩
       refine⟨ρ',?_⟩
       unfold af.app at bn ⊢
       rw[ig] at bn ⊢
       simp only at bn ⊢
       generalize hσ:(σ.jM e0.del).sets e0.eM=σ1 at bn ⊢
       have W0:d<σ1.tmps.length:=by
        rw[←hσ]
        unfold af.jM af.sets
        cases e0.del <;> cases e0.eM <;> simpa[af.aZ] using hdl
       refine⟨by simpa[af.fM] using bn.size,fun t=>?_,bn.dO,bn.inj,bn.own,bn.cells,bn.os,bn.tape,bn.output,bn.grown,bn.old,bn.sub,bn.new,bn.zT,bn.hold⟩
       have:=bn.tmps t
       rw[af.yd W0] at this ⊢
       split
       ·rename_i e;rw[if_pos e] at this;exact .cond qW (fun _=>this) fun hn=>absurd ha hn
       ·rename_i e;rw[if_neg e] at this;exact this
      ·have AR:cu w0 X w a (σ.jM e0.del) env ρ∧(σ.jM e0.del).obj d=none∧(σ.jM e0.del).aT d∧(σ.jM e0.del).tmps.length=σ.tmps.length∧(σ.jM e0.del).mem.length=σ.mem.length:=by
        cases e0.del with
        | none=>exact⟨h,hfree,ox,rfl,rfl⟩
        | some k=>
         refine⟨h.V7 k,?_,wX ox,by rw[af.jM,af.aZ],by rw[af.jM,af.fG]⟩
         cases hx:(σ.setObj k none).obj d with
         | none=>exact hx
         | some y=>
          have:=(mP hx).2
          rw[hfree] at this
          cases this
       obtain⟨d1,d2,d3,d4,d5⟩:=AR
       have bn:=d1.Fl (w':=w) (k:=d) (by rw[d5,hm];exact hdl) d2 d3 (World.ownsRow_nil w 0 ty sz) (bW.refl _ _) (fun _ _ _ _ _=>⟨rfl,by simp[Value.ownBlock]⟩) (fun _ hb=>by simp[Value.ownBlock] at hb) (fun _ hb=>by simp[Value.ownBlock] at hb) rfl ⟨rfl,Nat.le_refl _⟩ rfl (Nat.le_refl _) fun _ _ _=>rfl
       refine⟨ρ.lR d (.slice none 0 0) (0*sz),?_⟩
       unfold af.app
       rw[aaW]
       exact bn.put (by intro d' e;rw[af.aZ,d4];exact hd d' e) (.cond qW (fun hh=>absurd hh ha) fun _=>rfl)
     ·cases hg
    ·cases hg
   ·cases hg
  ·cases hg
 ·cases hg

theorem Bj {ops:Array Oper} {o:Oper} {ix:Nat} {σ':af} {b:Option Bind} (h:cu w0 X w a σ env ρ) (hm:σ.mem.length=σ.tmps.length) (cW:ix≤env.length) (hsz:∀(j d:Nat),(ops[j]?).bind (fun(o:Oper)=>o.dst)=some d→d<σ.tmps.length)
  (hs:nT P ops o σ ix=some (σ',b)) (hb:cn P env ix b):(Region.wanted o (yielded ops a.tmps)=true∧gq P o a w w0 X σ' env)∨(Region.wanted o (yielded ops a.tmps)=false∧∃ρ',cu w0 X w (a.put o.dst undef) σ' env ρ'):=by
 unfold nT at hs
 split at hs
 ·rename_i e he
  split at hs
  ·rename_i hc
   simp only[Bool.and_eq_true] at hc
   cases hs
   have hd:=xM hc.1
   unfold oe at he
   split at he
   ·cases he
   ·rename_i act hact
    obtain⟨qW,Qaj⟩:=ML h cW hsz hact
    split at he
    ·rename_i eg hg
     cases he
     obtain⟨k1,k2⟩:=Om h hm hd hg hc.2 hb qW
     by_cases ha:bI env act
     ·exact .inl ⟨Qaj.2 ha,k1 ha⟩
     ·exact .inr ⟨by rw[←Bool.not_eq_true,Qaj];exact ha,k2 ha⟩
    split at he
    ·cases he
    ·rename_i e0 hl
     split at he
     ·rename_i hn
      simp only[Bool.and_eq_true,Option.isNone_iff_eq_none] at hn
      cases he
      have nD:∀sv,σ.app o.dst ⟨sv,none,none,rU act (Ho act ix e0).2⟩=σ.put o.dst sv:=fun _=>rfl
      rw[nD]
      by_cases ha:bI env act
      ·refine .inl ⟨Qaj.2 ha,?_⟩
       obtain⟨hbb,hatom⟩:=WH (s_ ha hb)
       have hok:=vm h ha hl hd hm hbb (by simp[AS,hn.1]) (fun _=>by simp[hn.1,hn.2])
       have VE:σ.app o.dst e0=σ.put o.dst e0.val:=by simp[af.app,af.jM,af.sets,hn.1,hn.2]
       rw[VE] at hok
       intro Q
       refine zV (hok Q) ?_
       rintro a' w' ⟨ρ',bn⟩
       refine⟨ρ',?_⟩
       cases JI:o.dst with
       | none=>rw[JI] at bn;exact bn
       | some d=>
        rw[JI] at bn
        have hdl:=hd d JI
        refine⟨by simpa[af.fM] using bn.size,fun t=>?_,bn.dO,bn.inj,bn.own,bn.cells,bn.os,bn.tape,bn.output,bn.grown,bn.old,bn.sub,bn.new,bn.zT,bn.hold⟩
        have:=bn.tmps t
        rw[af.yd hdl] at this ⊢
        split
        ·rename_i e;rw[if_pos e] at this;exact Xd qW ha (hatom _ _ _ this)
        ·rename_i e;rw[if_neg e] at this;exact this
      ·refine .inr ⟨by rw[←Bool.not_eq_true,Qaj];exact ha,ρ,h.put hd ?_⟩
       cases act with
       | nil=>exact absurd o4 ha
       | cons p r=>exact .cond qW (fun hh=>absurd hh ha) fun _=>rfl
     ·split at he
      ·split at he
       ·rename_i UZ
        cases he
        have ha:bI env []:=o4
        refine .inl ⟨Qaj.2 ha,vm h ha hl hd hm hb ?_ fun _ _=>rfl⟩
        intro hnew u hu hne
        have hf:=hc.2
        simp only[rX,hnew,hu,Bool.not_true,Bool.false_or,Bool.or_eq_true,decide_eq_true_eq,Bool.and_eq_true,Option.isNone_iff_eq_none] at hf
        have hf:=hf.resolve_left hne
        exact⟨hf.1,zH hf.2,J9 UZ hnew hu hne⟩
       ·cases he
      ·rename_i hne
       split at he
       ·rename_i MD
        cases he
        unfold nI at MD
        simp only[Bool.and_eq_true] at MD
        obtain⟨_,⟨GP,AR⟩,MD⟩:=MD
        split at MD
        ·rename_i cf hE k Qdy j dN Mz
         simp only[Bool.and_eq_true,Bool.not_eq_true',decide_eq_true_eq] at MD
         obtain⟨⟨⟨⟨hro,rfl⟩,rfl⟩,rfl⟩,hbm⟩:=MD
         have AR:e0.del=none:=by simpa using AR
         have nD:∀sv b,σ.app o.dst ⟨sv,e0.eM,none,b⟩=(σ.setObj bN (some (.store cf (.az 1 (.sym j))))).put o.dst sv:=fun sv b=>by simp[af.app,af.jM,af.sets,Mz]
         rw[nD]
         have hnew:jL o=false:=by
          unfold CA at GP
          unfold jL
          split at GP
          ·rename_i c hop
           rw[hop]
           split at GP
           ·rename_i g hc
            simp[hc]
           ·cases GP
          ·cases GP
         by_cases ha:bI env act
         ·refine .inl ⟨Qaj.2 ha,?_⟩
          have hok:=vm h ha hl hd hm (s_ ha hb) (by simp[AS,hnew]) (fun hn=>by rw[hnew] at hn;cases hn)
          have VE:σ.app o.dst e0=(σ.setObj bN (some (.store cf (.az 1 (.sym j))))).put o.dst e0.val:=by rw[←nD e0.val e0.bind,←AR]
          rw[VE] at hok
          intro Q
          refine zV (hok Q) ?_
          rintro a' w' ⟨ρ',bn⟩
          refine⟨ρ',?_⟩
          cases JI:o.dst with
          | none=>rw[JI] at bn;exact bn
          | some d=>
           rw[JI] at bn
           have hdl:d<(σ.setObj bN (some (.store cf (.az 1 (.sym j))))).tmps.length:=by rw[af.aZ];exact hd d JI
           refine⟨by simpa[af.fM] using bn.size,fun t=>?_,bn.dO,bn.inj,bn.own,bn.cells,bn.os,bn.tape,bn.output,bn.grown,bn.old,bn.sub,bn.new,bn.zT,bn.hold⟩
           have:=bn.tmps t
           rw[af.yd hdl] at this ⊢
           split
           ·rename_i e;rw[if_pos e] at this;exact .cond qW (fun _=>this) fun hn=>absurd ha hn
           ·rename_i e;rw[if_neg e] at this;exact this
         ·refine .inr ⟨by rw[←Bool.not_eq_true,Qaj];exact ha,?_⟩
          obtain⟨bs,jC,hst,_⟩:=h.dO _ _ dN
          have hna:¬bI env (act++[]):=by rw[List.append_nil];exact ha
          have cW:(E.az 1 (.sym j)).eval env=some (.st bs):=by
           split at hbm
           ·rename_i g h' args rs abv
            rw[abv] at hb
            obtain⟨st,d,h2,g0,g1,_,g3⟩:=hb
            have:=E.dU hbm
            subst this
            rw[jC] at g0
            cases g0
            simp only[E.eval,g1,Option.bind_some,D.az,g3 hna]
            rfl
           ·rename_i x h' args rs abv
            rw[abv] at hb
            obtain⟨st,d,h2,g0,g1,_,g3⟩:=hb
            have:=E.dU hbm
            subst this
            rw[jC] at g0
            cases g0
            simp only[E.eval,g1,Option.bind_some,D.az,g3 hna]
            rfl
           ·cases hbm
          have bn:=h.iu (x':=.az 1 (.sym j)) dN hro cW hst (bW.refl _ _) (Sets.le_refl _) rfl ⟨rfl,Nat.le_refl _⟩ rfl (Nat.le_refl _) (fun _ _ _=>rfl) (fun b hb=>⟨.inl hb,gZ h dN b hb⟩) (fun b o hs=>.inl hs) h.cells
          exact⟨_,bn.put (by rw[af.aZ];exact hd) (.cond qW (fun hh=>absurd hh ha) fun _=>rfl)⟩
        ·cases MD
       ·cases he
  ·cases hs
 ·cases hs

theorem Bk {ops:Array Oper}{o:Oper}{ix:Nat}{x:af×Option Bind}(hs:nT P ops o σ ix=some x):vP o=true:=by
 unfold nT at hs
 split at hs
 ·split at hs
  ·rename_i hc
   simp only[Bool.and_eq_true] at hc
   exact vo hc.1
  ·cases hs
 ·cases hs

theorem Jv (σ:af)(dst:Option Tmp)(e:j5):(σ.app dst e).tmps.length=σ.tmps.length∧(σ.app dst e).mem.length=σ.mem.length:=by
 unfold af.app af.jM af.sets
 cases e.del <;> cases e.eM <;> cases dst <;> simp[af.fM,af.aZ,af.fG]

theorem Q6 {ops:Array Oper}{o:Oper}{ix:Nat}{σ':af}{b:Option Bind}(hs:nT P ops o σ ix=some (σ',b)):σ'.tmps.length=σ.tmps.length∧σ'.mem.length=σ.mem.length:=by
 unfold nT at hs
 split at hs
 ·split at hs
  ·cases hs;exact Jv _ _ _
  ·cases hs
 ·cases hs

def wh (P:Program)(env:List D)(ix:Nat)(bs:List Bind):Prop:=∀i b,bs[i]? = some b→cn P env (ix+i) (some b)

end
end
end

section
noncomputable section

/-! ## what an operation looks at -/

section congr
variable {P:Program} {obj jh:Nat→Option bl} {ix:Nat}

theorem wV {agg:Bool}{n:Nat}{x:SV}(h:∀ob,x.aT ob=false→obj ob=jh ob):x.cellsOf agg n ix obj=x.cellsOf agg n ix jh:=by
 unfold SV.cellsOf
 split
 ·rfl
 ·cases x <;> try rfl
  ·rename_i y s;cases s <;> rfl
  ·rename_i o
   simp only
   rw[h o (by simp[SV.aT])]

theorem KR {t:TypeId}{x:SV}(h:∀ob,x.aT ob=false→obj ob=jh ob)(hh:(∃e s,x=.e e s)→obj bN=jh bN):GB P t x obj ix=GB P t x jh ix:=by
 unfold GB hOf
 cases x <;> try rfl
 ·rw[hh ⟨_,_,rfl⟩]
 ·rename_i ob off
  simp only
  rw[h ob (by simp[SV.aT])]
 ·rename_i ob i sz off
  simp only
  rw[h ob (by simp[SV.aT])]

theorem Ib {t:TypeId}{x y:SV}(h:∀ob,x.aT ob=false→obj ob=jh ob)(h':∀ob,y.aT ob=false→obj ob=jh ob)(hh:(∃e s,x=.e e s)→obj bN=jh bN):AA P t x y obj ix=AA P t x y jh ix:=by
 unfold AA
 have hc:∀agg n,y.cellsOf agg n ix obj=y.cellsOf agg n ix jh:=fun agg n=>wV h'
 cases x <;> try rfl
 ·rw[hh ⟨_,_,rfl⟩]
 ·rename_i ob off
  simp only[hc]
  rw[h ob (by simp[SV.aT])]
 ·rename_i ob i sz off
  simp only
  rw[h ob (by simp[SV.aT])]

theorem AF {t:TypeId}{x i:SV}(h:∀ob,x.aT ob=false→obj ob=jh ob):nv P t x i obj ix=nv P t x i jh ix:=by
 unfold nv
 cases x <;> try rfl
 rename_i ob
 simp only
 rw[h ob (by simp[SV.aT])]

theorem NI {t:TypeId}{x:SV}(h:∀ob,x.aT ob=false→obj ob=jh ob):RD P t x obj ix=RD P t x jh ix:=by
 unfold RD
 cases x <;> try rfl
 rename_i ob
 simp only
 rw[h ob (by simp[SV.aT])]

theorem NP {t:TypeId}{x:SV}{dst:Option Tmp}(h:∀ob,x.aT ob=false→obj ob=jh ob):NQ P t x dst obj ix=NQ P t x dst jh ix:=by
 unfold NQ
 split
 ·rw[wV h]
 ·rfl

theorem Hf {obj:Nat→Option bl}{cf:cz}(h:jv obj=some cf):∃x,obj bN=some (.store cf x):=by
 unfold jv at h
 split at h
 ·rename_i x hx
  cases h
  exact⟨_,hx⟩
 ·cases h

theorem KG {o:Oper} {ct jg:List (E×Bool)→Operand→SV} {act:List (E×Bool)} (hv:∀act x,x∈o.op.operands→jg act x=ct act x)
  (ho:∀x ob,x∈o.op.operands→(ct act x).aT ob=false→obj ob=jh ob) {m:Operand→Bool} (hM:∀act x,x∈o.op.operands→(∃e s,ct act x=.e e s)→m x=true) (hF:∀act g,ct act (.func g)=.func (.func g) []) (hC:jv obj=jv jh) (hH:iq o m (jv obj)=true→obj bN=jh bN):Gy P o jg act jh ix=Gy P o ct act obj ix:=by
 unfold Gy
 unfold iq at hH
 generalize hop:o.op=op at *
 cases op <;> try rfl
 all_goals try simp only[Op.operands] at hv ho hM
 case move x=>simp[hv]
 case assign x=>simp[hv]
 case pick c a b=>simp[hv]
 case box t x=>simp only;rw[hv act x (by simp),NP (fun ob h=>ho x ob (by simp) h)]
 case load t x=>simp only;rw[hv act x (by simp),KR (fun ob h=>ho x ob (by simp) h) (fun he=>hH (hM act x (by simp) he))]
 case store t x y=>simp only;rw[hv act x (by simp),hv act y (by simp),Ib (fun ob h=>ho x ob (by simp) h) (fun ob h=>ho y ob (by simp) h) (fun he=>hH (hM act x (by simp) he))]
 case nilCheck x=>simp[hv]
 case binOp=>simp[hv]
 case unOp=>simp[hv]
 case convert=>simp[hv]
 case fieldAddr=>simp[hv]
 case indexAddr t x i=>simp only;rw[hv act x (by simp),hv act i (by simp),AF (fun ob h=>ho x ob (by simp) h)]
 case extract=>simp[hv]
 case call c=>
  obtain⟨callee,args,ts⟩:=c
  simp only
  have hargs:∀x,x∈args→x∈(Call.mk callee args ts).operands:=by
   intro x hx
   unfold Call.operands
   simp
   cases callee <;> simp[hx]
  split
  ·split
   ·rename_i x t hx ht
    have:x∈args:=by
     have:x∈args.toList:=by rw[hx];simp
     simpa using this
    rw[hv act x (hargs x this),NI (fun ob h=>ho x ob (hargs x this) h)]
   ·rfl
  ·rename_i f
   have hf:f∈(Call.mk (.value f) args ts).operands:=by
    unfold Call.operands
    simp
   rw[hv act f hf]
   have:args.toList.map (jg act)=args.toList.map (ct act):=List.map_congr_left fun x hx=>hv act x (hargs x (by simpa using hx))
   rw[this]
   cases wo:Ig (jv obj) (.value f) with
   | false=>
    have hHH:=hH (by simp only[wo];rfl)
    unfold K0 Ip
    rw[hHH]
   | true=>
    unfold Ig at wo
    split at wo
    ·rename_i g hg
     cases hg
     split at wo
     ·rename_i cf Ce
      rw[hF act g]
      simp only
      obtain⟨h1,e1⟩:=Hf Ce
      obtain⟨h2,e2⟩:=Hf (hC ▸ Ce)
      unfold K0
      rw[e1,e2]
      split
      ·split
       ·rfl
       ·cases vJ P _ with
        | none=>rfl
        | some rs=>
         cases pG (List.map (ct act) args.toList) with
         | none=>rfl
         | some xs=>simp only[wo,if_true]
      ·rfl
     ·cases wo
    ·cases wo
  ·rfl
 case build t parts=>
  simp only
  have h1:parts.toList.map (fun p=>(p.1,Bq jh (jg act p.2)))=parts.toList.map fun p=>(p.1,Bq obj (ct act p.2)):=List.map_congr_left fun p hp=>by
   have hm:p.2∈(parts.toList.map (·.2)).toArray:=by simp;exact⟨p.1,by simpa using hp⟩
   rw[hv act p.2 hm]
   congr 1
   unfold Bq
   split <;> try rfl
   rename_i k hk
   rw[ho p.2 k hm (by rw[hk];simp[SV.aT])]
  unfold Cy
  rw[h1]
 case makeFunc fn first bT=>
  simp only
  have h1:first.toList.map (jg act)=first.toList.map (ct act):=List.map_congr_left fun x hx=>hv act x (by simp;exact .inl (by simpa using hx))
  have h2:bT.toList.map (jg act)=bT.toList.map (ct act):=List.map_congr_left fun x hx=>hv act x (by simp;exact .inr (by simpa using hx))
  rw[h1,h2]

theorem FI {t:TypeId}{s x:SV}{dst:Option Tmp}(h:∀ob,s.aT ob=false→obj ob=jh ob):vU P t s x dst obj ix=vU P t s x dst jh ix:=by
 unfold vU
 split
 ·rename_i k _
  rw[h k (by simp[SV.aT])]
 ·rfl

theorem D3 {nz:Bool}{o:Oper}{ct jg:Operand→SV}(hv:∀x,x∈o.op.operands→jg x=ct x)(ho:∀x ob,x∈o.op.operands→(ct x).aT ob=false→obj ob=jh ob):Ii nz P o jg jh ix=Ii nz P o ct obj ix:=by
 unfold Ii
 generalize hop:o.op=op at *
 cases op <;> try rfl
 case buildSlice t len parts=>
  simp only
  have:parts.toList.map (fun p=>jg p.2)=parts.toList.map fun p=>ct p.2:=List.map_congr_left fun p hp=>hv p.2 (by simp only[Op.operands,List.mem_toArray,List.mem_map];exact⟨p,hp,rfl⟩)
  unfold NG
  rw[this]
 case makeSlice t n c=>simp only;rw[hv n (by simp[Op.operands]),hv c (by simp[Op.operands])]
 case call c=>
  obtain⟨callee,args,ts⟩:=c
  simp only[Op.operands] at hv ho ⊢
  have hargs:∀x,x∈args→x∈(Call.mk callee args ts).operands:=by
   intro x hx
   unfold Call.operands
   simp
   cases callee <;> simp[hx]
  split
  ·split
   ·rename_i s x t t' hx ht
    have h1:s∈args:=by
     have:s∈args.toList:=by rw[hx];simp
     simpa using this
    have h2:x∈args:=by
     have:x∈args.toList:=by rw[hx];simp
     simpa using this
    rw[hv s (hargs s h1),hv x (hargs x h2),FI (fun ob h=>ho s ob (hargs s h1) h)]
   ·rfl
  ·rfl

theorem H7 (hC:jv obj=jv jh):DN jh=DN obj:=by unfold DN;rw[hC]

theorem Ie {nz:Bool}{o:Oper}{ct jg:Operand→SV}(hv:∀x,x∈o.op.operands→jg x=ct x):AB P nz o jg ix=AB P nz o ct ix:=by
 unfold AB
 split
 ·rename_i t parts ho
  have:parts.toList.map (fun p=>(p.1,jg p.2))=parts.toList.map fun p=>(p.1,ct p.2):=List.map_congr_left fun p hp=>by
   rw[hv p.2 (by rw[ho];simp only[Op.operands,List.mem_toArray,List.mem_map];exact⟨p,hp,rfl⟩)]
  unfold Ir
  rw[this]
 ·exact KI hv

theorem NM {o:Oper}{ct jg:Operand→SV}{act:List (E×Bool)}(hv:∀x,x∈o.op.operands→jg x=ct x)(hC:jv obj=jv jh):RE P o jg act jh ix=RE P o ct act obj ix:=by
 unfold RE
 generalize hop:o.op=op at *
 cases op <;> try (simp;done)
 case box t x=>
  have h2:=hv x (by simp[Op.operands])
  simp only[UO,hC,h2]
 case buildSlice t len parts=>
  have:parts.toList.map (fun p=>jg p.2)=parts.toList.map fun p=>ct p.2:=List.map_congr_left fun p hp=>hv p.2 (by simp only[Op.operands,List.mem_toArray,List.mem_map];exact⟨p,hp,rfl⟩)
  simp only[UO,hC,NG,this]

theorem iC (obj:Nat→Option bl):jv obj=zy (obj bN):=by
 unfold jv zy
 split <;> rfl

theorem KL {o:Oper}{ct jg:Operand→SV}{hO:Option bl}(hv:∀x,x∈o.op.operands→jg x=ct x):wJ P o jg hO ix=wJ P o ct hO ix:=by
 unfold wJ
 generalize hop:o.op=op at *
 cases op <;> try rfl
 case box t x=>simp only[hv x (by simp[Op.operands])]
 case makeSlice t n c=>simp only[hv n (by simp[Op.operands]),hv c (by simp[Op.operands])]
 case call c=>
  obtain⟨callee,args,ts⟩:=c
  have hargs:∀x,x∈args.toList→jg x=ct x:=fun x hx=>hv x (by
   have:x∈args:=by simpa using hx
   simp only[Op.operands,Call.operands]
   simp
   cases callee <;> simp[this])
  simp only
  split
  ·split
   ·rfl
   ·split
    ·split
     ·rename_i s x t t' hx _
      rw[hargs s (by rw[hx];simp),hargs x (by rw[hx];simp)]
     ·rfl
    ·rfl
  ·rfl

theorem KK {o:Oper}{ct:Operand→SV}{hO Yw:Option bl}{m:Operand→Bool}(hC:zy hO=zy Yw)(hM:∀x,x∈o.op.operands→(∃e s,ct x=.e e s)→m x=true)(hH:iq o m (zy hO)=true→hO=Yw):wJ P o ct Yw ix=wJ P o ct hO ix:=by
 have other:∀{hO:Option bl},zy hO=none→wJ P o ct hO ix=none:=by
  intro hO h
  unfold wJ
  split
  ·simp[zy] at h
  ·rfl
 cases hc:zy hO with
 | none=>rw[other hc,other (hC ▸ hc)]
 | some cf=>
  obtain⟨h1,rfl⟩:∃h1,hO=some (.store cf h1):=by
   unfold zy at hc
   split at hc
   ·cases hc;exact⟨_,rfl⟩
   ·cases hc
  obtain⟨h2,rfl⟩:∃h2,Yw=some (.store cf h2):=by
   rw[hc] at hC
   unfold zy at hC
   split at hC
   ·cases hC;exact⟨_,rfl⟩
   ·cases hC
  simp only[zy] at hH
  unfold wJ
  unfold iq at hH
  generalize hop:o.op=op at *
  cases hd:o.dst with
  | none=>rfl
  | some d=>
   rw[hd] at hH
   have pub:∀{α:Type} {A B:Option α},(cf.Ca.contains d=true→(some (bl.store cf h1)=some (bl.store cf h2)))→(h1=h2→A=B)→(if cf.Ca.contains d=true then A else none)=(if cf.Ca.contains d=true then B else none):=by
    intro α A B h3 h4
    split
    ·rename_i hp
     have:=h3 hp
     simp only[Option.some.injEq,bl.store.injEq,true_and] at this
     exact h4 this
    ·rfl
   by_cases hro:cf.ro=true
   ·simp only[hro,if_true]
   simp only[hro]
   cases op <;> try rfl
   case alloc t=>exact pub hH fun e=>by subst e;rfl
   case box t x=>exact pub hH fun e=>by subst e;rfl
   case makeSlice t n c=>exact pub hH fun e=>by subst e;rfl
   case call c=>
    obtain⟨callee,args,ts⟩:=c
    cases callee <;> try rfl
    rename_i b
    cases b <;> try rfl
    simp only at hH ⊢
    have key:∀s r,args.toList=s :: r→(∃e q,Ro s (ct s)=.e e q)→h1=h2:=by
     intro s r hx he
     have hm:(m s||Gx s)=true:=by
      by_cases hn:Gx s=true
      ·simp[hn]
      ·rw[Ro,if_neg hn] at he
       rw[hM s (by
        have:s∈args:=by
         have:s∈args.toList:=by rw[hx];simp
         simpa using this
        simp only[Op.operands,Call.operands]
        simp[this]) he]
       rfl
     rw[hx] at hH
     have:=hH hm
     simpa using this
    clear hH
    cases hx:args.toList with
    | nil=>rfl
    | cons s r=>
     have key:=key s r hx
     cases hs:Ro s (ct s) with
     | e e q=>
      have:=key ⟨_,_,hs⟩
      subst this
      rfl
     | _=>
      cases r with
      | nil=>rfl
      | cons x r=>
       cases r with
       | cons _ _=>rfl
       | nil=>
        cases ht:ts.toList with
        | nil=>rfl
        | cons t q=>
         cases q with
         | nil=>rfl
         | cons t' q=>
          cases q with
          | cons _ _=>rfl
          | nil=>simp only[hs]

theorem Nz {o:Oper}{ct jg:Operand→SV}(hv:∀x,x∈o.op.operands→jg x=ct x){m:Operand→Bool}(hM:∀x,x∈o.op.operands→(∃e s,ct x=.e e s)→m x=true)(hC:jv obj=jv jh)(hH:iq o m (jv obj)=true→obj bN=jh bN):RA P o jg jh ix=RA P o ct obj ix:=by
 unfold RA
 split
 ·rw[KL hv]
  rw[iC,iC] at hC
  rw[iC] at hH
  exact KK hC hM hH
 ·rfl

theorem ND {o:Oper}{ct jg:Operand→SV}(hv:∀x,x∈o.op.operands→jg x=ct x){m:Operand→Bool}(hC:jv obj=jv jh)(hH:iq o m (jv obj)=true→obj bN=jh bN):lmap P o jg jh ix=lmap P o ct obj ix:=by
 unfold lmap
 split
 ·rename_i h
  have Za:∀{hO Yw:Option bl},zy hO=zy Yw→(∀cf h,hO=some (.store cf h)→∀h',qv P o jg (some (.store cf h')) ix=qv P o ct (some (.store cf h)) ix)→qv P o jg Yw ix=qv P o ct hO ix:=by
   intro hO Yw hc hs
   cases Ce:zy hO with
   | none=>
    have other:∀{ct:Operand→SV} {hO:Option bl},zy hO=none→qv P o ct hO ix=none:=by
     intro ct hO h
     unfold qv
     split
     ·simp[zy] at h
     ·rfl
    rw[other Ce,other (hc ▸ Ce)]
   | some cf=>
    obtain⟨h1,rfl⟩:∃h1,hO=some (.store cf h1):=by
     unfold zy at Ce
     split at Ce
     ·cases Ce;exact⟨_,rfl⟩
     ·cases Ce
    obtain⟨h2,rfl⟩:∃h2,Yw=some (.store cf h2):=by
     rw[Ce] at hc
     unfold zy at hc
     split at hc
     ·cases hc;exact⟨_,rfl⟩
     ·cases hc
    exact hs cf h1 rfl h2
  have same:iq o m (jv obj)=true→qv P o jg (jh bN) ix=qv P o ct (obj bN) ix:=by
   intro hu
   rw[hH hu]
   unfold qv
   generalize hop:o.op=op at *
   cases op <;> try rfl
   case mapUpdate t m k x=>simp only[hv m (by simp[Op.operands]),hv k (by simp[Op.operands]),hv x (by simp[Op.operands])]
   case insert t m k x=>simp only[hv m (by simp[Op.operands]),hv k (by simp[Op.operands]),hv x (by simp[Op.operands])]
   case makeMap t r=>cases r <;> rfl
   case lookup t m k ok=>simp only[hv m (by simp[Op.operands]),hv k (by simp[Op.operands])]
   case range t m=>simp only[hv m (by simp[Op.operands])]
   case entry it=>simp only[hv it (by simp[Op.operands])]
   case mapEntry t m k=>simp only[hv m (by simp[Op.operands]),hv k (by simp[Op.operands])]
   case entryStore t m s x=>simp only[hv m (by simp[Op.operands]),hv s (by simp[Op.operands]),hv x (by simp[Op.operands])]
   case call c=>
    obtain⟨callee,args,ts⟩:=c
    cases callee <;> try rfl
    rename_i b
    cases b <;> try rfl
    case delete=>
     simp only
     match hx:args.toList with
     | [x,y]=>
      have mem:∀z,z∈[x,y]→z∈(Op.call ⟨.builtin .delete,args,ts⟩).operands:=fun z hz=>by
       have:z∈args:=by
        have:z∈args.toList:=by rw[hx];exact hz
        simpa using this
       simp only[Op.operands,Call.operands]
       simp[this]
      have Lf:=hv x (mem x (by simp))
      have hvy:=hv y (mem y (by simp))
      match ts.toList with
      | t :: _=>simp only[Lf,hvy]
      | []=>rfl
     | []=>rfl
     | [_]=>rfl
     | _ :: _ :: _ :: _=>rfl
    simp only
    match hx:args.toList with
    | [x]=>
     have Lf:=hv x (by
      have:x∈args:=by
       have:x∈args.toList:=by rw[hx];simp
       simpa using this
      simp only[Op.operands,Call.operands]
      simp[this])
     match ts.toList with
     | [t]=>simp only[Lf]
     | []=>rfl
     | _ :: _ :: _=>rfl
    | []=>rfl
    | _ :: _ :: _=>rfl
  rw[iC,iC] at hC
  cases hop:o.op
  case makeMap=>exact same (by unfold iq;rw[hop])
  case mapUpdate=>exact same (by unfold iq;rw[hop])
  case insert=>exact same (by unfold iq;rw[hop])
  case lookup=>exact same (by unfold iq;rw[hop])
  case range=>exact same (by unfold iq;rw[hop])
  case entry=>exact same (by unfold iq;rw[hop])
  case mapEntry=>exact same (by unfold iq;rw[hop])
  case entryStore=>exact same (by unfold iq;rw[hop])
  case call c=>
   by_cases hu:iq o m (jv obj)=true
   ·exact same hu
   ·refine Za hC fun Qdy h e h'=>?_
    unfold iq at hu
    rw[hop,iC,e] at hu
    have off:∀{ct:Operand→SV} {h:E},qv P o ct (some (.store Qdy h)) ix=none:=by
     intro ct h
     unfold qv
     rw[hop]
     simp only
     split
     ·rename_i hb
      simp only[hb,zy,Bool.not_eq_true] at hu
      split
      ·rename_i x t _ ht
       rw[ht] at hu
       simp only[List.any_cons,List.any_nil,Bool.or_false] at hu
       rw[if_neg (by rw[hu];simp)]
      ·rfl
     ·rename_i hb
      simp[hb] at hu
     ·rfl
    rw[off,off]
  all_goals exact Za hC fun cf h _ h'=>by unfold qv;rw[hop]
 ·rfl

theorem LM {o:Oper} {ct jg:List (E×Bool)→Operand→SV} {act:List (E×Bool)} (hv:∀act x,x∈o.op.operands→jg act x=ct act x)
  (ho:∀act x ob,x∈o.op.operands→(ct act x).aT ob=false→obj ob=jh ob) {m:Operand→Bool} (hM:∀act x,x∈o.op.operands→(∃e s,ct act x=.e e s)→m x=true) (hF:∀act g,ct act (.func g)=.func (.func g) []) (hC:jv obj=jv jh) (hH:iq o m (jv obj)=true→obj bN=jh bN):BN P o jg act jh ix=BN P o ct act obj ix:=by
 unfold BN
 rw[NM (hv act) hC,Nz (hv []) (hM []) hC hH,ND (hv act) hC hH,H7 hC,D3 (hv []) (ho []),Ie (hv act),KG hv (ho act) hM hF hC hH]

end congr

end
end

section
noncomputable section

structure Rec where
 eu:j5
 seen:List SV
 ix:Nat
 deriving Inhabited

def mW (ops:Array Oper)(j:Nat):Option Tmp:=(ops[j]?).bind (·.dst)
def gJ (R:List Rec)(j:Nat):j5:=((R[j]?).map (·.eu)).getD ⟨.cE,none,none,none⟩

def j5.targets (e:j5):List Nat:=(match e.eM with | some u=>[u.1] | none=>[])++(match e.del with | some k=>[k] | none=>[])

def cH (ops:Array Oper)(R:List Rec)(D:Nat→Bool)(σ:af):Nat→af
 | 0=>σ
 | n+1=>if D n=true then(cH ops R D σ n).app (mW ops n) (gJ R n) else cH ops R D σ n

def ug (ops:Array Oper)(o:Oper)(σ:af):List SV:=(o.looksAt ops).map σ.tmp++(if iq o (fun x=>(σ.zS x).Nu) (jv σ.obj) then[.oc bN] else[])

def AZ (P:Program)(ops:Array Oper):List Oper→af→Nat→Option (af×List Bind×List Rec)
 | [],σ,_=>some (σ,[],[])
 | o :: r,σ,ix=>match oe P ops o σ ix with
  | none=>none
  | some e=>match e.bind with
   | none=>(AZ P ops r (σ.app o.dst e) ix).map fun x=>(x.1,x.2.1,⟨e,ug ops o σ,ix⟩ :: x.2.2)
   | some b=>(AZ P ops r (σ.app o.dst e) (ix+1)).map fun x=>(x.1,b :: x.2.1,⟨e,ug ops o σ,ix⟩ :: x.2.2)

/-! ## states -/

theorem kJ (ops:Array Oper)(R:List Rec)(D:Nat→Bool)(σ:af):∀n,(cH ops R D σ n).tmps.length=σ.tmps.length∧(cH ops R D σ n).mem.length=σ.mem.length
 | 0=>⟨rfl,rfl⟩
 | n+1=>by
  have h:=kJ ops R D σ n
  unfold cH
  split
  ·have:=Jv (cH ops R D σ n) (mW ops n) (gJ R n)
   exact⟨this.1.trans h.1,this.2.trans h.2⟩
  ·exact h

theorem MU {σ:af}{dst:Option Tmp}{sv:SV}{t:Nat}(h:dst≠some t):(σ.put dst sv).tmp t=σ.tmp t:=by
 cases dst with
 | none=>rfl
 | some d=>
  have:d≠t:=fun e=>h (by rw[e])
  simp[af.fM,af.gw,List.getD_eq_getElem?_getD,this]

theorem MV {σ:af}{sv:SV}{t:Nat}:(σ.put (some t) sv).tmp t=if t<σ.tmps.length then sv else .cE:=by
 simp only[af.fM,af.gw,List.getD_eq_getElem?_getD,List.getElem?_set]
 simp only[if_true]
 split <;> rfl

theorem V6 (σ:af)(k:Option Nat)(t:Nat):(σ.jM k).tmp t=σ.tmp t:=by cases k;rfl;exact σ.ga _ _ t
theorem TW (σ:af)(u:Option (Nat×bl))(t:Nat):(σ.sets u).tmp t=σ.tmp t:=by cases u;rfl;exact σ.ga _ _ t
theorem Sg (σ:af)(k:Option Nat):(σ.jM k).tmps=σ.tmps:=by cases k;rfl;exact σ.aZ _ _
theorem QZ (σ:af)(u:Option (Nat×bl)):(σ.sets u).tmps=σ.tmps:=by cases u;rfl;exact σ.aZ _ _

theorem O8 {σ:af}{dst:Option Tmp}{e:j5}{t:Nat}(h:dst≠some t):(σ.app dst e).tmp t=σ.tmp t:=by
 unfold af.app
 rw[MU h,TW,V6]

theorem Fg {σ:af}{e:j5}{t:Nat}:(σ.app (some t) e).tmp t=if t<σ.tmps.length then e.val else .cE:=by
 unfold af.app
 rw[MV,QZ,Sg]

theorem ep {σ:af}{o o':Nat}{x:Option bl}(h:o≠o'):(σ.setObj o x).obj o'=σ.obj o':=σ.ep x (Ne.symm h)

theorem f_ {σ:af}{o:Nat}{x:Option bl}:(σ.setObj o x).obj o=if o=bN∨o<σ.mem.length then x else none:=by
 split
 ·rename_i h;rw[af.ff h,if_pos rfl]
 ·rename_i h
  rw[not_or] at h
  simp only[af.fD,af.dV]
  simp only[h.1,if_false,List.getD_eq_getElem?_getD]
  rw[List.getElem?_eq_none (by simpa using h.2)]
  rfl

theorem aao (σ:af)(o:Nat)(x:Option bl):(σ.setObj o x).mem.length=σ.mem.length:=σ.fG o x
theorem LS (σ:af)(k:Option Nat):(σ.jM k).mem.length=σ.mem.length:=by cases k <;> simp[af.jM,af.fG]

theorem xT {σ:af}{dst:Option Tmp}{e:j5}{ob:Nat}(h:ob∉e.targets):(σ.app dst e).obj ob=σ.obj ob:=by
 unfold af.app
 rw[af.Cu]
 unfold j5.targets at h
 cases hu:e.eM with
 | none=>
  cases hk:e.del with
  | none=>rfl
  | some k=>
   rw[hu,hk] at h
   simp only[af.sets,af.jM]
   exact ep fun e=>h (by simp[e])
 | some u=>
  rw[hu] at h
  simp only[af.sets]
  rw[ep fun e=>h (by simp[e])]
  cases hk:e.del with
  | none=>rfl
  | some k=>
   rw[hk] at h
   simp only[af.jM]
   exact ep fun e=>h (by simp[e])

theorem O9 {σ τ:af}{dst:Option Tmp}{e:j5}{ob:Nat}(h:ob∈e.targets)(hl:σ.mem.length=τ.mem.length):(σ.app dst e).obj ob=(τ.app dst e).obj ob:=by
 unfold af.app
 rw[af.Cu,af.Cu]
 unfold j5.targets at h
 have AR:∀(e':j5),e'.del=e.del→(∃k,e.del=some k∧k=ob)→(σ.jM e.del).obj ob=(τ.jM e.del).obj ob:=by
  rintro _ _ ⟨k,hk,rfl⟩
  rw[hk]
  simp only[af.jM]
  rw[f_,f_,hl]
 cases hu:e.eM with
 | none=>
  rw[hu] at h
  cases hk:e.del with
  | none=>rw[hk] at h;simp at h
  | some k=>
   rw[hk] at h
   simp only[af.sets]
   have:=AR e rfl ⟨k,hk,by simp at h;exact h.symm⟩
   rwa [hk] at this
 | some u=>
  rw[hu] at h
  simp only[af.sets]
  by_cases dN:u.1=ob
  ·subst dN
   rw[f_,f_,LS,LS,hl]
  ·rw[ep dN,ep dN]
   cases hk:e.del with
   | none=>rw[hk] at h;simp at h;exact absurd h.symm dN
   | some k=>
    rw[hk] at h
    have:=AR e rfl ⟨k,hk,by simp at h;exact(h.resolve_left fun e=>dN e.symm).symm⟩
    rwa [hk] at this

section
variable {ops:Array Oper} {R:List Rec} {D D':Nat→Bool} {σ:af}

theorem Gn {t:Nat}:∀n,(∀j,j<n→mW ops j=some t→D j=D' j)→(cH ops R D σ n).tmp t=(cH ops R D' σ n).tmp t
 | 0,_=>rfl
 | n+1,h=>by
  have ih:=Gn n fun j hj=>h j (by omega)
  unfold cH
  by_cases hd:mW ops n=some t
  ·rw[←h n (by omega) hd]
   split
   ·rw[hd,Fg,Fg,(kJ ..).1,(kJ ..).1]
   ·exact ih
  ·split <;> split <;> (try simp only[O8 hd]) <;> exact ih

theorem Af {ob:Nat}:∀n,(∀j,j<n→ob∈(gJ R j).targets→D j=D' j)→(cH ops R D σ n).obj ob=(cH ops R D' σ n).obj ob
 | 0,_=>rfl
 | n+1,h=>by
  have ih:=Af n fun j hj=>h j (by omega)
  unfold cH
  by_cases hd:ob∈(gJ R n).targets
  ·rw[←h n (by omega) hd]
   split
   ·exact O9 hd (by rw[(kJ ..).2,(kJ ..).2])
   ·exact ih
  ·split <;> split <;> (try simp only[xT hd]) <;> exact ih

theorem l9:∀n,(∀j,j<n→D j=D' j)→cH ops R D σ n=cH ops R D' σ n
 | 0,_=>rfl
 | n+1,h=>by
  unfold cH
  rw[l9 n fun j hj=>h j (by omega),h n (by omega)]

theorem nS {i : Nat} : ∀ n, i ≤ n → (∀ j, j < n → i ≤ j → D j = false) → cH ops R D σ n = cH ops R D σ i
  | 0, h, _ => by have : i = 0 := by omega
                  subst this; rfl
  | n + 1, h, hD => by
    rcases Nat.lt_or_ge i (n + 1) with hlt | hge
    · unfold cH
      rw [hD n (by omega) (by omega)]
      simp only [Bool.false_eq_true, if_false]
      rw [nS n (by omega) fun j hj => hD j (by omega)]
      cases i <;> rfl
    · have : i = n + 1 := by omega
      subst this; rfl

theorem yy {i n t:Nat}(hi:i≤n)(h:∀j,j<n→mW ops j=some t→D j=decide (j<i)):(cH ops R D σ n).tmp t=(cH ops R (fun _=>true) σ i).tmp t:=by
 rw[Gn (D':=fun j=>decide (j<i)) n h,nS n hi (fun j _ hj=>by simp;omega),l9 (D':=fun _=>true) i (fun j hj=>by simp[hj])]

theorem sN {i n ob:Nat}(hi:i≤n)(h:∀j,j<n→ob∈(gJ R j).targets→D j=decide (j<i)):(cH ops R D σ n).obj ob=(cH ops R (fun _=>true) σ i).obj ob:=by
 rw[Af (D':=fun j=>decide (j<i)) n h,nS n hi (fun j _ hj=>by simp;omega),l9 (D':=fun _=>true) i (fun j hj=>by simp[hj])]

theorem nR (σ:af){o o':Nat}(x y:Option bl)(h:o≠o'):(σ.setObj o x).setObj o' y=(σ.setObj o' y).setObj o x:=by
 simp only[af.fD]
 by_cases h1:o=bN <;> by_cases h2:o'=bN
 ·exact absurd (h1.trans h2.symm) h
 ·simp[h1,h2]
 ·simp[h1,h2]
 ·simp only[h1,h2,if_false]
  rw[List.set_comm _ _ h]

theorem put_comm (σ:af){d d':Option Tmp}(x y:SV)(h:∀t,d=some t→d'≠some t):(σ.put d x).put d' y=(σ.put d' y).put d x:=by
 cases d with
 | none=>rfl
 | some t=>cases d' with
  | none=>rfl
  | some t'=>
   have:t≠t':=fun e=>h t rfl (by rw[e])
   simp[af.fM,List.set_comm _ _ this]

theorem Dy (σ:af)(d:Option Tmp)(x:SV)(o:Nat)(y:Option bl):(σ.put d x).setObj o y=(σ.setObj o y).put d x:=by
 simp only[af.fD]
 cases d <;> simp only[af.fM] <;> split <;> rfl

def nQ (σ:af)(l:List (Nat×Option bl)):af:=l.foldl (fun σ u=>σ.setObj u.1 u.2) σ

theorem yw {o:Nat}{x:Option bl}:∀{l:List (Nat×Option bl)} {σ:af},(∀u,u∈l→u.1≠o)→(nQ σ l).setObj o x=nQ (σ.setObj o x) l
 | [],_,_=>rfl
 | u :: l,σ,h=>by
  have:=yw (o:=o) (x:=x) (l:=l) (σ:=σ.setObj u.1 u.2) fun v hv=>h v (by simp[hv])
  simp only[nQ,List.foldl_cons] at this ⊢
  rw[this,nR _ _ _ (h u (by simp))]

theorem Dc:∀{l l':List (Nat×Option bl)} {σ:af},(∀u u',u∈l→u'∈l'→u.1≠u'.1)→nQ (nQ σ l) l'=nQ (nQ σ l') l
 | l,[],_,_=>rfl
 | l,u :: l',σ,h=>by
  have h1:nQ (nQ σ l) (u :: l')=nQ ((nQ σ l).setObj u.1 u.2) l':=rfl
  have h2:nQ σ (u :: l')=nQ (σ.setObj u.1 u.2) l':=rfl
  rw[h1,h2,yw fun v hv=>h v u hv (by simp),Dc fun v v' hv Qcz=>h v v' hv (by simp[Qcz])]

def j5.list (e:j5):List (Nat×Option bl):=(match e.del with | some k=>[(k,none)] | none=>[])++(match e.eM with | some u=>[(u.1,some u.2)] | none=>[])

theorem zI (σ:af)(dst:Option Tmp)(e:j5):σ.app dst e=(nQ σ e.list).put dst e.val:=by
 unfold af.app j5.list
 cases e.del <;> cases e.eM <;> rfl

theorem yT {e:j5}{u:Nat×Option bl}(h:u∈e.list):u.1∈e.targets:=by
 unfold j5.list at h
 unfold j5.targets
 cases hd:e.del <;> cases hu:e.eM <;> rw[hd,hu] at h <;> simp at h ⊢
 ·rw[h]
 ·rw[h]
 ·rcases h with h | h <;> rw[h] <;> simp

theorem Ac (d:Option Tmp)(x:SV):∀(l:List (Nat×Option bl)) (σ:af),nQ (σ.put d x) l=(nQ σ l).put d x
 | [],_=>rfl
 | u :: l,σ=>by
  have:=Ac d x l (σ.setObj u.1 u.2)
  simp only[nQ,List.foldl_cons] at this ⊢
  rw[Dy,this]

theorem WJ (σ:af){d d':Option Tmp}{e e':j5}(hd:∀t,d=some t→d'≠some t)(hu:∀ob,ob∈e.targets→ob∉e'.targets):(σ.app d e).app d' e'=(σ.app d' e').app d e:=by
 rw[zI,zI,zI,zI,Ac,Ac,put_comm _ _ _ hd,Dc fun u u' h1 h2 h3=>hu u.1 (yT h1) (h3 ▸ yT h2)]

theorem Ag {i:Nat}(hi:D i=false):∀n,i<n→(∀j,j<n→i<j→D j=true→(∀t,mW ops i=some t→mW ops j≠some t)∧∀ob,ob∈(gJ R i).targets→ob∉(gJ R j).targets) →
  cH ops R (fun j=>D j||j==i) σ n=(cH ops R D σ n).app (mW ops i) (gJ R i)
 | 0,h,_=>by omega
 | n+1,h,hc=>by
  unfold cH
  rcases Nat.lt_or_ge i n with hlt | hge
  ·have ih:=Ag hi n hlt fun j hj=>hc j (by omega)
   have hne:(n==i)=false:=by simp;omega
   rw[ih]
   simp only[hne,Bool.or_false]
   split
   ·rename_i hD
    obtain⟨h1,h2⟩:=hc n (by omega) hlt hD
    exact WJ _ h1 h2
   ·rfl
  ·have:n=i:=by omega
   subst this
   simp only[hi,BEq.rfl,Bool.or_true,if_true,Bool.false_eq_true,if_false]
   rw[l9 (D':=D) n fun j hj=>by simp;omega]

end

end
end

section
noncomputable section

def Rec.cR (r:Rec)(ob:Nat):Bool:=
 r.seen.any (fun sv=>!sv.aT ob)||!r.eu.val.aT ob||r.eu.targets.contains ob||(match r.eu.eM with | some u=>!u.2.aT ob | none=>false)

def xQ (ops:Array Oper)(oj oi:Oper)(rj ri:Rec):Bool:=
 !oj.apart ops oi||rj.eu.targets.any ri.cR||ri.eu.targets.any rj.cR

def Us (ms:List Nat)(o:Oper):Nat:=o.after.toList.foldl (fun s e=>if Region.binds .any e=true then s ||| 2 ^ e.on ||| ms.getD e.on 0 else s) 0

def lF:List Oper→List Nat→List Nat
 | [],ms=>ms
 | o :: r,ms=>lF r (ms++[Us ms o])

def Rec.reader (r:Rec):Bool:=r.eu.eM.isNone&&r.eu.del.isNone

def Rec.sF (r:Rec):Bool:=match r.eu.targets with | [k]=>decide (k=bN) | _=>false

def nP (ops:Array Oper)(oj oi:Oper)(rj ri:Rec):Bool:=oj.apart ops oi&&((rj.reader&&ri.sF)||(ri.reader&&rj.sF))

def Uc (ops:Array Oper)(m:Nat)(oi:Oper)(ri:Rec)(j:Nat)(oj:Oper)(rj:Rec):Bool:=
 (!xQ ops oj oi rj ri||m.testBit j||nP ops oj oi rj ri)&&(!jL oi||match ri.eu.eM with | some u=>decide (u.1=bN)||!rj.cR u.1 | none=>true)

def ad4 (ops:Array Oper)(R:List Rec)(σ:af)(m i:Nat):Bool:=
 match ops[i]?,R[i]? with
 | some oi,some ri=>oi.after.all (fun e=>!Region.binds .any e||decide (e.on<i))&&qB σ oi &&
   (!jL oi||match ri.eu.eM with | some u=>decide (u.1=bN)||((σ.obj u.1).isNone&&σ.kS u.1) | none=>true) &&
   (List.range i).all fun j=>match ops[j]?,R[j]? with
    | some oj,some rj=>Uc ops m oi ri j oj rj
    | _,_=>true
 | _,_=>false

def OY (R:List Rec)(σ:af):Bool:=
 R.all fun r=>decide (r.eu.del≠some bN)&&match r.eu.eM with
  | some u=>decide (u.1=bN→zy (some u.2)=jv σ.obj)
  | none=>true

def qt (ops:Array Oper)(R:List Rec)(σ:af):Bool:=OY R σ &&
 (List.range ops.size).all fun i=>ad4 ops R σ ((lF ops.toList []).getD i 0) i

def J6 (ops:Array Oper)(R:List Rec)(ms:List Nat)(i:Nat):List Nat:=
 (List.range ops.size).filter fun j=>(match R[j]? with | some rj=>rj.sF | none=>false)&&!(decide (j<i)&&(ms.getD i 0).testBit j)&&!(decide (i<j)&&(ms.getD j 0).testBit i)&&decide (j≠i)

def Jw (ops:Array Oper)(R:List Rec)(σ:af)(i j:Nat):Option bl:=(cH ops R (fun k=>decide (k<i) != (k==j)) σ ops.size).obj bN

def QD (P:Program)(ops:Array Oper)(R:List Rec)(σ:af)(ms:List Nat)(i:Nat):Option (List E):=
 match ops[i]?,R[i]? with
 | some o,some r=>if r.reader&&r.cR bN then(match J6 ops R ms i with
   | []=>some []
   | [j]=>(match oe P ops o ((cH ops R (fun _=>true) σ i).setObj bN (Jw ops R σ i j)) r.ix with
    | some e=>if e.val.same r.eu.val&&e.eM.isNone&&e.del.isNone then(match e.bind,r.eu.bind with
      | some (.ev b),some (.ev a)=>some [.m4 .same a b .nil .nil]
      | none,none=>some []
      | _,_=>none) else none
    | none=>none)
   | _=>none) else some []
 | _,_=>none

def zi (P:Program)(ops:Array Oper)(R:List Rec)(σ:af)(ms:List Nat):Nat→Option (List E)
 | 0=>some []
 | n+1=>(zi P ops R σ ms n).bind fun xs=>(QD P ops R σ ms n).map (xs++·)

def extras (P:Program)(ops:Array Oper)(R:List Rec)(σ:af):Option (List E):=zi P ops R σ (lF ops.toList []) ops.size

theorem G2 {P:Program}{ops:Array Oper}{R:List Rec}{σ:af}{ms:List Nat}:∀{n:Nat} {xs:List E},zi P ops R σ ms n=some xs→∀i,i<n→∃ys,QD P ops R σ ms i=some ys∧∀y,y∈ys→y∈xs
 | 0,_,_,i,hi=>by omega
 | n+1,xs,h,i,hi=>by
  simp only[zi,Option.bind_eq_some_iff,Option.map_eq_some_iff] at h
  obtain⟨zs,h1,ys,h2,rfl⟩:=h
  rcases Nat.lt_or_ge i n with hlt | hge
  ·obtain⟨ys',h3,h4⟩:=G2 h1 i hlt
   exact⟨ys',h3,fun y hy=>List.mem_append.2 (.inl (h4 y hy))⟩
  ·obtain rfl:i=n:=by omega
   exact⟨ys,h2,fun y hy=>List.mem_append.2 (.inr hy)⟩

theorem C5 {r:Rec}(h:r.sF=true):r.eu.targets=[bN]:=by
 unfold Rec.sF at h
 split at h
 ·rename_i k hk
  simp only[decide_eq_true_eq] at h
  rw[hk,h]
 ·cases h

theorem mA {r:Rec}(h:r.reader=true):r.eu.targets=[]:=by
 unfold Rec.reader at h
 simp only[Bool.and_eq_true,Option.isNone_iff_eq_none] at h
 unfold j5.targets
 rw[h.1,h.2]
 rfl

section
variable {P:Program} {ops:Array Oper} {R:List Rec} {σ:af} {D:Nat→Bool}

theorem HD {act:List (E×Bool)}{sv:SV}{ob:Nat}(h:(sv.strip act).aT ob=false):sv.aT ob=false:=by
 unfold SV.strip at h
 split at h
 ·split at h
  ·exact h
  ·simp[SV.aT] at h
 ·exact h

theorem DH {act:List (E×Bool)}{x:Operand}{ob:Nat}(h:(σ.ct act x).aT ob=false):∃t,x=.tmp t∧(σ.tmp t).aT ob=false:=by
 have h:=HD h
 cases x with
 | tmp t=>exact⟨t,rfl,h⟩
 | const v=>
  simp only[af.zS,oV] at h
  split at h <;> simp[SV.aT] at h
 | global g=>simp[af.zS,SV.aT] at h
 | func f=>simp[af.zS,SV.aT,SV.ee] at h

theorem uE {o:Oper}{t:Tmp}(h:Operand.tmp t∈o.op.operands):t∈o.looksAt ops:=by
 unfold Oper.looksAt
 refine List.mem_append.2 (.inl (List.mem_filterMap.2 ⟨.tmp t,by simpa using h,rfl⟩))

theorem Dk (h:OY R σ=true):∀n,jv (cH ops R D σ n).obj=jv σ.obj
 | 0=>rfl
 | n+1=>by
  have ih:=Dk h n
  unfold cH
  split
  ·have key:∀e:j5,(e.del≠some bN∧∀u,e.eM=some u→u.1=bN→zy (some u.2)=jv σ.obj)→jv ((cH ops R D σ n).app (mW ops n) e).obj=jv σ.obj:=by
    rintro e ⟨h1,h2⟩
    by_cases ht:bN∈e.targets
    ·unfold j5.targets at ht
     cases hu:e.eM with
     | none=>
      rw[hu] at ht
      cases hk:e.del with
      | none=>rw[hk] at ht;simp at ht
      | some k=>rw[hk] at ht;simp at ht;exact absurd (by rw[hk,←ht]) h1
     | some u=>
      by_cases JF:u.1=bN
      ·have fP:((cH ops R D σ n).app (mW ops n) e).obj bN=some u.2:=by
        unfold af.app
        rw[af.Cu,hu]
        simp only[af.sets]
        rw[JF,f_,if_pos (.inl rfl)]
       rw[iC,fP]
       exact h2 u hu JF
      ·rw[hu] at ht
       cases hk:e.del with
       | none=>rw[hk] at ht;simp at ht;exact absurd ht.symm JF
       | some k=>
        rw[hk] at ht
        simp at ht
        rcases ht with ht | ht
        ·exact absurd ht.symm JF
        ·exact absurd (by rw[hk,←ht]) h1
    ·rw[iC,xT ht,←iC]
     exact ih
   refine key _ ?_
   unfold gJ
   cases hr:R[n]? with
   | none=>exact⟨by simp,by simp⟩
   | some r=>
    have:=List.all_eq_true.1 h r (List.mem_of_getElem? hr)
    simp only[Bool.and_eq_true,decide_eq_true_eq] at this
    refine⟨this.1,fun u hu hh=>?_⟩
    have h2:=this.2
    simp only[Option.map_some,Option.getD_some] at hu
    rw[hu] at h2
    exact(of_decide_eq_true h2) hh
  ·exact ih

theorem sP {σ':af}{o:Oper}{ix:Nat}(ht:∀t,t∈o.looksAt ops→σ'.tmp t=σ.tmp t)(ho:∀t ob,t∈o.looksAt ops→(σ.tmp t).aT ob=false→σ'.obj ob=σ.obj ob)(hC:jv σ'.obj=jv σ.obj)(hH:iq o (fun x=>(σ.zS x).Nu) (jv σ.obj)=true→σ'.obj bN=σ.obj bN):oe P ops o σ' ix=oe P ops o σ ix:=by
 have hact:Hq ops σ' ix o.guard=Hq ops σ ix o.guard:=by
  unfold Hq
  split
  ·rfl
  ·rename_i j want hg
   split
   ·rename_i d hd
    rw[ht d (by unfold Oper.looksAt;rw[hg];simp[hd])]
   ·rfl
 have hv:∀act x,x∈o.op.operands→σ'.ct act x=σ.ct act x:=by
  intro act x hx
  unfold af.ct
  cases x with
  | tmp t=>simp only[af.zS];rw[ht t (uE hx)]
  | _=>rfl
 have UZ:∀e,Ad o σ' e=Ad o σ e:=by
  intro e
  unfold Ad
  cases e.eM with
  | none=>rfl
  | some u=>
   simp only
   congr 1
   congr 1
   rw[Bool.eq_iff_iff,Array.all_eq_true_iff_forall_mem,Array.all_eq_true_iff_forall_mem]
   exact⟨fun h x hx=>by rw[←hv [] x hx];exact h x hx,fun h x hx=>by rw[hv [] x hx];exact h x hx⟩
 have hstep:∀act,BN P o σ'.ct act σ'.obj ix=BN P o σ.ct act σ.obj ix:=fun act=>LM (ct:=σ.ct) (obj:=σ.obj) hv (fun act x ob hx ox=>by
  obtain⟨t,rfl,abw⟩:=DH ox
  exact(ho t ob (uE hx) abw).symm) (m:=fun x=>(σ.zS x).Nu) (fun act x _ he=>by obtain⟨e,s,he⟩:=he;exact MY he) (fun act g=>rfl) hC.symm fun h=>(hH h).symm
 have MD:∀e,nI o (σ'.obj bN) ix e=nI o (σ.obj bN) ix e:=by
  intro e
  have hC':zy (σ'.obj bN)=zy (σ.obj bN):=by rw[←iC,←iC];exact hC
  cases hl:Zb o (zy (σ.obj bN)) with
  | true=>simp[nI,hl,hC']
  | false=>
  cases hc:CA o with
  | false=>simp[nI,hc]
  | true=>
   rw[hH ?_]
   unfold CA at hc
   unfold iq
   unfold Zb at hl
   rw[←iC] at hl
   split at hc
   ·rename_i c hop
    rw[hop] at hl ⊢
    simp only at hl ⊢
    split at hc
    ·rename_i g rT
     rw[rT] at hl ⊢
     simp only
     rw[hl]
     rfl
    ·cases hc
   ·cases hc
 have qz:∀act,Ii false P o (σ'.ct act) σ'.obj ix=Ii false P o (σ.ct act) σ.obj ix:=fun act=>D3 (ct:=σ.ct act) (jg:=σ'.ct act) (obj:=σ.obj) (jh:=σ'.obj) (hv act) fun x ob hx ox=>by
  obtain⟨t,rfl,abw⟩:=DH ox
  exact(ho t ob (uE hx) abw).symm
 have hgt:∀act,R5 P o σ' act ix=R5 P o σ act ix:=fun act=>by
  cases act with
  | nil=>rfl
  | cons p r=>simp only[R5,qz]
 unfold oe
 rw[hact]
 split
 ·rfl
 ·rename_i act _
  rw[hgt act,hstep act]
  simp only[UZ,MD]

/-! ## lF -/

def jU (ops:Array Oper)(D:Nat→Bool):Prop:=∀k o,D k=true→ops[k]? = some o→∀e,e∈o.after→Region.binds .any e=true→D e.on=true

def Pf (ops:Array Oper)(D:Nat→Bool)(ms:List Nat):Prop:=
 ∀(i m:Nat),ms[i]? = some m→∃o:Oper,ops[i]? = some o∧((∀e,e∈o.after→Region.binds .any e=true→D e.on=true)→∀j,m.testBit j=true→D j=true)

theorem KD (hD:jU ops D){ms:List Nat}(hg:Pf ops D ms){o:Oper}(ho:∀e,e∈o.after→Region.binds .any e=true→D e.on=true):∀j,(Us ms o).testBit j=true→D j=true:=by
 have go:∀(l:List Edge) (s:Nat),(∀e,e∈l→Region.binds .any e=true→D e.on=true)→(∀j,s.testBit j=true→D j=true)→∀j,(l.foldl (fun s e=>if Region.binds .any e=true then s ||| 2 ^ e.on ||| ms.getD e.on 0 else s) s).testBit j=true→D j=true:=by
  intro l
  induction l with
  | nil=>intro s _ hs;exact hs
  | cons e l ih=>
   intro s hl hs
   refine ih _ (fun e' he'=>hl e' (by simp[he'])) fun j hj=>?_
   dsimp only at hj
   split at hj
   ·rename_i hb
    have hon:=hl e (by simp) hb
    simp only[Nat.testBit_or,Bool.or_eq_true] at hj
    rcases hj with(hj | hj) | hj
    ·exact hs j hj
    ·rw[Nat.testBit_two_pow] at hj
     simp at hj
     rw[←hj];exact hon
    ·rw[List.getD_eq_getElem?_getD] at hj
     cases hm:ms[e.on]? with
     | none=>rw[hm] at hj;simp at hj
     | some m=>
      rw[hm] at hj
      obtain⟨o',ho',h'⟩:=hg e.on m hm
      exact h' (hD e.on o' hon ho') j hj
   ·exact hs j hj
 exact go o.after.toList 0 (fun e he=>ho e (by simpa using he)) (by simp)

theorem DX (hD:jU ops D):∀{l:List Oper} {ms:List Nat},ops.toList.drop ms.length=l→Pf ops D ms→Pf ops D (lF l ms)
 | [],ms,_,hg=>hg
 | o :: r,ms,hl,hg=>by
  unfold lF
  have xF:ops[ms.length]? = some o:=by
   have:=congrArg (fun l=>l[0]?) hl
   simpa using this
  refine DX hD ?_ ?_
  ·have:ops.toList.drop (ms.length+1)=r:=by
    rw[←List.drop_drop,hl];rfl
   simpa using this
  ·show ∀(i m:Nat),_
   intro i m hi
   rcases Nat.lt_or_ge i ms.length with h | h
   ·rw[List.getElem?_append_left h] at hi
    exact hg i m hi
   ·rw[List.getElem?_append_right h] at hi
    have ZA:i=ms.length:=by
     rcases Nat.eq_or_lt_of_le h with h | h
     ·exact h.symm
     ·rw[List.getElem?_eq_none (by simp;omega)] at hi;cases hi
    subst ZA
    simp at hi
    subst hi
    exact⟨o,xF,fun ho=>KD hD hg ho⟩

theorem xo (hD:jU ops D){i:Nat}{o:Oper}(ho:ops[i]? = some o)(ha:∀e,e∈o.after→Region.binds .any e=true→D e.on=true){j:Nat}(hj:((lF ops.toList []).getD i 0).testBit j=true):D j=true:=by
 have hg:=DX hD (l:=ops.toList) (ms:=[]) rfl (fun i m hi=>by simp at hi)
 rw[List.getD_eq_getElem?_getD] at hj
 cases hm:(lF ops.toList [])[i]? with
 | none=>rw[hm] at hj;simp at hj
 | some m=>
  rw[hm] at hj
  obtain⟨o',ho',h'⟩:=hg i m hm
  rw[ho] at ho'
  cases ho'
  exact h' ha j hj

/-! ## the run in the text's order -/

abbrev lex (ops:Array Oper)(R:List Rec)(σ:af)(i:Nat):af:=cH ops R (fun _=>true) σ i

theorem G6 {env:List Am.D}:∀{l:List Oper} {k:Nat} {σk:af} {ix:Nat} {σ':af} {bs:List Bind} {rs:List Rec},AZ P ops l σk ix=some (σ',bs,rs)→ops.toList.drop k=l→R.drop k=rs→k≤ops.size →
  lex ops R σ k=σk→wh P env ix bs→ix+bs.length≤env.length →
  lex ops R σ ops.size=σ'∧∀(i:Nat) (o:Oper),k≤i→ops[i]? = some o→∃r,R[i]? = some r∧oe P ops o (lex ops R σ i) r.ix=some r.eu∧r.seen=ug ops o (lex ops R σ i)∧cn P env r.ix r.eu.bind∧r.ix≤env.length
 | [],k,σk,ix,σ',bs,rs,h,hl,_,hk,hσ,_,_=>by
  simp[AZ] at h
  have:k=ops.size:=by
   have:=congrArg List.length hl
   simp at this
   omega
  subst this
  refine⟨hσ.trans h.1,fun i o hi ho=>?_⟩
  have:=(Array.getElem?_eq_some_iff.1 ho).1
  omega
 | o :: l,k,σk,ix,σ',bs,rs,h,hl,hr,hk,hσ,hb,cW=>by
  have xF:ops[k]? = some o:=by
   have:=congrArg (fun l=>l[0]?) hl
   simpa using this
  have hk1:k+1≤ops.size:=(Array.getElem?_eq_some_iff.1 xF).1
  have hl':ops.toList.drop (k+1)=l:=by rw[←List.drop_drop,hl];rfl
  have go:∀{e:j5} {ix':Nat} {bs':List Bind} {rs':List Rec},oe P ops o σk ix=some e→AZ P ops l (σk.app o.dst e) ix'=some (σ',bs',rs')→rs=⟨e,ug ops o σk,ix⟩ :: rs'→cn P env ix e.bind→ix≤env.length→wh P env ix' bs'→ix'+bs'.length≤env.length →
    lex ops R σ ops.size=σ'∧∀(i:Nat) (o:Oper),k≤i→ops[i]? = some o→∃r,R[i]? = some r∧oe P ops o (lex ops R σ i) r.ix=some r.eu∧r.seen=ug ops o (lex ops R σ i)∧cn P env r.ix r.eu.bind∧r.ix≤env.length:=by
   intro e ix' bs' rs' he hd tI GS alH hb' Vj
   have hRk:R[k]? = some ⟨e,ug ops o σk,ix⟩:=by
    have:=congrArg (fun l=>l[0]?) (hr.trans tI)
    simpa using this
   have hr':R.drop (k+1)=rs':=by rw[←List.drop_drop,hr,tI];rfl
   have hσ':lex ops R σ (k+1)=σk.app o.dst e:=by
    unfold lex cH
    simp only[if_true,mW,xF,gJ,hRk,Option.bind_some,Option.map_some,Option.getD_some]
    rw[show cH ops R (fun _=>true) σ k=σk from hσ]
   obtain⟨h1,h2⟩:=G6 hd hl' hr' hk1 hσ' hb' Vj
   refine⟨h1,fun i o' hi ho'=>?_⟩
   rcases Nat.eq_or_lt_of_le hi with heq | hlt
   ·subst heq
    rw[xF] at ho'
    cases ho'
    exact⟨_,hRk,by rw[hσ];exact he,by rw[hσ],GS,alH⟩
   ·exact h2 i o' hlt ho'
  simp only[AZ] at h
  split at h
  ·cases h
  ·rename_i e he
   split at h
   ·rename_i jC
    obtain⟨⟨τ,bs',rs'⟩,h2,h3⟩:=Option.map_eq_some_iff.1 h
    cases h3
    exact go he h2 rfl (by rw[jC];trivial) (by omega) hb cW
   ·rename_i b jC
    obtain⟨⟨τ,bs',rs'⟩,h2,h3⟩:=Option.map_eq_some_iff.1 h
    cases h3
    simp only[List.length_cons] at cW
    refine go he h2 rfl (by rw[jC];simpa using hb 0 b rfl) (by omega) (fun i b' hi=>?_) (by omega)
    have:=hb (i+1) b' (by simpa using hi)
    rwa [show ix+(i+1)=ix+1+i from by omega] at this

/-! ## fresh names -/

theorem q5 {ob:Nat}:∀{l:List SV},SV.ee ob l=true↔∀x,x∈l→x.aT ob=true
 | []=>by simp[SV.ee]
 | a :: l=>by simp[SV.ee,q5 (l:=l)]

theorem LF {ob:Nat}{τ:af}{dst:Option Tmp}{e:j5}(h:Qck τ ob)(hv:e.val.aT ob=true)(ht:ob∉e.targets)(hu:∀u,e.eM=some u→u.2.aT ob=true):Qck (τ.app dst e) ob:=by
 obtain⟨h1,h2⟩:=h
 refine⟨by rw[xT ht];exact h1,?_⟩
 have kY:∀(τ:af) (k:Nat) (x:Option bl),τ.kS ob=true→(∀y,x=some y→y.aT ob=true)→(τ.setObj k x).kS ob=true:=by
  intro τ k x ht hx
  simp only[af.fD]
  simp only[af.kS,Bool.and_eq_true,List.all_eq_true] at ht ⊢
  split
  ·refine⟨ht.1,?_⟩
   cases x with
   | none=>rfl
   | some z=>exact hx z rfl
  ·refine⟨⟨ht.1.1,fun y hy=>?_⟩,ht.2⟩
   rcases List.mem_or_eq_of_mem_set hy with hy | rfl
   ·exact ht.1.2 y hy
   ·cases y with
    | none=>rfl
    | some z=>exact hx z rfl
 have h3:(τ.jM e.del).kS ob=true:=by
  cases e.del with
  | none=>exact h2
  | some k=>exact kY τ k none h2 fun y hy=>by cases hy
 have h4:((τ.jM e.del).sets e.eM).kS ob=true:=by
  cases qc:e.eM with
  | none=>exact h3
  | some u=>exact kY _ _ _ h3 fun y hy=>by cases hy;exact hu u qc
 unfold af.app
 cases dst with
 | none=>exact h4
 | some d=>
  simp only[af.kS,Bool.and_eq_true,af.fM] at h4 ⊢
  refine⟨⟨q5.2 fun x hx=>?_,h4.1.2⟩,h4.2⟩
  rcases List.mem_or_eq_of_mem_set hx with hx | rfl
  ·exact q5.1 h4.1.1 x hx
  ·exact hv

theorem wA {r:Rec}{ob:Nat}(h:r.cR ob=false):r.eu.val.aT ob=true∧ob∉r.eu.targets∧∀u,r.eu.eM=some u→u.2.aT ob=true:=by
 simp only[Rec.cR,Bool.or_eq_false_iff,Bool.not_eq_false'] at h
 refine⟨h.1.1.2,by simpa using h.1.2,fun u hu=>?_⟩
 have:=h.2
 rw[hu] at this
 simpa using this

theorem uj {ob:Nat}(h:Qck σ ob):∀n,(∀j,j<n→D j=true→∃r,R[j]? = some r∧r.cR ob=false)→Qck (cH ops R D σ n) ob
 | 0,_=>h
 | n+1,hj=>by
  have ih:=uj h n fun j hjn=>hj j (by omega)
  unfold cH
  split
  ·rename_i hD
   obtain⟨r,hr,ht⟩:=hj n (by omega) hD
   obtain⟨h2,h3,h4⟩:=wA ht
   have he:gJ R n=r.eu:=by simp[gJ,hr]
   rw[he]
   exact LF ih h2 h3 h4
  ·exact ih

end
end
end
end Go.Am
