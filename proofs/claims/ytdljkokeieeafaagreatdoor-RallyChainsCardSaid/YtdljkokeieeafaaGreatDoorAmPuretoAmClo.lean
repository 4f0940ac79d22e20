/-
  Several texts, one behind the other.
-/
import Derived.Test.YtdljkokeieeafaaGreatDoorAmBasetoAmTok
import Derived.Laws.Slices
import Derived.Laws.Small
import Derived.Laws.Strings
import Derived.Laws.Strings2
import Derived.Laws.MakeOwn
import Derived.Great.BuildSlice
import Derived.Laws.Tables
import Derived.Lib.Builder
import Derived.Lib.UnsafeStr
import Derived.Lib.AppendStr
import Derived.Laws.IdiomStrings
import Derived.MapKept
import Derived.Laws.Externs
set_option linter.unusedSimpArgs false
set_option linter.unusedVariables false
/-
 More operations that change no object: 'min','max',slice expressions,interface values.
-/
namespace Go.Am
noncomputable section

def loE (opv:Operand→SV):Option Operand→Option E
 | none=>some (.const (.v (.int .i64 0)))
 | some x=>(opv x).toE

def hiE (opv:Operand→SV)(l:E):Option Operand→Option E
 | none=>some (.lenL l)
 | some x=>(opv x).toE

def isIface (P:Program)(t:TypeId):Bool:=match P.underlying t with | some (.interface _)=>true | some _=>false | none=>true

def lslice (P:Program)(t:TypeId)(x:SV)(lo hi:Option E)(ix:Nat):Option LRes:=
 match P.underlying t,x.toE,lo,hi with
 | some (.slice e),some x',some l,some h=>(szT P e).map fun n=>{ val:=.e (.sym ix) true,bind:=some (.ev (.sub n x' l h)) }
 | _,_,_,_=>none

def hiS (opv:Operand→SV)(l:E):Option Operand→Option E
 | none=>some (.lenS l)
 | some x=>(opv x).toE

def lsslice (P:Program)(t:TypeId)(x:SV)(lo hi:Option E)(ix:Nat):Option LRes:=
 match P.underlying t,x.toE,lo,hi with
 | some .string,some x',some l,some h=>some { val:=.e (.sym ix) true,bind:=some (.ev (.m4 .ssub x' l h .nil)) }
 | _,_,_,_=>none

def lsidx (P:Program)(t:TypeId)(x i:SV)(ix:Nat):Option LRes:=
 match P.underlying t,x.toE,i.toE with
 | some .string,some x',some i'=>some { val:=.e (.sym ix) true,bind:=some (.ev (.m4 .sidx x' i' .nil .nil)) }
 | _,_,_=>none

def isU8 (P:Program)(e:TypeId):Bool:=
 match P.underlying e with
 | some (.int .u8)=>true
 | _=>false

theorem isU8_eq {P:Program}{e:TypeId}(h:isU8 P e=true):P.underlying e=some (.int .u8):=by
 unfold isU8 at h
 split at h
 ·assumption
 ·cases h

def lbstr (P:Program)(s t:TypeId)(x:SV)(ix:Nat):Option LRes:=
 match P.underlying s,P.underlying t,x.toE with
 | some (.slice e),some .string,some x'=>if isU8 P e=true then some { val:=.e (.sym ix) true,bind:=some (.ev (.m4 .bstr x' .nil .nil .nil)) } else none
 | _,_,_=>none

def isNilIf:Operand→Bool
 | .const .nilIface=>true
 | _=>false

def lifnil (P:Program)(t:TypeId)(x:SV)(y:Operand)(neg:Bool)(ix:Nat):Option LRes:=
 match P.underlying t with
 | some (.interface _)=>if isNilIf y then x.toE.map fun x'=>{ val:=.e (.sym ix) true,bind:=some (.ev (.m4 (.ifnil neg) x' .nil .nil .nil)) } else none
 | _=>none

def ltassert (P:Program)(t:TypeId)(x:SV)(ix:Nat):Option LRes:=
 if isIface P t then none else match x.toE,((P.info? t).bind (·.zero)).bind D.ofVal with
 | some x',some z=>some { val:=.tup [.e (.tget 0 (.sym ix)) false,.e (.tget 1 (.sym ix)) true],bind:=some (.ev (.m4 (.tassert t) x' (.const z) .nil .nil)) }
 | _,_=>none

def lpure (P:Program)(o:Oper)(opv:Operand→SV)(ix:Nat):Option LRes:=
 match o.op with
 | .binOp .eql t x y _=>lifnil P t (opv x) y false ix
 | .binOp .neq t x y _=>lifnil P t (opv x) y true ix
 | .typeAssert x _ t true=>ltassert P t (opv x) ix
 | .makeInterface t x=>if isIface P t then none else(opv x).toE.map fun x'=>{ val:=.e (.ifc t x') true }
 | .slice t x lo hi none=>((opv x).toE).bind fun x'=>match lslice P t (opv x) (loE opv lo) (hiE opv x' hi) ix with
  | some r=>some r
  | none=>lsslice P t (opv x) (loE opv lo) (hiS opv x' hi) ix
 | .index t x i=>lsidx P t (opv x) (opv i) ix
 | .convert s t x=>lbstr P s t (opv x) ix
 | .call c=>match c.callee,c.args.toList with
  | .builtin .max,[x,y]=>(match(opv x).toE,(opv y).toE with
   | some x',some y'=>some { val:=.e (.sym ix) true,bind:=some (.ev (.mm true x' y')) }
   | _,_=>none)
  | .builtin .min,[x,y]=>(match(opv x).toE,(opv y).toE with
   | some x',some y'=>some { val:=.e (.sym ix) true,bind:=some (.ev (.mm false x' y')) }
   | _,_=>none)
  | _,_=>none
 | _=>none

theorem lpure_congr {P:Program}{o:Oper}{opv opv':Operand→SV}{ix:Nat}(hv:∀x,x∈o.op.operands→opv' x=opv x):lpure P o opv' ix=lpure P o opv ix:=by
 unfold lpure
 generalize hop:o.op=op at *
 cases op <;> try rfl
 case makeInterface t x=>simp only;rw[hv x (by simp[Op.operands])]
 case binOp op t x y yt=>cases op <;> first | rfl | (simp only;rw[hv x (by simp[Op.operands])])
 case typeAssert x xt t ok=>cases ok <;> first | rfl | (simp only;rw[hv x (by simp[Op.operands])])
 case slice t x lo hi mx=>
  cases mx with
  | some m=>rfl
  | none=>
   simp only
   rw[hv x (by simp[Op.operands])]
   have h1:loE opv' lo=loE opv lo:=by
    cases lo with
    | none=>rfl
    | some y=>simp only[loE];rw[hv y (by simp[Op.operands])]
   have h2:∀l,hiE opv' l hi=hiE opv l hi:=by
    intro l
    cases hi with
    | none=>rfl
    | some y=>simp only[hiE];rw[hv y (by simp[Op.operands])]
   have h3:∀l,hiS opv' l hi=hiS opv l hi:=by
    intro l
    cases hi with
    | none=>rfl
    | some y=>simp only[hiS];rw[hv y (by simp[Op.operands])]
   simp only[h1,h2,h3]
 case index t x i=>simp only;rw[hv x (by simp[Op.operands]),hv i (by simp[Op.operands])]
 case convert s t x=>simp only;rw[hv x (by simp[Op.operands])]
 case call c=>
  obtain⟨callee,args,ts⟩:=c
  simp only[Op.operands] at hv ⊢
  have hargs:∀x,x∈args.toList→opv' x=opv x:=by
   intro x hx
   refine hv x ?_
   unfold Call.operands
   have:x∈args:=by simpa using hx
   simp
   cases callee <;> simp[this]
  split
  ·rename_i x y hx
   rw[hargs x (by rw[hx];simp),hargs y (by rw[hx];simp)]
  ·rename_i x y hx
   rw[hargs x (by rw[hx];simp),hargs y (by rw[hx];simp)]
  ·rfl

section
variable {P:Program} {w w0:World} {X:Ent} {a:Act} {σ:SState} {env:List D} {ρ:Rho}

theorem elem_of {t e:TypeId}(h:P.underlying t=some (.slice e)):P.elem t=e:=by
 simp[Program.elem,h]

theorem sub_rd {S:Sets}{ad:Option Addr}{len cap n:Nat}{es:List D}{l h:Nat}(hr:RdD w S (.slice ad len cap) (.lst es))(hz:allCells n es=true)(h1:l≤h)(h2:h≤es.length)(m:Nat)(hm:h≤m)(hmc:m≤cap) :
  RdD w S (sliced ad l h m n) (.lst ((es.drop l).take (h-l))):=by
 have hzz:∀(i:Nat) (e:D),es[i]? = some e→e.cells.length=n:=fun i e he=>allCells_get hz he
 cases hr with
 | nil=>
  simp at h2
  have hl0:l=0:=by omega
  have hm0:m=0:=by omega
  subst hl0 hm0 h2
  exact .nil
 | emp hm'=>
  simp at h2
  have hl0:l=0:=by omega
  subst hl0 h2
  unfold sliced
  simp only[Nat.sub_self,List.take_zero]
  by_cases hml:m=0
  ·simp only[hml,if_true]
   exact .emp (Nat.zero_le _)
  ·simp only[if_neg hml,Option.map_some]
   exact .emp (by omega)
 | @lst b off _ _ size _ val hl hc hm' hz' ho hS hw hr=>
  unfold sliced
  have hidx:∀(i:Nat) (e:D),((es.drop l).take (h-l))[i]? = some e→es[l+i]? = some e∧i<h-l:=by
   intro i e he
   rw[List.getElem?_take] at he
   split at he
   ·rename_i hi
    exact⟨by simpa using he,hi⟩
   ·cases he
  by_cases hml:m=l
  ·have hhl:h=l:=by omega
   subst hml hhl
   simp only[if_true,Nat.sub_self,List.take_zero]
   exact .lst (size:=size) (val:=val) (by simp) (Nat.le_refl _) (by simp[maxLen]) (by simp) (by simp) (by simp) (by simp) (by simp)
  ·simp only[if_neg hml,Option.map_some]
   rw[addr_add]
   have hsz:∀(i:Nat) (e:D),es[i]? = some e→size=n:=fun i e he=>(hz' i e he).symm.trans (hzz i e he)
   refine .lst (size:=n) (val:=fun i j=>val (l+i) j) (by simp;omega) (by omega) (by omega) (fun i e he=>hzz _ e (hidx i e he).1) (fun i e j d he hd=>ho _ e j d (hidx i e he).1 hd) (fun i e j d he hd=>?_) (fun i e j d he hd=>?_) fun i e j d he hd=>hr _ e j d (hidx i e he).1 hd
   ·have h5:=(hidx i e he).1
    have:=hS _ e j d h5 hd
    rw[hsz _ e h5] at this
    rwa [show off+l*n+i*n+j=off+(l+i)*n+j from by rw[Nat.add_mul];omega]
   ·have h5:=(hidx i e he).1
    have:=hw _ e j d h5 hd
    rw[hsz _ e h5] at this
    rwa [show off+l*n+i*n+j=off+(l+i)*n+j from by rw[Nat.add_mul];omega]


theorem iface_run {t:TypeId}(h:isIface P t=false)(v:Value):(Instr.makeInterface t v).run P w=.ok (.iface t v) w:=by
 unfold isIface at h
 cases hu:P.underlying t with
 | none=>rw[hu] at h;cases h
 | some d=>
  rw[hu] at h
  unfold Instr.makeInterface
  rw[Sem.run_bind,run_underlying hu]
  cases d <;> first | rfl | simp at h

theorem lo_rd {opv:Operand→SV}(hv:∀x,SRd w ρ env (a.eval x) (opv x)){lo:Option Operand}{l:E}(h:loE opv lo=some l){k:IntKind}{n:Int}(he:l.eval env=some (.v (.int k n))):(lo=none∧n=0)∨∃x,lo=some x∧a.eval x=.int k n:=by
 cases lo with
 | none=>simp[loE] at h;subst h;simp[E.eval] at he;exact .inl ⟨rfl,he.2.symm⟩
 | some x=>
  obtain⟨d,hd,hr⟩:=SV.toE_rd h (hv x)
  rw[he] at hd
  cases hd
  exact .inr ⟨x,rfl,hr.v_eq⟩

theorem hi_rd {opv:Operand→SV}(hv:∀x,SRd w ρ env (a.eval x) (opv x)){hi:Option Operand}{x' l:E}(h:hiE opv x' hi=some l){dx:D}{len:Nat}(hx:x'.eval env=some dx)(hln:D.lenL dx=some (.v (.int .i64 len))){k:IntKind}{n:Int}(he:l.eval env=some (.v (.int k n))):(hi=none∧n=len)∨∃x,hi=some x∧a.eval x=.int k n:=by
 cases hi with
 | none=>simp[hiE] at h;subst h;simp[E.eval,hx,hln] at he;exact .inl ⟨rfl,he.2.symm⟩
 | some x=>
  obtain⟨d,hd,hr⟩:=SV.toE_rd h (hv x)
  rw[he] at hd
  cases hd
  exact .inr ⟨x,rfl,hr.v_eq⟩

theorem hiS_rd {opv:Operand→SV}(hv:∀x,SRd w ρ env (a.eval x) (opv x)){hi:Option Operand}{x' l:E}(h:hiS opv x' hi=some l){s:ByteArray}(hx:x'.eval env=some (.v (.string s))){k:IntKind}{n:Int}(he:l.eval env=some (.v (.int k n))):(hi=none∧n=s.size)∨∃x,hi=some x∧a.eval x=.int k n:=by
 cases hi with
 | none=>simp[hiS] at h;subst h;simp[E.eval,hx,D.lenS] at he;exact .inl ⟨rfl,he.2.symm⟩
 | some x=>
  obtain⟨d,hd,hr⟩:=SV.toE_rd h (hv x)
  rw[he] at hd
  cases hd
  exact .inr ⟨x,rfl,hr.v_eq⟩

theorem lsslice_sound {o:Oper}{t:TypeId}{x:Operand}{lo hi:Option Operand}{x':E}{opv:Operand→SV}{ix:Nat}{r:LRes}(ho:o.op=.slice t x lo hi none)(hx':(opv x).toE=some x')(hv:∀x,SRd w ρ env (a.eval x) (opv x))(hl:lsslice P t (opv x) (loE opv lo) (hiS opv x' hi) ix=some r)(h:Rep w0 X w a σ env ρ)(hd:∀d,o.dst=some d→d<σ.tmps.length)(hb:BindOk P env ix r.bind) :
  r.upd=none∧OpOk P o a w w0 X (σ.put o.dst r.val) env:=by
 unfold lsslice at hl
 split at hl
 ·rename_i x'' l hh hu hx'' hlo hhi
  rw[hx'] at hx''
  cases hx''
  cases hl
  obtain⟨dx,hdx,hrx⟩:=SV.toE_rd hx' (hv x)
  obtain⟨dz,hev,hix⟩:=hb
  simp only[E.eval,hdx,Option.bind_some,Option.bind_eq_some_iff] at hev
  obtain⟨dl,hdl,dh,hdh,hev⟩:=hev
  simp only[D.m4] at hev
  unfold D.ssub at hev
  split at hev
  ·rename_i s k1 lv k2 hvv
   split at hev
   ·rename_i hc
    obtain⟨h0,h1,h2⟩:=hc
    cases hev
    refine⟨rfl,opOk_same h hd (v:=.string (s.extract lv.toNat hvv.toNat)) ?_ (.e (d:=.v (.string (s.extract lv.toNat hvv.toNat))) (by simp only[E.eval];exact hix) (.v rfl) fun _=>rfl)⟩
    have hxv:a.eval x=.string s:=hrx.v_eq
    unfold execOp
    simp only[ho,Option.map_none,hxv,Sem.run_bind,run_sliceAt_string w t _ _ _ _ hu]
    rcases lo_rd hv hlo hdl with⟨rfl,rfl⟩ | ⟨xl,rfl,hxl⟩ <;> rcases hiS_rd hv hhi hdx hdh with⟨rfl,rfl⟩ | ⟨xh,rfl,hxh⟩
    ·simp only[Option.map_none,run_slice_string_all w t s hu,Result.andThen_ok,Sem.run_pure]
     simp
    ·simp only[Option.map_none,Option.map_some,hxh,run_slice_string_h w t s hu k2 hvv (by omega) (by omega),Result.andThen_ok,Sem.run_pure]
     simp
    ·simp only[Option.map_none,Option.map_some,hxl,run_slice_string_l w t s hu k1 lv h0 (by omega),Result.andThen_ok,Sem.run_pure]
     simp
    ·simp only[Option.map_some,hxl,hxh,run_slice_string w t s k1 k2 lv hvv hu h0 h1 (by omega),Result.andThen_ok,Sem.run_pure]
   ·cases hev
  ·cases hev
 ·cases hl

theorem lsidx_sound {o:Oper}{t:TypeId}{x i:Operand}{opv:Operand→SV}{ix:Nat}{r:LRes}(ho:o.op=.index t x i)(hv:∀x,SRd w ρ env (a.eval x) (opv x))(hl:lsidx P t (opv x) (opv i) ix=some r)(h:Rep w0 X w a σ env ρ)(hd:∀d,o.dst=some d→d<σ.tmps.length)(hb:BindOk P env ix r.bind) :
  r.upd=none∧OpOk P o a w w0 X (σ.put o.dst r.val) env:=by
 unfold lsidx at hl
 split at hl
 ·rename_i x' i' hu hx' hi'
  cases hl
  obtain⟨dx,hdx,hrx⟩:=SV.toE_rd hx' (hv x)
  obtain⟨di,hdi,hri⟩:=SV.toE_rd hi' (hv i)
  obtain⟨dz,hev,hix⟩:=hb
  simp only[E.eval,hdx,hdi,Option.bind_some,Option.bind_eq_some_iff,D.m4] at hev
  unfold D.sidx at hev
  split at hev
  ·rename_i s k n
   split at hev
   ·rename_i h0
    obtain⟨b,hb',rfl⟩:=Option.map_eq_some_iff.1 hev
    have hxv:a.eval x=.string s:=hrx.v_eq
    have hiv:a.eval i=.int k n:=hri.v_eq
    have hlt:n.toNat<s.size:=by
     rcases Nat.lt_or_ge n.toNat s.size with hlt | hge
     ·exact hlt
     ·rw[ByteArray.getElem?_ge' s _ (by omega)] at hb'
      cases hb'
    have hbv:s[n.toNat]'hlt=b:=by
     rw[ByteArray.getElem?_lt' s _ hlt] at hb'
     exact Option.some.inj hb'
    refine⟨rfl,opOk_same h hd (v:=.int .u8 b.toNat) ?_ (.e (d:=.v (.int .u8 b.toNat)) (by simp only[E.eval];exact hix) (.v rfl) fun _=>rfl)⟩
    unfold execOp
    simp only[ho,hxv,hiv,Sem.run_bind,run_index_string w t s k n hu]
    rw[dif_pos (by omega)]
    simp only[Result.andThen_ok,Sem.run_pure,hbv]
   ·cases hev
  ·cases hev
 ·cases hl

theorem equalIn_ifc_nil {t:TypeId}{ms:Array (String×TypeId)}(hu:P.underlying t=some (.interface ms))(d:Nat)(t':TypeId)(v:Value):(Op.equalIn (d+1) t (.iface t' v) .nilIface).run P w=.ok false w:=by
 simp[Op.equalIn,run_underlying hu]

theorem equalIn_nil_nil {t:TypeId}{ms:Array (String×TypeId)}(hu:P.underlying t=some (.interface ms))(d:Nat):(Op.equalIn (d+1) t .nilIface .nilIface).run P w=.ok true w:=by
 simp[Op.equalIn,run_underlying hu]

theorem bin_ifc_nil {t:TypeId}{ms:Array (String×TypeId)}(hu:P.underlying t=some (.interface ms))(t':TypeId)(v:Value):(binOp .eql t (.iface t' v) .nilIface).run P w=.ok (.bool false) w∧(binOp .neq t (.iface t' v) .nilIface).run P w=.ok (.bool true) w:=by
 have h1:(Op.equal t (.iface t' v) .nilIface).run P w=.ok false w:=equalIn_ifc_nil hu 9999 t' v
 constructor <;> simp only[binOp,Sem.run_bind,h1,Result.andThen_ok,Sem.run_pure] <;> rfl

theorem bin_nil_nil {t:TypeId}{ms:Array (String×TypeId)}(hu:P.underlying t=some (.interface ms)):(binOp .eql t .nilIface .nilIface).run P w=.ok (.bool true) w∧(binOp .neq t .nilIface .nilIface).run P w=.ok (.bool false) w:=by
 have h1:(Op.equal t .nilIface .nilIface).run P w=.ok true w:=equalIn_nil_nil hu 9999
 constructor <;> simp only[binOp,Sem.run_bind,h1,Result.andThen_ok,Sem.run_pure] <;> rfl

theorem guard_ifc_nil {op:BinOp}{t:TypeId}{x:Operand}(t':TypeId)(v:Value):(eqGuard op t x (.const .nilIface) (.iface t' v) .nilIface).run P w=.ok () w:=by
 unfold eqGuard
 cases op <;> simp

theorem guard_nil_nil {op:BinOp}{t:TypeId}{x:Operand}:(eqGuard op t x (.const .nilIface) .nilIface .nilIface).run P w=.ok () w:=by
 unfold eqGuard
 cases op <;> simp

theorem lifnil_sound {o:Oper}{opv:Operand→SV}{op:BinOp}{neg:Bool}{t yt:TypeId}{x y:Operand}{ix:Nat}{r:LRes}(ho:o.op=.binOp op t x y yt)(hop:op=.eql∧neg=false∨op=.neq∧neg=true)(hv:∀x,SRd w ρ env (a.eval x) (opv x))(hl:lifnil P t (opv x) y neg ix=some r)(h:Rep w0 X w a σ env ρ)(hd:∀d,o.dst=some d→d<σ.tmps.length)(hb:BindOk P env ix r.bind) :
  r.upd=none∧OpOk P o a w w0 X (σ.put o.dst r.val) env:=by
 unfold lifnil at hl
 split at hl
 ·rename_i ms hu
  split at hl
  ·rename_i hy
   obtain⟨x',hx',rfl⟩:=Option.map_eq_some_iff.1 hl
   obtain⟨dx,hdx,hrx⟩:=SV.toE_rd hx' (hv x)
   obtain⟨dz,hev,hix⟩:=hb
   simp only[E.eval,hdx,Option.bind_some,D.m4] at hev
   have hye:y=.const .nilIface:=by
    unfold isNilIf at hy
    split at hy
    ·rfl
    ·simp at hy
   subst hye
   have fin:∀b:Bool,dz=.bool b→(do eqGuard op t x (.const .nilIface) (a.eval x) (a.eval (.const .nilIface));binOp op t (a.eval x) (a.eval (.const .nilIface)):Sem Value).run P w=.ok (.bool b) w→OpOk P o a w w0 X (σ.put o.dst (.e (.sym ix) true)) env:=by
    rintro b rfl hrun
    refine opOk_same h hd (v:=.bool b) ?_ (.e (d:=.bool b) (by simp only[E.eval];exact hix) (.v rfl) fun _=>rfl)
    unfold execOp
    simp only[ho]
    rw[Sem.run_bind,hrun]
    rfl
   refine⟨rfl,?_⟩
   generalize hxv:a.eval x=xv at hrx fin
   have hc:a.eval (.const .nilIface)=.nilIface:=rfl
   rw[hc] at fin
   split at hev
   ·cases hev
    cases hrx
    refine fin neg rfl ?_
    rw[Sem.run_bind,guard_ifc_nil,Result.andThen_ok]
    rcases hop with⟨rfl,rfl⟩ | ⟨rfl,rfl⟩
    ·exact(bin_ifc_nil hu _ _).1
    ·exact(bin_ifc_nil hu _ _).2
   ·cases hev
    rw[hrx.v_eq] at fin
    refine fin (!neg) rfl ?_
    rw[Sem.run_bind,guard_nil_nil,Result.andThen_ok]
    rcases hop with⟨rfl,rfl⟩ | ⟨rfl,rfl⟩
    ·exact(bin_nil_nil hu).1
    ·exact(bin_nil_nil hu).2
   ·cases hev
  ·cases hl
 ·cases hl

theorem ltassert_sound {o:Oper}{opv:Operand→SV}{xt t:TypeId}{x:Operand}{ix:Nat}{r:LRes}(ho:o.op=.typeAssert x xt t true)(hv:∀x,SRd w ρ env (a.eval x) (opv x))(hl:ltassert P t (opv x) ix=some r)(h:Rep w0 X w a σ env ρ)(hd:∀d,o.dst=some d→d<σ.tmps.length)(hb:BindOk P env ix r.bind) :
  r.upd=none∧OpOk P o a w w0 X (σ.put o.dst r.val) env:=by
 unfold ltassert at hl
 split at hl
 ·cases hl
 rename_i hif
 split at hl
 ·rename_i x' z hx' hz
  cases hl
  obtain⟨zv,hzv,hz⟩:=Option.bind_eq_some_iff.1 hz
  obtain⟨dx,hdx,hrx⟩:=SV.toE_rd hx' (hv x)
  obtain⟨dz,hev,hix⟩:=hb
  simp only[E.eval,hdx,Option.bind_some,D.m4] at hev
  have fin:∀(b:Bool) (d:D) (v:Value),dz=.tup [d,.bool b]→RdD w ρ.S v d→(Instr.typeAssert (a.eval x) xt t true).run P w=.ok (.tuple #[v,.bool b]) w→OpOk P o a w w0 X (σ.put o.dst (.tup [.e (.tget 0 (.sym ix)) false,.e (.tget 1 (.sym ix)) true])) env:=by
   rintro b d v rfl hrd hrun
   refine opOk_same h hd (v:=.tuple #[v,.bool b]) ?_ (.tup rfl fun i u c hu hc=>?_)
   ·unfold execOp
    simp only[ho,Sem.run_bind,hrun,Result.andThen_ok,Sem.run_pure]
   ·match i with
    | 0=>
     simp at hu hc
     subst hu hc
     exact .e (d:=d) (by simp[E.eval,hix,D.tget]) hrd (by simp)
    | 1=>
     simp at hu hc
     subst hu hc
     exact .e (d:=.bool b) (by simp[E.eval,hix,D.tget]) (.v rfl) fun _=>rfl
    | i+2=>simp at hc
  refine⟨rfl,?_⟩
  have hnot:∃k,P.underlying t=some k∧∀ms,k≠.interface ms:=by
   unfold isIface at hif
   cases hu:P.underlying t with
   | none=>rw[hu] at hif;simp at hif
   | some k=>
    rw[hu] at hif
    refine⟨k,rfl,?_⟩
    rintro ms rfl
    simp at hif
  obtain⟨k,hu,hk⟩:=hnot
  generalize hxv:a.eval x=xv at hrx fin
  split at hev
  ·rename_i t' d
   cases hev
   cases hrx with
   | ifc hrd=>
   by_cases ht:t'=t
   ·refine fin true d _ (by rw[if_pos ht]) hrd ?_
    unfold Instr.typeAssert
    simp only[Sem.run_bind,run_underlying hu,Result.andThen_ok]
    cases k <;> first | exact absurd rfl (hk _) | simp[ht]
   ·refine fin false z zv (by rw[if_neg ht]) (D.ofVal_rd hz) ?_
    unfold Instr.typeAssert
    simp only[Sem.run_bind,run_underlying hu,Result.andThen_ok]
    cases k <;> first | exact absurd rfl (hk _) | simp[ht,run_zeroValue hzv]
  ·cases hev
   rw[hrx.v_eq] at fin
   refine fin false z zv rfl (D.ofVal_rd hz) ?_
   unfold Instr.typeAssert
   simp only[Sem.run_bind,run_underlying hu,Result.andThen_ok]
   cases k <;> first | exact absurd rfl (hk _) | simp[run_zeroValue hzv]
  ·cases hev
 ·cases hl

theorem bytesOf_get:∀{es:List D} {ns:List Int},bytesOf es=some ns→es.length=ns.length∧∀(i:Nat) (e:D),es[i]? = some e→e.cells=[.v (.int .u8 (ns.getD i 0))]
 | [],ns,h=>by
  cases h
  exact⟨rfl,fun i e h=>by simp at h⟩
 | e :: r,ns,h=>by
  unfold bytesOf at h
  split at h
  ·rename_i n hc
   obtain⟨ms,hm,rfl⟩:=Option.map_eq_some_iff.1 h
   obtain⟨h1,h2⟩:=bytesOf_get hm
   refine⟨by simp[h1],fun i e' he=>?_⟩
   cases i with
   | zero=>simp at he;subst he;simpa using hc
   | succ i=>simpa using h2 i e' (by simpa using he)
  ·cases h

theorem bstr_run {S:Sets}{v:Value}{es:List D}{ns:List Int}(h:RdD w S v (.lst es))(hb:bytesOf es=some ns){s t e:TypeId}(hs:P.underlying s=some (.slice e))(he:P.underlying e=some (.int .u8))(ht:P.underlying t=some .string) :
  (convert s t v).run P w=.ok (.string (strOfNums ns)) w:=by
 obtain⟨hl,hg⟩:=bytesOf_get hb
 cases h with
 | nil=>
  cases hb
  exact run_convert_bytes_nil w s e hs he _ _ t ht
 | emp hm=>
  cases hb
  rw[run_convert_bytes_string w s t e _ _ _ hs he ht,run_bytesToString w _ _ _ [] (by rfl)]
  rfl
 | @lst b off len cap size es val hlen hc hm hz ho hS hw hr=>
  refine run_convert_bytes_arg w s e hs he b off _ cap ns (by omega) (fun i hi=>?_) t ht
  have hi':i<es.length:=by omega
  have hx:=hg i es[i] (List.getElem?_eq_getElem hi')
  have hsz:=hz i es[i] (List.getElem?_eq_getElem hi')
  rw[hx] at hsz
  have h1:=hw i es[i] 0 _ (List.getElem?_eq_getElem hi') (by rw[hx];rfl)
  have h2:=(hr i es[i] 0 _ (List.getElem?_eq_getElem hi') (by rw[hx];rfl)).v_eq
  rw[h2,show off+i*size+0=off+i by rw[←hsz];simp] at h1
  exact h1

theorem lbstr_sound {o:Oper} {s t:TypeId} {x:Operand} {sx:SV} {ix:Nat} {r:LRes} (ho:o.op=.convert s t x) (hl:lbstr P s t sx ix=some r) (hx:SRd w ρ env (a.eval x) sx) (h:Rep w0 X w a σ env ρ)
  (hd:∀d,o.dst=some d→d<σ.tmps.length) (hb:BindOk P env ix r.bind):r.upd=none∧OpOk P o a w w0 X (σ.put o.dst r.val) env:=by
 unfold lbstr at hl
 split at hl
 ·rename_i e x' hs ht hx'
  split at hl
  ·rename_i he
   replace he:=isU8_eq he
   cases hl
   obtain⟨dx,hdx,hrx⟩:=SV.toE_rd hx' hx
   obtain⟨dz,hev,hix⟩:=hb
   simp only[E.eval,hdx,Option.bind_some,D.m4] at hev
   unfold D.bstr at hev
   split at hev
   ·obtain⟨ns,hns,rfl⟩:=Option.map_eq_some_iff.1 hev
    refine⟨rfl,opOk_same h hd (v:=.string (strOfNums ns)) ?_ (.e (by simp only[E.eval,hix]) (.v rfl) fun _=>rfl)⟩
    unfold execOp
    simp only[ho,Sem.run_bind,bstr_run hrx hns hs he ht,Result.andThen_ok,Sem.run_pure]
   ·cases hev
  ·cases hl
 ·cases hl

theorem lpure_sound {o:Oper}{opv:Operand→SV}{ix:Nat}{r:LRes}(hv:∀x,SRd w ρ env (a.eval x) (opv x))(hl:lpure P o opv ix=some r)(h:Rep w0 X w a σ env ρ)(hd:∀d,o.dst=some d→d<σ.tmps.length)(hb:BindOk P env ix r.bind) :
  r.upd=none∧OpOk P o a w w0 X (σ.put o.dst r.val) env:=by
 unfold lpure at hl
 split at hl
 ·rename_i t x y yt ho
  exact lifnil_sound ho (.inl ⟨rfl,rfl⟩) hv hl h hd hb
 ·rename_i t x y yt ho
  exact lifnil_sound ho (.inr ⟨rfl,rfl⟩) hv hl h hd hb
 ·rename_i x xt t ho
  exact ltassert_sound ho hv hl h hd hb
 ·rename_i t x ho
  split at hl
  ·cases hl
  ·rename_i hif
   obtain⟨x',hx',rfl⟩:=Option.map_eq_some_iff.1 hl
   obtain⟨d,hdx,hrx⟩:=SV.toE_rd hx' (hv x)
   refine⟨rfl,opOk_same h hd (v:=.iface t (a.eval x)) ?_ (.e (d:=.ifc t d) (by simp[E.eval,hdx]) (.ifc hrx) fun _=>rfl)⟩
   unfold execOp
   simp only[ho,Sem.run_bind,iface_run (by simpa using hif),Result.andThen_ok,Sem.run_pure]
 ·rename_i t x lo hi ho
  obtain⟨x',hx',hl⟩:=Option.bind_eq_some_iff.1 hl
  split at hl
  case h_2=>exact lsslice_sound ho hx' hv hl h hd hb
  rename_i r' hl'
  cases hl
  replace hl:=hl'
  unfold lslice at hl
  split at hl
  ·rename_i e x'' l hh hu hx'' hlo hhi
   rw[hx'] at hx''
   cases hx''
   obtain⟨n,hn,rfl⟩:=Option.map_eq_some_iff.1 hl
   obtain⟨dx,hdx,hrx⟩:=SV.toE_rd hx' (hv x)
   obtain⟨dz,hev,hix⟩:=hb
   simp only[E.eval,hdx,Option.bind_some,Option.bind_eq_some_iff] at hev
   obtain⟨dl,hdl,dh,hdh,hev⟩:=hev
   have hel:=elem_of hu
   have hu':P.underlying t=some (.slice (P.elem t)):=by rw[hel];exact hu
   have hsize:(sizeOf (P.elem t)).run P w=.ok n w:=by rw[hel];exact run_sizeOf hn w
   have go:∀(ad:Option Addr) (len cap:Nat) (k1 k2:IntKind) (lv hvv:Int),a.eval x=.slice ad len cap→len≤cap→D.lenL dx=some (.v (.int .i64 len))→dl=.v (.int k1 lv)→dh=.v (.int k2 hvv)→0≤lv→lv≤hvv→hvv≤(len:Int)→RdD w ρ.S (sliced ad lv.toNat hvv.toNat cap n) dz→dz.one=true →
     OpOk P o a w w0 X (σ.put o.dst (.e (.sym ix) true)) env:=by
    rintro ad len cap k1 k2 lv hvv hxv hcap hln rfl rfl h0 h1 h2 hrd hone
    have fin:(Instr.slice t (.slice ad len cap) (lo.map a.eval) (hi.map a.eval) none).run P w=.ok (sliced ad lv.toNat hvv.toNat cap n) w→OpOk P o a w w0 X (σ.put o.dst (.e (.sym ix) true)) env:=by
     intro hrun
     refine opOk_same h hd (v:=sliced ad lv.toNat hvv.toNat cap n) ?_ (.e (d:=dz) (by simp only[E.eval];exact hix) hrd fun _=>hone)
     unfold execOp
     simp only[ho,Option.map_none,hxv,Sem.run_bind,run_sliceAt_slice w t _ _ _ _ hu',hrun,Result.andThen_ok,Sem.run_pure]
    rcases lo_rd hv hlo hdl with⟨rfl,rfl⟩ | ⟨xl,rfl,hxl⟩ <;> rcases hi_rd hv hhi hdx hln hdh with⟨rfl,rfl⟩ | ⟨xh,rfl,hxh⟩
    ·refine fin ?_
     simp only[Option.map_none,run_slice_all w t ad len cap hu',hsize,Result.andThen_ok]
     simp
    ·refine fin ?_
     simp only[Option.map_none,Option.map_some,hxh,run_slice_h w t ad len cap hu' k2 hvv (by omega) (by omega),hsize,Result.andThen_ok]
     simp
    ·refine fin ?_
     simp only[Option.map_none,Option.map_some,hxl,run_slice_l w t ad len cap hu' k1 lv h0 (by omega),hsize,Result.andThen_ok]
     simp
    ·refine fin ?_
     simp only[Option.map_some,hxl,hxh,run_slice_lh w t ad len cap hu' k1 k2 lv hvv h0 h1 (by omega),hsize,Result.andThen_ok]
   unfold D.sub at hev
   split at hev
   ·rename_i es k1 lv k2 hvv
    split at hev
    ·rename_i hc
     obtain⟨h0,h1,h2,hz⟩:=hc
     cases hev
     refine⟨rfl,?_⟩
     obtain⟨ad,len,cap,hxv,hlen⟩:=hrx.lst_form
     have hcap:len≤cap:=by
      rw[hxv] at hrx
      cases hrx with
      | nil=>exact Nat.le_refl _
      | emp _=>exact Nat.zero_le _
      | lst hl hc hm=>exact hc
     rw[hxv] at hrx
     refine go ad len cap k1 k2 lv hvv hxv hcap (by simp[D.lenL,hlen]) rfl rfl h0 h1 (by omega) ?_ rfl
     have:=sub_rd (l:=lv.toNat) (h:=hvv.toNat) hrx hz (by omega) (by omega) cap (by omega) (Nat.le_refl _)
     rwa [show(hvv-lv).toNat=hvv.toNat-lv.toNat from by omega]
    ·cases hev
   ·rename_i j off ln k1 lv k2 hvv
    split at hev
    ·rename_i hc
     obtain⟨h0,h1,h2,hn0⟩:=hc
     split at hev
     case isFalse hlh=>
      cases hev
      refine⟨rfl,?_⟩
      generalize hxv:a.eval x=xv at hrx
      cases hrx with
      | @sl _ _ _ cap hj hle hcm h00=>
      refine go _ ln cap k1 k2 lv hvv hxv hle rfl rfl rfl h0 h1 h2 ?_ rfl
      unfold sliced
      rw[show hvv.toNat-lv.toNat=0 from by omega]
      split
      ·exact .emp (by omega)
      ·exact .emp (by omega)
     rename_i hlh
     cases hev
     refine⟨rfl,?_⟩
     generalize hxv:a.eval x=xv at hrx
     cases hrx with
     | @sl _ _ _ cap hj hle hcm h00=>
     refine go _ ln cap k1 k2 lv hvv hxv hle rfl rfl rfl h0 h1 h2 ?_ rfl
     unfold sliced
     have hlt:lv.toNat=0∨cap≠lv.toNat:=by omega
     by_cases hml:cap=lv.toNat
     ·have hz:lv.toNat=0:=by omega
      simp only[hml,if_true]
      have hh:hvv.toNat=0:=by omega
      rw[show(hvv-lv).toNat=0 from by omega,hz,hh]
      simp only[Nat.zero_mul,Nat.add_zero,Nat.sub_self]
      exact .sl hj (Nat.le_refl _) (by omega) fun e=>by rw[←h00 e];omega
     ·simp only[if_neg hml,Option.map_some]
      rw[addr_add,show(hvv-lv).toNat=hvv.toNat-lv.toNat from by omega]
      refine .sl hj (by omega) (by omega) fun e=>?_
      have:lv.toNat*n=0:=by omega
      have hl0:lv.toNat=0:=by
       rcases Nat.mul_eq_zero.1 this with h | h
       ·exact h
       ·omega
      rw[←h00 (by omega)]
      omega
    ·cases hev
   ·rename_i k1 lv k2 hvv
    split at hev
    ·rename_i hc
     obtain⟨rfl,rfl⟩:=hc
     cases hev
     refine⟨rfl,?_⟩
     generalize hxv:a.eval x=xv at hrx
     cases hrx with
     | snil=>
     refine go none 0 0 k1 k2 0 0 hxv (Nat.le_refl _) rfl rfl rfl (Int.le_refl _) (Int.le_refl _) (Int.le_refl _) ?_ rfl
     unfold sliced
     simp only[Int.toNat_zero,if_true,Nat.sub_self]
     exact .snil
    ·cases hev
   ·cases hev
  ·cases hl
 ·rename_i t x i ho
  exact lsidx_sound ho hv hl h hd hb
 ·rename_i s t x ho
  exact lbstr_sound ho hl (hv x) h hd hb
 ·rename_i c ho
  obtain⟨callee,args,ts⟩:=c
  simp only at hl
  split at hl
  ·rename_i x y hargs
   split at hl
   ·rename_i x' y' hx' hy'
    cases hl
    obtain⟨dx,hdx,hrx⟩:=SV.toE_rd hx' (hv x)
    obtain⟨dy,hdy,hry⟩:=SV.toE_rd hy' (hv y)
    obtain⟨dz,hev,hix⟩:=hb
    simp only[E.eval,hdx,hdy,Option.bind_some] at hev
    unfold D.mm at hev
    split at hev
    ·rename_i k p k' q
     split at hev
     ·rename_i hk
      subst hk
      cases hev
      have e1:args=#[x,y]:=by rw[←Array.toArray_toList (xs:=args),hargs]
      subst e1
      refine⟨rfl,opOk_same h hd (v:=.int k (if q > p then q else p)) ?_ (.e (by simp only[E.eval];exact hix) (.v rfl) fun _=>rfl)⟩
      unfold execOp
      simp only[ho,resolve,invoke,builtin,Sem.run_bind,Sem.run_pure,Result.andThen_ok,List.map_toArray,List.map_cons,List.map_nil,hrx.v_eq,hry.v_eq,run_max_int2]
     ·cases hev
    ·cases hev
   ·cases hl
  ·rename_i x y hargs
   split at hl
   ·rename_i x' y' hx' hy'
    cases hl
    obtain⟨dx,hdx,hrx⟩:=SV.toE_rd hx' (hv x)
    obtain⟨dy,hdy,hry⟩:=SV.toE_rd hy' (hv y)
    obtain⟨dz,hev,hix⟩:=hb
    simp only[E.eval,hdx,hdy,Option.bind_some] at hev
    unfold D.mm at hev
    split at hev
    ·rename_i k p k' q
     split at hev
     ·rename_i hk
      subst hk
      cases hev
      have e1:args=#[x,y]:=by rw[←Array.toArray_toList (xs:=args),hargs]
      subst e1
      refine⟨rfl,opOk_same h hd (v:=.int k (if q<p then q else p)) ?_ (.e (by simp only[E.eval];exact hix) (.v rfl) fun _=>rfl)⟩
      unfold execOp
      simp only[ho,resolve,invoke,builtin,Sem.run_bind,Sem.run_pure,Result.andThen_ok,List.map_toArray,List.map_cons,List.map_nil,hrx.v_eq,hry.v_eq,run_min_int2]
     ·cases hev
    ·cases hev
   ·cases hl
  ·cases hl
 ·cases hl

end
end
end Go.Am

/-
 'make([]T,n)': a row of the call's own.
-/
namespace Go.Am
noncomputable section

def D.notTup:D→Bool
 | .tup _=>false
 | _=>true

def D.ofValZ (nz:Bool)(y:Value):Option D:=if nz=true then(match y with
 | .slice none 0 0=>some .snil
 | y=>D.ofVal y) else D.ofVal y

theorem D.ofValZ_rd {w:World}{S:Sets}{nz:Bool}{v:Value}{d:D}(h:D.ofValZ nz v=some d):RdD w S v d:=by
 unfold D.ofValZ at h
 split at h
 ·split at h
  ·cases h;exact .snil
  ·exact D.ofVal_rd h
 ·exact D.ofVal_rd h

def lmake (nz:Bool)(P:Program)(t:TypeId)(n c:SV)(dst:Option Tmp)(ix:Nat):Option LRes:=
 match dst,P.underlying t,n.toE,c.toE with
 | some d,some (.slice e),some n',some c'=>match P.info? e with
  | some i=>(i.zero).bind fun z=>(D.ofValZ nz z).bind fun dz=>
    if n'.same c'=true∧dz.cells.length=i.size∧dz.notTup=true then some { val:=.slc d,upd:=some (d,.row (.sym ix) i.size),bind:=some (.ev (.rep i.bytes n' dz)) } else none
  | none=>none
 | _,_,_,_=>none

section
variable {P:Program} {w w0:World} {X:Ent} {a:Act} {σ:SState} {env:List D} {ρ:Rho}

theorem RdD.cellAt {S:Sets}{v:Value}{d:D}(h:RdD w S v d)(hd:d.notTup=true) :
  v.cells.size=d.cells.length∧∀(j:Nat) (x:D),d.cells[j]? = some x→x.one=true∧∃u,v.cells[j]? = some u∧RdD w S u x:=by
 have one:d.one=true→v.cells.size=d.cells.length∧∀(j:Nat) (x:D),d.cells[j]? = some x→x.one=true∧∃u,v.cells[j]? = some u∧RdD w S u x:=by
  intro h1
  have hc:v.cells=#[v]:=by
   have:=h.one h1
   cases v <;> first | rfl | simp[Value.oneCell'] at this
  rw[hc,D.cells_one h1]
  refine⟨rfl,fun j x hx=>?_⟩
  cases j with
  | zero=>simp at hx;subst hx;exact⟨h1,v,rfl,h⟩
  | succ j=>simp at hx
 cases d with
 | agg ds=>
  obtain⟨vs,rfl,hl,ho,hr⟩:=h.agg_inv
  refine⟨hl,fun j x hx=>⟨ho j x hx,?_⟩⟩
  have hj:j<vs.size:=by rw[hl];exact(List.getElem?_eq_some_iff.1 hx).1
  exact⟨vs[j],Array.getElem?_eq_getElem hj,hr j _ x (Array.getElem?_eq_getElem hj) hx⟩
 | tup ds=>cases hd
 | blk _ _ _=>cases h
 | st _=>cases h
 | mblk _=>cases h
 | itb _ _ _=>cases h
 | lpb _=>cases h
 | sit _ _=>cases h
 | glb _ _ _=>cases h
 | _=>exact one rfl

theorem lmake_sound {o:Oper} {t:TypeId} {n c:Operand} {sn sc:SV} {ix:Nat} {r:LRes} {nz:Bool} (ho:o.op=.makeSlice t n c) (hl:lmake nz P t sn sc o.dst ix=some r) (hn:SRd w ρ env (a.eval n) sn) (hc:SRd w ρ env (a.eval c) sc) (h:Rep w0 X w a σ env ρ)
  (hd:∀d,o.dst=some d→d<σ.tmps.length) (hm:σ.mem.length=σ.tmps.length) (hb:BindOk P env ix r.bind) (hf:∀u,r.upd=some u→σ.obj u.1=none∧σ.avoids u.1):∃ob x,r.upd=some (ob,x)∧OpOk P o a w w0 X ((σ.setObj ob (some x)).put o.dst r.val) env:=by
 unfold lmake at hl
 split at hl
 ·rename_i d e n' c' hdst hu hn' hc'
  split at hl
  ·rename_i i hi
   obtain⟨z,hz,hl⟩:=Option.bind_eq_some_iff.1 hl
   obtain⟨dz,hdz,hl⟩:=Option.bind_eq_some_iff.1 hl
   split at hl
   ·rename_i hcond
    cases hl
    obtain⟨hsame,hlen,htup⟩:=hcond
    obtain⟨hfree,hav⟩:=hf _ rfl
    refine⟨d,_,rfl,?_⟩
    have hdl:=hd d hdst
    obtain⟨dn,hdn,hrn⟩:=SV.toE_rd hn' hn
    obtain⟨dc,hdc,hrc⟩:=SV.toE_rd hc' hc
    rw[←E.same_eq hsame,hdn] at hdc
    cases hdc
    obtain⟨dy,hev,hix⟩:=hb
    simp only[E.eval,hdn,Option.bind_some] at hev
    unfold D.rep at hev
    split at hev
    ·rename_i k
     split at hev
     ·rename_i hk
      obtain⟨hk0,hkb,hkm⟩:=hk
      cases hev
      have hzr:RdD w ρ.S z dz:=D.ofValZ_rd hdz
      obtain⟨hzl,hzc⟩:=hzr.cellAt htup
      rw[hlen] at hzl
      have hk63:k≤9223372036854775807:=by
       have h9:k.toNat≤9223372036854775807:=hkm
       omega
      have hbytes:(i.bytes:Int)*k≤281474976710656:=by
       have h1:((k.toNat*i.bytes:Nat):Int)≤140737488355328:=by
        generalize k.toNat*i.bytes=q at hkb ⊢
        omega
       rw[Int.natCast_mul,Int.toNat_of_nonneg hk0,Int.mul_comm] at h1
       omega
      have hrun:(execOp a.eval o).run P w=.ok (.value (.slice (some ⟨w.heap.size,0,none⟩) k.toNat k.toNat)) (w.alloc (.cells (madeCells z.cells (k.toNat*i.size)) e)):=by
       unfold execOp
       simp only[ho,hrn.v_eq,hrc.v_eq,Sem.run_bind,run_make w t e i z hu hi hz .i64 .i64 k k hk0 (Int.le_refl _) hbytes hk63,Result.andThen_ok,Sem.run_pure]
      have hK:Keeps ρ.S w (w.alloc (.cells (madeCells z.cells (k.toNat*i.size)) e)):=Keeps.alloc h.cells _
      have hrep:=h.withObj (o:=d) (x:=.row (.sym ix) i.size) (v:=.slice (some ⟨w.heap.size,0,none⟩) k.toNat k.toNat) (by rw[hm];exact hdl) hfree hav hK (fun b hb=>heapOld w _ b hb) rfl ⟨rfl,Nat.le_refl _⟩ rfl (by simp) ?_ ?_
      ·refine opOk_value hrun (hrep.put (by rw[hdst];intro d' e;cases e;rw[SState.tmps_setObj];exact hdl) ?_)
       have hval:(ρ.withObj d w.heap.size (.slice (some ⟨w.heap.size,0,none⟩) k.toNat k.toNat)).val d=.slice (some ⟨w.heap.size,0,none⟩) k.toNat k.toNat:=by simp[Rho.withObj]
       have hs:SRd (w.alloc (.cells (madeCells z.cells (k.toNat*i.size)) e)) (ρ.withObj d w.heap.size (.slice (some ⟨w.heap.size,0,none⟩) k.toNat k.toNat)) env ((ρ.withObj d w.heap.size (.slice (some ⟨w.heap.size,0,none⟩) k.toNat k.toNat)).val d) (.slc d):=.slc
       rwa [hval] at hs
      ·have hbk:(ρ.withObj d w.heap.size (.slice (some ⟨w.heap.size,0,none⟩) k.toNat k.toNat)).blk d=w.heap.size:=by simp[Rho.withObj]
       have hrepl:∀(m:Nat) (x:D),(List.replicate k.toNat dz)[m]? = some x→x=dz∧m<k.toNat:=by
        intro m x hx
        rw[List.getElem?_replicate] at hx
        split at hx
        ·cases hx;exact⟨rfl,by assumption⟩
        ·cases hx
       refine⟨madeCells z.cells (k.toNat*i.size),e,List.replicate k.toNat dz,by rw[hbk];exact heap_alloc_new w _,by simp only[E.eval];exact hix,fun m x hx=>by rw[(hrepl m x hx).1];exact hlen,by simp[size_madeCells],fun m x j y hx hy=>?_,by rw[hbk];simp[Rho.withObj],by simpa using hkm,fun off hs=>?_⟩
       ·obtain⟨rfl,hmk⟩:=hrepl m x hx
        obtain⟨h1,u,h2,h3⟩:=hzc j y hy
        have hj:j<i.size:=by rw[←hlen];exact(List.getElem?_eq_some_iff.1 hy).1
        refine⟨h1,u,?_,h3.keep hK (Sets.le_refl _)⟩
        have hlt:m*i.size+j<k.toNat*i.size:=by
         have:(m+1)*i.size≤k.toNat*i.size:=Nat.mul_le_mul_right _ hmk
         rw[Nat.add_mul,Nat.one_mul] at this
         omega
        have hmod:(m*i.size+j) % i.size=j:=by rw[Nat.mul_comm,Nat.mul_add_mod,Nat.mod_eq_of_lt hj]
        have hjz:j<z.cells.size:=by rw[hzl];exact hj
        have hu':u=z.cells[j]:=by rw[Array.getElem?_eq_getElem hjz] at h2;exact(Option.some.inj h2).symm
        simp only[madeCells,Array.getElem?_map,Array.getElem?_range,hlt,if_true,Option.map_some,hzl,hmod,Option.some.injEq]
        rw[hu']
        exact getElem!_pos z.cells j hjz
       ·rw[hbk] at hs
        have:=h.cells _ off hs
        omega
      ·intro b hb
       simpa[objBlk,Rho.withObj] using hb.symm
     ·cases hev
    ·cases hev
   ·cases hl
  ·cases hl
 ·cases hl

end
end
end Go.Am

/-
 Slice literals.
-/
namespace Go.Am
noncomputable section

def unitE (agg:Bool)(n:Nat)(x:E):E:=if agg then .aggN n x else .scal x

def listE (agg:Bool)(n:Nat):List SV→Option E
 | []=>some (.const (.lst []))
 | s :: r=>match s.toE,listE agg n r with
  | some x,some y=>some (.lcons (unitE agg n x) y)
  | _,_=>none

def llit (P:Program)(t:TypeId)(len:Nat)(parts:List (Nat×Operand))(opv:Operand→SV)(dst:Option Tmp)(ix:Nat):Option LRes:=
 match dst,P.underlying t with
 | some d,some (.slice e)=>match P.info? e,aggT P e,listE ((aggT P e).getD false) ((szT P e).getD 0) (parts.map fun p=>opv p.2) with
  | some i,some agg,some y=>
    if parts.map (·.1)=List.range len∧0<i.size∧len*i.size≤16777216∧(agg=true∨i.size=1)∧i.zero.isSome=true then some { val:=.own (.sym ix) d,upd:=some (d,.tok e i.size),bind:=some (.ev y) } else none
  | _,_,_=>none
 | _,_=>none

section
variable {P:Program} {w w0:World} {X:Ent} {a:Act} {σ:SState} {env:List D} {ρ:Rho}

theorem unit_rd {agg:Bool}{n:Nat}{x:E}{d u:D}{v:Value}{S:Sets}(hag:agg=true∨n=1)(hx:x.eval env=some d)(hr:RdD w S v d)(hu:(unitE agg n x).eval env=some u):RdD w S v u∧u.cells.length=n∧u.notTup=true:=by
 unfold unitE at hu
 split at hu
 ·simp only[E.eval,hx,Option.bind_some] at hu
  unfold D.aggN at hu
  split at hu
  ·split at hu
   ·rename_i hl;cases hu;exact⟨hr,hl,rfl⟩
   ·cases hu
  ·cases hu
 ·rename_i hna
  simp only[E.eval,hx,Option.bind_some] at hu
  unfold D.scal at hu
  split at hu
  ·rename_i h1
   cases hu
   refine⟨hr,?_,?_⟩
   ·rw[D.cells_one h1,hag.resolve_left hna];rfl
   ·cases d <;> first | rfl | simp[D.one] at h1
  ·cases hu

theorem listE_rd {agg:Bool}{n:Nat}{S:Sets}(hag:agg=true∨n=1):∀{svs:List SV} {vs:List Value} {y:E} {d:D},listE agg n svs=some y→vs.length=svs.length→(∀(i:Nat) (v:Value) (s:SV) (x:E),vs[i]? = some v→svs[i]? = some s→s.toE=some x→∃d,x.eval env=some d∧RdD w S v d)→y.eval env=some d →
  ∃ds,d=.lst ds∧ds.length=vs.length∧∀(i:Nat) (v:Value) (u:D),vs[i]? = some v→ds[i]? = some u→RdD w S v u∧u.cells.length=n∧u.notTup=true
 | [],vs,y,d,h,hl,_,hd=>by
  simp[listE] at h;subst h
  simp[E.eval] at hd;subst hd
  have:vs=[]:=List.eq_nil_of_length_eq_zero (by simpa using hl)
  subst this
  exact⟨[],rfl,rfl,by simp⟩
 | s :: r,vs,y,d,h,hl,hh,hd=>by
  match vs,hl with
  | v :: vs,hl=>
   simp only[listE] at h
   split at h
   ·rename_i x y' hx hy
    cases h
    simp only[E.eval,Option.bind_eq_some_iff] at hd
    obtain⟨u,hu,d',hd',hc⟩:=hd
    obtain⟨ds,rfl,hdl,hds⟩:=listE_rd (vs:=vs) hag hy (by simpa using hl) (fun i v s x h1 h2 h3=>hh (i+1) v s x (by simpa using h1) (by simpa using h2) h3) hd'
    simp only[D.lcons,Option.some.injEq] at hc
    subst hc
    obtain⟨dx,hdx,hrx⟩:=hh 0 v s x rfl rfl hx
    refine⟨u :: ds,rfl,by simp[hdl],fun i v' u' hv hu'=>?_⟩
    cases i with
    | zero=>simp at hv hu';subst hv hu';exact unit_rd hag hdx hrx hu
    | succ i=>exact hds i v' u' (by simpa using hv) (by simpa using hu')
   ·cases h

theorem run_buildSlice0 (w:World)(t e:TypeId)(i:TypeInfo)(hu:P.underlying t=some (.slice e))(hi:P.info? e=some i):(Instr.buildSlice t 0 #[]).run P w=.ok (.slice (some ⟨w.heap.size,0,none⟩) 0 0) (w.alloc (.cells #[] e)):=by
 simp[Instr.buildSlice,run_underlying hu,sizeOf,typeInfo,hi,Instr.fill,newRow]
 rw[show Array.range 0=#[] from Array.size_eq_zero_iff.1 (by simp)]
 simp

theorem lit_run {o:Oper} {t e:TypeId} {len:Nat} {parts:Array (Nat×Operand)} {opv:Operand→SV} {i:TypeInfo} {agg:Bool} {y:E} {z:Value} {dz:D} (ho:o.op=.buildSlice t len parts) (hv:∀x,SRd w ρ env (a.eval x) (opv x)) (hu:P.underlying t=some (.slice e)) (hi:P.info? e=some i)
  (hy:listE agg i.size (parts.toList.map fun p=>opv p.2)=some y) (hidx:parts.toList.map (·.1)=List.range len) (hpos:0<i.size) (hsmall:len*i.size≤16777216) (hagg:agg=true∨i.size=1) (hz:i.zero=some z) (hev:y.eval env=some dz) :
  ∃(r:Array Value) (ds:List D),dz=.lst ds∧ds.length=len∧(execOp a.eval o).run P w=.ok (.value (.slice (some ⟨w.heap.size,0,none⟩) len len)) (w.alloc (.cells r e))∧r.size=len*i.size∧len≤maxLen∧RowRd w ρ.S i.size r.toList ds:=by
 have hplen:parts.toList.length=len:=by
  have:=congrArg List.length hidx
  simpa using this
 obtain⟨ds,rfl,hdsl,hds⟩:=listE_rd (w:=w) (S:=ρ.S) (vs:=parts.toList.map fun p=>a.eval p.2) hagg hy (by simp) (fun j v s x h1 h2 h3=>by
  simp only[List.getElem?_map,Option.map_eq_some_iff] at h1 h2
  obtain⟨p,hp,rfl⟩:=h1
  obtain⟨q,hq,rfl⟩:=h2
  rw[hp] at hq;cases hq
  exact SV.toE_rd h3 (hv p.2)) hev
 have hdl2:ds.length=len:=by rw[hdsl];simpa using hplen
 have hparts:(parts.map fun(x:Nat×Operand)=>(x.1,a.eval x.2)).toList=((parts.toList.map fun p=>a.eval p.2).zipIdx 0).map fun x=>(x.2,x.1):=by
  apply List.ext_getElem?
  intro j
  simp only[Array.toList_map,List.getElem?_map,List.getElem?_zipIdx,Nat.zero_add]
  cases hp:parts.toList[j]? with
  | none=>rfl
  | some p=>
   have h1:(parts.toList.map (·.1))[j]? = some p.1:=by rw[List.getElem?_map,hp];rfl
   rw[hidx] at h1
   have h2:p.1=j:=by
    have hj:j<(List.range len).length:=(List.getElem?_eq_some_iff.1 h1).1
    rw[List.getElem?_range (by simpa using hj)] at h1
    exact(Option.some.inj h1).symm
   simp[h2]
 have hcs:∀v,v∈parts.toList.map (fun p=>a.eval p.2)→v.cells.size=i.size:=by
  intro v hv'
  obtain⟨j,hj⟩:=List.getElem?_of_mem hv'
  have hjl:j<ds.length:=by rw[hdsl];exact(List.getElem?_eq_some_iff.1 hj).1
  obtain⟨h1,h2,h3⟩:=hds j v _ hj (List.getElem?_eq_getElem hjl)
  rw[(h1.cellAt h3).1,h2]
 have hrun:∃r:Array Value,(Instr.buildSlice t len (parts.map fun(x:Nat×Operand)=>(x.1,a.eval x.2))).run P w=.ok (.slice (some ⟨w.heap.size,0,none⟩) len len) (w.alloc (.cells r e))∧r.size=len*i.size ∧
   ∀k,k<len*i.size→r[k]? = ((parts.toList.map fun p=>a.eval p.2)[k / i.size]?).bind fun v=>v.cells[k % i.size]?:=by
  rcases Nat.eq_zero_or_pos len with h0 | h0
  ·subst h0
   have:parts=#[]:=by
    have:parts.toList=[]:=List.eq_nil_of_length_eq_zero hplen
    rw[←Array.toArray_toList (xs:=parts),this]
   subst this
   refine⟨#[],?_,by simp,fun k hk=>by simp at hk⟩
   rw[show(#[]:Array (Nat×Operand)).map (fun x=>(x.1,a.eval x.2))=#[] from by simp]
   exact run_buildSlice0 w t e i hu hi
  ·have hp':0<len*i.size:=Nat.mul_pos h0 hpos
   obtain⟨r,hr,hrs,hrk⟩:=Great.fill_dense hpos (parts.toList.map fun p=>a.eval p.2) 0 ((Array.range (len*i.size)).map (z.cells[· % z.cells.size]!)) hcs (by simp[hplen])
   refine⟨r,run_buildSlice w t e len _ r i z hu hi hz (by omega) (by omega) (by rw[hparts];exact hr),by rw[hrs];simp,fun k hk=>?_⟩
   rw[hrk k,if_pos ⟨by omega,by simpa[hplen] using hk⟩,Nat.sub_zero]
 obtain⟨r,hrun,hrs,hrk⟩:=hrun
 have hml:len≤maxLen:=by
  have:len≤len*i.size:=Nat.le_mul_of_pos_right _ hpos
  have h9:len≤9223372036854775807:=by omega
  exact h9
 have hzz:∀(j:Nat) (u:D),ds[j]? = some u→u.cells.length=i.size:=fun j u hj=>by
  have hjl:j<(parts.toList.map fun p=>a.eval p.2).length:=by rw[←hdsl];exact(List.getElem?_eq_some_iff.1 hj).1
  exact(hds j _ u (List.getElem?_eq_getElem hjl) hj).2.1
 have hrow:RowRd w ρ.S i.size r.toList ds:=by
  refine⟨by simp[hrs,hdl2],hzz,fun j u q x hj hq=>?_⟩
  have hjl:j<(parts.toList.map fun p=>a.eval p.2).length:=by rw[←hdsl];exact(List.getElem?_eq_some_iff.1 hj).1
  obtain⟨h1,h2,h3⟩:=hds j _ u (List.getElem?_eq_getElem hjl) hj
  obtain⟨h4,v,h5,h6⟩:=(h1.cellAt h3).2 q x hq
  obtain⟨hlt,hqs⟩:=index_lt hzz hj hq
  refine⟨h4,v,?_,h6⟩
  have hdiv:(j*i.size+q) / i.size=j:=by rw[Nat.mul_comm,Nat.mul_add_div hpos,Nat.div_eq_of_lt hqs,Nat.add_zero]
  have hmod:(j*i.size+q) % i.size=q:=by rw[Nat.mul_comm,Nat.mul_add_mod,Nat.mod_eq_of_lt hqs]
  rw[Array.getElem?_toList,hrk _ (by rw[←hdl2];exact hlt),hdiv,hmod,List.getElem?_eq_getElem hjl]
  exact h5
 refine⟨r,ds,rfl,hdl2,?_,hrs,hml,hrow⟩
 unfold execOp
 simp only[ho,Sem.run_bind,hrun,Result.andThen_ok,Sem.run_pure]

theorem llit_sound {o:Oper} {t:TypeId} {len:Nat} {parts:Array (Nat×Operand)} {opv:Operand→SV} {ix:Nat} {r:LRes} (ho:o.op=.buildSlice t len parts) (hv:∀x,SRd w ρ env (a.eval x) (opv x)) (hl:llit P t len parts.toList opv o.dst ix=some r) (h:Rep w0 X w a σ env ρ)
  (hd:∀d,o.dst=some d→d<σ.tmps.length) (hm:σ.mem.length=σ.tmps.length) (hb:BindOk P env ix r.bind) (hf:∀u,r.upd=some u→σ.obj u.1=none∧σ.avoids u.1):∃ob x,r.upd=some (ob,x)∧OpOk P o a w w0 X ((σ.setObj ob (some x)).put o.dst r.val) env:=by
 unfold llit at hl
 split at hl
 ·rename_i d e hdst hu
  split at hl
  ·rename_i i agg y hi hag hy
   split at hl
   ·rename_i hc
    cases hl
    obtain⟨hidx,hpos,hsmall,hagg,hzero⟩:=hc
    obtain⟨hfree,hav⟩:=hf _ rfl
    refine⟨d,_,rfl,?_⟩
    have hdl:=hd d hdst
    have hsz:szT P e=some i.size:=by simp[szT,hi]
    rw[hag,hsz] at hy
    simp only[Option.getD_some] at hy
    obtain⟨dz,hev,hix⟩:=hb
    obtain⟨z,hz⟩:=Option.isSome_iff_exists.1 hzero
    obtain⟨r,ds,rfl,hdl2,hrunx,hrs,hml,hrow⟩:=lit_run ho hv hu hi hy hidx hpos hsmall hagg hz hev
    have hK:Keeps ρ.S w (w.alloc (.cells r e)):=Keeps.alloc h.cells _
    have hown:(w.alloc (.cells r e)).ownsRow 0 e i.size (.slice (some ⟨w.heap.size,0,none⟩) len len) len r.toList:=World.ownsRow_lit w r len (Nat.zero_le _) hml hrs
    have hrep:=h.addTok (w':=w.alloc (.cells r e)) (k:=d) (by rw[hm];exact hdl) hfree hav hown hK (fun o' y' b h1 h2=>?_) (fun b hb=>?_) (fun b hb off _ hS=>?_) rfl ⟨rfl,Nat.le_refl _⟩ rfl (by simp) (fun b hb _=>heapOld w _ b (Nat.lt_of_lt_of_le hb h.grown))
    ·refine opOk_value (v:=.slice (some ⟨w.heap.size,0,none⟩) len len) ?_ (hrep.put (by rw[hdst];intro d' e;cases e;rw[SState.tmps_setObj];exact hdl) ?_)
     ·exact hrunx
     ·exact .own (es:=ds) (by simp only[E.eval];exact hix) (own_rd hown hdl2 (hrow.keep hK (ρ.S.le_or _)) fun b hb j hj=>.inr ⟨hb,hj⟩) (by simp[Rho.withTok])
    ·have:=(h.own o' y' b h1 h2).2
     refine⟨heapOld w _ b this,?_⟩
     simp[Value.ownBlock]
     omega
    ·simp[Value.ownBlock] at hb
     exact .inl (by rw[←hb];exact h.grown)
    ·simp[Value.ownBlock] at hb
     have:=h.cells b off hS
     omega
   ·cases hl
  ·cases hl
 ·cases hl

end
end
end Go.Am

/-
 Struct literals.
-/
namespace Go.Am
noncomputable section

def unitOf (nz:Bool)(z:Value)(parts:List (Nat×SV))(i off size:Nat)(agg:Bool):Option E:=
 match parts.find? (fun p=>p.1==i) with
 | some p=>if agg=true∨size=1 then p.2.toE.map (unitE agg size) else none
 | none=>(D.ofCells nz ((z.cells.toList.drop off).take size)).bind fun ds=>if ds.length=size then some (.const (.agg ds)) else none

def chainE (nz:Bool)(z:Value)(parts:List (Nat×SV)):Nat→Nat→List ((Nat×Nat)×Bool)→Option E
 | _,off,[]=>if off=z.cells.size then some .nil else none
 | i,off,p :: r=>if p.1.1=off then(match unitOf nz z parts i off p.1.2 p.2,chainE nz z parts (i+1) (off+p.1.2) r with
   | some x,some y=>some (.cons x y)
   | _,_=>none) else none

def fieldPlaces (P:Program)(fields:Array Field):Option (List (Nat×Nat)):=fields.toList.mapM fun f=>(P.info? f.type).map fun i=>(f.offset,i.size)
def fieldAggs (P:Program)(fields:Array Field):List Bool:=fields.toList.map fun f=>(aggT P f.type).getD false

def allApart (pl:List (Nat×Nat)):Bool:=(List.range pl.length).all fun i=>(List.range pl.length).all fun j=>decide (i=j)||(match pl[i]?,pl[j]? with | some p,some q=>apartP p q | _,_=>true)

def lbuild (nz:Bool)(P:Program)(t:TypeId)(parts:List (Nat×Operand))(opv:Operand→SV)(ix:Nat):Option LRes:=
 match P.info? t,P.underlying t with
 | some it,some (.struct fields)=>match it.zero,fieldPlaces P fields with
  | some z,some pl=>match chainE nz z (parts.map fun p=>(p.1,opv p.2)) 0 0 (pl.zip (fieldAggs P fields)) with
   | some y=>if(parts.map (·.1)).Nodup∧parts.all (fun p=>decide (p.1<pl.length))=true∧allApart pl=true then some { val:=.e (.sym ix) false,bind:=some (.ev y) } else none
   | none=>none
  | _,_=>none
 | _,_=>none

section
variable {P:Program} {w w0:World} {X:Ent} {a:Act} {σ:SState} {env:List D} {ρ:Rho}

theorem chain_spec {nz:Bool}{z:Value}{parts:List (Nat×SV)}(hlen:∀i off size agg x u,unitOf nz z parts i off size agg=some x→x.eval env=some u→u.cells.length=size):∀{l:List ((Nat×Nat)×Bool)} {i off:Nat} {y:E} {d:D},chainE nz z parts i off l=some y→y.eval env=some d →
  ∃cs,d=.agg cs∧off+cs.length=z.cells.size∧(∀(f:Nat) (q:(Nat×Nat)×Bool),l[f]? = some q→q.1.1+q.1.2≤z.cells.size∧∃x u,unitOf nz z parts (i+f) q.1.1 q.1.2 q.2=some x∧x.eval env=some u) ∧
  ∀k,off≤k→k<z.cells.size→∃f q x u,l[f]? = some q∧q.1.1≤k∧k<q.1.1+q.1.2∧unitOf nz z parts (i+f) q.1.1 q.1.2 q.2=some x∧x.eval env=some u∧cs[k-off]? = u.cells[k-q.1.1]?
 | [],i,off,y,d,h,hd=>by
  simp only[chainE] at h
  split at h
  ·rename_i ho
   cases h
   simp only[E.eval,Option.some.injEq] at hd
   subst hd
   exact⟨[],rfl,by simpa using ho,by simp,fun k h1 h2=>by omega⟩
  ·cases h
 | q :: r,i,off,y,d,h,hd=>by
  simp only[chainE] at h
  split at h
  ·rename_i ho
   split at h
   ·rename_i x y' hx hy
    cases h
    simp only[E.eval,Option.bind_eq_some_iff] at hd
    obtain⟨u,hu,d',hd',hc⟩:=hd
    obtain⟨cs,rfl,hl,h1,h2⟩:=chain_spec hlen hy hd'
    have hul:=hlen _ _ _ _ _ _ hx hu
    have hd2:d=.agg (u.cells++cs):=by
     unfold D.cons at hc
     split at hc <;> first | cases hc;done | (cases hc;rename_i e1 e2;cases e2;rfl) | skip
     all_goals first | (cases hc;rfl) | cases hc
    refine⟨u.cells++cs,hd2,by simp[hul];omega,fun f q' hq=>?_,fun k hk1 hk2=>?_⟩
    ·cases f with
     | zero=>simp at hq;subst hq;rw[ho];exact⟨by omega,x,u,hx,hu⟩
     | succ f=>
      obtain⟨h5,x',u',h3,h4⟩:=h1 f q' (by simpa using hq)
      exact⟨h5,x',u',by rw[show i+(f+1)=i+1+f from by omega];exact h3,h4⟩
    ·by_cases hk:k<off+q.1.2
     ·refine⟨0,q,x,u,rfl,by omega,by omega,by rw[ho];exact hx,hu,?_⟩
      rw[List.getElem?_append_left (by omega),ho]
     ·obtain⟨f,q',x',u',h3,h4,h5,h6,h7,h8⟩:=h2 k (by omega) hk2
      refine⟨f+1,q',x',u',by simpa using h3,h4,h5,by rw[show i+(f+1)=i+1+f from by omega];exact h6,h7,?_⟩
      rw[List.getElem?_append_right (by omega),hul,show k-off-q.1.2=k-(off+q.1.2) from by omega]
      exact h8
   ·cases h
  ·cases h


theorem allApart_spec {pl:List (Nat×Nat)}(h:allApart pl=true){i j:Nat}{p q:Nat×Nat}(hi:pl[i]? = some p)(hj:pl[j]? = some q)(hne:i≠j):p.1+p.2≤q.1∨q.1+q.2≤p.1:=by
 have h1:=List.all_eq_true.1 h i (List.mem_range.2 (List.getElem?_eq_some_iff.1 hi).1)
 have h2:=List.all_eq_true.1 h1 j (List.mem_range.2 (List.getElem?_eq_some_iff.1 hj).1)
 simp only[hne,decide_false,Bool.false_or,hi,hj,apartP,Bool.or_eq_true,decide_eq_true_eq] at h2
 exact h2

theorem mapM_length {α β:Type}{f:α→Option β}:∀{l:List α} {r:List β},l.mapM f=some r→r.length=l.length
 | [],r,h=>by simp at h;subst h;rfl
 | a :: l,r,h=>by
  simp only[List.mapM_cons,Option.bind_eq_bind,Option.pure_def,Option.bind_eq_some_iff,Option.some.injEq] at h
  obtain⟨b,_,r',h2,rfl⟩:=h
  simp[mapM_length h2]

theorem lbuild_sound {nz:Bool} {o:Oper} {t:TypeId} {parts:Array (Nat×Operand)} {opv:Operand→SV} {ix:Nat} {r:LRes} (ho:o.op=.build t parts) (hv:∀x,SRd w ρ env (a.eval x) (opv x)) (hl:lbuild nz P t parts.toList opv ix=some r) (h:Rep w0 X w a σ env ρ)
  (hd:∀d,o.dst=some d→d<σ.tmps.length) (hb:BindOk P env ix r.bind):r.upd=none∧OpOk P o a w w0 X (σ.put o.dst r.val) env:=by
 unfold lbuild at hl
 split at hl
 ·rename_i it fields hit hu
  split at hl
  ·rename_i z pl hz hpl
   split at hl
   ·rename_i y hy
    split at hl
    ·rename_i hc
     obtain⟨hnd,hin,hap⟩:=hc
     cases hl
     refine⟨rfl,?_⟩
     obtain⟨dz,hev,hix⟩:=hb
     have hpll:pl.length=fields.toList.length:=mapM_length hpl
     have unitR:∀i off size agg x u,unitOf nz z (parts.toList.map fun p=>(p.1,opv p.2)) i off size agg=some x→x.eval env=some u→u.cells.length=size ∧
       ((∃p,p∈parts.toList∧p.1=i∧RdD w ρ.S (a.eval p.2) u∧u.notTup=true)∨((∀p,p∈parts.toList→p.1≠i)∧∃ds,u=.agg ds∧D.ofCells nz ((z.cells.toList.drop off).take size)=some ds)):=by
      intro i off size agg x u hx hu'
      unfold unitOf at hx
      split at hx
      ·rename_i p hp
       split at hx
       ·rename_i hag
        obtain⟨x',hx',rfl⟩:=Option.map_eq_some_iff.1 hx
        have hmem:=List.mem_of_find?_eq_some hp
        have hpi:=List.find?_some hp
        simp only[beq_iff_eq] at hpi
        obtain⟨p0,hp0,rfl⟩:=List.mem_map.1 hmem
        obtain⟨d,hdx,hrx⟩:=SV.toE_rd hx' (hv p0.2)
        obtain⟨h1,h2,h3⟩:=unit_rd hag hdx hrx hu'
        exact⟨h2,.inl ⟨p0,hp0,hpi,h1,h3⟩⟩
       ·cases hx
      ·rename_i hnone
       obtain⟨ds,hds,hx⟩:=Option.bind_eq_some_iff.1 hx
       split at hx
       ·rename_i hdl
        cases hx
        simp only[E.eval,Option.some.injEq] at hu'
        subst hu'
        refine⟨hdl,.inr ⟨fun p hp hpi=>?_,ds,rfl,hds⟩⟩
        have:=List.find?_eq_none.1 hnone (p.1,opv p.2) (List.mem_map.2 ⟨p,hp,rfl⟩)
        simp[hpi] at this
       ·cases hx
     obtain⟨cs,rfl,hcl,hf,hcov⟩:=chain_spec (fun i off size agg x u h1 h2=>(unitR i off size agg x u h1 h2).1) hy hev
     rw[Nat.zero_add] at hcl
     have hzip:∀(i:Nat) (q:Nat×Nat),pl[i]? = some q→∃b,(pl.zip (fieldAggs P fields))[i]? = some (q,b):=by
      intro i q hq
      have hi:=(List.getElem?_eq_some_iff.1 hq).1
      have hi2:i<(fieldAggs P fields).length:=by simp only[fieldAggs,List.length_map];omega
      exact⟨(fieldAggs P fields)[i],by rw[List.getElem?_zip_eq_some];exact⟨hq,List.getElem?_eq_getElem hi2⟩⟩
     have hunzip:∀(i:Nat) (q:(Nat×Nat)×Bool),(pl.zip (fieldAggs P fields))[i]? = some q→pl[i]? = some q.1:=by
      intro i q hq
      rw[List.getElem?_zip_eq_some] at hq
      exact hq.1
     have hpart:∀p,p∈parts.toList→∃off,pl[p.1]? = some (off,(a.eval p.2).cells.size)∧off+(a.eval p.2).cells.size≤z.cells.size:=by
      intro p hp
      have hlt:p.1<pl.length:=by
       have:=List.all_eq_true.1 hin p hp
       simpa using this
      obtain⟨b,hb⟩:=hzip p.1 pl[p.1] (List.getElem?_eq_getElem hlt)
      obtain⟨hle,x,u,h1,h2⟩:=hf p.1 _ hb
      rw[Nat.zero_add] at h1
      obtain⟨h3,h4⟩:=unitR _ _ _ _ _ _ h1 h2
      rcases h4 with⟨p',hp',hpi,hr,hnt⟩ | ⟨hno,_⟩
      ·have:=nodup_fst hnd hp' hp hpi
       subst this
       have hsz:=(hr.cellAt hnt).1
       rw[h3] at hsz
       exact⟨pl[p'.1].1,by rw[hsz];exact List.getElem?_eq_getElem hlt,by rw[hsz];exact hle⟩
      ·exact absurd rfl (hno p hp)
     obtain⟨r,hr,hrs,hrk⟩:=fill_at (place:=fun i=>pl.toArray[i]?) (parts.toList.map fun p=>(p.1,a.eval p.2)) z.cells (fun p hp=>by
      obtain⟨q,hq,rfl⟩:=List.mem_map.1 hp
      obtain⟨off,h1,h2⟩:=hpart q hq
      exact⟨off,by simpa using h1,h2⟩)
     have hbuilt:P.built t (parts.map fun(x:Nat×Operand)=>(x.1,a.eval x.2)).toList=some r:=by
      unfold Program.built
      simp only[hit,hu,hz]
      unfold fieldPlaces at hpl
      simp only[hpl,Array.toList_map]
      exact hr
     have hcell:∀(k:Nat) (c:D),cs[k]? = some c→c.one=true∧∃v,r[k]? = some v∧RdD w ρ.S v c:=by
      intro k c hk
      have hkz:k<z.cells.size:=by rw[←hcl];exact(List.getElem?_eq_some_iff.1 hk).1
      obtain⟨f,q,x,u,h1,h2,h3,h4,h5,h6⟩:=hcov k (Nat.zero_le _) hkz
      rw[Nat.sub_zero] at h6
      rw[Nat.zero_add] at h4
      have hplf:=hunzip f q h1
      obtain⟨h7,h8⟩:=unitR _ _ _ _ _ _ h4 h5
      have huc:u.cells[k-q.1.1]? = some c:=h6 ▸ hk
      have hnocov:∀p,p∈parts.toList→p.1≠f→¬Covers (fun i=>pl.toArray[i]?) (p.1,a.eval p.2) k:=by
       rintro p hp hne ⟨off,size,h9,h10,h11⟩
       simp only[List.getElem?_toArray] at h9
       have:=allApart_spec hap h9 hplf hne
       simp only at this
       omega
      rcases h8 with⟨p,hp,hpi,hrd,hnt⟩ | ⟨hno,ds,rfl,hds⟩
      ·obtain⟨h9,v,h10,h11⟩:=(hrd.cellAt hnt).2 _ c huc
       have hsz:=(hrd.cellAt hnt).1
       rw[h7] at hsz
       refine⟨h9,v,?_,h11⟩
       have:=(hrk k hkz).2 (p.1,a.eval p.2) q.1.1 (List.mem_map.2 ⟨p,hp,rfl⟩) (by simp only[List.getElem?_toArray,hpi,hplf,hsz]) h2 (by simp only[hsz];exact h3) fun q' hq' hne=>by
        obtain⟨p',hp',rfl⟩:=List.mem_map.1 hq'
        refine hnocov p' hp' fun e=>hne ?_
        rw[nodup_fst hnd hp' hp (e.trans hpi.symm)]
       rw[this];exact h10
      ·have:=(hrk k hkz).1 fun q' hq'=>by
        obtain⟨p',hp',rfl⟩:=List.mem_map.1 hq'
        exact hnocov p' hp' (hno p' hp')
       rw[this]
       obtain⟨_,hrd⟩:=D.ofCells_rd (w:=w) (S:=ρ.S) hds
       have hget:((z.cells.toList.drop q.1.1).take q.1.2)[k-q.1.1]? = some z.cells[k]:=by
        rw[List.getElem?_take,if_pos (by omega),List.getElem?_drop,show q.1.1+(k-q.1.1)=k from by omega]
        simp[hkz]
       obtain⟨h9,h10⟩:=hrd _ _ c hget huc
       exact⟨h10,z.cells[k],Array.getElem?_eq_getElem hkz,h9⟩
     refine opOk_same h hd (v:=.agg r) ?_ (.e (d:=.agg cs) (by simp only[E.eval];exact hix) (.agg (by rw[hrs,hcl]) (fun k c hk=>(hcell k c hk).1) fun k v c hv' hk=>?_) (by simp))
     ·unfold execOp
      simp only[ho,Sem.run_bind,run_build w t _ r hbuilt,Result.andThen_ok,Sem.run_pure]
     ·obtain⟨_,v',h1,h2⟩:=hcell k c hk
      rw[hv'] at h1
      cases h1
      exact h2
    ·cases hl
   ·cases hl
  ·cases hl
 ·cases hl

end
end
end Go.Am

/-
 Variables and slices that nobody writes: data at once;and such that lie in the store.
-/
namespace Go.Am
noncomputable section

def cfOf (obj:Nat→Option SObj):Option StCfg:=
 match obj HID with
 | some (.store cf _)=>some cf
 | _=>none

def cellsE (agg:Bool)(n:Nat)(x:E):E:=if agg then .aggN n x else .cons (.scal x) .nil

def isDat (o:Oper)(act:List (E×Bool))(obj:Nat→Option SObj):Bool:=
 match act,o.dst,cfOf obj with
 | _ :: _,_,_=>true
 | [],some d,some cf=>cf.dats.contains d
 | _,_,_=>false

def ldat (P:Program)(o:Oper)(opv:Operand→SV)(act:List (E×Bool))(obj:Nat→Option SObj)(ix:Nat):Option LRes:=
 if isDat o act obj then
  match o.op with
  | .box t x=>(match aggT P t,szT P t,(opv x).toE with
   | some agg,some n,some x'=>some { val:=.e (.sym ix) true,bind:=some (.ev (.mkptr (cellsE agg n x'))) }
   | _,_,_=>none)
  | .buildSlice t len parts=>(llit P t len (parts.toList) opv (some 0) ix).map fun r=>{ val:=.e (.sym ix) true,bind:=r.bind }
  | _=>none
 else none

def nilOp:Operand→Bool
 | .const (.slice none 0 0)=>true
 | _=>false

def nilS (s:Operand)(sv:SV):SV:=if nilOp s=true then .e (.const .snil) true else sv

theorem nilS_rd {w:World}{ρ:Rho}{env:List D}{a:Act}{s:Operand}{sv:SV}(h:SRd w ρ env (a.eval s) sv):SRd w ρ env (a.eval s) (nilS s sv):=by
 unfold nilS
 split
 ·rename_i hn
  unfold nilOp at hn
  split at hn
  ·exact .e rfl .snil fun _=>rfl
  ·cases hn
 ·exact h

def lpubC (P:Program)(o:Oper)(opv:Operand→SV)(hO:Option SObj)(ix:Nat):Option LRes:=
 match hO,o.dst with
 | some (.store cf h),some d=>
  if cf.ro then none else match o.op with
  | .alloc t=>if cf.pubs.contains d then(match(P.info? t).bind (·.zero) with
   | some z=>(match D.ofCells cf.nils z.cells.toList with
    | some ds=>some { val:=.e (.fstid h) true,upd:=some (HID,.store cf (.sym ix)),bind:=some (.ev (.newb t z.cells.size h (.const (.agg ds)))) }
    | none=>none)
   | none=>none) else none
  | .box t x=>if cf.pubs.contains d then(match aggT P t,szT P t,(opv x).toE with
   | some agg,some n,some x'=>if agg=true∨n=1 then some { val:=.e (.fstid h) true,upd:=some (HID,.store cf (.sym ix)),bind:=some (.ev (.newb t n h (cellsE agg n x'))) } else none
   | _,_,_=>none) else none
  | .makeSlice t n c=>if cf.pubs.contains d then(match lmake cf.nils P t (opv n) (opv c) (some 0) ix,P.underlying t with
   | some { bind:=some (.ev y),.. },some (.slice e)=>(match P.info? e with
    | some i=>if 0<i.size then some { val:=.e (.fstsl h y) true,upd:=some (HID,.store cf (.sym ix)),bind:=some (.ev (.newv e i.size h y)) } else none
    | none=>none)
   | _,_=>none) else none
  | .buildSlice t len parts=>if cf.pubs.contains d then(match llit P t len parts.toList opv (some 0) ix,P.underlying t with
   | some { bind:=some (.ev y),.. },some (.slice e)=>(match P.info? e with
    | some i=>if 0<i.size then some { val:=.e (.fstsl h y) true,upd:=some (HID,.store cf (.sym ix)),bind:=some (.ev (.newv e i.size h y)) } else none
    | none=>none)
   | _,_=>none) else none
  | .assign x=>if cf.pubs.contains d then(match x with
   | .const (.slice none 0 0)=>some { val:=.e (.const .snil) true }
   | _=>none) else none
  | .call c=>(match c.callee with
   | .builtin .append=>(match c.args.toList,c.argTypes.toList with
    | [s,x],[t,t']=>if t=t'∧¬(nilOp s=true∧cf.dats.contains d=true) then(match nilS s (opv s),(opv x).toE,P.underlying t with
     | .e s' _,some x',some (.slice e)=>(match P.info? e with
      | some i=>(match i.zero with
       | some z=>if z.cells.size=i.size∧0<i.size∧e≠anyT then some { val:=.e (.apps h s' x') true,upd:=some (HID,.store cf (.sym ix)),bind:=some (.ev (.apph e i.size i.bytes h s' x')) } else none
       | none=>none)
      | none=>none)
     | _,_,_=>none) else none
    | _,_=>none)
   | _=>none)
  | _=>none
 | _,_=>none

def usesH (o:Oper):Bool:=
 match o.op with
 | .load _ _ | .store _ _ _ | .alloc _ | .box _ _ | .makeSlice _ _ _ | .assign _ | .buildSlice _ _ _ | .makeMap _ _ | .mapUpdate _ _ _ _ | .insert _ _ _ _ | .lookup _ _ _ _ | .range _ _ | .entry _ | .mapEntry _ _ _ | .entryStore _ _ _ _ | .next _ true | .convert _ _ _ | .indexAddr _ (.global _) _=>true
 | .call c=>(match c.callee with | .value _=>true | .invoke _ _=>true | .builtin .append=>true | .builtin .len=>true | .builtin .delete=>true | .builtin .unsafeString=>true | _=>false)
 | _=>false

def SV.mayE:SV→Bool
 | .e _ _=>true
 | .cond _ sv=>sv.mayE
 | _=>false

theorem strip_mayE {act:List (E×Bool)}{sv:SV}{x:E}{s:Bool}(h:sv.strip act=.e x s):sv.mayE=true:=by
 unfold SV.strip at h
 split at h
 ·split at h
  ·subst h;rfl
  ·cases h
 ·subst h;rfl

def cfO:Option SObj→Option StCfg
 | some (.store cf _)=>some cf
 | _=>none

def locCall (cf:Option StCfg):Callee→Bool
 | .value (.func g)=>(match cf with | some cf=>cf.locs.contains g | none=>false)
 | _=>false

def usesHr (o:Oper)(m:Operand→Bool)(cf:Option StCfg):Bool:=
 match o.op with
 | .load _ x=>m x
 | .store _ x _=>m x
 | .alloc _ | .box _ _ | .makeSlice _ _ _ | .buildSlice _ _ _ | .convert _ _ _=>match cf,o.dst with
  | some cf,some d=>cf.pubs.contains d
  | _,_=>false
 | .makeMap _ _ | .mapUpdate _ _ _ _ | .insert _ _ _ _ | .lookup _ _ _ _ | .range _ _ | .entry _ | .mapEntry _ _ _ | .entryStore _ _ _ _ | .next _ true | .indexAddr _ (.global _) _=>true
 | .call c=>(match c.callee with
  | .value _=>!locCall cf c.callee
  | .invoke _ _=>true
  | .builtin .append=>match c.args.toList with
   | s :: _=>m s||nilOp s
   | []=>false
  | .builtin .len=>(match cf with
   | some cf=>c.argTypes.toList.any cf.maps.contains
   | none=>false)
  | .builtin .delete=>true
  | .builtin .unsafeString=>true
  | _=>false)
 | _=>false

def lpub (P:Program)(o:Oper)(opv:Operand→SV)(obj:Nat→Option SObj)(ix:Nat):Option LRes:=
 if usesH o=true then lpubC P o opv (obj HID) ix else none

section
variable {P:Program} {w w0:World} {X:Ent} {a:Act} {σ:SState} {env:List D} {ρ:Rho}

theorem cellsE_rd {S:Sets}{agg:Bool}{n:Nat}{x:E}{d dc:D}{v:Value}(hx:x.eval env=some d)(hr:RdD w S v d)(hc:(cellsE agg n x).eval env=some dc):∃cs,dc=.agg cs∧v.cells.size=cs.length∧(agg=true→cs.length=n)∧(agg=false→cs.length=1)∧(∀(i:Nat) (u:Value),v.cells[i]? = some u→u.oneCell'=true) ∧
  (∀(i:Nat) (c:D),cs[i]? = some c→c.one=true)∧∀(i:Nat) (u:Value) (c:D),v.cells[i]? = some u→cs[i]? = some c→RdD w S u c:=by
 unfold cellsE at hc
 split at hc
 ·rename_i hagg
  simp only[E.eval,hx,Option.bind_some] at hc
  unfold D.aggN at hc
  split at hc
  ·rename_i cs
   split at hc
   ·rename_i hl
    cases hc
    obtain⟨vs,rfl,hvl,ho,hh⟩:=hr.agg_inv
    refine⟨cs,rfl,hvl,fun _=>hl,(by simp[hagg]),fun i u hu=>?_,fun i c hc=>ho i c hc,hh⟩
    have hi:i<cs.length:=by rw[←hvl];exact(Array.getElem?_eq_some_iff.1 hu).1
    exact(hh i u _ hu (List.getElem?_eq_getElem hi)).one (ho i _ (List.getElem?_eq_getElem hi))
   ·cases hc
  ·cases hc
 ·rename_i hagg
  simp only[E.eval,hx,Option.bind_some,D.scal] at hc
  by_cases h1:d.one=true
  ·rw[if_pos h1] at hc
   simp only[Option.bind_some,D.cons_one h1] at hc
   cases hc
   obtain⟨g1,g2,g3⟩:=hr.cells_rd (by rw[D.cells_one h1];simp[h1])
   rw[D.cells_one h1] at g1 g3
   refine⟨[d],rfl,g1,(by simp[hagg]),fun _=>rfl,g2,fun i c hc=>?_,g3⟩
   cases i with
   | zero=>simp at hc;subst hc;exact h1
   | succ i=>simp at hc
  ·rw[if_neg h1] at hc
   cases hc

theorem ldat_sound {o:Oper}{opv:Operand→SV}{act:List (E×Bool)}{ix:Nat}{r:LRes}(hv:∀x,SRd w ρ env (a.eval x) (opv x))(hl:ldat P o opv act σ.obj ix=some r)(h:Rep w0 X w a σ env ρ)(hd:∀d,o.dst=some d→d<σ.tmps.length)(hb:BindOk P env ix r.bind) :
  r.upd=none∧OpOk P o a w w0 X (σ.put o.dst r.val) env:=by
 unfold ldat at hl
 split at hl
 ·split at hl
  ·rename_i t x ho
   split at hl
   ·rename_i agg n x' hg hn hx
    cases hl
    obtain⟨dx,hdx,hrx⟩:=SV.toE_rd hx (hv x)
    obtain⟨d,he,hix⟩:=hb
    simp only[E.eval,Option.bind_eq_some_iff] at he
    obtain⟨dc,hdc,he⟩:=he
    obtain⟨cs,rfl,h1,_,_,h2,h3,h4⟩:=cellsE_rd hdx hrx hdc
    simp only[D.mkptr] at he
    cases he
    have hrun:(execOp a.eval o).run P w=.ok (.value (.pointer (some ⟨w.heap.size,0,none⟩))) (w.alloc (.cells (a.eval x).cells t)):=by
     unfold execOp
     simp only[ho,Instr.box,Sem.run_bind,Result.andThen_ok,newVar,newRow,Sem.run_pure,run_newObj]
     rfl
    have hrep:=h.allocS (.cells (a.eval x).cells t)
    have hK:Keeps ρ.S w (w.alloc (.cells (a.eval x).cells t)):=Keeps.alloc h.cells _
    refine⟨rfl,opOk_value hrun (hrep.put hd (.e (d:=.ptr cs) (by simp[E.eval,hix]) ?_ fun _=>rfl))⟩
    have hcell:∀(j:Nat) (c:D),cs[j]? = some c→∃u,(a.eval x).cells[j]? = some u:=fun j c hj=>⟨_,Array.getElem?_eq_getElem (by rw[h1];exact(List.getElem?_eq_some_iff.1 hj).1)⟩
    refine .ptr (val:=fun j=>(a.eval x).cells.getD j undef) h3 (fun j c hj=>.inr rfl) (fun j c hj=>?_) fun j c hj=>?_
    ·obtain⟨u,hu⟩:=hcell j c hj
     rw[cell_heap (heap_alloc_new w _),Nat.zero_add,hu,Array.getD_eq_getD_getElem?,hu]
     rfl
    ·obtain⟨u,hu⟩:=hcell j c hj
     rw[Array.getD_eq_getD_getElem?,hu]
     exact(h4 j u c hu hj).keep hK (ρ.S.le_or _)
   ·cases hl
  ·rename_i t len parts ho
   obtain⟨r0,hr0,rfl⟩:=Option.map_eq_some_iff.1 hl
   unfold llit at hr0
   split at hr0
   ·rename_i e hdst hu
    split at hr0
    ·rename_i i agg y hi hag hy
     split at hr0
     ·rename_i hc
      cases hr0
      obtain⟨hidx,hpos,hsmall,hagg,hzero⟩:=hc
      have hsz:szT P e=some i.size:=by simp[szT,hi]
      rw[hag,hsz] at hy
      simp only[Option.getD_some] at hy
      obtain⟨dz,hev,hix⟩:=hb
      obtain⟨z,hz⟩:=Option.isSome_iff_exists.1 hzero
      obtain⟨r,ds,rfl,hdl2,hrunx,hrs,hml,hrow⟩:=lit_run ho hv hu hi hy hidx hpos hsmall hagg hz hev
      have hrep:=h.allocS (.cells r e)
      have hK:Keeps ρ.S w (w.alloc (.cells r e)):=Keeps.alloc h.cells _
      refine⟨rfl,opOk_value hrunx (hrep.put hd (.e (d:=.lst ds) (by simp[E.eval,hix]) ?_ fun _=>rfl))⟩
      have hown:(w.alloc (.cells r e)).ownsRow 0 e i.size (.slice (some ⟨w.heap.size,0,none⟩) len len) len r.toList:=World.ownsRow_lit w r len (Nat.zero_le _) hml hrs
      exact own_rd hown hdl2 (hrow.keep hK (ρ.S.le_or _)) fun b hb j hj=>.inr (by simpa[Value.ownBlock] using hb.symm)
     ·cases hr0
    ·cases hr0
   ·cases hr0
  ·cases hl
 ·cases hl

theorem news_of {S:Sets}{size:Nat}{v:Value}{ys:List D}(h:RdD w S v (.lst ys))(hz:allCells size ys=true) :
  (v=.slice none 0 0∧ys=[])∨∃(ad:Addr) (m c:Nat) (news:List Value),v=.slice (some ad) m c∧ys.length=m∧news.length=m*size∧(∀j u,news[j]? = some u→w.cell? (ad.add j)=some u)∧(∀u∈news,u.oneCell'=true)∧RowRd w S size news ys:=by
 have hzz:∀(i:Nat) (e:D),ys[i]? = some e→e.cells.length=size:=fun i e he=>allCells_get hz he
 cases h with
 | nil=>exact .inl ⟨rfl,rfl⟩
 | @emp ad c _=>exact .inr ⟨ad,0,c,[],rfl,rfl,by simp,by simp,by simp,by simp,hzz,by simp⟩
 | @lst b off len cap size' _ val hl hc hm hz' ho hS hw hr=>
  right
  refine⟨⟨b,off,none⟩,len,cap,(List.range (len*size)).map fun q=>val (q / size) (q % size),rfl,hl.symm,by simp,?_,?_,by simp[hl],hzz,?_⟩
  all_goals
   have hget:∀q,q<len*size→∃e d,ys[q / size]? = some e∧e.cells[q % size]? = some d∧size'=size:=by
    intro q hq
    have hs:0<size:=by
     rcases Nat.eq_zero_or_pos size with h0 | h0
     ·subst h0;simp at hq
     ·exact h0
    have hi:q / size<ys.length:=by rw[←hl];exact(Nat.div_lt_iff_lt_mul hs).2 hq
    have hcl:=hzz _ _ (List.getElem?_eq_getElem hi)
    have hj:q % size<(ys[q / size]).cells.length:=by rw[hcl];exact Nat.mod_lt _ hs
    exact⟨_,_,List.getElem?_eq_getElem hi,List.getElem?_eq_getElem hj,(hz' _ _ (List.getElem?_eq_getElem hi)).symm.trans hcl⟩
  ·intro j u hu
   simp only[List.getElem?_map,Option.map_eq_some_iff] at hu
   obtain⟨q,hq,rfl⟩:=hu
   obtain⟨hjl,rfl⟩:=List.getElem?_eq_some_iff.1 hq
   simp only[List.length_range] at hjl
   simp only[List.getElem_range]
   obtain⟨e,d,h1,h2,rfl⟩:=hget j hjl
   have:=hw _ _ _ _ h1 h2
   rw[addr_add]
   have hdm:=Nat.div_add_mod j size'
   rw[Nat.mul_comm] at hdm
   rw[show off+j=off+j / size'*size'+j % size' from by omega]
   exact this
  ·intro u hu
   simp only[List.mem_map,List.mem_range] at hu
   obtain⟨q,hq,rfl⟩:=hu
   obtain⟨e,d,h1,h2,rfl⟩:=hget q hq
   exact(hr _ _ _ _ h1 h2).one (ho _ _ _ _ h1 h2)
  ·intro i e j d he hd
   obtain⟨hlt,hj⟩:=index_lt hzz he hd
   refine⟨ho _ _ _ _ he hd,val i j,?_,hr _ _ _ _ he hd⟩
   have hq:i*size+j<len*size:=by rw[hl];exact hlt
   rw[List.getElem?_map,List.getElem?_range hq]
   have hs:0<size:=by omega
   have h1:(i*size+j) / size=i:=by
    rw[Nat.mul_comm,Nat.mul_add_div hs,Nat.div_eq_of_lt hj,Nat.add_zero]
   have h2:(i*size+j) % size=j:=by
    rw[Nat.mul_comm,Nat.mul_add_mod,Nat.mod_eq_of_lt hj]
   simp[h1,h2]

theorem chunks_get {sz:Nat}:∀{n:Nat} {cs:List D} {i:Nat},i<n→(chunks sz n cs)[i]? = some ((cs.drop (i*sz)).take sz)
 | 0,_,_,h=>absurd h (Nat.not_lt_zero _)
 | n+1,cs,0,_=>by simp[chunks]
 | n+1,cs,i+1,h=>by
  rw[chunks,List.getElem?_cons_succ,chunks_get (by omega),List.drop_drop,Nat.succ_mul,Nat.add_comm]
theorem chunks_len {sz:Nat}:∀{n:Nat} {cs:List D},(chunks sz n cs).length=n
 | 0,_=>rfl
 | n+1,cs=>by rw[chunks,List.length_cons,chunks_len]

theorem news_asL {S:Sets}{foot:Nat→Prop}{bs:List D}{size:Nat}{v:Value}{dy:D}{ys:List D}(hst:StOk w S foot bs)(h:RdD w S v dy)(ha:D.asL (.st bs) size dy=some ys)(hz:allCells size ys=true) :
  (ys=[]∧(v=.slice none 0 0∨∃ad c,v=.slice (some ad) 0 c))∨∃(ad:Addr) (m c:Nat) (news:List Value),v=.slice (some ad) m c∧ys.length=m∧news.length=m*size∧(∀j u,news[j]? = some u→w.cell? (ad.add j)=some u)∧(∀u∈news,u.oneCell'=true)∧RowRd w S size news ys:=by
 unfold D.asL at ha
 split at ha
 ·cases ha
  rcases news_of h hz with⟨h1,h2⟩ | h1
  ·exact .inl ⟨h2,.inl h1⟩
  ·exact .inr h1
 ·cases ha
  cases h
  exact .inl ⟨rfl,.inl rfl⟩
 ·rename_i j off m
  split at ha
  ·rename_i hm
   subst hm
   cases ha
   cases h
   exact .inl ⟨rfl,.inr ⟨_,_,rfl⟩⟩
  ·obtain⟨blk,hblk,ha⟩:=Option.bind_eq_some_iff.1 ha
   split at ha
   ·rename_i hfit
    cases ha
    obtain⟨hf,vs,⟨e',hh,hty⟩,hsz,hlen,hone,hr,hns⟩:=hst.cells j _ _ _ (cellsAt_some hblk)
    cases h with
    | @sl _ _ _ c hj hle hcm h0=>
    right
    refine⟨⟨S.loc j,off,none⟩,m,c,(vs.toList.drop off).take (m*size),rfl,by simp[chunks_len],?_,fun q u hq=>?_,fun u hu=>?_,?_,fun i e he=>allCells_get hz he,fun i e q d he hd=>?_⟩
    ·rw[List.length_take,List.length_drop,Array.length_toList]
     omega
    ·rw[List.getElem?_take] at hq
     split at hq
     ·rw[List.getElem?_drop] at hq
      rw[addr_add]
      simp only[World.cell?,hh]
      simpa using hq
     ·cases hq
    ·obtain⟨q,hq⟩:=List.getElem?_of_mem hu
     rw[List.getElem?_take] at hq
     split at hq
     ·rename_i hql
      rw[List.getElem?_drop] at hq
      have hcl:off+q<blk.2.2.length:=by omega
      have hd:=List.getElem?_eq_getElem hcl
      exact(hr _ _ _ (by simpa using hq) hd).one (hone _ _ hd)
     ·cases hq
    ·rw[List.length_take,List.length_drop,Array.length_toList,List.length_map,chunks_len]
     omega
    ·have hi:i<m:=by
      have:=(List.getElem?_eq_some_iff.1 he).1
      rw[List.length_map,chunks_len] at this
      exact this
     rw[List.getElem?_map,chunks_get hi] at he
     cases he
     simp only[D.cells] at hd
     rw[List.getElem?_take] at hd
     split at hd
     ·rename_i hq
      rw[List.drop_drop,List.getElem?_drop] at hd
      have hlt:i*size+q<m*size:=by
       have:(i+1)*size≤m*size:=Nat.mul_le_mul_right _ hi
       rw[Nat.succ_mul] at this
       omega
      refine⟨hone _ _ hd,?_⟩
      have hvl:off+(i*size+q)<vs.size:=by omega
      refine⟨vs[off+(i*size+q)],?_,hr _ _ _ (Array.getElem?_eq_getElem hvl) (by rw[←Nat.add_assoc];exact hd)⟩
      rw[List.getElem?_take,if_pos hlt,List.getElem?_drop]
      simp[hvl]
     ·cases hd
   ·cases ha
 ·cases ha

theorem RowRd.append {S:Sets}{size:Nat}{xs ys:List Value}{es fs:List D}(h:RowRd w S size xs es)(k:RowRd w S size ys fs):RowRd w S size (xs++ys) (es++fs):=by
 obtain⟨h1,h2,h3⟩:=h
 obtain⟨k1,k2,k3⟩:=k
 refine⟨by simp[h1,k1,Nat.add_mul],fun i e he=>?_,fun i e j d he hd=>?_⟩
 ·rw[List.getElem?_append] at he
  split at he
  ·exact h2 i e he
  ·exact k2 _ e he
 ·rw[List.getElem?_append] at he
  split at he
  ·obtain⟨h4,v,h5,h6⟩:=h3 i e j d he hd
   refine⟨h4,v,?_,h6⟩
   rw[List.getElem?_append_left (by rw[h1];exact(index_lt h2 he hd).1)]
   exact h5
  ·rename_i hi
   obtain⟨h4,v,h5,h6⟩:=k3 _ e j d he hd
   refine⟨h4,v,?_,h6⟩
   have hle:es.length*size≤i*size:=Nat.mul_le_mul_right _ (by omega)
   rw[List.getElem?_append_right (by rw[h1];omega),h1]
   rw[show i*size+j-es.length*size=(i-es.length)*size+j from by rw[Nat.sub_mul];omega]
   exact h5


/-! ## new blocks of the store -/

def Sets.more (S:Sets)(b k:Nat)(l:Loop×Code:=default):Sets:={ mem:=S.mem,loc:=fun i=>if i=S.n then b else S.loc i,n:=S.n+1,cap:=fun i=>if i=S.n then k else S.cap i,hold:=S.hold,lrec:=fun i=>if i=S.n then l else S.lrec i }

theorem Sets.le_more (S:Sets)(b k:Nat)(l:Loop×Code:=default):S≤S.more b k l:=
 ⟨fun _ _ h=>h,Nat.le_succ _,fun i hi=>by simp[Sets.more,Nat.ne_of_lt hi],fun i hi=>by simp[Sets.more,Nat.ne_of_lt hi],rfl,fun i hi=>by simp[Sets.more,Nat.ne_of_lt hi]⟩

theorem stOk_moreG {w':World} {bs bs2:List D} {k b:Nat} {l:Loop×Code} {z:D} {foot':Nat→Prop} (hst:StOk w ρ.S ρ.foot bs) (hK:Keeps ρ.S w w') (hl2:bs2.length=bs.length) (hold:∀(i:Nat) (x:D),bs2[i]? = some x→x.live=true→bs[i]? = some x∧ρ.S.loc i≠b∧w'.heap[ρ.S.loc i]? = w.heap[ρ.S.loc i]?)
  (hf:∀c,foot' c↔(ρ.foot c∨c=b))
  (hz1:∀e sz cs,z=.blk e sz cs→∃vs:Array Value,CellsAt w' b vs e∧vs.size=k*sz∧cs.length≤vs.size∧(∀(j:Nat) (d:D),cs[j]? = some d→d.one=true)∧∀(j:Nat) (v:Value) (d:D),vs[j]? = some v→cs[j]? = some d→RdD w ρ.S v d)
  (hz2:∀kvs,z=.mblk kvs→∃(es:Array MapEntry) (clock:Nat),w'.heap[b]? = some (.map es clock)∧MapSzL es clock kvs∧∀(j:Nat) (e:MapEntry) (kv:D),es[j]? = some e→(D.kept kvs)[j]? = some kv→∃dk dv,kv=.tup [dk,dv]∧RdD w ρ.S e.key dk∧RdD w ρ.S e.val dv)
  (hS:∀off,¬ρ.S b off) (hz3:z.isIt=true→ItOk (ρ.S.more b k l) ρ.S.n w'.heap[b]? z:=by intro hz;cases hz):StOk w' (ρ.S.more b k l) foot' (bs2++[z]):=by
 have hle:=ρ.S.le_more b k l
 have hcase:∀(i:Nat) (x:D),(bs2++[z])[i]? = some x→(i=ρ.S.n∧x=z)∨(i<ρ.S.n∧bs2[i]? = some x):=by
  intro i x hi
  rw[List.getElem?_append] at hi
  split at hi
  ·rename_i hlt
   exact .inr ⟨by rw[hst.n,←hl2];exact hlt,hi⟩
  ·rename_i hge
   have hi0:i-bs2.length=0:=by
    have:=(List.getElem?_eq_some_iff.1 hi).1
    simp at this
    omega
   rw[hi0] at hi
   simp only[List.getElem?_cons_zero,Option.some.injEq] at hi
   exact .inl ⟨by rw[hst.n,←hl2];omega,hi.symm⟩
 have h1:(ρ.S.more b k l).loc ρ.S.n=b:=by simp[Sets.more]
 have h2:(ρ.S.more b k l).cap ρ.S.n=k:=by simp[Sets.more]
 refine⟨by simp[Sets.more,hst.n,hl2],fun i e' sz' cs' hi=>?_,fun c off hc hs=>?_,fun i kvs hi=>?_,fun i j x y hi hj hx hy hl=>?_,fun i y hi hy=>?_⟩
 ·rcases hcase i _ hi with⟨rfl,hz⟩ | ⟨hlt,hi⟩
  ·rw[h1,h2]
   obtain⟨vs,g1,g2,g3,g4,g5⟩:=hz1 _ _ _ hz.symm
   exact⟨(hf b).2 (.inr rfl),vs,g1,g2,g3,g4,fun j v d hv hd=>(g5 j v d hv hd).keep hK hle,hS⟩
  ·obtain⟨hi',hne,hh⟩:=hold i _ hi rfl
   obtain⟨g1,us,g2,g3,g4,g5,g6,g7⟩:=hst.cells i _ _ _ hi'
   rw[hle.loc i hlt,hle.cap i hlt]
   exact⟨(hf _).2 (.inl g1),us,g2.to hh,g3,g4,g5,fun j v d hv hd=>(g6 j v d hv hd).keep hK hle,g7⟩
 ·rcases(hf c).1 hc with h1 | rfl
  ·exact hst.nos c off h1 hs
  ·exact hS off hs
 ·rcases hcase i _ hi with⟨rfl,hz⟩ | ⟨hlt,hi⟩
  ·rw[h1]
   obtain⟨es,clock,g1,g2,g3⟩:=hz2 _ hz.symm
   refine⟨(hf b).2 (.inr rfl),es,clock,g1,g2,hS,fun j e kv he hkv=>?_⟩
   obtain⟨dk,dv,g4,g5,g6⟩:=g3 j e kv he hkv
   exact⟨dk,dv,g4,g5.keep hK hle,g6.keep hK hle⟩
  ·obtain⟨hi',hne,hh⟩:=hold i _ hi rfl
   obtain⟨g1,es,clock,g2,g3,g4,g5⟩:=hst.maps i _ hi'
   rw[hle.loc i hlt]
   refine⟨(hf _).2 (.inl g1),es,clock,by rw[hh];exact g2,g3,g4,fun j e kv he hkv=>?_⟩
   obtain⟨dk,dv,g6,g7,g8⟩:=g5 j e kv he hkv
   exact⟨dk,dv,g6,g7.keep hK hle,g8.keep hK hle⟩
 ·rcases hcase i _ hi with⟨rfl,_⟩ | ⟨hlt,hi⟩ <;> rcases hcase j _ hj with⟨rfl,_⟩ | ⟨hlt',hj⟩
  ·rfl
  ·rw[hle.loc j hlt',h1] at hl
   exact absurd hl.symm (hold j _ hj hy).2.1
  ·rw[hle.loc i hlt,h1] at hl
   exact absurd hl (hold i _ hi hx).2.1
  ·rw[hle.loc i hlt,hle.loc j hlt'] at hl
   exact hst.inj i j _ _ (hold i _ hi hx).1 (hold j _ hj hy).1 hx hy hl
 ·rcases hcase i _ hi with⟨rfl,hz⟩ | ⟨hlt,hi⟩
  ·subst hz
   rw[h1]
   exact⟨(hf b).2 (.inr rfl),hz3 hy,hS⟩
  ·obtain⟨hi',hne,hh⟩:=hold i _ hi (D.isIt_live hy)
   obtain⟨g1,g2,g4⟩:=hst.its i _ hi' hy
   rw[hle.loc i hlt,hh]
   exact⟨(hf _).2 (.inl g1),g2.to hle.n hle.loc (hle.lrec i hlt) hlt,g4⟩

theorem stOk_more {w':World} {bs bs2:List D} {vs:Array Value} {e:TypeId} {sz k b:Nat} {cs:List D} {foot':Nat→Prop} (hst:StOk w ρ.S ρ.foot bs) (hK:Keeps ρ.S w w') (hl2:bs2.length=bs.length) (hold:∀(i:Nat) (x:D),bs2[i]? = some x→x.live=true→bs[i]? = some x∧ρ.S.loc i≠b∧w'.heap[ρ.S.loc i]? = w.heap[ρ.S.loc i]?)
  (hf:∀c,foot' c↔(ρ.foot c∨c=b)) (hb:w'.heap[b]? = some (.cells vs e (0,0))) (hvs:vs.size=k*sz) (hcl:cs.length≤vs.size) (hone:∀(j:Nat) (d:D),cs[j]? = some d→d.one=true)
  (hr:∀(j:Nat) (v:Value) (d:D),vs[j]? = some v→cs[j]? = some d→RdD w ρ.S v d) (hS:∀off,¬ρ.S b off):StOk w' (ρ.S.more b k) foot' (bs2++[.blk e sz cs]):=by
 refine stOk_moreG hst hK hl2 hold hf (fun e' sz' cs' hz=>?_) (fun kvs hz=>by cases hz) hS
 cases hz
 exact⟨vs,.of hb,hvs,hcl,hone,hr⟩

theorem Rep.newStoreG (h:Rep w0 X w a σ env ρ) {cf:StCfg} {x x':E} (hob:σ.obj HID=some (.store cf x)) (hro:cf.ro=false) {bs:List D} (hbe:x.eval env=some (.st bs)) {ob:Obj} {k:Nat} {l:Loop×Code} {z:D}
  (hz1:∀e sz cs,z=.blk e sz cs→∃vs:Array Value,ob=.cells vs e (0,0)∧vs.size=k*sz∧cs.length≤vs.size∧(∀(j:Nat) (d:D),cs[j]? = some d→d.one=true)∧∀(j:Nat) (v:Value) (d:D),vs[j]? = some v→cs[j]? = some d→RdD w ρ.S v d)
  (hz2:∀kvs,z=.mblk kvs→∃(es:Array MapEntry) (clock:Nat),ob=.map es clock∧MapSzL es clock kvs∧∀(j:Nat) (e:MapEntry) (kv:D),es[j]? = some e→(D.kept kvs)[j]? = some kv→∃dk dv,kv=.tup [dk,dv]∧RdD w ρ.S e.key dk∧RdD w ρ.S e.val dv)
  (hx':x'.eval env=some (.st (bs++[z]))) (hz3:z.isIt=true→ItOk (ρ.S.more w.heap.size k l) ρ.S.n (some ob) z:=by intro hz;cases hz) :
  Rep w0 X (w.alloc ob) a (σ.setObj HID (some (.store cf x'))) env { ρ with S:=ρ.S.more w.heap.size k l,foot:=fun c=>ρ.foot c∨c=w.heap.size }∧ρ.S.n=bs.length:=by
 obtain⟨bs0,hb0,hst,_⟩:=h.objs _ _ hob
 rw[hbe] at hb0
 cases hb0
 have hK:Keeps ρ.S w (w.alloc ob):=Keeps.alloc h.cells _
 have hfl:∀b,ρ.foot b→b<w.heap.size:=foot_lt h hob
 refine⟨h.setStore hob hro hx' (stOk_moreG hst hK rfl (fun i x hi hx=>?_) (fun _=>Iff.rfl) (fun e sz cs hz=>?_) (fun kvs hz=>?_) (fun off hs=>?_) fun hz=>?_) hK (ρ.S.le_more _ _ _) rfl ⟨rfl,Nat.le_refl _⟩ rfl (by simp) (fun b hb _=>heapOld w _ b hb) (fun b hb=>?_) (fun b o hs=>.inl hs) (fun b o hs=>?_),hst.n⟩
 ·have:=hfl _ (hst.live_foot hi hx)
  exact⟨hi,Nat.ne_of_lt this,heapOld w _ _ this⟩
 ·obtain⟨vs,rfl,g⟩:=hz1 e sz cs hz
  exact⟨vs,.of (heap_alloc_new w _),g⟩
 ·obtain⟨es,clock,rfl,g⟩:=hz2 kvs hz
  exact⟨es,clock,heap_alloc_new w _,g⟩
 ·have:=h.cells _ off hs;omega
 ·rw[heap_alloc_new w]
  exact hz3 hz
 ·rcases hb with hb | rfl
  ·exact⟨.inl hb,by have:=hfl b hb;simp;omega⟩
  ·exact⟨.inr (Nat.le_refl _),by simp⟩
 ·have:=h.cells b o hs;simp;omega

theorem Rep.newStore (h:Rep w0 X w a σ env ρ) {cf:StCfg} {x x':E} (hob:σ.obj HID=some (.store cf x)) (hro:cf.ro=false) {bs:List D} (hbe:x.eval env=some (.st bs)) {vs:Array Value} {e:TypeId} {sz k:Nat} {cs:List D} (hvs:vs.size=k*sz) (hcl:cs.length≤vs.size) (hone:∀(j:Nat) (d:D),cs[j]? = some d→d.one=true)
  (hr:∀(j:Nat) (v:Value) (d:D),vs[j]? = some v→cs[j]? = some d→RdD w ρ.S v d) (hx':x'.eval env=some (.st (bs++[.blk e sz cs]))) :
  Rep w0 X (w.alloc (.cells vs e)) a (σ.setObj HID (some (.store cf x'))) env { ρ with S:=ρ.S.more w.heap.size k,foot:=fun c=>ρ.foot c∨c=w.heap.size }∧ρ.S.n=bs.length:=by
 refine h.newStoreG hob hro hbe (fun e' sz' cs' hz=>?_) (fun kvs hz=>by cases hz) hx'
 cases hz
 exact⟨vs,rfl,hvs,hcl,hone,hr⟩

theorem cellsL_len {size:Nat}:∀{es:List D},allCells size es=true→(cellsL es).length=es.length*size
 | [],_=>by simp[cellsL]
 | e :: es,h=>by
  simp only[allCells,List.all_cons,Bool.and_eq_true,beq_iff_eq] at h
  have ih:=cellsL_len (es:=es) (size:=size) (by simpa[allCells] using h.2)
  simp only[cellsL,List.flatMap_cons,List.length_append,List.length_cons] at ih ⊢
  rw[ih,h.1,Nat.add_mul,Nat.one_mul,Nat.add_comm]

theorem cellsL_get {size:Nat}(hs:0<size):∀{es:List D},allCells size es=true→∀{j:Nat} {d:D},(cellsL es)[j]? = some d→∃e,es[j / size]? = some e∧e.cells[j % size]? = some d
 | [],_,j,d,h=>by simp[cellsL] at h
 | e :: es,h,j,d,hj=>by
  simp only[allCells,List.all_cons,Bool.and_eq_true,beq_iff_eq] at h
  simp only[cellsL,List.flatMap_cons] at hj
  rcases Nat.lt_or_ge j size with hlt | hge
  ·rw[List.getElem?_append_left (by omega)] at hj
   exact⟨e,by rw[Nat.div_eq_of_lt hlt];rfl,by rw[Nat.mod_eq_of_lt hlt];exact hj⟩
  ·rw[List.getElem?_append_right (by omega),h.1] at hj
   obtain⟨e',h1,h2⟩:=cellsL_get hs (es:=es) (by simpa[allCells] using h.2) hj
   have hd:j / size=(j-size) / size+1:=by
    rw[Nat.div_eq_sub_div hs hge]
   have hm:j % size=(j-size) % size:=by rw[Nat.mod_eq_sub_mod hge]
   exact⟨e',by rw[hd];simpa using h1,by rw[hm];exact h2⟩

theorem RowRd.flat {S:Sets}{size:Nat}{xs:List Value}{es:List D}(hs:0<size)(h:RowRd w S size xs es):allCells size es=true∧(cellsL es).length=xs.length∧∀(j:Nat) (v:Value) (d:D),xs[j]? = some v→(cellsL es)[j]? = some d→RdD w S v d∧d.one=true:=by
 obtain⟨h1,h2,h3⟩:=h
 have hall:allCells size es=true:=by
  unfold allCells
  rw[List.all_eq_true]
  intro e he
  obtain⟨i,hi⟩:=List.getElem?_of_mem he
  simpa using h2 i e hi
 refine⟨hall,by rw[cellsL_len hall,h1],fun j v d hv hd=>?_⟩
 obtain⟨e,he,hd'⟩:=cellsL_get hs hall hd
 obtain⟨g1,u,g2,g3⟩:=h3 _ e _ d he hd'
 have hdm:j / size*size+j % size=j:=by rw[Nat.mul_comm];exact Nat.div_add_mod j size
 rw[hdm,hv] at g2
 cases g2
 exact⟨g3,g1⟩

theorem fstid_rd {w':World}{k:Nat}{hx:E}{bs:List D}{foot':Nat→Prop}(hbe:hx.eval env=some (.st bs))(hn:ρ.S.n=bs.length):SRd w' { ρ with S:=ρ.S.more w.heap.size k,foot:=foot' } env (.pointer (some ⟨w.heap.size,0,none⟩)) (.e (.fstid hx) true):=by
 refine .e (d:=.loc bs.length 0) (by simp only[E.eval,hbe];rfl) ?_ fun _=>rfl
 have:=RdD.loc (w:=w') (S:=ρ.S.more w.heap.size k) (i:=bs.length) (off:=0) (by simp[Sets.more,hn])
 have hl:(ρ.S.more w.heap.size k).loc bs.length=w.heap.size:=by simp[Sets.more,hn]
 rwa [hl] at this

theorem fstsl_rd {w':World}{hx y:E}{bs:List D}{es:List D}{foot':Nat→Prop}(hbe:hx.eval env=some (.st bs))(hye:y.eval env=some (.lst es))(hm:es.length≤maxLen)(hn:ρ.S.n=bs.length):SRd w' { ρ with S:=ρ.S.more w.heap.size es.length,foot:=foot' } env (.slice (some ⟨w.heap.size,0,none⟩) es.length es.length) (.e (.fstsl hx y) true):=by
 refine .e (d:=.sl bs.length 0 es.length) (by simp only[E.eval,hbe,hye];rfl) ?_ fun _=>rfl
 have:=RdD.sl (w:=w') (S:=ρ.S.more w.heap.size es.length) (i:=bs.length) (off:=0) (len:=es.length) (c:=es.length) (by simp[Sets.more,hn]) (Nat.le_refl _) hm (fun _=>by simp[Sets.more,hn])
 have hl:(ρ.S.more w.heap.size es.length).loc bs.length=w.heap.size:=by simp[Sets.more,hn]
 rwa [hl] at this

theorem llit_run {o:Oper}{t:TypeId}{len:Nat}{parts:Array (Nat×Operand)}{opv:Operand→SV}{ix dd:Nat}{r:LRes}{y:E}{dl:D}(ho:o.op=.buildSlice t len parts)(hv:∀x,SRd w ρ env (a.eval x) (opv x))(hl:llit P t len parts.toList opv (some dd) ix=some r)(hy:r.bind=some (.ev y))(hyv:y.eval env=some dl) :
  ∃(e:TypeId) (i:TypeInfo) (es:List D) (vs:Array Value),P.underlying t=some (.slice e)∧P.info? e=some i∧dl=.lst es∧(execOp a.eval o).run P w=.ok (.value (.slice (some ⟨w.heap.size,0,none⟩) es.length es.length)) (w.alloc (.cells vs e))∧vs.size=es.length*i.size∧es.length≤maxLen∧RowRd w ρ.S i.size vs.toList es:=by
 unfold llit at hl
 split at hl
 ·rename_i d e hdst hu
  split at hl
  ·rename_i i agg y' hi hag hy'
   split at hl
   ·rename_i hc
    cases hl
    cases hy
    obtain⟨hidx,hpos,hsmall,hagg,hzero⟩:=hc
    have hsz:szT P e=some i.size:=by simp[szT,hi]
    rw[hag,hsz] at hy'
    simp only[Option.getD_some] at hy'
    obtain⟨z,hz⟩:=Option.isSome_iff_exists.1 hzero
    obtain⟨r,ds,rfl,hdl2,hrunx,hrs,hml,hrow⟩:=lit_run ho hv hu hi hy' hidx hpos hsmall hagg hz hyv
    subst hdl2
    exact⟨e,i,ds,r,hu,hi,rfl,hrunx,hrs,hml,hrow⟩
   ·cases hl
  ·cases hl
 ·cases hl

theorem lmake_run {o:Oper}{t:TypeId}{n c:Operand}{sn sc:SV}{ix dd:Nat}{r:LRes}{y:E}{dl:D}{nz:Bool}(ho:o.op=.makeSlice t n c)(hl:lmake nz P t sn sc (some dd) ix=some r)(hn:SRd w ρ env (a.eval n) sn)(hc:SRd w ρ env (a.eval c) sc)(hy:r.bind=some (.ev y))(hyv:y.eval env=some dl) :
  ∃(e:TypeId) (i:TypeInfo) (es:List D) (vs:Array Value),P.underlying t=some (.slice e)∧P.info? e=some i∧dl=.lst es∧(execOp a.eval o).run P w=.ok (.value (.slice (some ⟨w.heap.size,0,none⟩) es.length es.length)) (w.alloc (.cells vs e))∧vs.size=es.length*i.size∧es.length≤maxLen∧RowRd w ρ.S i.size vs.toList es:=by
 unfold lmake at hl
 split at hl
 ·rename_i d e n' c' hdst hu hn' hc'
  split at hl
  ·rename_i i hi
   obtain⟨z,hz,hl⟩:=Option.bind_eq_some_iff.1 hl
   obtain⟨dz,hdz,hl⟩:=Option.bind_eq_some_iff.1 hl
   split at hl
   ·rename_i hcond
    cases hl
    cases hy
    obtain⟨hsame,hlen,htup⟩:=hcond
    obtain⟨dn,hdn,hrn⟩:=SV.toE_rd hn' hn
    obtain⟨dc,hdc,hrc⟩:=SV.toE_rd hc' hc
    rw[←E.same_eq hsame,hdn] at hdc
    cases hdc
    simp only[E.eval,hdn,Option.bind_some] at hyv
    unfold D.rep at hyv
    split at hyv
    ·rename_i k
     split at hyv
     ·rename_i hk
      obtain⟨hk0,hkb,hkm⟩:=hk
      cases hyv
      have hzr:RdD w ρ.S z dz:=D.ofValZ_rd hdz
      obtain⟨hzl,hzc⟩:=hzr.cellAt htup
      rw[hlen] at hzl
      have hk63:k≤9223372036854775807:=by
       have h9:k.toNat≤9223372036854775807:=hkm
       omega
      have hbytes:(i.bytes:Int)*k≤281474976710656:=by
       have h1:((k.toNat*i.bytes:Nat):Int)≤140737488355328:=by
        generalize k.toNat*i.bytes=q at hkb ⊢
        omega
       rw[Int.natCast_mul,Int.toNat_of_nonneg hk0,Int.mul_comm] at h1
       omega
      have hrun:(execOp a.eval o).run P w=.ok (.value (.slice (some ⟨w.heap.size,0,none⟩) k.toNat k.toNat)) (w.alloc (.cells (madeCells z.cells (k.toNat*i.size)) e)):=by
       unfold execOp
       simp only[ho,hrn.v_eq,hrc.v_eq,Sem.run_bind,run_make w t e i z hu hi hz .i64 .i64 k k hk0 (Int.le_refl _) hbytes hk63,Result.andThen_ok,Sem.run_pure]
      have hrepl:∀(m:Nat) (x:D),(List.replicate k.toNat dz)[m]? = some x→x=dz∧m<k.toNat:=by
       intro m x hx
       rw[List.getElem?_replicate] at hx
       split at hx
       ·cases hx;exact⟨rfl,by assumption⟩
       ·cases hx
      refine⟨e,i,List.replicate k.toNat dz,madeCells z.cells (k.toNat*i.size),hu,hi,rfl,by simpa using hrun,by simp[size_madeCells],by simpa using hkm,by simp[size_madeCells],fun m x hx=>by rw[(hrepl m x hx).1];exact hlen,fun m x j y hx hy=>?_⟩
      obtain⟨rfl,hmk⟩:=hrepl m x hx
      obtain⟨h1,u,h2,h3⟩:=hzc j y hy
      have hj:j<i.size:=by rw[←hlen];exact(List.getElem?_eq_some_iff.1 hy).1
      refine⟨h1,u,?_,h3⟩
      have hlt:m*i.size+j<k.toNat*i.size:=by
       have:(m+1)*i.size≤k.toNat*i.size:=Nat.mul_le_mul_right _ hmk
       rw[Nat.add_mul,Nat.one_mul] at this
       omega
      have hmod:(m*i.size+j) % i.size=j:=by rw[Nat.mul_comm,Nat.mul_add_mod,Nat.mod_eq_of_lt hj]
      have hjz:j<z.cells.size:=by rw[hzl];exact hj
      have hu':u=z.cells[j]:=by rw[Array.getElem?_eq_getElem hjz] at h2;exact(Option.some.inj h2).symm
      rw[Array.getElem?_toList]
      simp only[madeCells,Array.getElem?_map,Array.getElem?_range,hlt,if_true,Option.map_some,hzl,hmod,Option.some.injEq]
      rw[hu']
      exact getElem!_pos z.cells j hjz
     ·cases hyv
    ·cases hyv
   ·cases hl
  ·cases hl
 ·cases hl

theorem asL_cnt {h:D}{sz:Nat}{y:D}{ys:List D}(ha:D.asL h sz y=some ys):D.cnt y=some ys.length:=by
 unfold D.asL at ha
 split at ha
 ·cases ha;rfl
 ·cases ha;rfl
 ·split at ha
  ·rename_i hm
   subst hm
   cases ha;rfl
  ·obtain⟨b,_,ha⟩:=Option.bind_eq_some_iff.1 ha
   split at ha
   ·cases ha
    simp[D.cnt,chunks_len]
   ·cases ha
 ·cases ha

theorem apph_none {o:Oper} {t e:TypeId} {s x:Operand} {i:TypeInfo} {cf:StCfg} {hx s' x':E} {ix n cap:Nat} {ad:Option Addr} {bs:List D} {ds:D} (ho:o.op=.call { callee:=.builtin .append,args:=#[s,x],argTypes:=#[t,t] }) (hu:P.underlying t=some (.slice e)) (hi:P.info? e=some i)
  (hob:σ.obj HID=some (.store cf hx)) (hro:cf.ro=false) (hbe:hx.eval env=some (.st bs)) (hxv:a.eval x=.slice none 0 0∨∃ad c,a.eval x=.slice (some ad) 0 c) (hsv:a.eval s=.slice ad n cap) (hcap:n≤cap) (hrs:RdD w ρ.S (a.eval s) ds) (hone:ds.one=true)
  (hix:env[ix]? = some (.st bs)) (hval:(E.apps hx s' x').eval env=some ds) (h:Rep w0 X w a σ env ρ) (hd:∀d,o.dst=some d→d<σ.tmps.length) :
  OpOk P o a w w0 X ((σ.setObj HID (some (.store cf (.sym ix)))).put o.dst (.e (.apps hx s' x') true)) env:=by
 obtain⟨bs0,hb0,hst,_⟩:=h.objs _ _ hob
 rw[hbe] at hb0
 cases hb0
 have hrep:=h.setStore (x':=.sym ix) hob hro (by simpa[E.eval] using hix) hst (Keeps.refl _ _) (Sets.le_refl _) rfl ⟨rfl,Nat.le_refl _⟩ rfl (Nat.le_refl _) (fun _ _ _=>rfl) (fun b hb=>⟨.inl hb,foot_lt h hob b hb⟩) (fun b o hs=>.inl hs) h.cells
 have hrun:(Builtin.append_ #[t,t] o.type #[a.eval s,a.eval x]).run P w=.ok (a.eval s) w:=by
  rcases hxv with hvx | ⟨ad2,c,hvx⟩
  ·rw[hvx,hsv]
   exact run_append_none w t o.type e i hu hi ad n cap hcap
  ·rw[hvx,hsv]
   exact run_append_zero w t o.type e i hu hi ad n cap hcap ad2 c
 refine opOk_value (v:=a.eval s) ?_ (hrep.put (by intro d e;rw[SState.tmps_setObj];exact hd d e) (.e hval hrs fun _=>hone))
 unfold execOp
 simp only[ho,resolve,invoke,builtin,Sem.run_bind,Sem.run_pure,Result.andThen_ok,List.map_toArray,List.map_cons,List.map_nil,hrun]

theorem append_fin {o:Oper} {e:TypeId} {i:TypeInfo} {cf:StCfg} {hx vE:E} {vs:Value} {ix m' n:Nat} {bs bs2:List D} {ys cs:List D} {xs news:List Value} {v':Value} {w':World} (hpos:0<i.size)
  (hob:σ.obj HID=some (.store cf hx)) (hro:cf.ro=false) (hbe:hx.eval env=some (.st bs)) (hne:ys≠[]) (hym':ys.length=m') (hone1:(cellsL ys).all (·.one)=true) (hone0:∀(j:Nat) (d:D),cs[j]? = some d→d.one=true)
  (hown:w.ownsRow 0 e i.size vs n xs) (hcl:cs.length=n*i.size) (hxr:∀(j:Nat) (v:Value) (d:D),xs[j]? = some v→cs[j]? = some d→RdD w ρ.S v d)
  (hl2:bs2.length=bs.length) (hown2:∀b,vs.ownBlock=some b→ρ.foot b∧(∀off,¬ρ.S b off)∧∀(j:Nat) (x:D),bs2[j]? = some x→x.live=true→ρ.S.loc j≠b) (hold:∀(j:Nat) (x:D),bs2[j]? = some x→x.live=true→bs[j]? = some x)
  (hix:env[ix]? = some (.st (bs2++[.blk e i.size (cs++cellsL ys)]))) (hval:vE.eval env=some (.sl bs.length 0 (n+m'))) (h:Rep w0 X w a σ env ρ) (hd:∀d,o.dst=some d→d<σ.tmps.length)
  (hrun:(execOp a.eval o).run P w=.ok (.value v') w') (hown':w'.ownsRow 0 e i.size v' (n+m') (xs++news)) (hcase:(v'.ownBlock=vs.ownBlock∧GBy w w' vs.ownBlock)∨(v'.ownBlock=some w.heap.size∧GBy w w' none))
  (hnl:news.length=m'*i.size) (hfl':(cellsL ys).length=news.length) (hfr:∀(j:Nat) (v:Value) (d:D),news[j]? = some v→(cellsL ys)[j]? = some d→RdD w ρ.S v d∧d.one=true) :
  OpOk P o a w w0 X ((σ.setObj HID (some (.store cf (.sym ix)))).put o.dst (.e vE true)) env:=by
 obtain⟨bs0,hb0,hst,_⟩:=h.objs _ _ hob
 rw[hbe] at hb0
 cases hb0
 have hfl:=foot_lt h hob
 have hmpos:0<m':=by
  rw[←hym']
  exact List.length_pos_iff.2 hne
 rcases hown'.2 with⟨_,h0⟩ | ⟨g,cap,cur,rfl,_,hg,hnc,hcm,hcs,htake⟩
 ·omega
 have hK:Keeps ρ.S w w':=by
  intro b off hS
  refine World.cell?_of_block (a:=⟨b,off,none⟩) ?_
  rcases hcase with⟨hv',hgr⟩ | ⟨_,hgr⟩
  ·refine hgr.block b (h.cells b off hS) fun he=>?_
   exact(hown2 b he.symm).2.1 off hS
  ·exact hgr.block b (h.cells b off hS) (by simp)
 have hmeta:w'.os=w.os∧TL w' w∧w'.output=w.output∧w.heap.size≤w'.heap.size:=by
  rcases hcase with⟨_,hgr⟩ | ⟨_,hgr⟩ <;> exact⟨hgr.os,hgr.tape,hgr.output,hgr.size⟩
 have hgb:(ρ.foot g∨g=w.heap.size)∧(∀off,¬ρ.S g off)∧(∀(j:Nat) (x:D),bs2[j]? = some x→x.live=true→ρ.S.loc j≠g)∧g<w'.heap.size:=by
  have hglt:g<w'.heap.size:=(Array.getElem?_eq_some_iff.1 hg).1
  rcases hcase with⟨hv',hgr⟩ | ⟨hv',hgr⟩
  ·obtain⟨g1,g2,g3⟩:=hown2 g hv'.symm
   exact⟨.inl g1,g2,g3,hglt⟩
  ·have hge:g=w.heap.size:=by simpa[Value.ownBlock] using hv'
   refine⟨.inr hge,fun off hs=>?_,fun j x hj hx hl=>?_,hglt⟩
   ·have:=h.cells g off hs;omega
   ·have:=hfl _ (hst.live_foot (hold j _ hj hx) hx);omega
 have hother:∀b,b<w.heap.size→b≠g→w'.heap[b]? = w.heap[b]?:=by
  intro b hb hne'
  rcases hcase with⟨hv',hgr⟩ | ⟨_,hgr⟩
  ·refine hgr.block b hb fun he=>?_
   have:some b=some g:=by rw[he,←hv'];rfl
   cases this
   exact hne' rfl
  ·exact hgr.block b hb (by simp)
 have hxl:xs.length=n*i.size:=hown.1
 have hcurget:∀(j:Nat) (v:Value),cur[j]? = some v→j<(n+m')*i.size→(xs++news)[j]? = some v:=by
  intro j v hj hlt
  rw[←htake,List.getElem?_take,if_pos hlt]
  simpa using hj
 have hnst:StOk w' (ρ.S.more g cap) (fun b=>ρ.foot b∨b=g) (bs2++[.blk e i.size (cs++cellsL ys)]):=by
  refine stOk_more hst hK hl2 (fun j x hj hx=>?_) (fun _=>Iff.rfl) hg hcs ?_ (fun j d hj=>?_) (fun j v d hv hdd=>?_) hgb.2.1
  ·have hj':=hold j _ hj hx
   have:=hgb.2.2.1 j _ hj hx
   exact⟨hj',this,hother _ (hfl _ (hst.live_foot hj' hx)) this⟩
  ·rw[List.length_append,hcl,hfl',hnl,hcs,←Nat.add_mul]
   exact Nat.mul_le_mul_right _ hnc
  ·rw[List.getElem?_append] at hj
   split at hj
   ·exact hone0 j d hj
   ·exact List.all_eq_true.1 hone1 d (List.mem_of_getElem? hj)
  ·have hjl:j<(n+m')*i.size:=by
    have:=(List.getElem?_eq_some_iff.1 hdd).1
    rw[List.length_append,hcl,hfl',hnl,←Nat.add_mul] at this
    exact this
   have hxn:=hcurget j v hv hjl
   rw[List.getElem?_append] at hdd hxn
   split at hdd
   ·rename_i hlt
    rw[if_pos (by omega)] at hxn
    exact hxr j v d hxn hdd
   ·rename_i hlt
    rw[if_neg (by omega),hxl] at hxn
    rw[hcl] at hdd
    exact(hfr _ v d hxn hdd).1
 have hrep:=h.setStore (x':=.sym ix) hob hro (by simp only[E.eval];exact hix) hnst hK (ρ.S.le_more g cap) hmeta.1 hmeta.2.1 hmeta.2.2.1 hmeta.2.2.2 (fun b hb hnf=>hother b hb fun e'=>?_) (fun b hb=>?_) (fun b off hs=>.inl hs) (fun b off hs=>Nat.lt_of_lt_of_le (h.cells b off hs) hmeta.2.2.2)
 ·refine opOk_value (v:=.slice (some ⟨g,0,none⟩) (n+m') cap) ?_ (hrep.put (by rw[SState.tmps_setObj];exact hd) (.e (d:=.sl bs.length 0 (n+m')) hval ?_ fun _=>rfl))
  ·exact hrun
  ·have:=RdD.sl (w:=w') (S:=ρ.S.more g cap) (i:=bs.length) (off:=0) (len:=n+m') (c:=cap) (by simp[Sets.more,hst.n]) hnc hcm (fun _=>by simp[Sets.more,hst.n])
   have hl:(ρ.S.more g cap).loc bs.length=g:=by simp[Sets.more,hst.n]
   rwa [hl] at this
 ·subst e'
  rcases hgb.1 with h1 | h1
  ·exact hnf h1
  ·omega
 ·rcases hb with hb | rfl
  ·exact⟨.inl hb,Nat.lt_of_lt_of_le (hfl b hb) hmeta.2.2.2⟩
  ·refine⟨?_,hgb.2.2.2⟩
   rcases hgb.1 with h1 | h1
   ·exact .inl h1
   ·exact .inr (by omega)

theorem apph_fin {o:Oper} {t e:TypeId} {s x:Operand} {i:TypeInfo} {z:Value} {cf:StCfg} {hx s' x':E} {ix m n:Nat} {bs bs2:List D} {ys cs:List D} {xs:List Value} (ho:o.op=.call { callee:=.builtin .append,args:=#[s,x],argTypes:=#[t,t] }) (hu:P.underlying t=some (.slice e)) (hi:P.info? e=some i) (hz:i.zero=some z) (hzs:z.cells.size=i.size) (hpos:0<i.size)
  (hob:σ.obj HID=some (.store cf hx)) (hro:cf.ro=false) (hbe:hx.eval env=some (.st bs)) {dy:D} (hrx:RdD w ρ.S (a.eval x) dy) (hasl:D.asL (.st bs) i.size dy=some ys) (hne:ys≠[]) (hym:ys.length=m) (hall:allCells i.size ys=true) (hone1:(cellsL ys).all (·.one)=true) (hone0:∀(j:Nat) (d:D),cs[j]? = some d→d.one=true)
  (hown:w.ownsRow 0 e i.size (a.eval s) n xs) (hcl:cs.length=n*i.size) (hxr:∀(j:Nat) (v:Value) (d:D),xs[j]? = some v→cs[j]? = some d→RdD w ρ.S v d) (hml:n+m≤maxLen) (hby:(n+m)*i.bytes≤140737488355328)
  (hl2:bs2.length=bs.length) (hown2:∀b,(a.eval s).ownBlock=some b→ρ.foot b∧(∀off,¬ρ.S b off)∧∀(j:Nat) (x:D),bs2[j]? = some x→x.live=true→ρ.S.loc j≠b) (hold:∀(j:Nat) (x:D),bs2[j]? = some x→x.live=true→bs[j]? = some x)
  (hix:env[ix]? = some (.st (bs2++[.blk e i.size (cs++cellsL ys)]))) (hval:(E.apps hx s' x').eval env=some (.sl bs.length 0 (n+m))) (h:Rep w0 X w a σ env ρ) (hd:∀d,o.dst=some d→d<σ.tmps.length) :
  OpOk P o a w w0 X ((σ.setObj HID (some (.store cf (.sym ix)))).put o.dst (.e (.apps hx s' x') true)) env:=by
 obtain⟨bs0,hb0,hst,_⟩:=h.objs _ _ hob
 rw[hbe] at hb0
 cases hb0
 have hfl:=foot_lt h hob
 rcases news_asL hst hrx hasl hall with⟨h1,_⟩ | ⟨ad,m',c,news,hvx,hym',hnl,hcells,hone,hnrow⟩
 ·exact absurd h1 hne
 ·obtain rfl:m'=m:=by omega
  obtain⟨v',w',hrun,hown',hcase⟩:=run_append_cases (P:=P) w t o.type e i z i.size i.bytes hu hi hz rfl rfl hzs hpos (a.eval s) n xs hown ad m' c news hnl hcells hone hml hby
  rw[←hvx] at hrun
  have hex:(execOp a.eval o).run P w=.ok (.value v') w':=by
   unfold execOp
   simp only[ho,resolve,invoke,builtin,Sem.run_bind,Sem.run_pure,Result.andThen_ok,List.map_toArray,List.map_cons,List.map_nil,hrun]
  obtain⟨hall',hfl',hfr⟩:=hnrow.flat hpos
  exact append_fin hpos hob hro hbe hne hym' hone1 hone0 hown hcl hxr hl2 hown2 hold hix hval h hd hex hown' hcase hnl hfl' hfr

theorem lpub_sound {o:Oper}{opv:Operand→SV}{ix:Nat}{r:LRes}(hv:∀x,SRd w ρ env (a.eval x) (opv x))(hl:lpub P o opv σ.obj ix=some r)(h:Rep w0 X w a σ env ρ)(hd:∀d,o.dst=some d→d<σ.tmps.length)(hb:BindOk P env ix r.bind) :
  (r.upd=none∧OpOk P o a w w0 X (σ.put o.dst r.val) env)∨∃z,r.upd=some (HID,z)∧OpOk P o a w w0 X ((σ.setObj HID (some z)).put o.dst r.val) env:=by
 unfold lpub at hl
 split at hl
 case isFalse=>cases hl
 unfold lpubC at hl
 split at hl
 ·rename_i cf hx dd hob hdst
  obtain⟨bs,hbe,hst,_⟩:=h.objs _ _ hob
  split at hl
  ·cases hl
  rename_i hro
  have hro:cf.ro=false:=by simpa using hro
  split at hl
  ·rename_i t ho
   split at hl
   ·split at hl
    ·rename_i z hz
     split at hl
     ·rename_i ds hds
      cases hl
      obtain⟨d,he,hix⟩:=hb
      simp only[E.eval,hbe,Option.bind_some,D.newb] at he
      split at he
      ·rename_i hone
       cases he
       obtain⟨g1,g2⟩:=D.ofCells_rd (w:=w) (S:=ρ.S) hds
       have g1':z.cells.size=ds.length:=by simpa using g1
       have hrun:(execOp a.eval o).run P w=.ok (.value (.pointer (some ⟨w.heap.size,0,none⟩))) (w.alloc (.cells z.cells t)):=by
        unfold execOp
        simp only[ho,Instr.alloc,Sem.run_bind,run_zeroValue hz,Result.andThen_ok,newVar,newRow,Sem.run_pure,run_newObj]
        rfl
       have hz1:∀(j:Nat) (d:D),ds[j]? = some d→d.one=true:=fun j d hj=>List.all_eq_true.1 hone d (List.mem_of_getElem? hj)
       obtain⟨hrep,hn⟩:=h.newStore (k:=1) (sz:=z.cells.size) (cs:=ds) (vs:=z.cells) (e:=t) (x':=.sym ix) hob hro hbe (by simp) (by omega) hz1 (fun j v d hj hd'=>(g2 j v d (by simpa using hj) hd').1) (by simp only[E.eval];exact hix)
       exact .inr ⟨_,rfl,opOk_value hrun (hrep.put (by rw[SState.tmps_setObj];exact hd) (fstid_rd hbe hn))⟩
      ·cases he
     ·cases hl
    ·cases hl
   ·cases hl
  ·rename_i t x ho
   split at hl
   ·split at hl
    ·rename_i agg n x' hg hn0 hxe
     split at hl
     ·rename_i hag
      cases hl
      obtain⟨dx,hdx,hrx⟩:=SV.toE_rd hxe (hv x)
      obtain⟨d,he,hix⟩:=hb
      simp only[E.eval,hbe,Option.bind_some,Option.bind_eq_some_iff] at he
      obtain⟨dc,hdc,he⟩:=he
      obtain⟨cs,rfl,h1,h1a,h1b,h2,h3,h4⟩:=cellsE_rd hdx hrx hdc
      simp only[D.newb] at he
      split at he
      ·rename_i hone
       cases he
       have hcn:cs.length=n:=by
        cases agg with
        | true=>exact h1a rfl
        | false=>rw[h1b rfl];exact(hag.resolve_left (by simp)).symm
       have hrun:(execOp a.eval o).run P w=.ok (.value (.pointer (some ⟨w.heap.size,0,none⟩))) (w.alloc (.cells (a.eval x).cells t)):=by
        unfold execOp
        simp only[ho,Instr.box,Sem.run_bind,Result.andThen_ok,newVar,newRow,Sem.run_pure,run_newObj]
        rfl
       obtain⟨hrep,hn⟩:=h.newStore (k:=1) (sz:=n) (cs:=cs) (vs:=(a.eval x).cells) (e:=t) (x':=.sym ix) hob hro hbe (by omega) (by omega) h3 h4 (by simp only[E.eval];exact hix)
       exact .inr ⟨_,rfl,opOk_value hrun (hrep.put (by rw[SState.tmps_setObj];exact hd) (fstid_rd hbe hn))⟩
      ·cases he
     ·cases hl
    ·cases hl
   ·cases hl
  ·rename_i t n c ho
   split at hl
   ·split at hl
    ·rename_i v0 u0 y e hlm hu
     split at hl
     ·rename_i i hi
      split at hl
      ·rename_i hpos
       cases hl
       obtain⟨d,he,hix⟩:=hb
       simp only[E.eval,hbe,Option.bind_some,Option.bind_eq_some_iff] at he
       obtain⟨dl,hdl,he⟩:=he
       obtain⟨e',i',es,vs,hu',hi',rfl,hrun,hvs,hml,hrow⟩:=lmake_run (ρ:=ρ) (env:=env) ho hlm (hv n) (hv c) rfl hdl
       rw[hu] at hu'
       cases hu'
       rw[hi] at hi'
       cases hi'
       obtain⟨hall,hfl,hfr⟩:=hrow.flat hpos
       simp only[D.newv] at he
       split at he
       ·cases he
        rename_i hall2
        have hone:∀(j:Nat) (d:D),(cellsL es)[j]? = some d→d.one=true:=fun j d hj=>List.all_eq_true.1 hall2.2 d (List.mem_of_getElem? hj)
        obtain⟨hrep,hn⟩:=h.newStore (k:=es.length) (sz:=i.size) (cs:=cellsL es) (vs:=vs) (e:=e) (x':=.sym ix) hob hro hbe hvs (by rw[hfl];simp) hone (fun j v d hj hd'=>(hfr j v d (by simpa using hj) hd').1) (by simp only[E.eval];exact hix)
        exact .inr ⟨_,rfl,opOk_value hrun (hrep.put (by rw[SState.tmps_setObj];exact hd) (fstsl_rd hbe hdl hml hn))⟩
       ·cases he
      ·cases hl
     ·cases hl
    ·cases hl
   ·cases hl
  ·rename_i t len parts ho
   split at hl
   ·split at hl
    ·rename_i v0 u0 y e hlm hu
     split at hl
     ·rename_i i hi
      split at hl
      ·rename_i hpos
       cases hl
       obtain⟨d,he,hix⟩:=hb
       simp only[E.eval,hbe,Option.bind_some,Option.bind_eq_some_iff] at he
       obtain⟨dl,hdl,he⟩:=he
       obtain⟨e',i',es,vs,hu',hi',rfl,hrun,hvs,hml,hrow⟩:=llit_run (ρ:=ρ) (env:=env) ho hv hlm rfl hdl
       rw[hu] at hu'
       cases hu'
       rw[hi] at hi'
       cases hi'
       obtain⟨hall,hfl,hfr⟩:=hrow.flat hpos
       simp only[D.newv] at he
       split at he
       ·cases he
        rename_i hall2
        have hone:∀(j:Nat) (d:D),(cellsL es)[j]? = some d→d.one=true:=fun j d hj=>List.all_eq_true.1 hall2.2 d (List.mem_of_getElem? hj)
        obtain⟨hrep,hn⟩:=h.newStore (k:=es.length) (sz:=i.size) (cs:=cellsL es) (vs:=vs) (e:=e) (x':=.sym ix) hob hro hbe hvs (by rw[hfl];simp) hone (fun j v d hj hd'=>(hfr j v d (by simpa using hj) hd').1) (by simp only[E.eval];exact hix)
        exact .inr ⟨_,rfl,opOk_value hrun (hrep.put (by rw[SState.tmps_setObj];exact hd) (fstsl_rd hbe hdl hml hn))⟩
       ·cases he
      ·cases hl
     ·cases hl
    ·cases hl
   ·cases hl
  ·rename_i x ho
   split at hl
   ·split at hl
    ·cases hl
     exact .inl ⟨rfl,opOk_same h hd (v:=.slice none 0 0) (by unfold execOp;simp only[ho];rfl) (.e rfl .snil fun _=>rfl)⟩
    ·cases hl
   ·cases hl
  ·rename_i c ho
   obtain⟨callee,args,ts⟩:=c
   simp only at hl
   split at hl
   ·split at hl
    ·rename_i s x t t' hargs hts
     split at hl
     ·rename_i htt
      obtain⟨htt,_⟩:=htt
      subst htt
      have e1:args=#[s,x]:=by rw[←Array.toArray_toList (xs:=args),hargs]
      have e2:ts=#[t,t]:=by rw[←Array.toArray_toList (xs:=ts),hts]
      subst e1 e2
      split at hl
      ·rename_i s' sb x' e hs' hx' hu
       split at hl
       ·rename_i i hi
        split at hl
        ·rename_i z hz
         split at hl
         ·rename_i hc
          cases hl
          have hvs:=nilS_rd (hv s)
          rw[hs'] at hvs
          obtain⟨ds,hds,hrs,_⟩:=hvs.e_inv
          obtain⟨dx,hdx,hrx⟩:=SV.toE_rd hx' (hv x)
          obtain⟨d,he,hix⟩:=hb
          simp only[E.eval,hbe,hds,hdx,Option.bind_some] at he
          refine .inr ⟨_,rfl,?_⟩
          unfold D.apph at he
          split at he
          ·rename_i bs1 ys e3 hasl _
           cases e3
           have hcnt:=asL_cnt hasl
           have hsv:a.eval s=.slice none 0 0:=by
            generalize a.eval s=v at hrs
            cases hrs
            rfl
           split at he
           ·rename_i hnil
            subst hnil
            cases he
            have hxn:a.eval x=.slice none 0 0∨∃ad c,a.eval x=.slice (some ad) 0 c:=by
             rcases news_asL hst hrx hasl (by simp[allCells]) with⟨_,h1⟩ | ⟨ad,m,c,news,h1,h2,_⟩
             ·exact h1
             ·exact .inr ⟨ad,c,by rw[h1,←h2];rfl⟩
            exact apph_none ho hu hi hob hro hbe hxn hsv (Nat.le_refl _) hrs rfl (by simpa using hix) (by simp only[E.eval,hbe,hds,hdx,Option.bind_some,D.apps,hcnt,List.length_nil,if_true]) h hd
           ·rename_i hne
            split at he
            ·rename_i hcc
             cases he
             exact apph_fin (n:=0) (m:=ys.length) (cs:=[]) (xs:=[]) (bs2:=bs) ho hu hi hz hc.1 hc.2.1 hob hro hbe hrx hasl hne rfl hcc.2.2.1 hcc.2.2.2 (by simp) (by rw[hsv];exact World.ownsRow_nil w 0 e i.size) (by simp) (by simp) (by simpa using hcc.2.1) (by simpa using hcc.1) rfl (fun b hb=>by rw[hsv] at hb;cases hb) (fun j _ hj _=>hj) (by simpa using hix) (by simp only[E.eval,hbe,hds,hdx,Option.bind_some,D.apps,hcnt,if_neg (fun e=>hne (List.eq_nil_of_length_eq_zero e)),Nat.zero_add]) h hd
            ·cases he
          ·rename_i bs1 k off n ys e3 hasl _
           cases e3
           have hcnt:=asL_cnt hasl
           split at he
           ·rename_i hnil
            subst hnil
            cases he
            have hrs2:=hrs
            generalize hsv:a.eval s=v at hrs
            cases hrs with
            | @sl _ _ _ cc hk hle hcm h0=>
             have hxn:a.eval x=.slice none 0 0∨∃ad c,a.eval x=.slice (some ad) 0 c:=by
              rcases news_asL hst hrx hasl (by simp[allCells]) with⟨_,h1⟩ | ⟨ad,m,c,news,h1,h2,_⟩
              ·exact h1
              ·exact .inr ⟨ad,c,by rw[h1,←h2];rfl⟩
             exact apph_none ho hu hi hob hro hbe hxn hsv hle hrs2 rfl hix (by simp only[E.eval,hbe,hds,hdx,Option.bind_some,D.apps,hcnt,List.length_nil,if_true]) h hd
           ·rename_i hne
            obtain⟨blk,hblk,he⟩:=Option.bind_eq_some_iff.1 he
            split at he
            ·rename_i hcc
             cases he
             obtain⟨c0,c1,c2,c3,c4,c5,c6,c7⟩:=hcc
             subst c0
             have hbs:=cellsAt_some hblk
             rw[c1,c2] at hbs
             obtain⟨hf,vs,⟨e',hh,hty⟩,hsz,hlen,hone,hr,hns⟩:=hst.cells k _ _ _ hbs
             obtain rfl:e=e':=(hty.resolve_left hc.2.2).symm
             generalize hsv:a.eval s=v at hrs
             cases hrs with
             | @sl _ _ _ cc hk hle hcm h0=>
             have hcap:=h0 rfl
             have hown:w.ownsRow 0 e i.size (a.eval s) n (vs.toList.take (n*i.size)):=by
              refine⟨?_,.inr ⟨ρ.S.loc k,cc,vs,hsv,Nat.zero_le _,hh,hle,hcm,by rw[hcap];exact hsz,rfl⟩⟩
              rw[List.length_take,Array.length_toList]
              omega
             refine apph_fin (n:=n) (m:=ys.length) (cs:=blk.2.2) (xs:=vs.toList.take (n*i.size)) (bs2:=bs.set k (.tup [])) ho hu hi hz hc.1 hc.2.1 hob hro hbe hrx hasl hne rfl c6 c7 hone hown c3 (fun j v d hj hdd=>?_) c5 c4 (by simp) (fun b hb=>?_) (fun j x hj hx=>?_) hix (by simp only[E.eval,hbe,hds,hdx,Option.bind_some,D.apps,hcnt,if_neg (fun e=>hne (List.eq_nil_of_length_eq_zero e))]) h hd
             ·rw[List.getElem?_take] at hj
              split at hj
              ·exact hr j v d (by simpa using hj) hdd
              ·cases hj
             ·rw[hsv] at hb
              have hb':ρ.S.loc k=b:=by simpa[Value.ownBlock] using hb
              subst hb'
              refine⟨hf,hns,fun j x hj hx hl=>?_⟩
              rw[List.getElem?_set] at hj
              split at hj
              ·split at hj <;> cases hj
               cases hx
              ·rename_i hne'
               exact hne' (hst.inj j k _ _ hj hbs hx rfl hl).symm
             ·rw[List.getElem?_set] at hj
              split at hj
              ·split at hj <;> cases hj
               cases hx
              ·exact hj
            ·cases he
          ·cases he
         ·cases hl
        ·cases hl
       ·cases hl
      ·cases hl
     ·cases hl
    ·cases hl
   ·cases hl
  ·cases hl
 ·cases hl

end
end
end Go.Am

/-
 Operations of the library's strings: tables,bytes wherever they are,pointers without a type,what Go itself gives.
-/
namespace Go.Am
noncomputable section

def isExt (P:Program)(f:FuncId)(nm:String):Bool:=
 match P.funcs[f]? with
 | some fn=>fn.body.isNone&&fn.name==nm&&(Extern.findNext fn).isNone
 | none=>false

def lext (P:Program)(o:Oper)(opv:Operand→SV)(ix:Nat):Option LRes:=
 match o.op with
 | .binOp op t x y _=>(match P.underlying t,opv x,opv y with
  | some (.pointer e),.e x' _,.e y' _=>if isNilC (opv x)=true∨isNilC (opv y)=true∨(P.info? e).isNone=true then none else(match op with
   | .eql=>some { val:=.e (.sym ix) true,bind:=some (.ev (.m4 (.peq false) x' y' .nil .nil)) }
   | .neq=>some { val:=.e (.sym ix) true,bind:=some (.ev (.m4 (.peq true) x' y' .nil .nil)) }
   | _=>none)
  | _,_,_=>none)
 | .slice t x (some lo) none none=>(match P.underlying t,(opv x).toE,(opv lo).toE with
  | some (.array n e),some x',some l'=>(szT P e).bind fun sz=>if n≤maxLen then some { val:=.e (.sym ix) true,bind:=some (.ev (.m4 (.asl n sz) x' l' .nil .nil)) } else none
  | _,_,_=>none)
 | .convert s t x=>(match P.underlying s,P.underlying t,(opv x).toE with
  | some .string,some (.slice e),some x'=>if isU8 P e=true then some { val:=.e (.sym ix) true,bind:=some (.ev (.m4 .sbytes x' .nil .nil .nil)) } else none
  | _,_,_=>none)
 | .call c=>(match c.callee,c.args.toList with
  | .builtin .unsafeSliceData,[x]=>(opv x).toE.map fun x'=>{ val:=.e (.sym ix) true,bind:=some (.ev (.m4 .usd x' .nil .nil .nil)) }
  | .value f,[x]=>(match opv f with
   | .func (.func f) [] => if isExt P f "internal/abi.NoEscape" = true then some { val := opv x } else none
   | _=>none)
  | .value f,[x,y]=>(match opv f with
   | .func (.func f) [] => if isExt P f "internal/bytealg.IndexByteString" = true then (match (opv x).toE, (opv y).toE with
    | some x',some y'=>some { val:=.e (.sym ix) true,bind:=some (.ev (.m4 .sib x' y' .nil .nil)) }
    | _,_=>none) else none
   | _=>none)
  | _,_=>none)
 | .typeAssert x _ t false=>(match P.underlying t,(opv x).toE with
  | some (.map _ _),some x'=>some { val:=.e (.sym ix) true,bind:=some (.ev (.scal (.m4 (.unifc t) x' .nil .nil .nil))) }
  | _,_=>none)
 | _=>none

theorem lext_congr {P:Program}{o:Oper}{opv opv':Operand→SV}{ix:Nat}(hv:∀x,x∈o.op.operands→opv' x=opv x):lext P o opv' ix=lext P o opv ix:=by
 unfold lext
 generalize hop:o.op=op at *
 cases op <;> try rfl
 case binOp op t x y yt=>simp only;rw[hv x (by simp[Op.operands]),hv y (by simp[Op.operands])]
 case slice t x lo hi mx=>
  cases lo with
  | none=>rfl
  | some lo=>cases hi <;> cases mx <;> first | rfl | (simp only;rw[hv x (by simp[Op.operands]),hv lo (by simp[Op.operands])])
 case convert s t x=>simp only;rw[hv x (by simp[Op.operands])]
 case typeAssert x xt t ok=>cases ok <;> first | rfl | (simp only;rw[hv x (by simp[Op.operands])])
 case call c=>
  obtain⟨callee,args,ts⟩:=c
  have hargs:∀x,x∈args.toList→opv' x=opv x:=fun x hx=>hv x (by
   simp only[Op.operands,Call.operands]
   have:x∈args:=by simpa using hx
   simp[this])
  simp only
  cases callee with
  | builtin b=>
   cases b <;> try rfl
   cases hl:args.toList with
   | nil=>rfl
   | cons x r=>
    cases r with
    | nil=>simp only;rw[hargs x (by rw[hl];simp)]
    | cons _ _=>rfl
  | value f=>
   have hf:=hv f (by simp[Op.operands,Call.operands])
   cases hl:args.toList with
   | nil=>rfl
   | cons x r=>
    cases r with
    | nil=>simp only;rw[hf,hargs x (by rw[hl];simp)]
    | cons y r=>cases r with
     | nil=>simp only;rw[hf,hargs x (by rw[hl];simp),hargs y (by rw[hl];simp)]
     | cons _ _=>rfl
  | invoke r n=>rfl

section
variable {P:Program} {w w0:World} {X:Ent} {a:Act} {σ:SState} {env:List D} {ρ:Rho}

theorem run_eql_ptr_same {w:World}{tp te:TypeId}{j:TypeInfo}(a:Addr)(hp:P.underlying tp=some (.pointer te))(hte:P.info? te=some j) :
  (binOp .eql tp (.pointer (some a)) (.pointer (some a))).run P w=.ok (.bool true) w:=by
 have h:∀d:Nat,(Op.equalIn (d+1) tp (.pointer (some a)) (.pointer (some a))).run P w=.ok true w:=fun d=>by
  simp[Op.equalIn,run_underlying hp,sizeOf,typeInfo,hte,run_sameAddr_same]
 simp only[binOp]
 simp[Op.equal,Op.maxDepth,h 9999]

theorem peq_run {neg:Bool}{t e:TypeId}{i:TypeInfo}{x y:Operand}{v u:Value}{dx dy dz:D}{S:Sets}(ht:P.underlying t=some (.pointer e))(hi:P.info? e=some i)(hz:D.peq neg dx dy=some dz)(hx:RdD w S v dx)(hy:RdD w S u dy) :
  ∃r,(do eqGuard (bif neg then .neq else .eql) t x y v u;binOp (bif neg then .neq else .eql) t v u:Sem Value).run P w=.ok r w∧RdD w S r dz∧dz.one=true:=by
 have hk:kindOf P t=some .ptr:=by unfold kindOf;rw[ht]
 unfold D.peq at hz
 split at hz
 ·split at hz
  ·rename_i hc
   obtain⟨rfl,rfl⟩:=hc
   cases hz
   cases hx
   cases hy
   refine⟨.bool (!neg),?_,.v rfl,rfl⟩
   simp only[eqGuard_at_pointer,Sem.run_bind,Sem.run_pure,Result.andThen_ok]
   cases neg with
   | true=>exact Lib.run_neq_ptr_same w _ ht hi
   | false=>exact run_eql_ptr_same _ ht hi
  ·cases hz
 ·exact run_bin hk hz hx hy

theorem isExt_run {f : FuncId} {nm : String} {e : Array Value → Sem Value} (h : isExt P f nm = true) (hnm : nm ≠ "runtime.NumGoroutine") (he : ∀ fn : Func, fn.name = nm → Extern.find fn = some e) (args : Array Value) : (callFunc f args).run P w = ((e args).run P w).andThen fun v w' => .ok (.value v) w' := by
 unfold isExt at h
 split at h
 ·rename_i fn hf
  simp only[Bool.and_eq_true,beq_iff_eq,Option.isNone_iff_eq_none] at h
  obtain⟨⟨h1,h2⟩,h3⟩:=h
  exact run_callFunc_extern hf (by rw[h2];simpa using hnm) (by rw[h1];rfl) h3 (he fn h2) args w
 ·cases h

theorem find_noEscape (fn : Func) (h : fn.name = "internal/abi.NoEscape") : Extern.find fn = some Extern.AbiNoEscape.same := by
 unfold Extern.find
 rw[h]
 kernel_rfl

theorem find_indexByte (fn : Func) (h : fn.name = "internal/bytealg.IndexByteString") : Extern.find fn = some Extern.BytealgIndexByte.indexByte := by
 unfold Extern.find
 rw[h]
 kernel_rfl

theorem func_val {c:Operand}{opv:Operand→SV}{f:FuncId}(hv:∀x,SRd w ρ env (a.eval x) (opv x))(hc:opv c=.func (.func f) []):a.eval c=.func (.func f) #[] #[]:=by
 have h:=hv c
 rw[hc] at h
 obtain⟨vs,h1,h2,_⟩:=h.func_inv
 rw[h1,show vs=#[] from Array.eq_empty_of_size_eq_zero h2]

theorem ext_exec {o:Oper}{c:Operand}{args:Array Operand}{ts:Array TypeId}{f:FuncId}{u:Value}(ho:o.op=.call { callee:=.value c,args:=args,argTypes:=ts })(hc:a.eval c=.func (.func f) #[] #[])(h:(callFunc f (args.map a.eval)).run P w=.ok (.value u) w) :
  (execOp a.eval o).run P w=.ok (.value u) w:=by
 unfold execOp
 simp only[ho,resolve,hc,Deferred.ofValue,invoke,Sem.run_bind,Sem.run_pure,Result.andThen_ok]
 simpa using h

theorem typeAssert_run (w:World)(t xT k e:TypeId)(v:Value)(h:P.underlying t=some (.map k e)):(Instr.typeAssert (.iface t v) xT t false).run P w=.ok v w:=by
 simp[Instr.typeAssert,run_underlying h,go_sem,Result.andThen]

theorem lext_sound {o:Oper}{opv:Operand→SV}{ix:Nat}{r:LRes}(hv:∀x,SRd w ρ env (a.eval x) (opv x))(hl:lext P o opv ix=some r)(h:Rep w0 X w a σ env ρ)(hd:∀d,o.dst=some d→d<σ.tmps.length)(hb:BindOk P env ix r.bind) :
  r.upd=none∧OpOk P o a w w0 X (σ.put o.dst r.val) env:=by
 unfold lext at hl
 split at hl
 ·rename_i op t x y yt ho
  split at hl
  ·rename_i e x' s1 y' s2 ht hx hy
   split at hl
   ·cases hl
   rename_i hc
   have hi:(P.info? e).isSome=true:=by
    cases hi:P.info? e with
    | none=>exact absurd (by rw[hi];simp) hc
    | some _=>rfl
   obtain⟨i,hi⟩:=Option.isSome_iff_exists.1 hi
   have hxv:=hv x
   rw[hx] at hxv
   have hyv:=hv y
   rw[hy] at hyv
   obtain⟨dx,hdx,hrx,_⟩:=hxv.e_inv
   obtain⟨dy,hdy,hry,_⟩:=hyv.e_inv
   have key:∀neg:Bool,op=(bif neg then .neq else .eql)→r={ val:=.e (.sym ix) true,bind:=some (.ev (.m4 (.peq neg) x' y' .nil .nil)) }→r.upd=none∧OpOk P o a w w0 X (σ.put o.dst r.val) env:=by
    rintro neg rfl rfl
    obtain⟨d,he,hix⟩:=hb
    simp only[E.eval,hdx,hdy,Option.bind_some,D.m4] at he
    obtain⟨u,hrun,hru,h1⟩:=peq_run (x:=x) (y:=y) ht hi he hrx hry
    refine⟨rfl,opOk_same h hd (v:=u) ?_ (.e (by simp only[E.eval];exact hix) hru fun _=>h1)⟩
    unfold execOp
    simp only[ho,Sem.run_bind] at hrun ⊢
    rw[hrun]
    rfl
   cases op <;> first | (cases hl;done) | skip
   ·exact key false rfl (by cases hl;rfl)
   ·exact key true rfl (by cases hl;rfl)
  ·cases hl
 ·rename_i t x lo ho
  split at hl
  ·rename_i n e x' l' ht hx hlo
   obtain⟨sz,hsz,hl⟩:=Option.bind_eq_some_iff.1 hl
   split at hl
   ·rename_i hn
    cases hl
    obtain⟨dx,hdx,hrx⟩:=SV.toE_rd hx (hv x)
    obtain⟨dl,hdl,hrl⟩:=SV.toE_rd hlo (hv lo)
    obtain⟨d,he,hix⟩:=hb
    simp only[E.eval,hdx,hdl,Option.bind_some,D.m4] at he
    unfold D.asl at he
    split at he
    ·rename_i i off k l
     split at he
     ·rename_i hc
      obtain⟨h0,h1,h2⟩:=hc
      cases he
      have hxe:a.eval x=.pointer (some ⟨ρ.S.loc i,off,none⟩)∧i<ρ.S.n:=by
       generalize a.eval x=v at hrx
       cases hrx
       exact⟨rfl,by assumption⟩
      have hel:P.elem t=e:=by unfold Program.elem;rw[ht]
      have hal:P.arrayLen t=n:=by unfold Program.arrayLen;rw[ht]
      have hrun:=run_sliceAt_array_l (P:=P) w t ⟨ρ.S.loc i,off,none⟩ (by rw[hel,hal];exact ht) k l h0 (by rw[hal];omega)
      rw[hel,hal,run_sizeOf hsz] at hrun
      simp only[Result.andThen_ok,slicedAt] at hrun
      rw[if_neg (by omega)] at hrun
      refine⟨rfl,opOk_same h hd (v:=.slice (some ⟨ρ.S.loc i,off+l.toNat*sz,none⟩) (n-l.toNat) (n-l.toNat)) ?_ (.e (by simp only[E.eval];exact hix) (.sl hxe.2 (Nat.le_refl _) (by omega) fun e=>absurd e (by omega)) fun _=>rfl)⟩
      unfold execOp
      simp only[ho,Option.map_some,Option.map_none,hxe.1,hrl.v_eq,Sem.run_bind,hrun,Result.andThen_ok,Sem.run_pure,Addr.add_lit]
     ·cases he
    ·cases he
   ·cases hl
  ·cases hl
 ·rename_i s t x ho
  split at hl
  ·rename_i te x' hs ht hx
   split at hl
   ·rename_i hte
    cases hl
    obtain⟨dx,hdx,hrx⟩:=SV.toE_rd hx (hv x)
    obtain⟨d,hev,hix⟩:=hb
    simp only[E.eval,hdx,Option.bind_some,D.m4] at hev
    unfold D.sbytes at hev
    split at hev
    ·rename_i str
     split at hev
     ·rename_i hmx
      cases hev
      have hrun:=run_bytes_of_string (P:=P) w s t te str hs ht (isU8_eq hte)
      have hblw:Blw w.heap.size w (w.drew.alloc (.cells (bytesRow str (grownCap w str.size 0 te)) te ((bytesRow str (grownCap w str.size 0 te)).size,(bytesRow str (grownCap w str.size 0 te)).size+1))):=
       ⟨⟨rfl,rfl,rfl,by simp,fun k hk=>heapOld w.drew _ k hk⟩,by simp⟩
      have hrep:=h.behind (S':=ρ.S.or fun b _=>b=w.heap.size) hblw (ρ.S.le_or _) rfl (fun b o hs=>hs.imp_right fun e=>Nat.le_of_eq e.symm) (fun b o hs=>by
       rcases hs with hs | hs
       ·exact Nat.lt_of_lt_of_le (h.cells b o hs) hblw.size
       ·simp[hs])
      refine⟨rfl,opOk_value (v:=.slice (some ⟨w.heap.size,0,none⟩) str.size (grownCap w str.size 0 te)) ?_ (hrep.put hd (.e (d:=.lst (bytesD str)) (by simp only[E.eval];exact hix) ?_ fun _=>rfl))⟩
      ·unfold execOp
       simp only[ho,hrx.v_eq,Sem.run_bind,hrun,Result.andThen_ok,Sem.run_pure]
      ·have hl:(bytesD str).length=str.size:=by unfold bytesD;rw[List.length_map,Array.length_toList];rfl
       have hat:∀(i:Nat) (e:D),(bytesD str)[i]? = some e→∃b:UInt8,str.data[i]? = some b∧e=.v (.int .u8 b.toNat):=by
        intro i e he
        simp only[bytesD,List.getElem?_map,Option.map_eq_some_iff] at he
        obtain⟨b,hb,rfl⟩:=he
        exact⟨b,by simpa using hb,rfl⟩
       have hj0:∀{i:Nat} {e:D} {j:Nat} {d:D},(bytesD str)[i]? = some e→e.cells[j]? = some d→j=0∧∃b:UInt8,str.data[i]? = some b∧d=.v (.int .u8 b.toNat):=by
        intro i e j d he hd
        obtain⟨b,hb,rfl⟩:=hat i e he
        cases j with
        | zero=>simp[D.cells] at hd;exact⟨rfl,b,hb,hd.symm⟩
        | succ j=>simp[D.cells] at hd
       refine .lst (size:=1) (val:=fun i _=>.int .u8 ((str.data[i]?).getD 0).toNat) hl.symm (grownCap_ge w str.size 0 te) (grownCap_le_maxLen w str.size 0 te hmx) (fun i e he=>?_) (fun i e j d he hd=>?_) (fun i e j d he hd=>.inr rfl) (fun i e j d he hd=>?_) fun i e j d he hd=>?_
       ·obtain⟨b,_,rfl⟩:=hat i e he;rfl
       ·obtain⟨_,b,_,rfl⟩:=hj0 he hd;rfl
       ·obtain⟨rfl,b,hb,rfl⟩:=hj0 he hd
        have hlt:i<str.data.size:=(Array.getElem?_eq_some_iff.1 hb).1
        have hh:(w.drew.alloc (.cells (bytesRow str (grownCap w str.size 0 te)) te ((bytesRow str (grownCap w str.size 0 te)).size,(bytesRow str (grownCap w str.size 0 te)).size+1))).heap[w.heap.size]? = some (.cells (bytesRow str (grownCap w str.size 0 te)) te ((bytesRow str (grownCap w str.size 0 te)).size,(bytesRow str (grownCap w str.size 0 te)).size+1)):=heap_alloc_new w.drew _
        rw[cell_heap hh,Nat.zero_add,Nat.mul_one,Nat.add_zero,bytesRow_at str _ i hlt,hb]
        rw[Array.getElem?_eq_getElem hlt] at hb
        rw[←Option.some.inj hb]
        rfl
       ·obtain⟨rfl,b,hb,rfl⟩:=hj0 he hd
        rw[hb]
        exact .v rfl
     ·cases hev
    ·cases hev
   ·cases hl
  ·cases hl
 ·rename_i c ho
  obtain⟨callee,args,ts⟩:=c
  split at hl
  ·rename_i x hcal hargs
   obtain⟨x',hx,rfl⟩:=Option.map_eq_some_iff.1 hl
   simp only at hcal hargs
   subst hcal
   have e1:args=#[x]:=by rw[←Array.toArray_toList (xs:=args),hargs]
   subst e1
   obtain⟨dx,hdx,hrx⟩:=SV.toE_rd hx (hv x)
   obtain⟨d,he,hix⟩:=hb
   simp only[E.eval,hdx,Option.bind_some,D.m4] at he
   have hex:∀u,(Builtin.unsafeSliceData_ ts o.type #[a.eval x]).run P w=.ok u w→(execOp a.eval o).run P w=.ok (.value u) w:=by
    intro u hu
    unfold execOp
    simp only[ho,resolve,invoke,builtin,Sem.run_bind,Sem.run_pure,Result.andThen_ok,List.map_toArray,List.map_cons,List.map_nil,hu]
   unfold D.usd at he
   split at he
   ·cases he
    have hxe:a.eval x=.slice none 0 0:=by
     generalize a.eval x=v at hrx
     cases hrx
     rfl
    exact⟨rfl,opOk_same h hd (hex (.pointer none) (by rw[hxe];rfl)) (.e (by simp only[E.eval];exact hix) (.v rfl) fun _=>rfl)⟩
   ·split at he
    ·rename_i i off n hn
     cases he
     obtain⟨c,hxe,hi,hc⟩:∃c,a.eval x=.slice (some ⟨ρ.S.loc i,off,none⟩) n c∧i<ρ.S.n∧n≤c:=by
      generalize a.eval x=v at hrx
      cases hrx
      exact⟨_,rfl,by assumption,by assumption⟩
     exact⟨rfl,opOk_same h hd (hex (.pointer (some ⟨ρ.S.loc i,off,none⟩)) (by rw[hxe];exact Lib.run_unsafeSliceData_row w _ _ _ _ _ (by omega))) (.e (by simp only[E.eval];exact hix) (.loc hi) fun _=>rfl)⟩
    ·cases he
   ·cases he
  ·rename_i f x hcal hargs
   simp only at hcal hargs
   subst hcal
   have e1:args=#[x]:=by rw[←Array.toArray_toList (xs:=args),hargs]
   subst e1
   split at hl
   ·rename_i g hg
    split at hl
    ·rename_i hx
     cases hl
     refine⟨rfl,opOk_same h hd (ext_exec ho (func_val hv hg) ?_) (hv x)⟩
     rw[isExt_run hx (by decide) find_noEscape]
     simp[Lib.run_noEscape]
    ·cases hl
   ·cases hl
  ·rename_i f x y hcal hargs
   simp only at hcal hargs
   subst hcal
   have e1:args=#[x,y]:=by rw[←Array.toArray_toList (xs:=args),hargs]
   subst e1
   split at hl
   ·rename_i g hg
    split at hl
    ·rename_i hx
     split at hl
     ·rename_i x' y' hx' hy'
      cases hl
      obtain⟨dx,hdx,hrx⟩:=SV.toE_rd hx' (hv x)
      obtain⟨dy,hdy,hry⟩:=SV.toE_rd hy' (hv y)
      obtain⟨d,he,hix⟩:=hb
      simp only[E.eval,hdx,hdy,Option.bind_some,D.m4] at he
      unfold D.sib at he
      split at he
      ·rename_i s c
       cases he
       refine⟨rfl,opOk_same h hd (ext_exec (u:=.int .i64 (firstIdx s c.toNat.toUInt8)) ho (func_val hv hg) ?_) (.e (by simp only[E.eval];exact hix) (.v rfl) fun _=>rfl)⟩
       rw[isExt_run hx (by decide) find_indexByte]
       have:=run_indexByte_string (P:=P) s c w
       simp only[List.map_toArray,List.map_cons,List.map_nil,hrx.v_eq,hry.v_eq,this,Result.andThen_ok]
      ·cases he
     ·cases hl
    ·cases hl
   ·cases hl
  ·cases hl
 ·rename_i x xt t ho
  split at hl
  ·rename_i k e x' hu hx'
   cases hl
   obtain⟨dx,hdx,hrx⟩:=SV.toE_rd hx' (hv x)
   obtain⟨d,he,hix⟩:=hb
   simp only[E.eval,hdx,Option.bind_some,D.m4] at he
   obtain⟨y,hy,he⟩:=Option.bind_eq_some_iff.1 he
   unfold D.scal at he
   split at he
   ·rename_i hone
    cases he
    unfold D.unifc at hy
    split at hy
    ·rename_i t' y'
     split at hy
     ·rename_i htt
      cases hy
      subst htt
      generalize hxv:a.eval x=v at hrx
      cases hrx with
      | ifc hrd=>
       refine⟨rfl,opOk_same h hd ?_ (.e (by simp only[E.eval];exact hix) hrd fun _=>hone)⟩
       unfold execOp
       simp only[ho,hxv,Sem.run_bind,typeAssert_run _ _ _ _ _ _ hu,Result.andThen_ok,Sem.run_pure]
     ·cases hy
    ·cases hy
   ·cases he
  ·cases hl
 ·cases hl


end

/-! ## operations that look at the store -/

def pubD (cf:StCfg)(o:Oper):Bool:=
 match o.dst with
 | some d=>cf.pubs.contains d
 | none=>false

def uptrOk (P:Program)(e:TypeId):Bool:=decide (0<P.depth)&&decide (0<P.cellsOf e)&&decide (e≠anyT)&&(match P.info? e with | some i=>decide (i.size≠0) | none=>false)

def lappS (P:Program)(cf:StCfg)(h:E)(s:Operand)(opv:Operand→SV)(x:SV)(t t':TypeId)(ix:Nat):Option LRes:=
 if cf.ro=true then none else match nilS s (opv s),x.toE,P.underlying t,P.underlying t' with
 | .e s' _,some x',some (.slice e),some .string=>(match P.info? e with
  | some i=>(match i.zero with
   | some (.int .u8 0)=>if i.size=1∧i.bytes=1∧e≠anyT then some { val:=.e (.apps h s' (.m4 .sbytes x' .nil .nil .nil)) true,upd:=some (HID,.store cf (.sym ix)),bind:=some (.ev (.apph e 1 1 h s' (.m4 .sbytes x' .nil .nil .nil))) } else none
   | _=>none)
  | none=>none)
 | _,_,_,_=>none

def lextC (P:Program)(o:Oper)(opv:Operand→SV)(hO:Option SObj)(ix:Nat):Option LRes:=
 match hO with
 | some (.store cf h)=>(match o.op with
  | .convert s t x=>if pubD cf o=true then(match P.underlying s,P.underlying t,(opv x).toE with
   | some (.slice e),some .string,some x'=>if isU8 P e=true then some { val:=.e (.sym ix) true,bind:=some (.ev (.m4 .bstrh h x' .nil .nil)) } else none
   | some (.pointer e),some .unsafePointer,some x'=>if uptrOk P e=true then some { val:=.e (.sym ix) true,bind:=some (.ev (.m4 (.uptr e (P.cellsOf e)) h x' .nil .nil)) } else none
   | some .unsafePointer,some (.pointer e),some x'=>if uptrOk P e=true then some { val:=.e (.sym ix) true,bind:=some (.ev (.m4 (.uptr e (P.cellsOf e)) h x' .nil .nil)) } else none
   | _,_,_=>none) else none
  | .indexAddr t (.global g) i=>(match P.underlying t,(opv i).toE with
   | some (.array n e),some i'=>(szT P e).map fun sz=>{ val:=.e (.sym ix) true,bind:=some (.ev (.m4 (.gix g n sz) h i' .nil .nil)) }
   | _,_=>none)
  | .call c=>(match c.callee,c.args.toList,c.argTypes.toList with
   | .builtin .unsafeString,[p,n],[pt,_]=>if cf.ro=true then none else(match P.underlying pt,(opv p).toE,(opv n).toE with
    | some (.pointer e),some p',some n'=>if P.cellsOf e=1∧e≠anyT then some { val:=.e (.m4 (.ustr e) h p' n' .nil) true,upd:=some (HID,.store cf (.sym ix)),bind:=some (.ev (.m4 (.ustrh e) h p' n' .nil)) } else none
    | _,_,_=>none)
   | .builtin .append,[s,x],[t,t']=>lappS P cf h s opv (opv x) t t' ix
   | _,_,_=>none)
  | _=>none)
 | _=>none

section
variable {P:Program} {w w0:World} {X:Ent} {a:Act} {σ:SState} {env:List D} {ρ:Rho}

theorem StOk.lose {w w':World}{S:Sets}{foot:Nat→Prop}{bs:List D}{i:Nat}{z:D}(h:StOk w S foot bs)(hz:bs[i]? = some z)(hl:z.live=true)(hK:Keeps S w w')(hb:∀b,foot b→b≠S.loc i→w'.heap[b]? = w.heap[b]?):StOk w' S (fun b=>foot b∧b≠S.loc i) (bs.set i (.tup [])):=by
 have hc:∀{j:Nat} {x:D},(bs.set i (.tup []))[j]? = some x→x.live=true→bs[j]? = some x∧S.loc j≠S.loc i:=by
  intro j x hj hx
  rw[List.getElem?_set] at hj
  split at hj
  ·split at hj
   ·cases hj;cases hx
   ·cases hj
  ·rename_i hij
   exact⟨hj,fun e=>hij (h.inj j i _ _ hj hz hx hl e).symm⟩
 have hle:S≤S:=Sets.le_refl _
 refine⟨by rw[h.n];simp,fun j e sz cs hj=>?_,fun b off hf=>h.nos b off hf.1,fun j kvs hj=>?_,fun j k x y hj hk hx hy e=>h.inj j k x y (hc hj hx).1 (hc hk hy).1 hx hy e,fun j x hj hx=>?_⟩
 ·obtain⟨g,hne⟩:=hc hj rfl
  obtain⟨g1,vs,g2,g3,g4,g5,g6,g7⟩:=h.cells j e sz cs g
  exact⟨⟨g1,hne⟩,vs,g2.to (hb _ g1 hne),g3,g4,g5,fun k v d hv hd=>(g6 k v d hv hd).keep hK hle,g7⟩
 ·obtain⟨g,hne⟩:=hc hj rfl
  obtain⟨g1,es,clock,g2,g3,g4,g5⟩:=h.maps j kvs g
  refine⟨⟨g1,hne⟩,es,clock,by rw[hb _ g1 hne];exact g2,g3,g4,fun k e kv he hkv=>?_⟩
  obtain⟨dk,dv,k1,k2,k3⟩:=g5 k e kv he hkv
  exact⟨dk,dv,k1,k2.keep hK hle,k3.keep hK hle⟩
 ·obtain⟨g,hne⟩:=hc hj (D.isIt_live hx)
  obtain⟨g1,g2,g3⟩:=h.its j x g hx
  exact⟨⟨g1,hne⟩,by rw[hb _ g1 hne];exact g2,g3⟩

theorem blkCells {w:World}{S:Sets}{foot:Nat→Prop}{bs:List D}{i:Nat}{b:TypeId×Nat×List D}(hst:StOk w S foot bs)(hb:D.cellsAt (.st bs) i=some b):∃(vs:Array Value) (e':TypeId),w.heap[S.loc i]? = some (.cells vs e' (0,0))∧(b.1≠anyT→e'=b.1)∧b.2.2.length≤vs.size∧foot (S.loc i) ∧
  ∀(j:Nat) (d:D),b.2.2[j]? = some d→d.one=true∧∃v,vs[j]? = some v∧RdD w S v d:=by
 obtain⟨hf,vs,⟨e',hh,he⟩,_,hle,hone,hr,_⟩:=hst.cells i _ _ _ (cellsAt_some hb)
 refine⟨vs,e',hh,fun hne=>he.resolve_left hne,hle,hf,fun j d hj=>⟨hone j d hj,?_⟩⟩
 have hlt:j<vs.size:=Nat.lt_of_lt_of_le (List.getElem?_eq_some_iff.1 hj).1 hle
 exact⟨vs[j],Array.getElem?_eq_getElem hlt,hr j _ d (Array.getElem?_eq_getElem hlt) hj⟩

theorem bytes_cells {w:World}{S:Sets}{foot:Nat→Prop}{bs:List D}{i off n:Nat}{b:TypeId×Nat×List D}{ns:List Int}(hst:StOk w S foot bs)(hb:D.cellsAt (.st bs) i=some b)(hn:off+n≤b.2.2.length)(hns:bytesOf ((b.2.2.drop off).take n)=some ns) :
  ns.length=n∧∀j,j<n→w.cell? ⟨S.loc i,off+j,none⟩=some (.int .u8 (ns.getD j 0)):=by
 obtain⟨h1,h2⟩:=bytesOf_get hns
 have hl:ns.length=n:=by
  rw[←h1]
  simp
  omega
 refine⟨hl,fun j hj=>?_⟩
 obtain⟨vs,e',hh,_,hle,_,hc⟩:=blkCells hst hb
 have hjl:off+j<b.2.2.length:=by omega
 obtain⟨g1,v,g2,g3⟩:=hc (off+j) _ (List.getElem?_eq_getElem hjl)
 have hx:=h2 j (b.2.2[off+j]) (by
  rw[List.getElem?_take,if_pos hj,List.getElem?_drop]
  exact List.getElem?_eq_getElem hjl)
 rw[D.cells_one g1] at hx
 simp only[List.cons.injEq,and_true] at hx
 rw[hx] at g3
 rw[cell_heap hh,g2,g3.v_eq]

theorem glbFind_spec {g:Nat}:∀{bs:List D} {k j:Nat},glbFind g bs k=some j→k≤j∧∃t vs,bs[j-k]? = some (.glb g t vs)
 | [],k,j,h=>by simp[glbFind] at h
 | x :: r,k,j,h=>by
  have next:glbFind g r (k+1)=some j→k≤j∧∃t vs,(x :: r)[j-k]? = some (.glb g t vs):=fun h=>by
   obtain⟨h1,t,vs,h2⟩:=glbFind_spec h
   refine⟨by omega,t,vs,?_⟩
   rw[show j-k=(j-(k+1))+1 from by omega]
   simpa using h2
  cases x with
  | glb g' t vs=>
   simp only[glbFind] at h
   split at h
   ·rename_i hg
    cases h
    subst hg
    exact⟨Nat.le_refl _,t,vs,by simp⟩
   ·exact next h
  | _=>exact next h

theorem gix_rd {w:World}{S:Sets}{foot:Nat→Prop}{bs:List D}{g len sz:Nat}{i d:D}(hst:StOk w S foot bs)(h:D.gix g len sz (.st bs) i=some d):∃(k:IntKind) (n:Int),i=.v (.int k n)∧0≤n∧n<len∧RdD w S (.pointer (some ⟨g,n.toNat*sz,none⟩)) d∧d.one=true:=by
 unfold D.gix at h
 split at h
 ·rename_i e1
  cases e1
  split at h
  ·rename_i hc
   obtain⟨j,hj,rfl⟩:=Option.map_eq_some_iff.1 h
   obtain⟨_,_,vs,hz⟩:=glbFind_spec hj
   obtain⟨_,⟨hloc,_⟩,_⟩:=hst.its _ _ hz rfl
   refine⟨_,_,rfl,hc.1,hc.2,?_,rfl⟩
   rw[Nat.sub_zero] at hz hloc
   rw[←hloc]
   exact .loc (by rw[hst.n];exact(List.getElem?_eq_some_iff.1 hz).1)
  ·cases h
 ·cases h

theorem uptr_ok {e:TypeId}(h:uptrOk P e=true):0<P.depth∧0<P.cellsOf e∧e≠anyT∧∃i,P.info? e=some i∧i.size≠0:=by
 unfold uptrOk at h
 simp only[Bool.and_eq_true,decide_eq_true_eq] at h
 obtain⟨⟨⟨h1,h2⟩,h3⟩,h4⟩:=h
 refine⟨h1,h2,h3,?_⟩
 split at h4
 ·exact⟨_,by assumption,by simpa using h4⟩
 ·cases h4

theorem lies_self {e:TypeId}{c:Nat}(hd:0<P.depth)(hc:0<P.cellsOf e)(h:0<c):liesAt P P.depth e c 0 e 1=true:=by
 obtain⟨n,hn⟩:∃n,P.depth=n+1:=⟨P.depth-1,by omega⟩
 have hs:∀m,sameLayout P (m+1) e e=true:=fun m=>by simp[sameLayout]
 rw[hn]
 simp only[liesAt,rowAt,hn,hs]
 simp[show P.cellsOf e≠0 by omega,show 1≤c by omega]

theorem uptr_run {S:Sets}{foot:Nat→Prop}{bs:List D}{e:TypeId}{v:Value}{p d:D}{s t:TypeId}(hst:StOk w S foot bs)(hk:uptrOk P e=true)(hu:(P.underlying s=some (.pointer e)∧P.underlying t=some .unsafePointer)∨(P.underlying s=some .unsafePointer∧P.underlying t=some (.pointer e)))(hp:RdD w S v p)(h:D.uptr e (P.cellsOf e) (.st bs) p=some d) :
  (convert s t v).run P w=.ok v w∧d=p∧d.one=true:=by
 obtain⟨h1,h2,h3,j,h4,h5⟩:=uptr_ok hk
 unfold D.uptr at h
 split at h
 ·cases h
  obtain rfl:=hp.v_eq
  refine⟨?_,rfl,rfl⟩
  rcases hu with⟨a1,a2⟩ | ⟨a1,a2⟩ <;> simp[convert,run_underlying a1,run_underlying a2,Conv.unsafePointer]
 ·obtain⟨b,hb,h⟩:=Option.bind_eq_some_iff.1 h
  split at h
  ·rename_i hc
   cases h
   cases hp
   obtain⟨vs,e',hh,hee,hle,_,_⟩:=blkCells hst hb
   have he':e'=e:=by rw[hee (by rw[hc.1];exact h3),hc.1]
   subst he'
   refine⟨?_,rfl,rfl⟩
   have hsz:P.cellsOf e'≤vs.size:=Nat.le_trans hc.2 hle
   rcases hu with⟨a1,a2⟩ | ⟨a1,a2⟩
   ·exact Lib.run_to_unsafe (e:=e') (cells:=vs.size) w _ a1 a2 h4 h5 (by simp[World.shape?,hh]) (Nat.lt_of_lt_of_le h2 hsz)
   ·exact Lib.run_from_unsafe (e:=e') (cells:=vs.size) w _ a1 a2 h4 (by simp[World.shape?,hh]) (lies_self h1 h2 (Nat.div_pos hsz h2))
  ·cases h
 ·cases h

theorem bstrh_run {S:Sets}{foot:Nat→Prop}{bs:List D}{v:Value}{x d:D}{s t e:TypeId}(hst:StOk w S foot bs)(hs:P.underlying s=some (.slice e))(he:P.underlying e=some (.int .u8))(ht:P.underlying t=some .string)(hx:RdD w S v x)(h:D.bstrh (.st bs) x=some d) :
  ∃u:ByteArray,(convert s t v).run P w=.ok (.string u) w∧d=.v (.string u):=by
 unfold D.bstrh at h
 split at h
 ·cases h
  cases hx
  exact⟨_,run_convert_bytes_nil w s e hs he _ _ t ht,rfl⟩
 ·obtain⟨b,hb,h⟩:=Option.bind_eq_some_iff.1 h
  split at h
  ·rename_i hc
   obtain⟨ns,hns,rfl⟩:=Option.map_eq_some_iff.1 h
   obtain⟨g1,g2⟩:=bytes_cells hst hb hc.1 hns
   cases hx
   exact⟨_,run_convert_bytes_arg w s e hs he _ _ _ _ ns g1 g2 t ht,rfl⟩
  ·cases h
 ·unfold D.bstr at h
  split at h
  ·obtain⟨ns,hns,rfl⟩:=Option.map_eq_some_iff.1 h
   exact⟨_,bstr_run hx hns hs he ht,rfl⟩
  ·cases h

theorem strOf_bytes {ns:List Int}(h:ns.all (fun x=>decide (0≤x)&&decide (x<256))=true):∃l:List UInt8,l.length=ns.length∧strOfNums ns=⟨l.toArray⟩∧∀(j:Nat) (x:UInt8),l[j]? = some x→ns.getD j 0=x.toNat:=by
 refine⟨ns.map fun n=>UInt8.ofNat n.toNat,by simp,by simp[strOfNums],fun j x hx=>?_⟩
 rw[List.getElem?_map] at hx
 obtain⟨n,hn,rfl⟩:=Option.map_eq_some_iff.1 hx
 have:=List.all_eq_true.1 h n (List.mem_of_getElem? hn)
 simp only[Bool.and_eq_true,decide_eq_true_eq] at this
 rw[List.getD_eq_getElem?_getD,hn]
 simp
 omega

theorem run_append_casesS (w:World) (t u ty e:TypeId) (i:TypeInfo) (ht:P.underlying t=some (.slice e)) (hu:P.underlying u=some .string) (hi:P.info? e=some i) (hz:i.zero=some (.int .u8 0)) (hsize:i.size=1) (hby:i.bytes=1)
  (v:Value) (n:Nat) (xs:List Value) (hown:w.ownsRow 0 e 1 v n xs) (s:ByteArray) (hs:0<s.size) (h63:n+s.size≤maxLen) (hbytes:n+s.size≤140737488355328) :
  ∃v' w',(Builtin.append_ #[t,u] ty #[v,.string s]).run P w=.ok v' w'∧w'.ownsRow 0 e 1 v' (n+s.size) (xs++Lib.strCells s) ∧
   ((v'.ownBlock=v.ownBlock∧GBy w w' v.ownBlock)∨(v'.ownBlock=some w.heap.size∧GBy w w' none)):=by
 have hsmall:n+s.size≤9223372036854775807:=by simp only[maxLen] at h63;omega
 have hxl:xs.length=n:=by simpa using hown.1
 have hlen:(xs++Lib.strCells s).length=(n+s.size)*1:=by rw[List.length_append,hxl,Lib.strCells_length,Nat.mul_one]
 have grown:∀(old:Nat),old<n+s.size →
   (w.drew.alloc (.cells (xs.toArray++(Lib.strCells s).toArray++Builtin.zeroCells (Value.int .u8 0).cells (grownCap w (n+s.size) old e-(n+s.size))) e)).ownsRow 0 e 1
    (.slice (some ⟨w.heap.size,0,none⟩) (n+s.size) (grownCap w (n+s.size) old e)) (n+s.size) (xs++Lib.strCells s) ∧
   GBy w (w.drew.alloc (.cells (xs.toArray++(Lib.strCells s).toArray++Builtin.zeroCells (Value.int .u8 0).cells (grownCap w (n+s.size) old e-(n+s.size))) e)) none:=by
  intro old ho
  have hge:=grownCap_ge w (n+s.size) old e
  have hcm:grownCap w (n+s.size) old e≤maxLen:=grownCap_le_maxLen w (n+s.size) old e h63
  refine⟨⟨hlen,.inr ⟨w.heap.size,_,_,rfl,Nat.zero_le _,heap_alloc_new w.drew _,hge,hcm,?_,?_⟩⟩,⟨rfl,⟨rfl,by simp⟩,rfl,by simp,fun k hk _=>heapOld w.drew _ k hk⟩⟩
  ·simp only[Array.size_append,List.size_toArray,size_zeroCells,hxl,Lib.strCells_length,Value.cells]
   simp
   omega
  ·simp only[Array.toList_append,List.append_assoc]
   rw[←List.append_assoc,←hlen]
   exact List.take_left
 rcases hown.2 with⟨rfl,rfl⟩ | ⟨g,cap,cur,rfl,hbg,hg,hnc,hcm,hcs,htake⟩
 ·have hx:xs=[]:=List.eq_nil_of_length_eq_zero hxl
  subst hx
  have hr:=run_append_nil_string (P:=P) w t u ty e i _ ht hu hi hz s hs (by omega) (by rw[hby];omega)
  have hgr:=grown 0 (by omega)
  simp only[Nat.zero_add,List.nil_append,Array.empty_append] at hgr ⊢
  have hce:(s.data.map fun b=>Value.int .u8 b.toNat)=(Lib.strCells s).toArray:=by
   apply Array.ext'
   simp[Lib.strCells]
  rw[hce] at hr
  exact⟨_,_,hr,hgr.1,.inr ⟨rfl,hgr.2⟩⟩
 ·by_cases hroom:n+s.size≤cap
  ·have hfit:n+s.size≤cur.size:=by omega
   have hr:=Lib.run_append_room_string (P:=P) w t u ty e i ht hu hi hsize g n cap cur hg s hroom hfit
   refine⟨_,_,hr,⟨hlen,.inr ⟨g,cap,_,rfl,hbg,setRow_heap w g cur _ e _ hg,hroom,hcm,?_,?_⟩⟩,.inl ⟨rfl,⟨rfl,⟨rfl,Nat.le_refl _⟩,rfl,by simp,fun k _ hk=>setRow_other w g k _ (fun e=>hk (by simp[Value.ownBlock,e]))⟩⟩⟩
   ·simp only[List.size_toArray,List.length_append,List.length_take,List.length_drop,Array.length_toList,Lib.strCells_length]
    omega
   ·rw[show cur.toList.take n=xs from by rw[←htake,Nat.mul_one],←hlen]
    exact List.take_left
  ·have holds:∀j u,xs[j]? = some u→w.cell? ((⟨g,0,none⟩:Addr).add j)=some u:=hown.cells (g:=g) rfl
   have hr:=Lib.run_append_grow_string (P:=P) w t u ty e i _ ht hu hi hz ⟨g,0,none⟩ n cap xs (by rw[hsize,hxl,Nat.mul_one]) holds s (by omega) (by omega) (growslice_fits (by omega) (by rw[hby];omega))
   have hgr:=grown cap (by omega)
   exact⟨_,_,hr,hgr.1,.inr ⟨rfl,hgr.2⟩⟩

theorem bytesD_flat (s:ByteArray):cellsL (bytesD s)=bytesD s∧(bytesD s).length=s.size∧allCells 1 (bytesD s)=true∧∀{w:World} {S:Sets} (j:Nat) (v:Value) (d:D),(Lib.strCells s)[j]? = some v→(bytesD s)[j]? = some d→RdD w S v d∧d.one=true:=by
 have hc:∀l:List UInt8,cellsL (l.map fun b:UInt8=>D.v (.int .u8 b.toNat))=l.map fun b:UInt8=>D.v (.int .u8 b.toNat):=by
  intro l
  induction l with
  | nil=>rfl
  | cons x r ih=>simp only[List.map_cons,cellsL,List.flatMap_cons,D.cells] at ih ⊢;rw[ih];rfl
 refine⟨hc _,by unfold bytesD;rw[List.length_map,Array.length_toList];rfl,by unfold allCells bytesD;rw[List.all_eq_true];intro e he;obtain⟨b,_,rfl⟩:=List.mem_map.1 he;rfl,fun j v d hv hd=>?_⟩
 simp only[Lib.strCells,bytesD,List.getElem?_map,Option.map_eq_some_iff] at hv hd
 obtain⟨b,hb,rfl⟩:=hv
 obtain⟨b',hb',rfl⟩:=hd
 rw[hb] at hb'
 cases hb'
 exact⟨.v rfl,rfl⟩

theorem run_append_noneS (w:World)(t u ty e:TypeId)(i:TypeInfo)(ht:P.underlying t=some (.slice e))(hu:P.underlying u=some .string)(hi:P.info? e=some i)(ad:Option Addr)(n cap:Nat)(hn:n≤cap)(s:ByteArray)(hs:s.size=0) :
  (Builtin.append_ #[t,u] ty #[.slice ad n cap,.string s]).run P w=.ok (.slice ad n cap) w:=by
 have hf:(Builtin.firstCells i.size 0 (.string s)).run P w=.ok #[] w:=by simp[Builtin.firstCells]
 cases ad <;> simp[Builtin.append_,run_underlying ht,run_underlying hu,sizeOf,typeInfo,hi,Builtin.lenOf,hs,hn,hf,storeCells]

theorem lappS_sound {o:Oper} {s x:Operand} {t t':TypeId} {cf:StCfg} {hx:E} {opv:Operand→SV} {ix:Nat} {r:LRes} (ho:o.op=.call { callee:=.builtin .append,args:=#[s,x],argTypes:=#[t,t'] }) (hv:∀x,SRd w ρ env (a.eval x) (opv x)) (hob:σ.obj HID=some (.store cf hx)) (hl:lappS P cf hx s opv (opv x) t t' ix=some r)
  (h:Rep w0 X w a σ env ρ) (hd:∀d,o.dst=some d→d<σ.tmps.length) (hb:BindOk P env ix r.bind):∃z,r.upd=some (HID,z)∧OpOk P o a w w0 X ((σ.setObj HID (some z)).put o.dst r.val) env:=by
 obtain⟨bs,hbe,hst,_⟩:=h.objs _ _ hob
 unfold lappS at hl
 split at hl
 ·cases hl
 rename_i hro
 replace hro:cf.ro=false:=by simpa using hro
 split at hl
 ·rename_i s' sb x' e hs' hx' hu hu'
  split at hl
  ·rename_i i hi
   split at hl
   ·rename_i hz
    split at hl
    ·rename_i hc
     obtain⟨hi1,hi2,hne⟩:=hc
     cases hl
     have hvs:=nilS_rd (hv s)
     rw[hs'] at hvs
     obtain⟨ds,hds,hrs,_⟩:=hvs.e_inv
     obtain⟨dx,hdx,hrx⟩:=SV.toE_rd hx' (hv x)
     obtain⟨d,he,hix⟩:=hb
     simp only[E.eval,hbe,hds,hdx,Option.bind_some,D.m4] at he
     refine⟨_,rfl,?_⟩
     obtain⟨dy,hdy,he⟩:=Option.bind_eq_some_iff.1 he
     obtain⟨str,rfl,hmx,rfl⟩:∃str:ByteArray,dx=.v (.string str)∧str.size≤maxLen∧dy=.lst (bytesD str):=by
      unfold D.sbytes at hdy
      split at hdy
      ·split at hdy
       ·cases hdy;exact⟨_,rfl,by assumption,rfl⟩
       ·cases hdy
      ·cases hdy
     obtain⟨hflat,hlen,hall,hrd⟩:=bytesD_flat str
     have hxv:a.eval x=.string str:=hrx.v_eq
     have hyE:(E.m4 .sbytes x' .nil .nil .nil).eval env=some (.lst (bytesD str)):=by simp only[E.eval,hdx,Option.bind_some,D.m4,hdy]
     have hexec:∀{v':Value} {w':World},(Builtin.append_ #[t,t'] o.type #[a.eval s,.string str]).run P w=.ok v' w'→(execOp a.eval o).run P w=.ok (.value v') w':=by
      intro v' w' hr
      rw[←hxv] at hr
      unfold execOp
      simp only[ho,resolve,invoke,builtin,Sem.run_bind,Sem.run_pure,Result.andThen_ok,List.map_toArray,List.map_cons,List.map_nil,hr]
     have none':∀{ad:Option Addr} {n cap:Nat} {ds':D},bytesD str=[]→a.eval s=.slice ad n cap→n≤cap→RdD w ρ.S (a.eval s) ds'→ds'.one=true→env[ix]? = some (.st bs)→(E.apps hx s' (.m4 .sbytes x' .nil .nil .nil)).eval env=some ds'→OpOk P o a w w0 X ((σ.setObj HID (some (.store cf (.sym ix)))).put o.dst (.e (.apps hx s' (.m4 .sbytes x' .nil .nil .nil)) true)) env:=by
      intro ad n cap ds' hnil hsv hcap hrs1 hone hix hval
      have hs0:str.size=0:=by rw[←hlen,hnil];rfl
      have hrep:=h.setStore (x':=.sym ix) hob hro (by simpa[E.eval] using hix) hst (Keeps.refl _ _) (Sets.le_refl _) rfl ⟨rfl,Nat.le_refl _⟩ rfl (Nat.le_refl _) (fun _ _ _=>rfl) (fun b hb=>⟨.inl hb,foot_lt h hob b hb⟩) (fun b o hs=>.inl hs) h.cells
      refine opOk_value (v:=a.eval s) (hexec ?_) (hrep.put (by intro d e;rw[SState.tmps_setObj];exact hd d e) (.e hval hrs1 fun _=>hone))
      rw[hsv]
      exact run_append_noneS w t t' o.type e i hu hu' hi ad n cap hcap str hs0
     have some':∀{n:Nat} {cs xs:List Value} {cds bs2:List D},bytesD str≠[]→n+(bytesD str).length≤maxLen→(n+(bytesD str).length)*1≤140737488355328→(∀(j:Nat) (d:D),cds[j]? = some d→d.one=true)→w.ownsRow 0 e 1 (a.eval s) n xs→cds.length=n*1→(∀(j:Nat) (v:Value) (d:D),xs[j]? = some v→cds[j]? = some d→RdD w ρ.S v d) →
       bs2.length=bs.length→(∀b,(a.eval s).ownBlock=some b→ρ.foot b∧(∀off,¬ρ.S b off)∧∀(j:Nat) (x:D),bs2[j]? = some x→x.live=true→ρ.S.loc j≠b)→(∀(j:Nat) (x:D),bs2[j]? = some x→x.live=true→bs[j]? = some x)→env[ix]? = some (.st (bs2++[.blk e 1 (cds++cellsL (bytesD str))])) →
       (E.apps hx s' (.m4 .sbytes x' .nil .nil .nil)).eval env=some (.sl bs.length 0 (n+(bytesD str).length))→OpOk P o a w w0 X ((σ.setObj HID (some (.store cf (.sym ix)))).put o.dst (.e (.apps hx s' (.m4 .sbytes x' .nil .nil .nil)) true)) env:=by
      intro n cs xs cds bs2 hnn hml hby hone0 hown hcl hxr hl2 hown2 hold hix hval
      have hs0:0<str.size:=by rw[←hlen];exact List.length_pos_iff.2 hnn
      obtain⟨v',w',hrun,hown',hcase⟩:=run_append_casesS w t t' o.type e i hu hu' hi hz hi1 hi2 (a.eval s) n xs hown str hs0 (by rw[hlen] at hml;exact hml) (by rw[hlen] at hby;omega)
      refine append_fin (i:=i) (n:=n) (m':=(bytesD str).length) (cs:=cds) (news:=Lib.strCells str) (by omega) hob hro hbe hnn rfl (by rw[hflat,List.all_eq_true];intro d hd;obtain⟨b,_,rfl⟩:=List.mem_map.1 hd;rfl) hone0 (by rw[hi1];exact hown) (by rw[hi1];exact hcl) hxr hl2 hown2 hold (by rw[hi1];exact hix) hval h hd (hexec hrun) (by rw[hi1,hlen];exact hown') hcase (by rw[Lib.strCells_length,hlen,hi1,Nat.mul_one]) (by rw[hflat,hlen,Lib.strCells_length]) (fun j v d hv hd=>?_)
      rw[hflat] at hd
      exact hrd j v d hv hd
     unfold D.apph at he
     split at he
     ·rename_i bs1 ys e3 hasl _ _
      cases e3
      have hasl:bytesD str=ys:=by simpa[D.asL] using hasl
      subst hasl
      have hsv:a.eval s=.slice none 0 0:=by
       generalize a.eval s=v at hrs
       cases hrs
       rfl
      split at he
      ·rename_i hnil
       cases he
       exact none' hnil hsv (Nat.le_refl _) hrs rfl hix (by simp only[E.eval,hbe,hds,hdx,Option.bind_some,D.m4,hdy,D.apps,D.cnt,hnil,List.length_nil,if_true])
      ·rename_i hnn
       split at he
       ·rename_i hcc
        cases he
        exact some' (n:=0) (cs:=[]) (xs:=[]) (cds:=[]) (bs2:=bs) hnn (by simpa using hcc.2.1) (by simpa using hcc.1) (by simp) (by rw[hsv];exact World.ownsRow_nil w 0 e 1) (by simp) (by simp) rfl (fun b hb=>by rw[hsv] at hb;cases hb) (fun j _ hj _=>hj) (by simpa using hix) (by simp only[E.eval,hbe,hds,hdx,Option.bind_some,D.m4,hdy,D.apps,D.cnt,if_neg (fun e=>hnn (List.eq_nil_of_length_eq_zero e)),Nat.zero_add])
       ·cases he
     ·rename_i bs1 k off n ys e3 hasl _ _
      cases e3
      have hasl:bytesD str=ys:=by simpa[D.asL] using hasl
      subst hasl
      split at he
      ·rename_i hnil
       cases he
       have hrs2:=hrs
       generalize hsv:a.eval s=v at hrs
       cases hrs with
       | @sl _ _ _ cc hk hle hcm h0=>
        exact none' hnil hsv hle hrs2 rfl hix (by simp only[E.eval,hbe,hds,hdx,Option.bind_some,D.m4,hdy,D.apps,D.cnt,hnil,List.length_nil,if_true])
      ·rename_i hnn
       obtain⟨blk,hblk,he⟩:=Option.bind_eq_some_iff.1 he
       split at he
       ·rename_i hcc
        cases he
        obtain⟨c0,c1,c2,c3,c4,c5,c6,c7⟩:=hcc
        subst c0
        have hbs:=cellsAt_some hblk
        rw[c1,c2] at hbs
        obtain⟨hf,vs,⟨e',hh,hty⟩,hsz,hlen',hone,hr,hns⟩:=hst.cells k _ _ _ hbs
        obtain rfl:e=e':=(hty.resolve_left hne).symm
        generalize hsv:a.eval s=v at hrs
        cases hrs with
        | @sl _ _ _ cc hk hle hcm h0=>
        have hcap:=h0 rfl
        have hown:w.ownsRow 0 e 1 (a.eval s) n (vs.toList.take (n*1)):=by
         refine⟨?_,.inr ⟨ρ.S.loc k,cc,vs,hsv,Nat.zero_le _,hh,hle,hcm,by rw[hcap];exact hsz,rfl⟩⟩
         rw[List.length_take,Array.length_toList]
         omega
        refine some' (n:=n) (cs:=[]) (xs:=vs.toList.take (n*1)) (cds:=blk.2.2) (bs2:=bs.set k (.tup [])) hnn c5 c4 hone hown c3 (fun j v d hj hdd=>?_) (by simp) (fun b hb=>?_) (fun j x hj hx=>?_) hix (by simp only[E.eval,hbe,hds,hdx,Option.bind_some,D.m4,hdy,D.apps,D.cnt,if_neg (fun e=>hnn (List.eq_nil_of_length_eq_zero e))])
        ·rw[List.getElem?_take] at hj
         split at hj
         ·exact hr j v d (by simpa using hj) hdd
         ·cases hj
        ·rw[hsv] at hb
         have hb':ρ.S.loc k=b:=by simpa[Value.ownBlock] using hb
         subst hb'
         refine⟨hf,hns,fun j x hj hx hl=>?_⟩
         rw[List.getElem?_set] at hj
         split at hj
         ·split at hj <;> cases hj
          cases hx
         ·rename_i hne'
          exact hne' (hst.inj j k _ _ hj hbs hx rfl hl).symm
        ·rw[List.getElem?_set] at hj
         split at hj
         ·split at hj <;> cases hj
          cases hx
         ·exact hj
       ·cases he
     ·cases he
    ·cases hl
   ·cases hl
  ·cases hl
 ·cases hl

theorem lextC_sound {o:Oper}{opv:Operand→SV}{ix:Nat}{r:LRes}(hv:∀x,SRd w ρ env (a.eval x) (opv x))(hl:lextC P o opv (σ.obj HID) ix=some r)(h:Rep w0 X w a σ env ρ)(hd:∀d,o.dst=some d→d<σ.tmps.length)(hb:BindOk P env ix r.bind) :
  (r.upd=none∧OpOk P o a w w0 X (σ.put o.dst r.val) env)∨∃z,r.upd=some (HID,z)∧OpOk P o a w w0 X ((σ.setObj HID (some z)).put o.dst r.val) env:=by
 unfold lextC at hl
 split at hl
 case h_2=>cases hl
 rename_i cf hx hob
 obtain⟨bs,hbe,hst,_⟩:=h.objs _ _ hob
 split at hl
 ·rename_i s t x ho
  split at hl
  case isFalse=>cases hl
  have conv:∀{v:Value},(convert s t (a.eval x)).run P w=.ok v w→(execOp a.eval o).run P w=.ok (.value v) w:=fun hr=>by
   unfold execOp
   simp only[ho,Sem.run_bind,hr,Result.andThen_ok,Sem.run_pure]
  have uptr:∀{e:TypeId} {x':E},(opv x).toE=some x'→uptrOk P e=true→((P.underlying s=some (.pointer e)∧P.underlying t=some .unsafePointer)∨(P.underlying s=some .unsafePointer∧P.underlying t=some (.pointer e)))→BindOk P env ix (some (.ev (.m4 (.uptr e (P.cellsOf e)) hx x' .nil .nil)))→OpOk P o a w w0 X (σ.put o.dst (.e (.sym ix) true)) env:=by
   intro e x' hx' hk hu hb
   obtain⟨dx,hdx,hrx⟩:=SV.toE_rd hx' (hv x)
   obtain⟨d,he,hix⟩:=hb
   simp only[E.eval,hbe,hdx,Option.bind_some,D.m4] at he
   obtain⟨g1,rfl,g2⟩:=uptr_run hst hk hu hrx he
   exact opOk_same h hd (conv g1) (.e (by simp only[E.eval];exact hix) hrx fun _=>g2)
  split at hl
  ·rename_i e x' hs ht hx'
   split at hl
   ·rename_i he
    cases hl
    obtain⟨dx,hdx,hrx⟩:=SV.toE_rd hx' (hv x)
    obtain⟨d,hev,hix⟩:=hb
    simp only[E.eval,hbe,hdx,Option.bind_some,D.m4] at hev
    obtain⟨u,g1,rfl⟩:=bstrh_run hst hs (isU8_eq he) ht hrx hev
    exact .inl ⟨rfl,opOk_same h hd (conv g1) (.e (by simp only[E.eval];exact hix) (.v rfl) fun _=>rfl)⟩
   ·cases hl
  ·rename_i e x' hs ht hx'
   split at hl
   ·rename_i hk
    cases hl
    exact .inl ⟨rfl,uptr hx' hk (.inl ⟨hs,ht⟩) hb⟩
   ·cases hl
  ·rename_i e x' hs ht hx'
   split at hl
   ·rename_i hk
    cases hl
    exact .inl ⟨rfl,uptr hx' hk (.inr ⟨hs,ht⟩) hb⟩
   ·cases hl
  ·cases hl
 ·rename_i t g i ho
  split at hl
  ·rename_i n e i' ht hi'
   obtain⟨sz,hsz,rfl⟩:=Option.map_eq_some_iff.1 hl
   obtain⟨di,hdi,hri⟩:=SV.toE_rd hi' (hv i)
   obtain⟨d,hev,hix⟩:=hb
   simp only[E.eval,hbe,hdi,Option.bind_some,D.m4] at hev
   obtain⟨k,m,rfl,h0,h1,hrd,h2⟩:=gix_rd hst hev
   have he:P.elem t=e:=by simp[Program.elem,ht]
   have hlen:P.arrayLen t=n:=by simp[Program.arrayLen,ht]
   refine .inl ⟨rfl,opOk_same h hd (v:=.pointer (some ⟨g,m.toNat*sz,none⟩)) ?_ (.e (by simp only[E.eval];exact hix) hrd fun _=>h2)⟩
   have hr:=run_indexAt_array (P:=P) w t ⟨g,0,none⟩ k m (by rw[he,hlen];exact ht)
   rw[hlen,if_pos ⟨h0,h1⟩,he,run_sizeOf hsz] at hr
   simp only[Result.andThen_ok,addr_add,Nat.zero_add] at hr
   have hg:a.eval (.global g)=.pointer (some ⟨g,0,none⟩):=rfl
   unfold execOp
   simp only[ho,hg,hri.v_eq,Sem.run_bind,hr,Result.andThen_ok,Sem.run_pure]
  ·cases hl
 ·rename_i c ho
  obtain⟨callee,args,ts⟩:=c
  split at hl
  ·rename_i p n pt nt hcal hargs hts
   simp only at hcal hargs hts
   subst hcal
   have e1:args=#[p,n]:=by rw[←Array.toArray_toList (xs:=args),hargs]
   have e2:ts=#[pt,nt]:=by rw[←Array.toArray_toList (xs:=ts),hts]
   subst e1 e2
   split at hl
   ·cases hl
   rename_i hro
   replace hro:cf.ro=false:=by simpa using hro
   split at hl
   ·rename_i e p' n' hpt hp' hn'
    split at hl
    ·rename_i hce
     cases hl
     obtain⟨dp,hdp,hrp⟩:=SV.toE_rd hp' (hv p)
     obtain⟨dn,hdn,hrn⟩:=SV.toE_rd hn' (hv n)
     obtain⟨d,hev,hix⟩:=hb
     simp only[E.eval,hbe,hdp,hdn,Option.bind_some,D.m4] at hev
     refine .inr ⟨_,rfl,?_⟩
     have hex:∀{u:Value} {w':World},(Builtin.unsafeString_ #[pt,nt] o.type #[a.eval p,a.eval n]).run P w=.ok u w'→(execOp a.eval o).run P w=.ok (.value u) w':=by
      intro u w' hu
      unfold execOp
      simp only[ho,resolve,invoke,builtin,Sem.run_bind,Sem.run_pure,Result.andThen_ok,List.map_toArray,List.map_cons,List.map_nil,hu]
     obtain⟨ds,hds,hst'⟩:=Option.bind_eq_some_iff.1 hev
     have hval:(E.m4 (.ustr e) hx p' n' .nil).eval env=some ds:=by simp only[E.eval,hbe,hdp,hdn,Option.bind_some,D.m4,hds]
     unfold D.ustr at hds
     split at hds
     ·cases hds
      cases hst'
      have hrep:=h.setStore (x':=.sym ix) hob hro (by simpa[E.eval] using hix) hst (Keeps.refl _ _) (Sets.le_refl _) rfl ⟨rfl,Nat.le_refl _⟩ rfl (Nat.le_refl _) (fun _ _ _=>rfl) (fun b hb=>⟨.inl hb,foot_lt h hob b hb⟩) (fun b o hs=>.inl hs) h.cells
      exact opOk_value (hex (by rw[hrp.v_eq,hrn.v_eq];rfl)) (hrep.put (by intro d e;rw[SState.tmps_setObj];exact hd d e) (.e hval (.v rfl) fun _=>rfl))
     ·rename_i i m
      obtain⟨b,hb0,hds⟩:=Option.bind_eq_some_iff.1 hds
      split at hds
      ·rename_i hc
       obtain⟨hm0,hml,hbe1,hmx⟩:=hc
       obtain⟨ns,hns,hds⟩:=Option.bind_eq_some_iff.1 hds
       split at hds
       ·rename_i hall
        cases hds
        cases hst'
        obtain⟨hnl,hcell⟩:=bytes_cells (off:=0) (n:=m.toNat) hst hb0 (by omega) (by simpa using hns)
        obtain⟨vs,e',hh,hee,hle,hfi,_⟩:=blkCells hst hb0
        have he':e'=e:=by rw[hee (by rw[hbe1];exact hce.2),hbe1]
        subst he'
        obtain⟨l,hl1,hl2,hl3⟩:=strOf_bytes hall
        have hpe:a.eval p=.pointer (some ⟨ρ.S.loc i,0,none⟩):=by
         generalize a.eval p=v at hrp
         cases hrp
         rfl
        have hmm:m=(l.length:Nat):=by omega
        have hne:l≠[]:=by
         intro e
         subst e
         simp at hmm
         omega
        have hrun:=Lib.run_unsafeString_row (P:=P) w pt nt o.type e' hpt hce.1 (ρ.S.loc i) vs.size (by simp[World.shape?,hh]) l hne (by omega) (by unfold maxLen at hmx;omega) (fun j x hx=>by
         have hj:j<m.toNat:=by have:=(List.getElem?_eq_some_iff.1 hx).1;omega
         have:=hcell j hj
         rw[hl3 j x hx,Nat.zero_add] at this
         rw[addr_add,Nat.zero_add]
         exact this)
        rw[←hmm] at hrun
        have hoth:∀b,b≠ρ.S.loc i→(w.freeze ⟨ρ.S.loc i,0,none⟩ l.length).heap[b]? = w.heap[b]?:=by
         intro b hb
         unfold World.freeze
         split
         ·rfl
         ·simp only[Array.getElem?_modify]
          rw[if_neg (fun e=>hb e.symm)]
        have hmeta:(w.freeze ⟨ρ.S.loc i,0,none⟩ l.length).os=w.os∧TL (w.freeze ⟨ρ.S.loc i,0,none⟩ l.length) w∧(w.freeze ⟨ρ.S.loc i,0,none⟩ l.length).output=w.output∧(w.freeze ⟨ρ.S.loc i,0,none⟩ l.length).heap.size=w.heap.size:=by
         unfold World.freeze
         split
         ·exact⟨rfl,.refl _,rfl,rfl⟩
         ·exact⟨rfl,⟨rfl,Nat.le_refl _⟩,rfl,by simp⟩
        have hK:Keeps ρ.S w (w.freeze ⟨ρ.S.loc i,0,none⟩ l.length):=fun b off hS=>World.cell?_of_block (a:=⟨b,off,none⟩) (hoth b fun e=>hst.nos _ off hfi (e ▸ hS))
        have hnst:=hst.lose (cellsAt_some hb0) rfl hK fun b _ hb=>hoth b hb
        have hrep:=h.setStore (x':=.sym ix) hob hro (by simpa[E.eval] using hix) hnst hK (Sets.le_refl _) hmeta.1 hmeta.2.1 hmeta.2.2.1 (by rw[hmeta.2.2.2];exact Nat.le_refl _) (fun b _ hnf=>hoth b fun e=>hnf (e ▸ hfi)) (fun b hb=>⟨.inl hb.1,by rw[hmeta.2.2.2];exact foot_lt h hob b hb.1⟩) (fun b o hs=>.inl hs) (fun b off hs=>by rw[hmeta.2.2.2];exact h.cells b off hs)
        exact opOk_value (hex (by rw[hpe,hrn.v_eq];exact hrun)) (hrep.put (by intro d e;rw[SState.tmps_setObj];exact hd d e) (.e hval (by rw[hl2];exact .v rfl) fun _=>rfl))
       ·cases hds
      ·cases hds
     ·cases hds
    ·cases hl
   ·cases hl
  ·rename_i s x t t' hcal hargs hts
   simp only at hcal hargs hts
   subst hcal
   have e1:args=#[s,x]:=by rw[←Array.toArray_toList (xs:=args),hargs]
   have e2:ts=#[t,t']:=by rw[←Array.toArray_toList (xs:=ts),hts]
   subst e1 e2
   exact .inr (lappS_sound ho hv hob hl h hd hb)
  ·cases hl
 ·cases hl

end
end
end Go.Am

/-
 maps.clone,where a store is.
-/
namespace Go.Am
noncomputable section

def lclo (P:Program)(o:Oper)(opv:Operand→SV)(hO:Option SObj)(ix:Nat):Option LRes:=
 match hO with
 | some (.store cf h)=>(match o.op with
  | .call c=>(match c.callee,c.args.toList with
   | .value (.func f), [x] => if isExt P f "maps.clone" = true ∧ cf.ro = false ∧ cf.locs.contains f = false then
     (opv x).toE.map fun x'=>{ val:=.e (.m4 .mclv h x' .nil .nil) true,upd:=some (HID,.store cf (.sym ix)),bind:=some (.ev (.m4 .mclh h x' .nil .nil)) } else none
   | _,_=>none)
  | _=>none)
 | _=>none

section
variable {P:Program} {w w0:World} {X:Ent} {a:Act} {σ:SState} {env:List D} {ρ:Rho}

theorem find_mapsClone (fn : Func) (h : fn.name = "maps.clone") : Extern.find fn = some Extern.MapsClone.clone := by
 unfold Extern.find
 rw[h]
 kernel_rfl

theorem mapsClone_run {r:Nat}{es:Array MapEntry}{clock:Nat}(t:TypeId)(hb:w.heap[r]? = some (.map es clock)) :
  (Extern.MapsClone.clone #[.iface t (.map (some r))]).run P w=.ok (.iface t (.map (some w.heap.size))) (w.alloc (.map es clock)):=by
 have e:Extern.MapsClone.clone #[.iface t (.map (some r))]=(getObj r >>= fun o=>match o with
   | .map entries clock=>(newObj (.map entries clock) >>= fun n=>pure (.iface t (.map (some n))))
   | _ => stuck "maps.clone: a map expected") := rfl
 rw[e]
 simp[MapKept.run_getObj_map hb,Result.andThen,go_sem]

theorem lclo_sound {o:Oper}{opv:Operand→SV}{ix:Nat}{r:LRes}(hv:∀x,SRd w ρ env (a.eval x) (opv x))(hl:lclo P o opv (σ.obj HID) ix=some r)(h:Rep w0 X w a σ env ρ)(hd:∀d,o.dst=some d→d<σ.tmps.length)(hb:BindOk P env ix r.bind) :
  ∃z,r.upd=some (HID,z)∧OpOk P o a w w0 X ((σ.setObj HID (some z)).put o.dst r.val) env:=by
 unfold lclo at hl
 split at hl
 case h_2=>cases hl
 rename_i cf hx hob
 obtain⟨bs,hbe,hst,_⟩:=h.objs _ _ hob
 split at hl
 case h_2=>cases hl
 rename_i c ho
 obtain⟨callee,args,ts⟩:=c
 simp only at hl
 split at hl
 case h_2=>cases hl
 rename_i f x hargs
 have e1:args=#[x]:=by rw[←Array.toArray_toList (xs:=args),hargs]
 subst e1
 split at hl
 case isFalse=>cases hl
 rename_i hc
 obtain⟨hext,hro,_⟩:=hc
 obtain⟨x',hx',rfl⟩:=Option.map_eq_some_iff.1 hl
 obtain⟨dx,hdx,hrx⟩:=SV.toE_rd hx' (hv x)
 obtain⟨d,hev,hix⟩:=hb
 simp only[E.eval,hbe,hdx,Option.bind_some,D.m4] at hev
 refine⟨_,rfl,?_⟩
 unfold D.mclh at hev
 split at hev
 case h_2=>cases hev
 rename_i bs1 t i hbs1
 cases hbs1
 split at hev
 case h_2=>cases hev
 rename_i kvs hkv
 cases hev
 obtain⟨hf,es,clock,hh,hsz,hns,hr⟩:=hst.maps i _ hkv
 have hex:a.eval x=.iface t (.map (some (ρ.S.loc i))):=by
  generalize a.eval x=v at hrx
  cases hrx with
  | ifc hrd=>
   cases hrd
   rfl
 have hrun:(execOp a.eval o).run P w=.ok (.value (.iface t (.map (some w.heap.size)))) (w.alloc (.map es clock)):=by
  unfold execOp
  have h1:a.eval (.func f)=.func (.func f) #[] #[]:=rfl
  have h2:(callFunc f #[a.eval x]).run P w=.ok (.value (.iface t (.map (some w.heap.size)))) (w.alloc (.map es clock)):=by
   rw[isExt_run hext (by decide) find_mapsClone,hex,mapsClone_run t hh]
   rfl
  simp only[ho,resolve,h1,Deferred.ofValue,invoke,Sem.run_bind,Sem.run_pure,Result.andThen_ok,List.map_toArray,List.map_cons,List.map_nil,List.append_nil,Array.append_empty,Array.empty_append,h2]
 obtain⟨hrep,hn⟩:=h.newStoreG (k:=0) (z:=.mblk kvs) (ob:=.map es clock) (x':=.sym ix) hob hro hbe (fun e sz cs hz=>by cases hz) (fun kvs' hz=>by cases hz;exact⟨es,clock,rfl,hsz,hr⟩) (by simp only[E.eval];exact hix)
 refine opOk_value hrun (hrep.put (by rw[SState.tmps_setObj];exact hd) ?_)
 refine .e (d:=.ifc t (.mp bs.length)) (by simp only[E.eval,hbe,hdx,Option.bind_some,D.m4,D.mclv,hkv]) ?_ fun _=>rfl
 have:=RdD.mp (w:=w.alloc (.map es clock)) (S:=ρ.S.more w.heap.size 0) (i:=bs.length) (by simp[Sets.more,hn])
 have hl:(ρ.S.more w.heap.size 0).loc bs.length=w.heap.size:=by simp[Sets.more,hn]
 rw[hl] at this
 exact .ifc this

theorem lclo_congr {o:Oper}{opv opv':Operand→SV}{hO:Option SObj}{ix:Nat}(hv:∀x,x∈o.op.operands→opv' x=opv x):lclo P o opv' hO ix=lclo P o opv hO ix:=by
 unfold lclo
 split
 ·split
  ·rename_i c ho
   obtain⟨callee,args,ts⟩:=c
   split
   ·rename_i f x hcal hargs
    simp only at hcal hargs
    rw[hv x (by
     rw[ho]
     have:x∈args:=by
      have:x∈args.toList:=by rw[hargs];simp
      simpa using this
     simp only[Op.operands,Call.operands]
     simp[this])]
   ·rfl
  ·rfl
 ·rfl

end
end
end Go.Am
