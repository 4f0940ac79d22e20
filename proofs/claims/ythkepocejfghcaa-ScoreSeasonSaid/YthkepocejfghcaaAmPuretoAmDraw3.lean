/-
  Several texts, one behind the other.
-/
import Derived.Test.YthkepocejfghcaaAmBasetoAmTok
import Derived.Laws.Slices
import Derived.Laws.Small
import Derived.Laws.MakeOwn
import Derived.Great.BuildSlice
import Derived.Laws.Tables
import Derived.MapKept
import Derived.Maps.RangeRun
set_option linter.unusedSimpArgs false
set_option linter.unusedVariables false
/-
 More operations that change no object: 'min','max',slice expressions,interface values.
-/
namespace Go.Am
noncomputable section

def loE (opv:Operand→SV):Option Operand→Option E
 | none=>some (.const (.v (.int .i64 0)))
 | some x=>(opv x).toE

def hiE (opv:Operand→SV)(l:E):Option Operand→Option E
 | none=>some (.lenL l)
 | some x=>(opv x).toE

def isIface (P:Program)(t:TypeId):Bool:=match P.underlying t with | some (.interface _)=>true | some _=>false | none=>true

def lslice (P:Program)(t:TypeId)(x:SV)(lo hi:Option E)(ix:Nat):Option LRes:=
 match P.underlying t,x.toE,lo,hi with
 | some (.slice e),some x',some l,some h=>(szT P e).map fun n=>{ val:=.e (.sym ix) true,bind:=some (.ev (.sub n x' l h)) }
 | _,_,_,_=>none

def isNilIf:Operand→Bool
 | .const .nilIface=>true
 | _=>false

def lifnil (P:Program)(t:TypeId)(x:SV)(y:Operand)(neg:Bool)(ix:Nat):Option LRes:=
 match P.underlying t with
 | some (.interface _)=>if isNilIf y then x.toE.map fun x'=>{ val:=.e (.sym ix) true,bind:=some (.ev (.m4 (.ifnil neg) x' .nil .nil .nil)) } else none
 | _=>none

def ltassert (P:Program)(t:TypeId)(x:SV)(ix:Nat):Option LRes:=
 if isIface P t then none else match x.toE,((P.info? t).bind (·.zero)).bind D.ofVal with
 | some x',some z=>some { val:=.tup [.e (.tget 0 (.sym ix)) false,.e (.tget 1 (.sym ix)) true],bind:=some (.ev (.m4 (.tassert t) x' (.const z) .nil .nil)) }
 | _,_=>none

def lpure (P:Program)(o:Oper)(opv:Operand→SV)(ix:Nat):Option LRes:=
 match o.op with
 | .binOp .eql t x y _=>lifnil P t (opv x) y false ix
 | .binOp .neq t x y _=>lifnil P t (opv x) y true ix
 | .typeAssert x _ t true=>ltassert P t (opv x) ix
 | .makeInterface t x=>if isIface P t then none else(opv x).toE.map fun x'=>{ val:=.e (.ifc t x') true }
 | .slice t x lo hi none=>((opv x).toE).bind fun x'=>lslice P t (opv x) (loE opv lo) (hiE opv x' hi) ix
 | .call c=>match c.callee,c.args.toList with
  | .builtin .max,[x,y]=>(match(opv x).toE,(opv y).toE with
   | some x',some y'=>some { val:=.e (.sym ix) true,bind:=some (.ev (.mm true x' y')) }
   | _,_=>none)
  | .builtin .min,[x,y]=>(match(opv x).toE,(opv y).toE with
   | some x',some y'=>some { val:=.e (.sym ix) true,bind:=some (.ev (.mm false x' y')) }
   | _,_=>none)
  | _,_=>none
 | _=>none

theorem lpure_congr {P:Program}{o:Oper}{opv opv':Operand→SV}{ix:Nat}(hv:∀x,x∈o.op.operands→opv' x=opv x):lpure P o opv' ix=lpure P o opv ix:=by
 unfold lpure
 generalize hop:o.op=op at *
 cases op <;> try rfl
 case makeInterface t x=>simp only;rw[hv x (by simp[Op.operands])]
 case binOp op t x y yt=>cases op <;> first | rfl | (simp only;rw[hv x (by simp[Op.operands])])
 case typeAssert x xt t ok=>cases ok <;> first | rfl | (simp only;rw[hv x (by simp[Op.operands])])
 case slice t x lo hi mx=>
  cases mx with
  | some m=>rfl
  | none=>
   simp only
   rw[hv x (by simp[Op.operands])]
   have h1:loE opv' lo=loE opv lo:=by
    cases lo with
    | none=>rfl
    | some y=>simp only[loE];rw[hv y (by simp[Op.operands])]
   have h2:∀l,hiE opv' l hi=hiE opv l hi:=by
    intro l
    cases hi with
    | none=>rfl
    | some y=>simp only[hiE];rw[hv y (by simp[Op.operands])]
   simp only[h1,h2]
 case call c=>
  obtain⟨callee,args,ts⟩:=c
  simp only[Op.operands] at hv ⊢
  have hargs:∀x,x∈args.toList→opv' x=opv x:=by
   intro x hx
   refine hv x ?_
   unfold Call.operands
   have:x∈args:=by simpa using hx
   simp
   cases callee <;> simp[this]
  split
  ·rename_i x y hx
   rw[hargs x (by rw[hx];simp),hargs y (by rw[hx];simp)]
  ·rename_i x y hx
   rw[hargs x (by rw[hx];simp),hargs y (by rw[hx];simp)]
  ·rfl

section
variable {P:Program} {w w0:World} {X:Ent} {a:Act} {σ:SState} {env:List D} {ρ:Rho}

theorem elem_of {t e:TypeId}(h:P.underlying t=some (.slice e)):P.elem t=e:=by
 simp[Program.elem,h]

theorem sub_rd {S:Sets}{ad:Option Addr}{len cap n:Nat}{es:List D}{l h:Nat}(hr:RdD w S (.slice ad len cap) (.lst es))(hz:allCells n es=true)(h1:l≤h)(h2:h≤es.length)(m:Nat)(hm:h≤m)(hmc:m≤cap) :
  RdD w S (sliced ad l h m n) (.lst ((es.drop l).take (h-l))):=by
 have hzz:∀(i:Nat) (e:D),es[i]? = some e→e.cells.length=n:=fun i e he=>allCells_get hz he
 cases hr with
 | nil=>
  simp at h2
  have hl0:l=0:=by omega
  have hm0:m=0:=by omega
  subst hl0 hm0 h2
  exact .nil
 | emp hm'=>
  simp at h2
  have hl0:l=0:=by omega
  subst hl0 h2
  unfold sliced
  simp only[Nat.sub_self,List.take_zero]
  by_cases hml:m=0
  ·simp only[hml,if_true]
   exact .emp (Nat.zero_le _)
  ·simp only[if_neg hml,Option.map_some]
   exact .emp (by omega)
 | @lst b off _ _ size _ val hl hc hm' hz' ho hS hw hr=>
  unfold sliced
  have hidx:∀(i:Nat) (e:D),((es.drop l).take (h-l))[i]? = some e→es[l+i]? = some e∧i<h-l:=by
   intro i e he
   rw[List.getElem?_take] at he
   split at he
   ·rename_i hi
    exact⟨by simpa using he,hi⟩
   ·cases he
  by_cases hml:m=l
  ·have hhl:h=l:=by omega
   subst hml hhl
   simp only[if_true,Nat.sub_self,List.take_zero]
   exact .lst (size:=size) (val:=val) (by simp) (Nat.le_refl _) (by simp[maxLen]) (by simp) (by simp) (by simp) (by simp) (by simp)
  ·simp only[if_neg hml,Option.map_some]
   rw[addr_add]
   have hsz:∀(i:Nat) (e:D),es[i]? = some e→size=n:=fun i e he=>(hz' i e he).symm.trans (hzz i e he)
   refine .lst (size:=n) (val:=fun i j=>val (l+i) j) (by simp;omega) (by omega) (by omega) (fun i e he=>hzz _ e (hidx i e he).1) (fun i e j d he hd=>ho _ e j d (hidx i e he).1 hd) (fun i e j d he hd=>?_) (fun i e j d he hd=>?_) fun i e j d he hd=>hr _ e j d (hidx i e he).1 hd
   ·have h5:=(hidx i e he).1
    have:=hS _ e j d h5 hd
    rw[hsz _ e h5] at this
    rwa [show off+l*n+i*n+j=off+(l+i)*n+j from by rw[Nat.add_mul];omega]
   ·have h5:=(hidx i e he).1
    have:=hw _ e j d h5 hd
    rw[hsz _ e h5] at this
    rwa [show off+l*n+i*n+j=off+(l+i)*n+j from by rw[Nat.add_mul];omega]


theorem iface_run {t:TypeId}(h:isIface P t=false)(v:Value):(Instr.makeInterface t v).run P w=.ok (.iface t v) w:=by
 unfold isIface at h
 cases hu:P.underlying t with
 | none=>rw[hu] at h;cases h
 | some d=>
  rw[hu] at h
  unfold Instr.makeInterface
  rw[Sem.run_bind,run_underlying hu]
  cases d <;> first | rfl | simp at h

theorem lo_rd {opv:Operand→SV}(hv:∀x,SRd w ρ env (a.eval x) (opv x)){lo:Option Operand}{l:E}(h:loE opv lo=some l){k:IntKind}{n:Int}(he:l.eval env=some (.v (.int k n))):(lo=none∧n=0)∨∃x,lo=some x∧a.eval x=.int k n:=by
 cases lo with
 | none=>simp[loE] at h;subst h;simp[E.eval] at he;exact .inl ⟨rfl,he.2.symm⟩
 | some x=>
  obtain⟨d,hd,hr⟩:=SV.toE_rd h (hv x)
  rw[he] at hd
  cases hd
  exact .inr ⟨x,rfl,hr.v_eq⟩

theorem hi_rd {opv:Operand→SV}(hv:∀x,SRd w ρ env (a.eval x) (opv x)){hi:Option Operand}{x' l:E}(h:hiE opv x' hi=some l){dx:D}{len:Nat}(hx:x'.eval env=some dx)(hln:D.lenL dx=some (.v (.int .i64 len))){k:IntKind}{n:Int}(he:l.eval env=some (.v (.int k n))):(hi=none∧n=len)∨∃x,hi=some x∧a.eval x=.int k n:=by
 cases hi with
 | none=>simp[hiE] at h;subst h;simp[E.eval,hx,hln] at he;exact .inl ⟨rfl,he.2.symm⟩
 | some x=>
  obtain⟨d,hd,hr⟩:=SV.toE_rd h (hv x)
  rw[he] at hd
  cases hd
  exact .inr ⟨x,rfl,hr.v_eq⟩

theorem equalIn_ifc_nil {t:TypeId}{ms:Array (String×TypeId)}(hu:P.underlying t=some (.interface ms))(d:Nat)(t':TypeId)(v:Value):(Op.equalIn (d+1) t (.iface t' v) .nilIface).run P w=.ok false w:=by
 simp[Op.equalIn,run_underlying hu]

theorem equalIn_nil_nil {t:TypeId}{ms:Array (String×TypeId)}(hu:P.underlying t=some (.interface ms))(d:Nat):(Op.equalIn (d+1) t .nilIface .nilIface).run P w=.ok true w:=by
 simp[Op.equalIn,run_underlying hu]

theorem bin_ifc_nil {t:TypeId}{ms:Array (String×TypeId)}(hu:P.underlying t=some (.interface ms))(t':TypeId)(v:Value):(binOp .eql t (.iface t' v) .nilIface).run P w=.ok (.bool false) w∧(binOp .neq t (.iface t' v) .nilIface).run P w=.ok (.bool true) w:=by
 have h1:(Op.equal t (.iface t' v) .nilIface).run P w=.ok false w:=equalIn_ifc_nil hu 9999 t' v
 constructor <;> simp only[binOp,Sem.run_bind,h1,Result.andThen_ok,Sem.run_pure] <;> rfl

theorem bin_nil_nil {t:TypeId}{ms:Array (String×TypeId)}(hu:P.underlying t=some (.interface ms)):(binOp .eql t .nilIface .nilIface).run P w=.ok (.bool true) w∧(binOp .neq t .nilIface .nilIface).run P w=.ok (.bool false) w:=by
 have h1:(Op.equal t .nilIface .nilIface).run P w=.ok true w:=equalIn_nil_nil hu 9999
 constructor <;> simp only[binOp,Sem.run_bind,h1,Result.andThen_ok,Sem.run_pure] <;> rfl

theorem guard_ifc_nil {op:BinOp}{t:TypeId}{x:Operand}(t':TypeId)(v:Value):(eqGuard op t x (.const .nilIface) (.iface t' v) .nilIface).run P w=.ok () w:=by
 unfold eqGuard
 cases op <;> simp

theorem guard_nil_nil {op:BinOp}{t:TypeId}{x:Operand}:(eqGuard op t x (.const .nilIface) .nilIface .nilIface).run P w=.ok () w:=by
 unfold eqGuard
 cases op <;> simp

theorem lifnil_sound {o:Oper}{opv:Operand→SV}{op:BinOp}{neg:Bool}{t yt:TypeId}{x y:Operand}{ix:Nat}{r:LRes}(ho:o.op=.binOp op t x y yt)(hop:op=.eql∧neg=false∨op=.neq∧neg=true)(hv:∀x,SRd w ρ env (a.eval x) (opv x))(hl:lifnil P t (opv x) y neg ix=some r)(h:Rep w0 X w a σ env ρ)(hd:∀d,o.dst=some d→d<σ.tmps.length)(hb:BindOk P env ix r.bind) :
  r.upd=none∧OpOk P o a w w0 X (σ.put o.dst r.val) env:=by
 unfold lifnil at hl
 split at hl
 ·rename_i ms hu
  split at hl
  ·rename_i hy
   obtain⟨x',hx',rfl⟩:=Option.map_eq_some_iff.1 hl
   obtain⟨dx,hdx,hrx⟩:=SV.toE_rd hx' (hv x)
   obtain⟨dz,hev,hix⟩:=hb
   simp only[E.eval,hdx,Option.bind_some,D.m4] at hev
   have hye:y=.const .nilIface:=by
    unfold isNilIf at hy
    split at hy
    ·rfl
    ·simp at hy
   subst hye
   have fin:∀b:Bool,dz=.bool b→(do eqGuard op t x (.const .nilIface) (a.eval x) (a.eval (.const .nilIface));binOp op t (a.eval x) (a.eval (.const .nilIface)):Sem Value).run P w=.ok (.bool b) w→OpOk P o a w w0 X (σ.put o.dst (.e (.sym ix) true)) env:=by
    rintro b rfl hrun
    refine opOk_same h hd (v:=.bool b) ?_ (.e (d:=.bool b) (by simp only[E.eval];exact hix) (.v rfl) fun _=>rfl)
    unfold execOp
    simp only[ho]
    rw[Sem.run_bind,hrun]
    rfl
   refine⟨rfl,?_⟩
   generalize hxv:a.eval x=xv at hrx fin
   have hc:a.eval (.const .nilIface)=.nilIface:=rfl
   rw[hc] at fin
   split at hev
   ·cases hev
    cases hrx
    refine fin neg rfl ?_
    rw[Sem.run_bind,guard_ifc_nil,Result.andThen_ok]
    rcases hop with⟨rfl,rfl⟩ | ⟨rfl,rfl⟩
    ·exact(bin_ifc_nil hu _ _).1
    ·exact(bin_ifc_nil hu _ _).2
   ·cases hev
    rw[hrx.v_eq] at fin
    refine fin (!neg) rfl ?_
    rw[Sem.run_bind,guard_nil_nil,Result.andThen_ok]
    rcases hop with⟨rfl,rfl⟩ | ⟨rfl,rfl⟩
    ·exact(bin_nil_nil hu).1
    ·exact(bin_nil_nil hu).2
   ·cases hev
  ·cases hl
 ·cases hl

theorem ltassert_sound {o:Oper}{opv:Operand→SV}{xt t:TypeId}{x:Operand}{ix:Nat}{r:LRes}(ho:o.op=.typeAssert x xt t true)(hv:∀x,SRd w ρ env (a.eval x) (opv x))(hl:ltassert P t (opv x) ix=some r)(h:Rep w0 X w a σ env ρ)(hd:∀d,o.dst=some d→d<σ.tmps.length)(hb:BindOk P env ix r.bind) :
  r.upd=none∧OpOk P o a w w0 X (σ.put o.dst r.val) env:=by
 unfold ltassert at hl
 split at hl
 ·cases hl
 rename_i hif
 split at hl
 ·rename_i x' z hx' hz
  cases hl
  obtain⟨zv,hzv,hz⟩:=Option.bind_eq_some_iff.1 hz
  obtain⟨dx,hdx,hrx⟩:=SV.toE_rd hx' (hv x)
  obtain⟨dz,hev,hix⟩:=hb
  simp only[E.eval,hdx,Option.bind_some,D.m4] at hev
  have fin:∀(b:Bool) (d:D) (v:Value),dz=.tup [d,.bool b]→RdD w ρ.S v d→(Instr.typeAssert (a.eval x) xt t true).run P w=.ok (.tuple #[v,.bool b]) w→OpOk P o a w w0 X (σ.put o.dst (.tup [.e (.tget 0 (.sym ix)) false,.e (.tget 1 (.sym ix)) true])) env:=by
   rintro b d v rfl hrd hrun
   refine opOk_same h hd (v:=.tuple #[v,.bool b]) ?_ (.tup rfl fun i u c hu hc=>?_)
   ·unfold execOp
    simp only[ho,Sem.run_bind,hrun,Result.andThen_ok,Sem.run_pure]
   ·match i with
    | 0=>
     simp at hu hc
     subst hu hc
     exact .e (d:=d) (by simp[E.eval,hix,D.tget]) hrd (by simp)
    | 1=>
     simp at hu hc
     subst hu hc
     exact .e (d:=.bool b) (by simp[E.eval,hix,D.tget]) (.v rfl) fun _=>rfl
    | i+2=>simp at hc
  refine⟨rfl,?_⟩
  have hnot:∃k,P.underlying t=some k∧∀ms,k≠.interface ms:=by
   unfold isIface at hif
   cases hu:P.underlying t with
   | none=>rw[hu] at hif;simp at hif
   | some k=>
    rw[hu] at hif
    refine⟨k,rfl,?_⟩
    rintro ms rfl
    simp at hif
  obtain⟨k,hu,hk⟩:=hnot
  generalize hxv:a.eval x=xv at hrx fin
  split at hev
  ·rename_i t' d
   cases hev
   cases hrx with
   | ifc hrd=>
   by_cases ht:t'=t
   ·refine fin true d _ (by rw[if_pos ht]) hrd ?_
    unfold Instr.typeAssert
    simp only[Sem.run_bind,run_underlying hu,Result.andThen_ok]
    cases k <;> first | exact absurd rfl (hk _) | simp[ht]
   ·refine fin false z zv (by rw[if_neg ht]) (D.ofVal_rd hz) ?_
    unfold Instr.typeAssert
    simp only[Sem.run_bind,run_underlying hu,Result.andThen_ok]
    cases k <;> first | exact absurd rfl (hk _) | simp[ht,run_zeroValue hzv]
  ·cases hev
   rw[hrx.v_eq] at fin
   refine fin false z zv rfl (D.ofVal_rd hz) ?_
   unfold Instr.typeAssert
   simp only[Sem.run_bind,run_underlying hu,Result.andThen_ok]
   cases k <;> first | exact absurd rfl (hk _) | simp[run_zeroValue hzv]
  ·cases hev
 ·cases hl

theorem lpure_sound {o:Oper}{opv:Operand→SV}{ix:Nat}{r:LRes}(hv:∀x,SRd w ρ env (a.eval x) (opv x))(hl:lpure P o opv ix=some r)(h:Rep w0 X w a σ env ρ)(hd:∀d,o.dst=some d→d<σ.tmps.length)(hb:BindOk P env ix r.bind) :
  r.upd=none∧OpOk P o a w w0 X (σ.put o.dst r.val) env:=by
 unfold lpure at hl
 split at hl
 ·rename_i t x y yt ho
  exact lifnil_sound ho (.inl ⟨rfl,rfl⟩) hv hl h hd hb
 ·rename_i t x y yt ho
  exact lifnil_sound ho (.inr ⟨rfl,rfl⟩) hv hl h hd hb
 ·rename_i x xt t ho
  exact ltassert_sound ho hv hl h hd hb
 ·rename_i t x ho
  split at hl
  ·cases hl
  ·rename_i hif
   obtain⟨x',hx',rfl⟩:=Option.map_eq_some_iff.1 hl
   obtain⟨d,hdx,hrx⟩:=SV.toE_rd hx' (hv x)
   refine⟨rfl,opOk_same h hd (v:=.iface t (a.eval x)) ?_ (.e (d:=.ifc t d) (by simp[E.eval,hdx]) (.ifc hrx) fun _=>rfl)⟩
   unfold execOp
   simp only[ho,Sem.run_bind,iface_run (by simpa using hif),Result.andThen_ok,Sem.run_pure]
 ·rename_i t x lo hi ho
  obtain⟨x',hx',hl⟩:=Option.bind_eq_some_iff.1 hl
  unfold lslice at hl
  split at hl
  ·rename_i e x'' l hh hu hx'' hlo hhi
   rw[hx'] at hx''
   cases hx''
   obtain⟨n,hn,rfl⟩:=Option.map_eq_some_iff.1 hl
   obtain⟨dx,hdx,hrx⟩:=SV.toE_rd hx' (hv x)
   obtain⟨dz,hev,hix⟩:=hb
   simp only[E.eval,hdx,Option.bind_some,Option.bind_eq_some_iff] at hev
   obtain⟨dl,hdl,dh,hdh,hev⟩:=hev
   have hel:=elem_of hu
   have hu':P.underlying t=some (.slice (P.elem t)):=by rw[hel];exact hu
   have hsize:(sizeOf (P.elem t)).run P w=.ok n w:=by rw[hel];exact run_sizeOf hn w
   have go:∀(ad:Option Addr) (len cap:Nat) (k1 k2:IntKind) (lv hvv:Int),a.eval x=.slice ad len cap→len≤cap→D.lenL dx=some (.v (.int .i64 len))→dl=.v (.int k1 lv)→dh=.v (.int k2 hvv)→0≤lv→lv≤hvv→hvv≤(len:Int)→RdD w ρ.S (sliced ad lv.toNat hvv.toNat cap n) dz→dz.one=true →
     OpOk P o a w w0 X (σ.put o.dst (.e (.sym ix) true)) env:=by
    rintro ad len cap k1 k2 lv hvv hxv hcap hln rfl rfl h0 h1 h2 hrd hone
    have fin:(Instr.slice t (.slice ad len cap) (lo.map a.eval) (hi.map a.eval) none).run P w=.ok (sliced ad lv.toNat hvv.toNat cap n) w→OpOk P o a w w0 X (σ.put o.dst (.e (.sym ix) true)) env:=by
     intro hrun
     refine opOk_same h hd (v:=sliced ad lv.toNat hvv.toNat cap n) ?_ (.e (d:=dz) (by simp only[E.eval];exact hix) hrd fun _=>hone)
     unfold execOp
     simp only[ho,Option.map_none,hxv,Sem.run_bind,run_sliceAt_slice w t _ _ _ _ hu',hrun,Result.andThen_ok,Sem.run_pure]
    rcases lo_rd hv hlo hdl with⟨rfl,rfl⟩ | ⟨xl,rfl,hxl⟩ <;> rcases hi_rd hv hhi hdx hln hdh with⟨rfl,rfl⟩ | ⟨xh,rfl,hxh⟩
    ·refine fin ?_
     simp only[Option.map_none,run_slice_all w t ad len cap hu',hsize,Result.andThen_ok]
     simp
    ·refine fin ?_
     simp only[Option.map_none,Option.map_some,hxh,run_slice_h w t ad len cap hu' k2 hvv (by omega) (by omega),hsize,Result.andThen_ok]
     simp
    ·refine fin ?_
     simp only[Option.map_none,Option.map_some,hxl,run_slice_l w t ad len cap hu' k1 lv h0 (by omega),hsize,Result.andThen_ok]
     simp
    ·refine fin ?_
     simp only[Option.map_some,hxl,hxh,run_slice_lh w t ad len cap hu' k1 k2 lv hvv h0 h1 (by omega),hsize,Result.andThen_ok]
   unfold D.sub at hev
   split at hev
   ·rename_i es k1 lv k2 hvv
    split at hev
    ·rename_i hc
     obtain⟨h0,h1,h2,hz⟩:=hc
     cases hev
     refine⟨rfl,?_⟩
     obtain⟨ad,len,cap,hxv,hlen⟩:=hrx.lst_form
     have hcap:len≤cap:=by
      rw[hxv] at hrx
      cases hrx with
      | nil=>exact Nat.le_refl _
      | emp _=>exact Nat.zero_le _
      | lst hl hc hm=>exact hc
     rw[hxv] at hrx
     refine go ad len cap k1 k2 lv hvv hxv hcap (by simp[D.lenL,hlen]) rfl rfl h0 h1 (by omega) ?_ rfl
     have:=sub_rd (l:=lv.toNat) (h:=hvv.toNat) hrx hz (by omega) (by omega) cap (by omega) (Nat.le_refl _)
     rwa [show(hvv-lv).toNat=hvv.toNat-lv.toNat from by omega]
    ·cases hev
   ·rename_i j off ln k1 lv k2 hvv
    split at hev
    ·rename_i hc
     obtain⟨h0,h1,h2,hn0⟩:=hc
     split at hev
     case isFalse hlh=>
      cases hev
      refine⟨rfl,?_⟩
      generalize hxv:a.eval x=xv at hrx
      cases hrx with
      | @sl _ _ _ cap hj hle hcm h00=>
      refine go _ ln cap k1 k2 lv hvv hxv hle rfl rfl rfl h0 h1 h2 ?_ rfl
      unfold sliced
      rw[show hvv.toNat-lv.toNat=0 from by omega]
      split
      ·exact .emp (by omega)
      ·exact .emp (by omega)
     rename_i hlh
     cases hev
     refine⟨rfl,?_⟩
     generalize hxv:a.eval x=xv at hrx
     cases hrx with
     | @sl _ _ _ cap hj hle hcm h00=>
     refine go _ ln cap k1 k2 lv hvv hxv hle rfl rfl rfl h0 h1 h2 ?_ rfl
     unfold sliced
     have hlt:lv.toNat=0∨cap≠lv.toNat:=by omega
     by_cases hml:cap=lv.toNat
     ·have hz:lv.toNat=0:=by omega
      simp only[hml,if_true]
      have hh:hvv.toNat=0:=by omega
      rw[show(hvv-lv).toNat=0 from by omega,hz,hh]
      simp only[Nat.zero_mul,Nat.add_zero,Nat.sub_self]
      exact .sl hj (Nat.le_refl _) (by omega) fun e=>by rw[←h00 e];omega
     ·simp only[if_neg hml,Option.map_some]
      rw[addr_add,show(hvv-lv).toNat=hvv.toNat-lv.toNat from by omega]
      refine .sl hj (by omega) (by omega) fun e=>?_
      have:lv.toNat*n=0:=by omega
      have hl0:lv.toNat=0:=by
       rcases Nat.mul_eq_zero.1 this with h | h
       ·exact h
       ·omega
      rw[←h00 (by omega)]
      omega
    ·cases hev
   ·rename_i k1 lv k2 hvv
    split at hev
    ·rename_i hc
     obtain⟨rfl,rfl⟩:=hc
     cases hev
     refine⟨rfl,?_⟩
     generalize hxv:a.eval x=xv at hrx
     cases hrx with
     | snil=>
     refine go none 0 0 k1 k2 0 0 hxv (Nat.le_refl _) rfl rfl rfl (Int.le_refl _) (Int.le_refl _) (Int.le_refl _) ?_ rfl
     unfold sliced
     simp only[Int.toNat_zero,if_true,Nat.sub_self]
     exact .snil
    ·cases hev
   ·cases hev
  ·cases hl
 ·rename_i c ho
  obtain⟨callee,args,ts⟩:=c
  simp only at hl
  split at hl
  ·rename_i x y hargs
   split at hl
   ·rename_i x' y' hx' hy'
    cases hl
    obtain⟨dx,hdx,hrx⟩:=SV.toE_rd hx' (hv x)
    obtain⟨dy,hdy,hry⟩:=SV.toE_rd hy' (hv y)
    obtain⟨dz,hev,hix⟩:=hb
    simp only[E.eval,hdx,hdy,Option.bind_some] at hev
    unfold D.mm at hev
    split at hev
    ·rename_i k p k' q
     split at hev
     ·rename_i hk
      subst hk
      cases hev
      have e1:args=#[x,y]:=by rw[←Array.toArray_toList (xs:=args),hargs]
      subst e1
      refine⟨rfl,opOk_same h hd (v:=.int k (if q > p then q else p)) ?_ (.e (by simp only[E.eval];exact hix) (.v rfl) fun _=>rfl)⟩
      unfold execOp
      simp only[ho,resolve,invoke,builtin,Sem.run_bind,Sem.run_pure,Result.andThen_ok,List.map_toArray,List.map_cons,List.map_nil,hrx.v_eq,hry.v_eq,run_max_int2]
     ·cases hev
    ·cases hev
   ·cases hl
  ·rename_i x y hargs
   split at hl
   ·rename_i x' y' hx' hy'
    cases hl
    obtain⟨dx,hdx,hrx⟩:=SV.toE_rd hx' (hv x)
    obtain⟨dy,hdy,hry⟩:=SV.toE_rd hy' (hv y)
    obtain⟨dz,hev,hix⟩:=hb
    simp only[E.eval,hdx,hdy,Option.bind_some] at hev
    unfold D.mm at hev
    split at hev
    ·rename_i k p k' q
     split at hev
     ·rename_i hk
      subst hk
      cases hev
      have e1:args=#[x,y]:=by rw[←Array.toArray_toList (xs:=args),hargs]
      subst e1
      refine⟨rfl,opOk_same h hd (v:=.int k (if q<p then q else p)) ?_ (.e (by simp only[E.eval];exact hix) (.v rfl) fun _=>rfl)⟩
      unfold execOp
      simp only[ho,resolve,invoke,builtin,Sem.run_bind,Sem.run_pure,Result.andThen_ok,List.map_toArray,List.map_cons,List.map_nil,hrx.v_eq,hry.v_eq,run_min_int2]
     ·cases hev
    ·cases hev
   ·cases hl
  ·cases hl
 ·cases hl

end
end
end Go.Am

/-
 'make([]T,n)': a row of the call's own.
-/
namespace Go.Am
noncomputable section

def D.notTup:D→Bool
 | .tup _=>false
 | _=>true

def D.ofValZ (nz:Bool)(y:Value):Option D:=if nz=true then(match y with
 | .slice none 0 0=>some .snil
 | y=>D.ofVal y) else D.ofVal y

theorem D.ofValZ_rd {w:World}{S:Sets}{nz:Bool}{v:Value}{d:D}(h:D.ofValZ nz v=some d):RdD w S v d:=by
 unfold D.ofValZ at h
 split at h
 ·split at h
  ·cases h;exact .snil
  ·exact D.ofVal_rd h
 ·exact D.ofVal_rd h

def lmake (nz:Bool)(P:Program)(t:TypeId)(n c:SV)(dst:Option Tmp)(ix:Nat):Option LRes:=
 match dst,P.underlying t,n.toE,c.toE with
 | some d,some (.slice e),some n',some c'=>match P.info? e with
  | some i=>(i.zero).bind fun z=>(D.ofValZ nz z).bind fun dz=>
    if n'.same c'=true∧dz.cells.length=i.size∧dz.notTup=true then some { val:=.slc d,upd:=some (d,.row (.sym ix) i.size),bind:=some (.ev (.rep i.bytes n' dz)) } else none
  | none=>none
 | _,_,_,_=>none

section
variable {P:Program} {w w0:World} {X:Ent} {a:Act} {σ:SState} {env:List D} {ρ:Rho}

theorem RdD.cellAt {S:Sets}{v:Value}{d:D}(h:RdD w S v d)(hd:d.notTup=true) :
  v.cells.size=d.cells.length∧∀(j:Nat) (x:D),d.cells[j]? = some x→x.one=true∧∃u,v.cells[j]? = some u∧RdD w S u x:=by
 have one:d.one=true→v.cells.size=d.cells.length∧∀(j:Nat) (x:D),d.cells[j]? = some x→x.one=true∧∃u,v.cells[j]? = some u∧RdD w S u x:=by
  intro h1
  have hc:v.cells=#[v]:=by
   have:=h.one h1
   cases v <;> first | rfl | simp[Value.oneCell'] at this
  rw[hc,D.cells_one h1]
  refine⟨rfl,fun j x hx=>?_⟩
  cases j with
  | zero=>simp at hx;subst hx;exact⟨h1,v,rfl,h⟩
  | succ j=>simp at hx
 cases d with
 | agg ds=>
  obtain⟨vs,rfl,hl,ho,hr⟩:=h.agg_inv
  refine⟨hl,fun j x hx=>⟨ho j x hx,?_⟩⟩
  have hj:j<vs.size:=by rw[hl];exact(List.getElem?_eq_some_iff.1 hx).1
  exact⟨vs[j],Array.getElem?_eq_getElem hj,hr j _ x (Array.getElem?_eq_getElem hj) hx⟩
 | tup ds=>cases hd
 | blk _ _ _=>cases h
 | st _=>cases h
 | mblk _=>cases h
 | itb _ _ _=>cases h
 | lpb _=>cases h
 | _=>exact one rfl

theorem lmake_sound {o:Oper} {t:TypeId} {n c:Operand} {sn sc:SV} {ix:Nat} {r:LRes} {nz:Bool} (ho:o.op=.makeSlice t n c) (hl:lmake nz P t sn sc o.dst ix=some r) (hn:SRd w ρ env (a.eval n) sn) (hc:SRd w ρ env (a.eval c) sc) (h:Rep w0 X w a σ env ρ)
  (hd:∀d,o.dst=some d→d<σ.tmps.length) (hm:σ.mem.length=σ.tmps.length) (hb:BindOk P env ix r.bind) (hf:∀u,r.upd=some u→σ.obj u.1=none∧σ.avoids u.1):∃ob x,r.upd=some (ob,x)∧OpOk P o a w w0 X ((σ.setObj ob (some x)).put o.dst r.val) env:=by
 unfold lmake at hl
 split at hl
 ·rename_i d e n' c' hdst hu hn' hc'
  split at hl
  ·rename_i i hi
   obtain⟨z,hz,hl⟩:=Option.bind_eq_some_iff.1 hl
   obtain⟨dz,hdz,hl⟩:=Option.bind_eq_some_iff.1 hl
   split at hl
   ·rename_i hcond
    cases hl
    obtain⟨hsame,hlen,htup⟩:=hcond
    obtain⟨hfree,hav⟩:=hf _ rfl
    refine⟨d,_,rfl,?_⟩
    have hdl:=hd d hdst
    obtain⟨dn,hdn,hrn⟩:=SV.toE_rd hn' hn
    obtain⟨dc,hdc,hrc⟩:=SV.toE_rd hc' hc
    rw[←E.same_eq hsame,hdn] at hdc
    cases hdc
    obtain⟨dy,hev,hix⟩:=hb
    simp only[E.eval,hdn,Option.bind_some] at hev
    unfold D.rep at hev
    split at hev
    ·rename_i k
     split at hev
     ·rename_i hk
      obtain⟨hk0,hkb,hkm⟩:=hk
      cases hev
      have hzr:RdD w ρ.S z dz:=D.ofValZ_rd hdz
      obtain⟨hzl,hzc⟩:=hzr.cellAt htup
      rw[hlen] at hzl
      have hk63:k≤9223372036854775807:=by
       have h9:k.toNat≤9223372036854775807:=hkm
       omega
      have hbytes:(i.bytes:Int)*k≤281474976710656:=by
       have h1:((k.toNat*i.bytes:Nat):Int)≤140737488355328:=by
        generalize k.toNat*i.bytes=q at hkb ⊢
        omega
       rw[Int.natCast_mul,Int.toNat_of_nonneg hk0,Int.mul_comm] at h1
       omega
      have hrun:(execOp a.eval o).run P w=.ok (.value (.slice (some ⟨w.heap.size,0,none⟩) k.toNat k.toNat)) (w.alloc (.cells (madeCells z.cells (k.toNat*i.size)) e)):=by
       unfold execOp
       simp only[ho,hrn.v_eq,hrc.v_eq,Sem.run_bind,run_make w t e i z hu hi hz .i64 .i64 k k hk0 (Int.le_refl _) hbytes hk63,Result.andThen_ok,Sem.run_pure]
      have hK:Keeps ρ.S w (w.alloc (.cells (madeCells z.cells (k.toNat*i.size)) e)):=Keeps.alloc h.cells _
      have hrep:=h.withObj (o:=d) (x:=.row (.sym ix) i.size) (v:=.slice (some ⟨w.heap.size,0,none⟩) k.toNat k.toNat) (by rw[hm];exact hdl) hfree hav hK (fun b hb=>heapOld w _ b hb) rfl ⟨rfl,Nat.le_refl _⟩ rfl (by simp) ?_ ?_
      ·refine opOk_value hrun (hrep.put (by rw[hdst];intro d' e;cases e;rw[SState.tmps_setObj];exact hdl) ?_)
       have hval:(ρ.withObj d w.heap.size (.slice (some ⟨w.heap.size,0,none⟩) k.toNat k.toNat)).val d=.slice (some ⟨w.heap.size,0,none⟩) k.toNat k.toNat:=by simp[Rho.withObj]
       have hs:SRd (w.alloc (.cells (madeCells z.cells (k.toNat*i.size)) e)) (ρ.withObj d w.heap.size (.slice (some ⟨w.heap.size,0,none⟩) k.toNat k.toNat)) env ((ρ.withObj d w.heap.size (.slice (some ⟨w.heap.size,0,none⟩) k.toNat k.toNat)).val d) (.slc d):=.slc
       rwa [hval] at hs
      ·have hbk:(ρ.withObj d w.heap.size (.slice (some ⟨w.heap.size,0,none⟩) k.toNat k.toNat)).blk d=w.heap.size:=by simp[Rho.withObj]
       have hrepl:∀(m:Nat) (x:D),(List.replicate k.toNat dz)[m]? = some x→x=dz∧m<k.toNat:=by
        intro m x hx
        rw[List.getElem?_replicate] at hx
        split at hx
        ·cases hx;exact⟨rfl,by assumption⟩
        ·cases hx
       refine⟨madeCells z.cells (k.toNat*i.size),e,List.replicate k.toNat dz,by rw[hbk];exact heap_alloc_new w _,by simp only[E.eval];exact hix,fun m x hx=>by rw[(hrepl m x hx).1];exact hlen,by simp[size_madeCells],fun m x j y hx hy=>?_,by rw[hbk];simp[Rho.withObj],by simpa using hkm,fun off hs=>?_⟩
       ·obtain⟨rfl,hmk⟩:=hrepl m x hx
        obtain⟨h1,u,h2,h3⟩:=hzc j y hy
        have hj:j<i.size:=by rw[←hlen];exact(List.getElem?_eq_some_iff.1 hy).1
        refine⟨h1,u,?_,h3.keep hK (Sets.le_refl _)⟩
        have hlt:m*i.size+j<k.toNat*i.size:=by
         have:(m+1)*i.size≤k.toNat*i.size:=Nat.mul_le_mul_right _ hmk
         rw[Nat.add_mul,Nat.one_mul] at this
         omega
        have hmod:(m*i.size+j) % i.size=j:=by rw[Nat.mul_comm,Nat.mul_add_mod,Nat.mod_eq_of_lt hj]
        have hjz:j<z.cells.size:=by rw[hzl];exact hj
        have hu':u=z.cells[j]:=by rw[Array.getElem?_eq_getElem hjz] at h2;exact(Option.some.inj h2).symm
        simp only[madeCells,Array.getElem?_map,Array.getElem?_range,hlt,if_true,Option.map_some,hzl,hmod,Option.some.injEq]
        rw[hu']
        exact getElem!_pos z.cells j hjz
       ·rw[hbk] at hs
        have:=h.cells _ off hs
        omega
      ·intro b hb
       simpa[objBlk,Rho.withObj] using hb.symm
     ·cases hev
    ·cases hev
   ·cases hl
  ·cases hl
 ·cases hl

end
end
end Go.Am

/-
 Slice literals.
-/
namespace Go.Am
noncomputable section

def unitE (agg:Bool)(n:Nat)(x:E):E:=if agg then .aggN n x else .scal x

def listE (agg:Bool)(n:Nat):List SV→Option E
 | []=>some (.const (.lst []))
 | s :: r=>match s.toE,listE agg n r with
  | some x,some y=>some (.lcons (unitE agg n x) y)
  | _,_=>none

def llit (P:Program)(t:TypeId)(len:Nat)(parts:List (Nat×Operand))(opv:Operand→SV)(dst:Option Tmp)(ix:Nat):Option LRes:=
 match dst,P.underlying t with
 | some d,some (.slice e)=>match P.info? e,aggT P e,listE ((aggT P e).getD false) ((szT P e).getD 0) (parts.map fun p=>opv p.2) with
  | some i,some agg,some y=>
    if parts.map (·.1)=List.range len∧0<i.size∧len*i.size≤16777216∧(agg=true∨i.size=1)∧i.zero.isSome=true then some { val:=.own (.sym ix) d,upd:=some (d,.tok e i.size),bind:=some (.ev y) } else none
  | _,_,_=>none
 | _,_=>none

section
variable {P:Program} {w w0:World} {X:Ent} {a:Act} {σ:SState} {env:List D} {ρ:Rho}

theorem unit_rd {agg:Bool}{n:Nat}{x:E}{d u:D}{v:Value}{S:Sets}(hag:agg=true∨n=1)(hx:x.eval env=some d)(hr:RdD w S v d)(hu:(unitE agg n x).eval env=some u):RdD w S v u∧u.cells.length=n∧u.notTup=true:=by
 unfold unitE at hu
 split at hu
 ·simp only[E.eval,hx,Option.bind_some] at hu
  unfold D.aggN at hu
  split at hu
  ·split at hu
   ·rename_i hl;cases hu;exact⟨hr,hl,rfl⟩
   ·cases hu
  ·cases hu
 ·rename_i hna
  simp only[E.eval,hx,Option.bind_some] at hu
  unfold D.scal at hu
  split at hu
  ·rename_i h1
   cases hu
   refine⟨hr,?_,?_⟩
   ·rw[D.cells_one h1,hag.resolve_left hna];rfl
   ·cases d <;> first | rfl | simp[D.one] at h1
  ·cases hu

theorem listE_rd {agg:Bool}{n:Nat}{S:Sets}(hag:agg=true∨n=1):∀{svs:List SV} {vs:List Value} {y:E} {d:D},listE agg n svs=some y→vs.length=svs.length→(∀(i:Nat) (v:Value) (s:SV) (x:E),vs[i]? = some v→svs[i]? = some s→s.toE=some x→∃d,x.eval env=some d∧RdD w S v d)→y.eval env=some d →
  ∃ds,d=.lst ds∧ds.length=vs.length∧∀(i:Nat) (v:Value) (u:D),vs[i]? = some v→ds[i]? = some u→RdD w S v u∧u.cells.length=n∧u.notTup=true
 | [],vs,y,d,h,hl,_,hd=>by
  simp[listE] at h;subst h
  simp[E.eval] at hd;subst hd
  have:vs=[]:=List.eq_nil_of_length_eq_zero (by simpa using hl)
  subst this
  exact⟨[],rfl,rfl,by simp⟩
 | s :: r,vs,y,d,h,hl,hh,hd=>by
  match vs,hl with
  | v :: vs,hl=>
   simp only[listE] at h
   split at h
   ·rename_i x y' hx hy
    cases h
    simp only[E.eval,Option.bind_eq_some_iff] at hd
    obtain⟨u,hu,d',hd',hc⟩:=hd
    obtain⟨ds,rfl,hdl,hds⟩:=listE_rd (vs:=vs) hag hy (by simpa using hl) (fun i v s x h1 h2 h3=>hh (i+1) v s x (by simpa using h1) (by simpa using h2) h3) hd'
    simp only[D.lcons,Option.some.injEq] at hc
    subst hc
    obtain⟨dx,hdx,hrx⟩:=hh 0 v s x rfl rfl hx
    refine⟨u :: ds,rfl,by simp[hdl],fun i v' u' hv hu'=>?_⟩
    cases i with
    | zero=>simp at hv hu';subst hv hu';exact unit_rd hag hdx hrx hu
    | succ i=>exact hds i v' u' (by simpa using hv) (by simpa using hu')
   ·cases h

theorem run_buildSlice0 (w:World)(t e:TypeId)(i:TypeInfo)(hu:P.underlying t=some (.slice e))(hi:P.info? e=some i):(Instr.buildSlice t 0 #[]).run P w=.ok (.slice (some ⟨w.heap.size,0,none⟩) 0 0) (w.alloc (.cells #[] e)):=by
 simp[Instr.buildSlice,run_underlying hu,sizeOf,typeInfo,hi,Instr.fill,newRow]
 rw[show Array.range 0=#[] from Array.size_eq_zero_iff.1 (by simp)]
 simp

theorem lit_run {o:Oper} {t e:TypeId} {len:Nat} {parts:Array (Nat×Operand)} {opv:Operand→SV} {i:TypeInfo} {agg:Bool} {y:E} {z:Value} {dz:D} (ho:o.op=.buildSlice t len parts) (hv:∀x,SRd w ρ env (a.eval x) (opv x)) (hu:P.underlying t=some (.slice e)) (hi:P.info? e=some i)
  (hy:listE agg i.size (parts.toList.map fun p=>opv p.2)=some y) (hidx:parts.toList.map (·.1)=List.range len) (hpos:0<i.size) (hsmall:len*i.size≤16777216) (hagg:agg=true∨i.size=1) (hz:i.zero=some z) (hev:y.eval env=some dz) :
  ∃(r:Array Value) (ds:List D),dz=.lst ds∧ds.length=len∧(execOp a.eval o).run P w=.ok (.value (.slice (some ⟨w.heap.size,0,none⟩) len len)) (w.alloc (.cells r e))∧r.size=len*i.size∧len≤maxLen∧RowRd w ρ.S i.size r.toList ds:=by
 have hplen:parts.toList.length=len:=by
  have:=congrArg List.length hidx
  simpa using this
 obtain⟨ds,rfl,hdsl,hds⟩:=listE_rd (w:=w) (S:=ρ.S) (vs:=parts.toList.map fun p=>a.eval p.2) hagg hy (by simp) (fun j v s x h1 h2 h3=>by
  simp only[List.getElem?_map,Option.map_eq_some_iff] at h1 h2
  obtain⟨p,hp,rfl⟩:=h1
  obtain⟨q,hq,rfl⟩:=h2
  rw[hp] at hq;cases hq
  exact SV.toE_rd h3 (hv p.2)) hev
 have hdl2:ds.length=len:=by rw[hdsl];simpa using hplen
 have hparts:(parts.map fun(x:Nat×Operand)=>(x.1,a.eval x.2)).toList=((parts.toList.map fun p=>a.eval p.2).zipIdx 0).map fun x=>(x.2,x.1):=by
  apply List.ext_getElem?
  intro j
  simp only[Array.toList_map,List.getElem?_map,List.getElem?_zipIdx,Nat.zero_add]
  cases hp:parts.toList[j]? with
  | none=>rfl
  | some p=>
   have h1:(parts.toList.map (·.1))[j]? = some p.1:=by rw[List.getElem?_map,hp];rfl
   rw[hidx] at h1
   have h2:p.1=j:=by
    have hj:j<(List.range len).length:=(List.getElem?_eq_some_iff.1 h1).1
    rw[List.getElem?_range (by simpa using hj)] at h1
    exact(Option.some.inj h1).symm
   simp[h2]
 have hcs:∀v,v∈parts.toList.map (fun p=>a.eval p.2)→v.cells.size=i.size:=by
  intro v hv'
  obtain⟨j,hj⟩:=List.getElem?_of_mem hv'
  have hjl:j<ds.length:=by rw[hdsl];exact(List.getElem?_eq_some_iff.1 hj).1
  obtain⟨h1,h2,h3⟩:=hds j v _ hj (List.getElem?_eq_getElem hjl)
  rw[(h1.cellAt h3).1,h2]
 have hrun:∃r:Array Value,(Instr.buildSlice t len (parts.map fun(x:Nat×Operand)=>(x.1,a.eval x.2))).run P w=.ok (.slice (some ⟨w.heap.size,0,none⟩) len len) (w.alloc (.cells r e))∧r.size=len*i.size ∧
   ∀k,k<len*i.size→r[k]? = ((parts.toList.map fun p=>a.eval p.2)[k / i.size]?).bind fun v=>v.cells[k % i.size]?:=by
  rcases Nat.eq_zero_or_pos len with h0 | h0
  ·subst h0
   have:parts=#[]:=by
    have:parts.toList=[]:=List.eq_nil_of_length_eq_zero hplen
    rw[←Array.toArray_toList (xs:=parts),this]
   subst this
   refine⟨#[],?_,by simp,fun k hk=>by simp at hk⟩
   rw[show(#[]:Array (Nat×Operand)).map (fun x=>(x.1,a.eval x.2))=#[] from by simp]
   exact run_buildSlice0 w t e i hu hi
  ·have hp':0<len*i.size:=Nat.mul_pos h0 hpos
   obtain⟨r,hr,hrs,hrk⟩:=Great.fill_dense hpos (parts.toList.map fun p=>a.eval p.2) 0 ((Array.range (len*i.size)).map (z.cells[· % z.cells.size]!)) hcs (by simp[hplen])
   refine⟨r,run_buildSlice w t e len _ r i z hu hi hz (by omega) (by omega) (by rw[hparts];exact hr),by rw[hrs];simp,fun k hk=>?_⟩
   rw[hrk k,if_pos ⟨by omega,by simpa[hplen] using hk⟩,Nat.sub_zero]
 obtain⟨r,hrun,hrs,hrk⟩:=hrun
 have hml:len≤maxLen:=by
  have:len≤len*i.size:=Nat.le_mul_of_pos_right _ hpos
  have h9:len≤9223372036854775807:=by omega
  exact h9
 have hzz:∀(j:Nat) (u:D),ds[j]? = some u→u.cells.length=i.size:=fun j u hj=>by
  have hjl:j<(parts.toList.map fun p=>a.eval p.2).length:=by rw[←hdsl];exact(List.getElem?_eq_some_iff.1 hj).1
  exact(hds j _ u (List.getElem?_eq_getElem hjl) hj).2.1
 have hrow:RowRd w ρ.S i.size r.toList ds:=by
  refine⟨by simp[hrs,hdl2],hzz,fun j u q x hj hq=>?_⟩
  have hjl:j<(parts.toList.map fun p=>a.eval p.2).length:=by rw[←hdsl];exact(List.getElem?_eq_some_iff.1 hj).1
  obtain⟨h1,h2,h3⟩:=hds j _ u (List.getElem?_eq_getElem hjl) hj
  obtain⟨h4,v,h5,h6⟩:=(h1.cellAt h3).2 q x hq
  obtain⟨hlt,hqs⟩:=index_lt hzz hj hq
  refine⟨h4,v,?_,h6⟩
  have hdiv:(j*i.size+q) / i.size=j:=by rw[Nat.mul_comm,Nat.mul_add_div hpos,Nat.div_eq_of_lt hqs,Nat.add_zero]
  have hmod:(j*i.size+q) % i.size=q:=by rw[Nat.mul_comm,Nat.mul_add_mod,Nat.mod_eq_of_lt hqs]
  rw[Array.getElem?_toList,hrk _ (by rw[←hdl2];exact hlt),hdiv,hmod,List.getElem?_eq_getElem hjl]
  exact h5
 refine⟨r,ds,rfl,hdl2,?_,hrs,hml,hrow⟩
 unfold execOp
 simp only[ho,Sem.run_bind,hrun,Result.andThen_ok,Sem.run_pure]

theorem llit_sound {o:Oper} {t:TypeId} {len:Nat} {parts:Array (Nat×Operand)} {opv:Operand→SV} {ix:Nat} {r:LRes} (ho:o.op=.buildSlice t len parts) (hv:∀x,SRd w ρ env (a.eval x) (opv x)) (hl:llit P t len parts.toList opv o.dst ix=some r) (h:Rep w0 X w a σ env ρ)
  (hd:∀d,o.dst=some d→d<σ.tmps.length) (hm:σ.mem.length=σ.tmps.length) (hb:BindOk P env ix r.bind) (hf:∀u,r.upd=some u→σ.obj u.1=none∧σ.avoids u.1):∃ob x,r.upd=some (ob,x)∧OpOk P o a w w0 X ((σ.setObj ob (some x)).put o.dst r.val) env:=by
 unfold llit at hl
 split at hl
 ·rename_i d e hdst hu
  split at hl
  ·rename_i i agg y hi hag hy
   split at hl
   ·rename_i hc
    cases hl
    obtain⟨hidx,hpos,hsmall,hagg,hzero⟩:=hc
    obtain⟨hfree,hav⟩:=hf _ rfl
    refine⟨d,_,rfl,?_⟩
    have hdl:=hd d hdst
    have hsz:szT P e=some i.size:=by simp[szT,hi]
    rw[hag,hsz] at hy
    simp only[Option.getD_some] at hy
    obtain⟨dz,hev,hix⟩:=hb
    obtain⟨z,hz⟩:=Option.isSome_iff_exists.1 hzero
    obtain⟨r,ds,rfl,hdl2,hrunx,hrs,hml,hrow⟩:=lit_run ho hv hu hi hy hidx hpos hsmall hagg hz hev
    have hK:Keeps ρ.S w (w.alloc (.cells r e)):=Keeps.alloc h.cells _
    have hown:(w.alloc (.cells r e)).ownsRow 0 e i.size (.slice (some ⟨w.heap.size,0,none⟩) len len) len r.toList:=World.ownsRow_lit w r len (Nat.zero_le _) hml hrs
    have hrep:=h.addTok (w':=w.alloc (.cells r e)) (k:=d) (by rw[hm];exact hdl) hfree hav hown hK (fun o' y' b h1 h2=>?_) (fun b hb=>?_) (fun b hb off _ hS=>?_) rfl ⟨rfl,Nat.le_refl _⟩ rfl (by simp) (fun b hb _=>heapOld w _ b (Nat.lt_of_lt_of_le hb h.grown))
    ·refine opOk_value (v:=.slice (some ⟨w.heap.size,0,none⟩) len len) ?_ (hrep.put (by rw[hdst];intro d' e;cases e;rw[SState.tmps_setObj];exact hdl) ?_)
     ·exact hrunx
     ·exact .own (es:=ds) (by simp only[E.eval];exact hix) (own_rd hown hdl2 (hrow.keep hK (ρ.S.le_or _)) fun b hb j hj=>.inr ⟨hb,hj⟩) (by simp[Rho.withTok])
    ·have:=(h.own o' y' b h1 h2).2
     refine⟨heapOld w _ b this,?_⟩
     simp[Value.ownBlock]
     omega
    ·simp[Value.ownBlock] at hb
     exact .inl (by rw[←hb];exact h.grown)
    ·simp[Value.ownBlock] at hb
     have:=h.cells b off hS
     omega
   ·cases hl
  ·cases hl
 ·cases hl

end
end
end Go.Am

/-
 Struct literals.
-/
namespace Go.Am
noncomputable section

def unitOf (nz:Bool)(z:Value)(parts:List (Nat×SV))(i off size:Nat)(agg:Bool):Option E:=
 match parts.find? (fun p=>p.1==i) with
 | some p=>if agg=true∨size=1 then p.2.toE.map (unitE agg size) else none
 | none=>(D.ofCells nz ((z.cells.toList.drop off).take size)).bind fun ds=>if ds.length=size then some (.const (.agg ds)) else none

def chainE (nz:Bool)(z:Value)(parts:List (Nat×SV)):Nat→Nat→List ((Nat×Nat)×Bool)→Option E
 | _,off,[]=>if off=z.cells.size then some .nil else none
 | i,off,p :: r=>if p.1.1=off then(match unitOf nz z parts i off p.1.2 p.2,chainE nz z parts (i+1) (off+p.1.2) r with
   | some x,some y=>some (.cons x y)
   | _,_=>none) else none

def fieldPlaces (P:Program)(fields:Array Field):Option (List (Nat×Nat)):=fields.toList.mapM fun f=>(P.info? f.type).map fun i=>(f.offset,i.size)
def fieldAggs (P:Program)(fields:Array Field):List Bool:=fields.toList.map fun f=>(aggT P f.type).getD false

def allApart (pl:List (Nat×Nat)):Bool:=(List.range pl.length).all fun i=>(List.range pl.length).all fun j=>decide (i=j)||(match pl[i]?,pl[j]? with | some p,some q=>apartP p q | _,_=>true)

def lbuild (nz:Bool)(P:Program)(t:TypeId)(parts:List (Nat×Operand))(opv:Operand→SV)(ix:Nat):Option LRes:=
 match P.info? t,P.underlying t with
 | some it,some (.struct fields)=>match it.zero,fieldPlaces P fields with
  | some z,some pl=>match chainE nz z (parts.map fun p=>(p.1,opv p.2)) 0 0 (pl.zip (fieldAggs P fields)) with
   | some y=>if(parts.map (·.1)).Nodup∧parts.all (fun p=>decide (p.1<pl.length))=true∧allApart pl=true then some { val:=.e (.sym ix) false,bind:=some (.ev y) } else none
   | none=>none
  | _,_=>none
 | _,_=>none

section
variable {P:Program} {w w0:World} {X:Ent} {a:Act} {σ:SState} {env:List D} {ρ:Rho}

theorem chain_spec {nz:Bool}{z:Value}{parts:List (Nat×SV)}(hlen:∀i off size agg x u,unitOf nz z parts i off size agg=some x→x.eval env=some u→u.cells.length=size):∀{l:List ((Nat×Nat)×Bool)} {i off:Nat} {y:E} {d:D},chainE nz z parts i off l=some y→y.eval env=some d →
  ∃cs,d=.agg cs∧off+cs.length=z.cells.size∧(∀(f:Nat) (q:(Nat×Nat)×Bool),l[f]? = some q→q.1.1+q.1.2≤z.cells.size∧∃x u,unitOf nz z parts (i+f) q.1.1 q.1.2 q.2=some x∧x.eval env=some u) ∧
  ∀k,off≤k→k<z.cells.size→∃f q x u,l[f]? = some q∧q.1.1≤k∧k<q.1.1+q.1.2∧unitOf nz z parts (i+f) q.1.1 q.1.2 q.2=some x∧x.eval env=some u∧cs[k-off]? = u.cells[k-q.1.1]?
 | [],i,off,y,d,h,hd=>by
  simp only[chainE] at h
  split at h
  ·rename_i ho
   cases h
   simp only[E.eval,Option.some.injEq] at hd
   subst hd
   exact⟨[],rfl,by simpa using ho,by simp,fun k h1 h2=>by omega⟩
  ·cases h
 | q :: r,i,off,y,d,h,hd=>by
  simp only[chainE] at h
  split at h
  ·rename_i ho
   split at h
   ·rename_i x y' hx hy
    cases h
    simp only[E.eval,Option.bind_eq_some_iff] at hd
    obtain⟨u,hu,d',hd',hc⟩:=hd
    obtain⟨cs,rfl,hl,h1,h2⟩:=chain_spec hlen hy hd'
    have hul:=hlen _ _ _ _ _ _ hx hu
    have hd2:d=.agg (u.cells++cs):=by
     unfold D.cons at hc
     split at hc <;> first | cases hc;done | (cases hc;rename_i e1 e2;cases e2;rfl) | skip
     all_goals first | (cases hc;rfl) | cases hc
    refine⟨u.cells++cs,hd2,by simp[hul];omega,fun f q' hq=>?_,fun k hk1 hk2=>?_⟩
    ·cases f with
     | zero=>simp at hq;subst hq;rw[ho];exact⟨by omega,x,u,hx,hu⟩
     | succ f=>
      obtain⟨h5,x',u',h3,h4⟩:=h1 f q' (by simpa using hq)
      exact⟨h5,x',u',by rw[show i+(f+1)=i+1+f from by omega];exact h3,h4⟩
    ·by_cases hk:k<off+q.1.2
     ·refine⟨0,q,x,u,rfl,by omega,by omega,by rw[ho];exact hx,hu,?_⟩
      rw[List.getElem?_append_left (by omega),ho]
     ·obtain⟨f,q',x',u',h3,h4,h5,h6,h7,h8⟩:=h2 k (by omega) hk2
      refine⟨f+1,q',x',u',by simpa using h3,h4,h5,by rw[show i+(f+1)=i+1+f from by omega];exact h6,h7,?_⟩
      rw[List.getElem?_append_right (by omega),hul,show k-off-q.1.2=k-(off+q.1.2) from by omega]
      exact h8
   ·cases h
  ·cases h


theorem allApart_spec {pl:List (Nat×Nat)}(h:allApart pl=true){i j:Nat}{p q:Nat×Nat}(hi:pl[i]? = some p)(hj:pl[j]? = some q)(hne:i≠j):p.1+p.2≤q.1∨q.1+q.2≤p.1:=by
 have h1:=List.all_eq_true.1 h i (List.mem_range.2 (List.getElem?_eq_some_iff.1 hi).1)
 have h2:=List.all_eq_true.1 h1 j (List.mem_range.2 (List.getElem?_eq_some_iff.1 hj).1)
 simp only[hne,decide_false,Bool.false_or,hi,hj,apartP,Bool.or_eq_true,decide_eq_true_eq] at h2
 exact h2

theorem mapM_length {α β:Type}{f:α→Option β}:∀{l:List α} {r:List β},l.mapM f=some r→r.length=l.length
 | [],r,h=>by simp at h;subst h;rfl
 | a :: l,r,h=>by
  simp only[List.mapM_cons,Option.bind_eq_bind,Option.pure_def,Option.bind_eq_some_iff,Option.some.injEq] at h
  obtain⟨b,_,r',h2,rfl⟩:=h
  simp[mapM_length h2]

theorem lbuild_sound {nz:Bool} {o:Oper} {t:TypeId} {parts:Array (Nat×Operand)} {opv:Operand→SV} {ix:Nat} {r:LRes} (ho:o.op=.build t parts) (hv:∀x,SRd w ρ env (a.eval x) (opv x)) (hl:lbuild nz P t parts.toList opv ix=some r) (h:Rep w0 X w a σ env ρ)
  (hd:∀d,o.dst=some d→d<σ.tmps.length) (hb:BindOk P env ix r.bind):r.upd=none∧OpOk P o a w w0 X (σ.put o.dst r.val) env:=by
 unfold lbuild at hl
 split at hl
 ·rename_i it fields hit hu
  split at hl
  ·rename_i z pl hz hpl
   split at hl
   ·rename_i y hy
    split at hl
    ·rename_i hc
     obtain⟨hnd,hin,hap⟩:=hc
     cases hl
     refine⟨rfl,?_⟩
     obtain⟨dz,hev,hix⟩:=hb
     have hpll:pl.length=fields.toList.length:=mapM_length hpl
     have unitR:∀i off size agg x u,unitOf nz z (parts.toList.map fun p=>(p.1,opv p.2)) i off size agg=some x→x.eval env=some u→u.cells.length=size ∧
       ((∃p,p∈parts.toList∧p.1=i∧RdD w ρ.S (a.eval p.2) u∧u.notTup=true)∨((∀p,p∈parts.toList→p.1≠i)∧∃ds,u=.agg ds∧D.ofCells nz ((z.cells.toList.drop off).take size)=some ds)):=by
      intro i off size agg x u hx hu'
      unfold unitOf at hx
      split at hx
      ·rename_i p hp
       split at hx
       ·rename_i hag
        obtain⟨x',hx',rfl⟩:=Option.map_eq_some_iff.1 hx
        have hmem:=List.mem_of_find?_eq_some hp
        have hpi:=List.find?_some hp
        simp only[beq_iff_eq] at hpi
        obtain⟨p0,hp0,rfl⟩:=List.mem_map.1 hmem
        obtain⟨d,hdx,hrx⟩:=SV.toE_rd hx' (hv p0.2)
        obtain⟨h1,h2,h3⟩:=unit_rd hag hdx hrx hu'
        exact⟨h2,.inl ⟨p0,hp0,hpi,h1,h3⟩⟩
       ·cases hx
      ·rename_i hnone
       obtain⟨ds,hds,hx⟩:=Option.bind_eq_some_iff.1 hx
       split at hx
       ·rename_i hdl
        cases hx
        simp only[E.eval,Option.some.injEq] at hu'
        subst hu'
        refine⟨hdl,.inr ⟨fun p hp hpi=>?_,ds,rfl,hds⟩⟩
        have:=List.find?_eq_none.1 hnone (p.1,opv p.2) (List.mem_map.2 ⟨p,hp,rfl⟩)
        simp[hpi] at this
       ·cases hx
     obtain⟨cs,rfl,hcl,hf,hcov⟩:=chain_spec (fun i off size agg x u h1 h2=>(unitR i off size agg x u h1 h2).1) hy hev
     rw[Nat.zero_add] at hcl
     have hzip:∀(i:Nat) (q:Nat×Nat),pl[i]? = some q→∃b,(pl.zip (fieldAggs P fields))[i]? = some (q,b):=by
      intro i q hq
      have hi:=(List.getElem?_eq_some_iff.1 hq).1
      have hi2:i<(fieldAggs P fields).length:=by simp only[fieldAggs,List.length_map];omega
      exact⟨(fieldAggs P fields)[i],by rw[List.getElem?_zip_eq_some];exact⟨hq,List.getElem?_eq_getElem hi2⟩⟩
     have hunzip:∀(i:Nat) (q:(Nat×Nat)×Bool),(pl.zip (fieldAggs P fields))[i]? = some q→pl[i]? = some q.1:=by
      intro i q hq
      rw[List.getElem?_zip_eq_some] at hq
      exact hq.1
     have hpart:∀p,p∈parts.toList→∃off,pl[p.1]? = some (off,(a.eval p.2).cells.size)∧off+(a.eval p.2).cells.size≤z.cells.size:=by
      intro p hp
      have hlt:p.1<pl.length:=by
       have:=List.all_eq_true.1 hin p hp
       simpa using this
      obtain⟨b,hb⟩:=hzip p.1 pl[p.1] (List.getElem?_eq_getElem hlt)
      obtain⟨hle,x,u,h1,h2⟩:=hf p.1 _ hb
      rw[Nat.zero_add] at h1
      obtain⟨h3,h4⟩:=unitR _ _ _ _ _ _ h1 h2
      rcases h4 with⟨p',hp',hpi,hr,hnt⟩ | ⟨hno,_⟩
      ·have:=nodup_fst hnd hp' hp hpi
       subst this
       have hsz:=(hr.cellAt hnt).1
       rw[h3] at hsz
       exact⟨pl[p'.1].1,by rw[hsz];exact List.getElem?_eq_getElem hlt,by rw[hsz];exact hle⟩
      ·exact absurd rfl (hno p hp)
     obtain⟨r,hr,hrs,hrk⟩:=fill_at (place:=fun i=>pl.toArray[i]?) (parts.toList.map fun p=>(p.1,a.eval p.2)) z.cells (fun p hp=>by
      obtain⟨q,hq,rfl⟩:=List.mem_map.1 hp
      obtain⟨off,h1,h2⟩:=hpart q hq
      exact⟨off,by simpa using h1,h2⟩)
     have hbuilt:P.built t (parts.map fun(x:Nat×Operand)=>(x.1,a.eval x.2)).toList=some r:=by
      unfold Program.built
      simp only[hit,hu,hz]
      unfold fieldPlaces at hpl
      simp only[hpl,Array.toList_map]
      exact hr
     have hcell:∀(k:Nat) (c:D),cs[k]? = some c→c.one=true∧∃v,r[k]? = some v∧RdD w ρ.S v c:=by
      intro k c hk
      have hkz:k<z.cells.size:=by rw[←hcl];exact(List.getElem?_eq_some_iff.1 hk).1
      obtain⟨f,q,x,u,h1,h2,h3,h4,h5,h6⟩:=hcov k (Nat.zero_le _) hkz
      rw[Nat.sub_zero] at h6
      rw[Nat.zero_add] at h4
      have hplf:=hunzip f q h1
      obtain⟨h7,h8⟩:=unitR _ _ _ _ _ _ h4 h5
      have huc:u.cells[k-q.1.1]? = some c:=h6 ▸ hk
      have hnocov:∀p,p∈parts.toList→p.1≠f→¬Covers (fun i=>pl.toArray[i]?) (p.1,a.eval p.2) k:=by
       rintro p hp hne ⟨off,size,h9,h10,h11⟩
       simp only[List.getElem?_toArray] at h9
       have:=allApart_spec hap h9 hplf hne
       simp only at this
       omega
      rcases h8 with⟨p,hp,hpi,hrd,hnt⟩ | ⟨hno,ds,rfl,hds⟩
      ·obtain⟨h9,v,h10,h11⟩:=(hrd.cellAt hnt).2 _ c huc
       have hsz:=(hrd.cellAt hnt).1
       rw[h7] at hsz
       refine⟨h9,v,?_,h11⟩
       have:=(hrk k hkz).2 (p.1,a.eval p.2) q.1.1 (List.mem_map.2 ⟨p,hp,rfl⟩) (by simp only[List.getElem?_toArray,hpi,hplf,hsz]) h2 (by simp only[hsz];exact h3) fun q' hq' hne=>by
        obtain⟨p',hp',rfl⟩:=List.mem_map.1 hq'
        refine hnocov p' hp' fun e=>hne ?_
        rw[nodup_fst hnd hp' hp (e.trans hpi.symm)]
       rw[this];exact h10
      ·have:=(hrk k hkz).1 fun q' hq'=>by
        obtain⟨p',hp',rfl⟩:=List.mem_map.1 hq'
        exact hnocov p' hp' (hno p' hp')
       rw[this]
       obtain⟨_,hrd⟩:=D.ofCells_rd (w:=w) (S:=ρ.S) hds
       have hget:((z.cells.toList.drop q.1.1).take q.1.2)[k-q.1.1]? = some z.cells[k]:=by
        rw[List.getElem?_take,if_pos (by omega),List.getElem?_drop,show q.1.1+(k-q.1.1)=k from by omega]
        simp[hkz]
       obtain⟨h9,h10⟩:=hrd _ _ c hget huc
       exact⟨h10,z.cells[k],Array.getElem?_eq_getElem hkz,h9⟩
     refine opOk_same h hd (v:=.agg r) ?_ (.e (d:=.agg cs) (by simp only[E.eval];exact hix) (.agg (by rw[hrs,hcl]) (fun k c hk=>(hcell k c hk).1) fun k v c hv' hk=>?_) (by simp))
     ·unfold execOp
      simp only[ho,Sem.run_bind,run_build w t _ r hbuilt,Result.andThen_ok,Sem.run_pure]
     ·obtain⟨_,v',h1,h2⟩:=hcell k c hk
      rw[hv'] at h1
      cases h1
      exact h2
    ·cases hl
   ·cases hl
  ·cases hl
 ·cases hl

end
end
end Go.Am

/-
 Variables and slices that nobody writes: data at once;and such that lie in the store.
-/
namespace Go.Am
noncomputable section

def cfOf (obj:Nat→Option SObj):Option StCfg:=
 match obj HID with
 | some (.store cf _)=>some cf
 | _=>none

def cellsE (agg:Bool)(n:Nat)(x:E):E:=if agg then .aggN n x else .cons (.scal x) .nil

def isDat (o:Oper)(act:List (E×Bool))(obj:Nat→Option SObj):Bool:=
 match act,o.dst,cfOf obj with
 | _ :: _,_,_=>true
 | [],some d,some cf=>cf.dats.contains d
 | _,_,_=>false

def ldat (P:Program)(o:Oper)(opv:Operand→SV)(act:List (E×Bool))(obj:Nat→Option SObj)(ix:Nat):Option LRes:=
 if isDat o act obj then
  match o.op with
  | .box t x=>(match aggT P t,szT P t,(opv x).toE with
   | some agg,some n,some x'=>some { val:=.e (.sym ix) true,bind:=some (.ev (.mkptr (cellsE agg n x'))) }
   | _,_,_=>none)
  | .buildSlice t len parts=>(llit P t len (parts.toList) opv (some 0) ix).map fun r=>{ val:=.e (.sym ix) true,bind:=r.bind }
  | _=>none
 else none

def nilOp:Operand→Bool
 | .const (.slice none 0 0)=>true
 | _=>false

def nilS (s:Operand)(sv:SV):SV:=if nilOp s=true then .e (.const .snil) true else sv

theorem nilS_rd {w:World}{ρ:Rho}{env:List D}{a:Act}{s:Operand}{sv:SV}(h:SRd w ρ env (a.eval s) sv):SRd w ρ env (a.eval s) (nilS s sv):=by
 unfold nilS
 split
 ·rename_i hn
  unfold nilOp at hn
  split at hn
  ·exact .e rfl .snil fun _=>rfl
  ·cases hn
 ·exact h

def lpubC (P:Program)(o:Oper)(opv:Operand→SV)(hO:Option SObj)(ix:Nat):Option LRes:=
 match hO,o.dst with
 | some (.store cf h),some d=>
  if cf.ro then none else match o.op with
  | .alloc t=>if cf.pubs.contains d then(match(P.info? t).bind (·.zero) with
   | some z=>(match D.ofCells cf.nils z.cells.toList with
    | some ds=>some { val:=.e (.fstid h) true,upd:=some (HID,.store cf (.sym ix)),bind:=some (.ev (.newb t z.cells.size h (.const (.agg ds)))) }
    | none=>none)
   | none=>none) else none
  | .box t x=>if cf.pubs.contains d then(match aggT P t,szT P t,(opv x).toE with
   | some agg,some n,some x'=>if agg=true∨n=1 then some { val:=.e (.fstid h) true,upd:=some (HID,.store cf (.sym ix)),bind:=some (.ev (.newb t n h (cellsE agg n x'))) } else none
   | _,_,_=>none) else none
  | .makeSlice t n c=>if cf.pubs.contains d then(match lmake cf.nils P t (opv n) (opv c) (some 0) ix,P.underlying t with
   | some { bind:=some (.ev y),.. },some (.slice e)=>(match P.info? e with
    | some i=>if 0<i.size then some { val:=.e (.fstsl h y) true,upd:=some (HID,.store cf (.sym ix)),bind:=some (.ev (.newv e i.size h y)) } else none
    | none=>none)
   | _,_=>none) else none
  | .assign x=>if cf.pubs.contains d then(match x with
   | .const (.slice none 0 0)=>some { val:=.e (.const .snil) true }
   | _=>none) else none
  | .call c=>(match c.callee with
   | .builtin .append=>(match c.args.toList,c.argTypes.toList with
    | [s,x],[t,t']=>if t=t'∧¬(nilOp s=true∧cf.dats.contains d=true) then(match nilS s (opv s),(opv x).toE,P.underlying t with
     | .e s' _,some x',some (.slice e)=>(match P.info? e with
      | some i=>(match i.zero with
       | some z=>if z.cells.size=i.size∧0<i.size∧e≠anyT then some { val:=.e (.apps h s' x') true,upd:=some (HID,.store cf (.sym ix)),bind:=some (.ev (.apph e i.size i.bytes h s' x')) } else none
       | none=>none)
      | none=>none)
     | _,_,_=>none) else none
    | _,_=>none)
   | _=>none)
  | _=>none
 | _,_=>none

def usesH (o:Oper):Bool:=
 match o.op with
 | .load _ _ | .store _ _ _ | .alloc _ | .box _ _ | .makeSlice _ _ _ | .assign _ | .buildSlice _ _ _ | .makeMap _ _ | .mapUpdate _ _ _ _ | .insert _ _ _ _ | .lookup _ _ _ _ | .range _ _ | .entry _ | .mapEntry _ _ _ | .entryStore _ _ _ _=>true
 | .call c=>(match c.callee with | .value _=>true | .builtin .append=>true | .builtin .len=>true | _=>false)
 | _=>false

def SV.mayE:SV→Bool
 | .e _ _=>true
 | .cond _ sv=>sv.mayE
 | _=>false

theorem strip_mayE {act:List (E×Bool)}{sv:SV}{x:E}{s:Bool}(h:sv.strip act=.e x s):sv.mayE=true:=by
 unfold SV.strip at h
 split at h
 ·split at h
  ·subst h;rfl
  ·cases h
 ·subst h;rfl

def cfO:Option SObj→Option StCfg
 | some (.store cf _)=>some cf
 | _=>none

def locCall (cf:Option StCfg):Callee→Bool
 | .value (.func g)=>(match cf with | some cf=>cf.locs.contains g | none=>false)
 | _=>false

def usesHr (o:Oper)(m:Operand→Bool)(cf:Option StCfg):Bool:=
 match o.op with
 | .load _ x=>m x
 | .store _ x _=>m x
 | .alloc _ | .box _ _ | .makeSlice _ _ _=>match cf,o.dst with
  | some cf,some d=>cf.pubs.contains d
  | _,_=>false
 | .makeMap _ _ | .mapUpdate _ _ _ _ | .insert _ _ _ _ | .lookup _ _ _ _ | .range _ _ | .entry _ | .mapEntry _ _ _ | .entryStore _ _ _ _=>true
 | .call c=>(match c.callee with
  | .value _=>!locCall cf c.callee
  | .builtin .append=>match c.args.toList with
   | s :: _=>m s||nilOp s
   | []=>false
  | .builtin .len=>(match cf with
   | some cf=>c.argTypes.toList.any cf.maps.contains
   | none=>false)
  | _=>false)
 | _=>false

def lpub (P:Program)(o:Oper)(opv:Operand→SV)(obj:Nat→Option SObj)(ix:Nat):Option LRes:=
 if usesH o=true then lpubC P o opv (obj HID) ix else none

section
variable {P:Program} {w w0:World} {X:Ent} {a:Act} {σ:SState} {env:List D} {ρ:Rho}

theorem cellsE_rd {S:Sets}{agg:Bool}{n:Nat}{x:E}{d dc:D}{v:Value}(hx:x.eval env=some d)(hr:RdD w S v d)(hc:(cellsE agg n x).eval env=some dc):∃cs,dc=.agg cs∧v.cells.size=cs.length∧(agg=true→cs.length=n)∧(agg=false→cs.length=1)∧(∀(i:Nat) (u:Value),v.cells[i]? = some u→u.oneCell'=true) ∧
  (∀(i:Nat) (c:D),cs[i]? = some c→c.one=true)∧∀(i:Nat) (u:Value) (c:D),v.cells[i]? = some u→cs[i]? = some c→RdD w S u c:=by
 unfold cellsE at hc
 split at hc
 ·rename_i hagg
  simp only[E.eval,hx,Option.bind_some] at hc
  unfold D.aggN at hc
  split at hc
  ·rename_i cs
   split at hc
   ·rename_i hl
    cases hc
    obtain⟨vs,rfl,hvl,ho,hh⟩:=hr.agg_inv
    refine⟨cs,rfl,hvl,fun _=>hl,(by simp[hagg]),fun i u hu=>?_,fun i c hc=>ho i c hc,hh⟩
    have hi:i<cs.length:=by rw[←hvl];exact(Array.getElem?_eq_some_iff.1 hu).1
    exact(hh i u _ hu (List.getElem?_eq_getElem hi)).one (ho i _ (List.getElem?_eq_getElem hi))
   ·cases hc
  ·cases hc
 ·rename_i hagg
  simp only[E.eval,hx,Option.bind_some,D.scal] at hc
  by_cases h1:d.one=true
  ·rw[if_pos h1] at hc
   simp only[Option.bind_some,D.cons_one h1] at hc
   cases hc
   obtain⟨g1,g2,g3⟩:=hr.cells_rd (by rw[D.cells_one h1];simp[h1])
   rw[D.cells_one h1] at g1 g3
   refine⟨[d],rfl,g1,(by simp[hagg]),fun _=>rfl,g2,fun i c hc=>?_,g3⟩
   cases i with
   | zero=>simp at hc;subst hc;exact h1
   | succ i=>simp at hc
  ·rw[if_neg h1] at hc
   cases hc

theorem ldat_sound {o:Oper}{opv:Operand→SV}{act:List (E×Bool)}{ix:Nat}{r:LRes}(hv:∀x,SRd w ρ env (a.eval x) (opv x))(hl:ldat P o opv act σ.obj ix=some r)(h:Rep w0 X w a σ env ρ)(hd:∀d,o.dst=some d→d<σ.tmps.length)(hb:BindOk P env ix r.bind) :
  r.upd=none∧OpOk P o a w w0 X (σ.put o.dst r.val) env:=by
 unfold ldat at hl
 split at hl
 ·split at hl
  ·rename_i t x ho
   split at hl
   ·rename_i agg n x' hg hn hx
    cases hl
    obtain⟨dx,hdx,hrx⟩:=SV.toE_rd hx (hv x)
    obtain⟨d,he,hix⟩:=hb
    simp only[E.eval,Option.bind_eq_some_iff] at he
    obtain⟨dc,hdc,he⟩:=he
    obtain⟨cs,rfl,h1,_,_,h2,h3,h4⟩:=cellsE_rd hdx hrx hdc
    simp only[D.mkptr] at he
    cases he
    have hrun:(execOp a.eval o).run P w=.ok (.value (.pointer (some ⟨w.heap.size,0,none⟩))) (w.alloc (.cells (a.eval x).cells t)):=by
     unfold execOp
     simp only[ho,Instr.box,Sem.run_bind,Result.andThen_ok,newVar,newRow,Sem.run_pure,run_newObj]
     rfl
    have hrep:=h.allocS (.cells (a.eval x).cells t)
    have hK:Keeps ρ.S w (w.alloc (.cells (a.eval x).cells t)):=Keeps.alloc h.cells _
    refine⟨rfl,opOk_value hrun (hrep.put hd (.e (d:=.ptr cs) (by simp[E.eval,hix]) ?_ fun _=>rfl))⟩
    have hcell:∀(j:Nat) (c:D),cs[j]? = some c→∃u,(a.eval x).cells[j]? = some u:=fun j c hj=>⟨_,Array.getElem?_eq_getElem (by rw[h1];exact(List.getElem?_eq_some_iff.1 hj).1)⟩
    refine .ptr (val:=fun j=>(a.eval x).cells.getD j undef) h3 (fun j c hj=>.inr rfl) (fun j c hj=>?_) fun j c hj=>?_
    ·obtain⟨u,hu⟩:=hcell j c hj
     rw[cell_heap (heap_alloc_new w _),Nat.zero_add,hu,Array.getD_eq_getD_getElem?,hu]
     rfl
    ·obtain⟨u,hu⟩:=hcell j c hj
     rw[Array.getD_eq_getD_getElem?,hu]
     exact(h4 j u c hu hj).keep hK (ρ.S.le_or _)
   ·cases hl
  ·rename_i t len parts ho
   obtain⟨r0,hr0,rfl⟩:=Option.map_eq_some_iff.1 hl
   unfold llit at hr0
   split at hr0
   ·rename_i e hdst hu
    split at hr0
    ·rename_i i agg y hi hag hy
     split at hr0
     ·rename_i hc
      cases hr0
      obtain⟨hidx,hpos,hsmall,hagg,hzero⟩:=hc
      have hsz:szT P e=some i.size:=by simp[szT,hi]
      rw[hag,hsz] at hy
      simp only[Option.getD_some] at hy
      obtain⟨dz,hev,hix⟩:=hb
      obtain⟨z,hz⟩:=Option.isSome_iff_exists.1 hzero
      obtain⟨r,ds,rfl,hdl2,hrunx,hrs,hml,hrow⟩:=lit_run ho hv hu hi hy hidx hpos hsmall hagg hz hev
      have hrep:=h.allocS (.cells r e)
      have hK:Keeps ρ.S w (w.alloc (.cells r e)):=Keeps.alloc h.cells _
      refine⟨rfl,opOk_value hrunx (hrep.put hd (.e (d:=.lst ds) (by simp[E.eval,hix]) ?_ fun _=>rfl))⟩
      have hown:(w.alloc (.cells r e)).ownsRow 0 e i.size (.slice (some ⟨w.heap.size,0,none⟩) len len) len r.toList:=World.ownsRow_lit w r len (Nat.zero_le _) hml hrs
      exact own_rd hown hdl2 (hrow.keep hK (ρ.S.le_or _)) fun b hb j hj=>.inr (by simpa[Value.ownBlock] using hb.symm)
     ·cases hr0
    ·cases hr0
   ·cases hr0
  ·cases hl
 ·cases hl

theorem news_of {S:Sets}{size:Nat}{v:Value}{ys:List D}(h:RdD w S v (.lst ys))(hz:allCells size ys=true) :
  (v=.slice none 0 0∧ys=[])∨∃(ad:Addr) (m c:Nat) (news:List Value),v=.slice (some ad) m c∧ys.length=m∧news.length=m*size∧(∀j u,news[j]? = some u→w.cell? (ad.add j)=some u)∧(∀u∈news,u.oneCell'=true)∧RowRd w S size news ys:=by
 have hzz:∀(i:Nat) (e:D),ys[i]? = some e→e.cells.length=size:=fun i e he=>allCells_get hz he
 cases h with
 | nil=>exact .inl ⟨rfl,rfl⟩
 | @emp ad c _=>exact .inr ⟨ad,0,c,[],rfl,rfl,by simp,by simp,by simp,by simp,hzz,by simp⟩
 | @lst b off len cap size' _ val hl hc hm hz' ho hS hw hr=>
  right
  refine⟨⟨b,off,none⟩,len,cap,(List.range (len*size)).map fun q=>val (q / size) (q % size),rfl,hl.symm,by simp,?_,?_,by simp[hl],hzz,?_⟩
  all_goals
   have hget:∀q,q<len*size→∃e d,ys[q / size]? = some e∧e.cells[q % size]? = some d∧size'=size:=by
    intro q hq
    have hs:0<size:=by
     rcases Nat.eq_zero_or_pos size with h0 | h0
     ·subst h0;simp at hq
     ·exact h0
    have hi:q / size<ys.length:=by rw[←hl];exact(Nat.div_lt_iff_lt_mul hs).2 hq
    have hcl:=hzz _ _ (List.getElem?_eq_getElem hi)
    have hj:q % size<(ys[q / size]).cells.length:=by rw[hcl];exact Nat.mod_lt _ hs
    exact⟨_,_,List.getElem?_eq_getElem hi,List.getElem?_eq_getElem hj,(hz' _ _ (List.getElem?_eq_getElem hi)).symm.trans hcl⟩
  ·intro j u hu
   simp only[List.getElem?_map,Option.map_eq_some_iff] at hu
   obtain⟨q,hq,rfl⟩:=hu
   obtain⟨hjl,rfl⟩:=List.getElem?_eq_some_iff.1 hq
   simp only[List.length_range] at hjl
   simp only[List.getElem_range]
   obtain⟨e,d,h1,h2,rfl⟩:=hget j hjl
   have:=hw _ _ _ _ h1 h2
   rw[addr_add]
   have hdm:=Nat.div_add_mod j size'
   rw[Nat.mul_comm] at hdm
   rw[show off+j=off+j / size'*size'+j % size' from by omega]
   exact this
  ·intro u hu
   simp only[List.mem_map,List.mem_range] at hu
   obtain⟨q,hq,rfl⟩:=hu
   obtain⟨e,d,h1,h2,rfl⟩:=hget q hq
   exact(hr _ _ _ _ h1 h2).one (ho _ _ _ _ h1 h2)
  ·intro i e j d he hd
   obtain⟨hlt,hj⟩:=index_lt hzz he hd
   refine⟨ho _ _ _ _ he hd,val i j,?_,hr _ _ _ _ he hd⟩
   have hq:i*size+j<len*size:=by rw[hl];exact hlt
   rw[List.getElem?_map,List.getElem?_range hq]
   have hs:0<size:=by omega
   have h1:(i*size+j) / size=i:=by
    rw[Nat.mul_comm,Nat.mul_add_div hs,Nat.div_eq_of_lt hj,Nat.add_zero]
   have h2:(i*size+j) % size=j:=by
    rw[Nat.mul_comm,Nat.mul_add_mod,Nat.mod_eq_of_lt hj]
   simp[h1,h2]

theorem chunks_get {sz:Nat}:∀{n:Nat} {cs:List D} {i:Nat},i<n→(chunks sz n cs)[i]? = some ((cs.drop (i*sz)).take sz)
 | 0,_,_,h=>absurd h (Nat.not_lt_zero _)
 | n+1,cs,0,_=>by simp[chunks]
 | n+1,cs,i+1,h=>by
  rw[chunks,List.getElem?_cons_succ,chunks_get (by omega),List.drop_drop,Nat.succ_mul,Nat.add_comm]
theorem chunks_len {sz:Nat}:∀{n:Nat} {cs:List D},(chunks sz n cs).length=n
 | 0,_=>rfl
 | n+1,cs=>by rw[chunks,List.length_cons,chunks_len]

theorem news_asL {S:Sets}{foot:Nat→Prop}{bs:List D}{size:Nat}{v:Value}{dy:D}{ys:List D}(hst:StOk w S foot bs)(h:RdD w S v dy)(ha:D.asL (.st bs) size dy=some ys)(hz:allCells size ys=true) :
  (ys=[]∧(v=.slice none 0 0∨∃ad c,v=.slice (some ad) 0 c))∨∃(ad:Addr) (m c:Nat) (news:List Value),v=.slice (some ad) m c∧ys.length=m∧news.length=m*size∧(∀j u,news[j]? = some u→w.cell? (ad.add j)=some u)∧(∀u∈news,u.oneCell'=true)∧RowRd w S size news ys:=by
 unfold D.asL at ha
 split at ha
 ·cases ha
  rcases news_of h hz with⟨h1,h2⟩ | h1
  ·exact .inl ⟨h2,.inl h1⟩
  ·exact .inr h1
 ·cases ha
  cases h
  exact .inl ⟨rfl,.inl rfl⟩
 ·rename_i j off m
  split at ha
  ·rename_i hm
   subst hm
   cases ha
   cases h
   exact .inl ⟨rfl,.inr ⟨_,_,rfl⟩⟩
  ·obtain⟨blk,hblk,ha⟩:=Option.bind_eq_some_iff.1 ha
   split at ha
   ·rename_i hfit
    cases ha
    obtain⟨hf,vs,⟨e',hh,hty⟩,hsz,hlen,hone,hr,hns⟩:=hst.cells j _ _ _ (cellsAt_some hblk)
    cases h with
    | @sl _ _ _ c hj hle hcm h0=>
    right
    refine⟨⟨S.loc j,off,none⟩,m,c,(vs.toList.drop off).take (m*size),rfl,by simp[chunks_len],?_,fun q u hq=>?_,fun u hu=>?_,?_,fun i e he=>allCells_get hz he,fun i e q d he hd=>?_⟩
    ·rw[List.length_take,List.length_drop,Array.length_toList]
     omega
    ·rw[List.getElem?_take] at hq
     split at hq
     ·rw[List.getElem?_drop] at hq
      rw[addr_add]
      simp only[World.cell?,hh]
      simpa using hq
     ·cases hq
    ·obtain⟨q,hq⟩:=List.getElem?_of_mem hu
     rw[List.getElem?_take] at hq
     split at hq
     ·rename_i hql
      rw[List.getElem?_drop] at hq
      have hcl:off+q<blk.2.2.length:=by omega
      have hd:=List.getElem?_eq_getElem hcl
      exact(hr _ _ _ (by simpa using hq) hd).one (hone _ _ hd)
     ·cases hq
    ·rw[List.length_take,List.length_drop,Array.length_toList,List.length_map,chunks_len]
     omega
    ·have hi:i<m:=by
      have:=(List.getElem?_eq_some_iff.1 he).1
      rw[List.length_map,chunks_len] at this
      exact this
     rw[List.getElem?_map,chunks_get hi] at he
     cases he
     simp only[D.cells] at hd
     rw[List.getElem?_take] at hd
     split at hd
     ·rename_i hq
      rw[List.drop_drop,List.getElem?_drop] at hd
      have hlt:i*size+q<m*size:=by
       have:(i+1)*size≤m*size:=Nat.mul_le_mul_right _ hi
       rw[Nat.succ_mul] at this
       omega
      refine⟨hone _ _ hd,?_⟩
      have hvl:off+(i*size+q)<vs.size:=by omega
      refine⟨vs[off+(i*size+q)],?_,hr _ _ _ (Array.getElem?_eq_getElem hvl) (by rw[←Nat.add_assoc];exact hd)⟩
      rw[List.getElem?_take,if_pos hlt,List.getElem?_drop]
      simp[hvl]
     ·cases hd
   ·cases ha
 ·cases ha

theorem RowRd.append {S:Sets}{size:Nat}{xs ys:List Value}{es fs:List D}(h:RowRd w S size xs es)(k:RowRd w S size ys fs):RowRd w S size (xs++ys) (es++fs):=by
 obtain⟨h1,h2,h3⟩:=h
 obtain⟨k1,k2,k3⟩:=k
 refine⟨by simp[h1,k1,Nat.add_mul],fun i e he=>?_,fun i e j d he hd=>?_⟩
 ·rw[List.getElem?_append] at he
  split at he
  ·exact h2 i e he
  ·exact k2 _ e he
 ·rw[List.getElem?_append] at he
  split at he
  ·obtain⟨h4,v,h5,h6⟩:=h3 i e j d he hd
   refine⟨h4,v,?_,h6⟩
   rw[List.getElem?_append_left (by rw[h1];exact(index_lt h2 he hd).1)]
   exact h5
  ·rename_i hi
   obtain⟨h4,v,h5,h6⟩:=k3 _ e j d he hd
   refine⟨h4,v,?_,h6⟩
   have hle:es.length*size≤i*size:=Nat.mul_le_mul_right _ (by omega)
   rw[List.getElem?_append_right (by rw[h1];omega),h1]
   rw[show i*size+j-es.length*size=(i-es.length)*size+j from by rw[Nat.sub_mul];omega]
   exact h5


/-! ## new blocks of the store -/

def Sets.more (S:Sets)(b k:Nat)(l:Loop×Code:=default):Sets:={ mem:=S.mem,loc:=fun i=>if i=S.n then b else S.loc i,n:=S.n+1,cap:=fun i=>if i=S.n then k else S.cap i,hold:=S.hold,lrec:=fun i=>if i=S.n then l else S.lrec i }

theorem Sets.le_more (S:Sets)(b k:Nat)(l:Loop×Code:=default):S≤S.more b k l:=
 ⟨fun _ _ h=>h,Nat.le_succ _,fun i hi=>by simp[Sets.more,Nat.ne_of_lt hi],fun i hi=>by simp[Sets.more,Nat.ne_of_lt hi],rfl,fun i hi=>by simp[Sets.more,Nat.ne_of_lt hi]⟩

theorem stOk_moreG {w':World} {bs bs2:List D} {k b:Nat} {l:Loop×Code} {z:D} {foot':Nat→Prop} (hst:StOk w ρ.S ρ.foot bs) (hK:Keeps ρ.S w w') (hl2:bs2.length=bs.length) (hold:∀(i:Nat) (x:D),bs2[i]? = some x→x.live=true→bs[i]? = some x∧ρ.S.loc i≠b∧w'.heap[ρ.S.loc i]? = w.heap[ρ.S.loc i]?)
  (hf:∀c,foot' c↔(ρ.foot c∨c=b))
  (hz1:∀e sz cs,z=.blk e sz cs→∃vs:Array Value,CellsAt w' b vs e∧vs.size=k*sz∧cs.length≤vs.size∧(∀(j:Nat) (d:D),cs[j]? = some d→d.one=true)∧∀(j:Nat) (v:Value) (d:D),vs[j]? = some v→cs[j]? = some d→RdD w ρ.S v d)
  (hz2:∀kvs,z=.mblk kvs→∃(es:Array MapEntry) (clock:Nat),w'.heap[b]? = some (.map es clock)∧MapSz es clock kvs.length∧∀(j:Nat) (e:MapEntry) (kv:D),es[j]? = some e→kvs[j]? = some kv→∃dk dv,kv=.tup [dk,dv]∧RdD w ρ.S e.key dk∧RdD w ρ.S e.val dv)
  (hS:∀off,¬ρ.S b off) (hz3:z.isIt=true→ItOk (ρ.S.more b k l) ρ.S.n w'.heap[b]? z:=by intro hz;cases hz):StOk w' (ρ.S.more b k l) foot' (bs2++[z]):=by
 have hle:=ρ.S.le_more b k l
 have hcase:∀(i:Nat) (x:D),(bs2++[z])[i]? = some x→(i=ρ.S.n∧x=z)∨(i<ρ.S.n∧bs2[i]? = some x):=by
  intro i x hi
  rw[List.getElem?_append] at hi
  split at hi
  ·rename_i hlt
   exact .inr ⟨by rw[hst.n,←hl2];exact hlt,hi⟩
  ·rename_i hge
   have hi0:i-bs2.length=0:=by
    have:=(List.getElem?_eq_some_iff.1 hi).1
    simp at this
    omega
   rw[hi0] at hi
   simp only[List.getElem?_cons_zero,Option.some.injEq] at hi
   exact .inl ⟨by rw[hst.n,←hl2];omega,hi.symm⟩
 have h1:(ρ.S.more b k l).loc ρ.S.n=b:=by simp[Sets.more]
 have h2:(ρ.S.more b k l).cap ρ.S.n=k:=by simp[Sets.more]
 refine⟨by simp[Sets.more,hst.n,hl2],fun i e' sz' cs' hi=>?_,fun c off hc hs=>?_,fun i kvs hi=>?_,fun i j x y hi hj hx hy hl=>?_,fun i y hi hy=>?_⟩
 ·rcases hcase i _ hi with⟨rfl,hz⟩ | ⟨hlt,hi⟩
  ·rw[h1,h2]
   obtain⟨vs,g1,g2,g3,g4,g5⟩:=hz1 _ _ _ hz.symm
   exact⟨(hf b).2 (.inr rfl),vs,g1,g2,g3,g4,fun j v d hv hd=>(g5 j v d hv hd).keep hK hle,hS⟩
  ·obtain⟨hi',hne,hh⟩:=hold i _ hi rfl
   obtain⟨g1,us,g2,g3,g4,g5,g6,g7⟩:=hst.cells i _ _ _ hi'
   rw[hle.loc i hlt,hle.cap i hlt]
   exact⟨(hf _).2 (.inl g1),us,g2.to hh,g3,g4,g5,fun j v d hv hd=>(g6 j v d hv hd).keep hK hle,g7⟩
 ·rcases(hf c).1 hc with h1 | rfl
  ·exact hst.nos c off h1 hs
  ·exact hS off hs
 ·rcases hcase i _ hi with⟨rfl,hz⟩ | ⟨hlt,hi⟩
  ·rw[h1]
   obtain⟨es,clock,g1,g2,g3⟩:=hz2 _ hz.symm
   refine⟨(hf b).2 (.inr rfl),es,clock,g1,g2,hS,fun j e kv he hkv=>?_⟩
   obtain⟨dk,dv,g4,g5,g6⟩:=g3 j e kv he hkv
   exact⟨dk,dv,g4,g5.keep hK hle,g6.keep hK hle⟩
  ·obtain⟨hi',hne,hh⟩:=hold i _ hi rfl
   obtain⟨g1,es,clock,g2,g3,g4,g5⟩:=hst.maps i _ hi'
   rw[hle.loc i hlt]
   refine⟨(hf _).2 (.inl g1),es,clock,by rw[hh];exact g2,g3,g4,fun j e kv he hkv=>?_⟩
   obtain⟨dk,dv,g6,g7,g8⟩:=g5 j e kv he hkv
   exact⟨dk,dv,g6,g7.keep hK hle,g8.keep hK hle⟩
 ·rcases hcase i _ hi with⟨rfl,_⟩ | ⟨hlt,hi⟩ <;> rcases hcase j _ hj with⟨rfl,_⟩ | ⟨hlt',hj⟩
  ·rfl
  ·rw[hle.loc j hlt',h1] at hl
   exact absurd hl.symm (hold j _ hj hy).2.1
  ·rw[hle.loc i hlt,h1] at hl
   exact absurd hl (hold i _ hi hx).2.1
  ·rw[hle.loc i hlt,hle.loc j hlt'] at hl
   exact hst.inj i j _ _ (hold i _ hi hx).1 (hold j _ hj hy).1 hx hy hl
 ·rcases hcase i _ hi with⟨rfl,hz⟩ | ⟨hlt,hi⟩
  ·subst hz
   rw[h1]
   exact⟨(hf b).2 (.inr rfl),hz3 hy,hS⟩
  ·obtain⟨hi',hne,hh⟩:=hold i _ hi (D.isIt_live hy)
   obtain⟨g1,g2,g4⟩:=hst.its i _ hi' hy
   rw[hle.loc i hlt,hh]
   exact⟨(hf _).2 (.inl g1),g2.to hle.n hle.loc (hle.lrec i hlt),g4⟩

theorem stOk_more {w':World} {bs bs2:List D} {vs:Array Value} {e:TypeId} {sz k b:Nat} {cs:List D} {foot':Nat→Prop} (hst:StOk w ρ.S ρ.foot bs) (hK:Keeps ρ.S w w') (hl2:bs2.length=bs.length) (hold:∀(i:Nat) (x:D),bs2[i]? = some x→x.live=true→bs[i]? = some x∧ρ.S.loc i≠b∧w'.heap[ρ.S.loc i]? = w.heap[ρ.S.loc i]?)
  (hf:∀c,foot' c↔(ρ.foot c∨c=b)) (hb:w'.heap[b]? = some (.cells vs e (0,0))) (hvs:vs.size=k*sz) (hcl:cs.length≤vs.size) (hone:∀(j:Nat) (d:D),cs[j]? = some d→d.one=true)
  (hr:∀(j:Nat) (v:Value) (d:D),vs[j]? = some v→cs[j]? = some d→RdD w ρ.S v d) (hS:∀off,¬ρ.S b off):StOk w' (ρ.S.more b k) foot' (bs2++[.blk e sz cs]):=by
 refine stOk_moreG hst hK hl2 hold hf (fun e' sz' cs' hz=>?_) (fun kvs hz=>by cases hz) hS
 cases hz
 exact⟨vs,.of hb,hvs,hcl,hone,hr⟩

theorem Rep.newStoreG (h:Rep w0 X w a σ env ρ) {cf:StCfg} {x x':E} (hob:σ.obj HID=some (.store cf x)) (hro:cf.ro=false) {bs:List D} (hbe:x.eval env=some (.st bs)) {ob:Obj} {k:Nat} {l:Loop×Code} {z:D}
  (hz1:∀e sz cs,z=.blk e sz cs→∃vs:Array Value,ob=.cells vs e (0,0)∧vs.size=k*sz∧cs.length≤vs.size∧(∀(j:Nat) (d:D),cs[j]? = some d→d.one=true)∧∀(j:Nat) (v:Value) (d:D),vs[j]? = some v→cs[j]? = some d→RdD w ρ.S v d)
  (hz2:∀kvs,z=.mblk kvs→∃(es:Array MapEntry) (clock:Nat),ob=.map es clock∧MapSz es clock kvs.length∧∀(j:Nat) (e:MapEntry) (kv:D),es[j]? = some e→kvs[j]? = some kv→∃dk dv,kv=.tup [dk,dv]∧RdD w ρ.S e.key dk∧RdD w ρ.S e.val dv)
  (hx':x'.eval env=some (.st (bs++[z]))) (hz3:z.isIt=true→ItOk (ρ.S.more w.heap.size k l) ρ.S.n (some ob) z:=by intro hz;cases hz) :
  Rep w0 X (w.alloc ob) a (σ.setObj HID (some (.store cf x'))) env { ρ with S:=ρ.S.more w.heap.size k l,foot:=fun c=>ρ.foot c∨c=w.heap.size }∧ρ.S.n=bs.length:=by
 obtain⟨bs0,hb0,hst,_⟩:=h.objs _ _ hob
 rw[hbe] at hb0
 cases hb0
 have hK:Keeps ρ.S w (w.alloc ob):=Keeps.alloc h.cells _
 have hfl:∀b,ρ.foot b→b<w.heap.size:=foot_lt h hob
 refine⟨h.setStore hob hro hx' (stOk_moreG hst hK rfl (fun i x hi hx=>?_) (fun _=>Iff.rfl) (fun e sz cs hz=>?_) (fun kvs hz=>?_) (fun off hs=>?_) fun hz=>?_) hK (ρ.S.le_more _ _ _) rfl ⟨rfl,Nat.le_refl _⟩ rfl (by simp) (fun b hb _=>heapOld w _ b hb) (fun b hb=>?_) (fun b o hs=>.inl hs) (fun b o hs=>?_),hst.n⟩
 ·have:=hfl _ (hst.live_foot hi hx)
  exact⟨hi,Nat.ne_of_lt this,heapOld w _ _ this⟩
 ·obtain⟨vs,rfl,g⟩:=hz1 e sz cs hz
  exact⟨vs,.of (heap_alloc_new w _),g⟩
 ·obtain⟨es,clock,rfl,g⟩:=hz2 kvs hz
  exact⟨es,clock,heap_alloc_new w _,g⟩
 ·have:=h.cells _ off hs;omega
 ·rw[heap_alloc_new w]
  exact hz3 hz
 ·rcases hb with hb | rfl
  ·exact⟨.inl hb,by have:=hfl b hb;simp;omega⟩
  ·exact⟨.inr (Nat.le_refl _),by simp⟩
 ·have:=h.cells b o hs;simp;omega

theorem Rep.newStore (h:Rep w0 X w a σ env ρ) {cf:StCfg} {x x':E} (hob:σ.obj HID=some (.store cf x)) (hro:cf.ro=false) {bs:List D} (hbe:x.eval env=some (.st bs)) {vs:Array Value} {e:TypeId} {sz k:Nat} {cs:List D} (hvs:vs.size=k*sz) (hcl:cs.length≤vs.size) (hone:∀(j:Nat) (d:D),cs[j]? = some d→d.one=true)
  (hr:∀(j:Nat) (v:Value) (d:D),vs[j]? = some v→cs[j]? = some d→RdD w ρ.S v d) (hx':x'.eval env=some (.st (bs++[.blk e sz cs]))) :
  Rep w0 X (w.alloc (.cells vs e)) a (σ.setObj HID (some (.store cf x'))) env { ρ with S:=ρ.S.more w.heap.size k,foot:=fun c=>ρ.foot c∨c=w.heap.size }∧ρ.S.n=bs.length:=by
 refine h.newStoreG hob hro hbe (fun e' sz' cs' hz=>?_) (fun kvs hz=>by cases hz) hx'
 cases hz
 exact⟨vs,rfl,hvs,hcl,hone,hr⟩

theorem cellsL_len {size:Nat}:∀{es:List D},allCells size es=true→(cellsL es).length=es.length*size
 | [],_=>by simp[cellsL]
 | e :: es,h=>by
  simp only[allCells,List.all_cons,Bool.and_eq_true,beq_iff_eq] at h
  have ih:=cellsL_len (es:=es) (size:=size) (by simpa[allCells] using h.2)
  simp only[cellsL,List.flatMap_cons,List.length_append,List.length_cons] at ih ⊢
  rw[ih,h.1,Nat.add_mul,Nat.one_mul,Nat.add_comm]

theorem cellsL_get {size:Nat}(hs:0<size):∀{es:List D},allCells size es=true→∀{j:Nat} {d:D},(cellsL es)[j]? = some d→∃e,es[j / size]? = some e∧e.cells[j % size]? = some d
 | [],_,j,d,h=>by simp[cellsL] at h
 | e :: es,h,j,d,hj=>by
  simp only[allCells,List.all_cons,Bool.and_eq_true,beq_iff_eq] at h
  simp only[cellsL,List.flatMap_cons] at hj
  rcases Nat.lt_or_ge j size with hlt | hge
  ·rw[List.getElem?_append_left (by omega)] at hj
   exact⟨e,by rw[Nat.div_eq_of_lt hlt];rfl,by rw[Nat.mod_eq_of_lt hlt];exact hj⟩
  ·rw[List.getElem?_append_right (by omega),h.1] at hj
   obtain⟨e',h1,h2⟩:=cellsL_get hs (es:=es) (by simpa[allCells] using h.2) hj
   have hd:j / size=(j-size) / size+1:=by
    rw[Nat.div_eq_sub_div hs hge]
   have hm:j % size=(j-size) % size:=by rw[Nat.mod_eq_sub_mod hge]
   exact⟨e',by rw[hd];simpa using h1,by rw[hm];exact h2⟩

theorem RowRd.flat {S:Sets}{size:Nat}{xs:List Value}{es:List D}(hs:0<size)(h:RowRd w S size xs es):allCells size es=true∧(cellsL es).length=xs.length∧∀(j:Nat) (v:Value) (d:D),xs[j]? = some v→(cellsL es)[j]? = some d→RdD w S v d∧d.one=true:=by
 obtain⟨h1,h2,h3⟩:=h
 have hall:allCells size es=true:=by
  unfold allCells
  rw[List.all_eq_true]
  intro e he
  obtain⟨i,hi⟩:=List.getElem?_of_mem he
  simpa using h2 i e hi
 refine⟨hall,by rw[cellsL_len hall,h1],fun j v d hv hd=>?_⟩
 obtain⟨e,he,hd'⟩:=cellsL_get hs hall hd
 obtain⟨g1,u,g2,g3⟩:=h3 _ e _ d he hd'
 have hdm:j / size*size+j % size=j:=by rw[Nat.mul_comm];exact Nat.div_add_mod j size
 rw[hdm,hv] at g2
 cases g2
 exact⟨g3,g1⟩

theorem fstid_rd {w':World}{k:Nat}{hx:E}{bs:List D}{foot':Nat→Prop}(hbe:hx.eval env=some (.st bs))(hn:ρ.S.n=bs.length):SRd w' { ρ with S:=ρ.S.more w.heap.size k,foot:=foot' } env (.pointer (some ⟨w.heap.size,0,none⟩)) (.e (.fstid hx) true):=by
 refine .e (d:=.loc bs.length 0) (by simp only[E.eval,hbe];rfl) ?_ fun _=>rfl
 have:=RdD.loc (w:=w') (S:=ρ.S.more w.heap.size k) (i:=bs.length) (off:=0) (by simp[Sets.more,hn])
 have hl:(ρ.S.more w.heap.size k).loc bs.length=w.heap.size:=by simp[Sets.more,hn]
 rwa [hl] at this

theorem fstsl_rd {w':World}{hx y:E}{bs:List D}{es:List D}{foot':Nat→Prop}(hbe:hx.eval env=some (.st bs))(hye:y.eval env=some (.lst es))(hm:es.length≤maxLen)(hn:ρ.S.n=bs.length):SRd w' { ρ with S:=ρ.S.more w.heap.size es.length,foot:=foot' } env (.slice (some ⟨w.heap.size,0,none⟩) es.length es.length) (.e (.fstsl hx y) true):=by
 refine .e (d:=.sl bs.length 0 es.length) (by simp only[E.eval,hbe,hye];rfl) ?_ fun _=>rfl
 have:=RdD.sl (w:=w') (S:=ρ.S.more w.heap.size es.length) (i:=bs.length) (off:=0) (len:=es.length) (c:=es.length) (by simp[Sets.more,hn]) (Nat.le_refl _) hm (fun _=>by simp[Sets.more,hn])
 have hl:(ρ.S.more w.heap.size es.length).loc bs.length=w.heap.size:=by simp[Sets.more,hn]
 rwa [hl] at this

theorem lmake_run {o:Oper}{t:TypeId}{n c:Operand}{sn sc:SV}{ix dd:Nat}{r:LRes}{y:E}{dl:D}{nz:Bool}(ho:o.op=.makeSlice t n c)(hl:lmake nz P t sn sc (some dd) ix=some r)(hn:SRd w ρ env (a.eval n) sn)(hc:SRd w ρ env (a.eval c) sc)(hy:r.bind=some (.ev y))(hyv:y.eval env=some dl) :
  ∃(e:TypeId) (i:TypeInfo) (es:List D) (vs:Array Value),P.underlying t=some (.slice e)∧P.info? e=some i∧dl=.lst es∧(execOp a.eval o).run P w=.ok (.value (.slice (some ⟨w.heap.size,0,none⟩) es.length es.length)) (w.alloc (.cells vs e))∧vs.size=es.length*i.size∧es.length≤maxLen∧RowRd w ρ.S i.size vs.toList es:=by
 unfold lmake at hl
 split at hl
 ·rename_i d e n' c' hdst hu hn' hc'
  split at hl
  ·rename_i i hi
   obtain⟨z,hz,hl⟩:=Option.bind_eq_some_iff.1 hl
   obtain⟨dz,hdz,hl⟩:=Option.bind_eq_some_iff.1 hl
   split at hl
   ·rename_i hcond
    cases hl
    cases hy
    obtain⟨hsame,hlen,htup⟩:=hcond
    obtain⟨dn,hdn,hrn⟩:=SV.toE_rd hn' hn
    obtain⟨dc,hdc,hrc⟩:=SV.toE_rd hc' hc
    rw[←E.same_eq hsame,hdn] at hdc
    cases hdc
    simp only[E.eval,hdn,Option.bind_some] at hyv
    unfold D.rep at hyv
    split at hyv
    ·rename_i k
     split at hyv
     ·rename_i hk
      obtain⟨hk0,hkb,hkm⟩:=hk
      cases hyv
      have hzr:RdD w ρ.S z dz:=D.ofValZ_rd hdz
      obtain⟨hzl,hzc⟩:=hzr.cellAt htup
      rw[hlen] at hzl
      have hk63:k≤9223372036854775807:=by
       have h9:k.toNat≤9223372036854775807:=hkm
       omega
      have hbytes:(i.bytes:Int)*k≤281474976710656:=by
       have h1:((k.toNat*i.bytes:Nat):Int)≤140737488355328:=by
        generalize k.toNat*i.bytes=q at hkb ⊢
        omega
       rw[Int.natCast_mul,Int.toNat_of_nonneg hk0,Int.mul_comm] at h1
       omega
      have hrun:(execOp a.eval o).run P w=.ok (.value (.slice (some ⟨w.heap.size,0,none⟩) k.toNat k.toNat)) (w.alloc (.cells (madeCells z.cells (k.toNat*i.size)) e)):=by
       unfold execOp
       simp only[ho,hrn.v_eq,hrc.v_eq,Sem.run_bind,run_make w t e i z hu hi hz .i64 .i64 k k hk0 (Int.le_refl _) hbytes hk63,Result.andThen_ok,Sem.run_pure]
      have hrepl:∀(m:Nat) (x:D),(List.replicate k.toNat dz)[m]? = some x→x=dz∧m<k.toNat:=by
       intro m x hx
       rw[List.getElem?_replicate] at hx
       split at hx
       ·cases hx;exact⟨rfl,by assumption⟩
       ·cases hx
      refine⟨e,i,List.replicate k.toNat dz,madeCells z.cells (k.toNat*i.size),hu,hi,rfl,by simpa using hrun,by simp[size_madeCells],by simpa using hkm,by simp[size_madeCells],fun m x hx=>by rw[(hrepl m x hx).1];exact hlen,fun m x j y hx hy=>?_⟩
      obtain⟨rfl,hmk⟩:=hrepl m x hx
      obtain⟨h1,u,h2,h3⟩:=hzc j y hy
      have hj:j<i.size:=by rw[←hlen];exact(List.getElem?_eq_some_iff.1 hy).1
      refine⟨h1,u,?_,h3⟩
      have hlt:m*i.size+j<k.toNat*i.size:=by
       have:(m+1)*i.size≤k.toNat*i.size:=Nat.mul_le_mul_right _ hmk
       rw[Nat.add_mul,Nat.one_mul] at this
       omega
      have hmod:(m*i.size+j) % i.size=j:=by rw[Nat.mul_comm,Nat.mul_add_mod,Nat.mod_eq_of_lt hj]
      have hjz:j<z.cells.size:=by rw[hzl];exact hj
      have hu':u=z.cells[j]:=by rw[Array.getElem?_eq_getElem hjz] at h2;exact(Option.some.inj h2).symm
      rw[Array.getElem?_toList]
      simp only[madeCells,Array.getElem?_map,Array.getElem?_range,hlt,if_true,Option.map_some,hzl,hmod,Option.some.injEq]
      rw[hu']
      exact getElem!_pos z.cells j hjz
     ·cases hyv
    ·cases hyv
   ·cases hl
  ·cases hl
 ·cases hl

theorem asL_cnt {h:D}{sz:Nat}{y:D}{ys:List D}(ha:D.asL h sz y=some ys):D.cnt y=some ys.length:=by
 unfold D.asL at ha
 split at ha
 ·cases ha;rfl
 ·cases ha;rfl
 ·split at ha
  ·rename_i hm
   subst hm
   cases ha;rfl
  ·obtain⟨b,_,ha⟩:=Option.bind_eq_some_iff.1 ha
   split at ha
   ·cases ha
    simp[D.cnt,chunks_len]
   ·cases ha
 ·cases ha

theorem apph_none {o:Oper} {t e:TypeId} {s x:Operand} {i:TypeInfo} {cf:StCfg} {hx s' x':E} {ix n cap:Nat} {ad:Option Addr} {bs:List D} {ds:D} (ho:o.op=.call { callee:=.builtin .append,args:=#[s,x],argTypes:=#[t,t] }) (hu:P.underlying t=some (.slice e)) (hi:P.info? e=some i)
  (hob:σ.obj HID=some (.store cf hx)) (hro:cf.ro=false) (hbe:hx.eval env=some (.st bs)) (hxv:a.eval x=.slice none 0 0∨∃ad c,a.eval x=.slice (some ad) 0 c) (hsv:a.eval s=.slice ad n cap) (hcap:n≤cap) (hrs:RdD w ρ.S (a.eval s) ds) (hone:ds.one=true)
  (hix:env[ix]? = some (.st bs)) (hval:(E.apps hx s' x').eval env=some ds) (h:Rep w0 X w a σ env ρ) (hd:∀d,o.dst=some d→d<σ.tmps.length) :
  OpOk P o a w w0 X ((σ.setObj HID (some (.store cf (.sym ix)))).put o.dst (.e (.apps hx s' x') true)) env:=by
 obtain⟨bs0,hb0,hst,_⟩:=h.objs _ _ hob
 rw[hbe] at hb0
 cases hb0
 have hrep:=h.setStore (x':=.sym ix) hob hro (by simpa[E.eval] using hix) hst (Keeps.refl _ _) (Sets.le_refl _) rfl ⟨rfl,Nat.le_refl _⟩ rfl (Nat.le_refl _) (fun _ _ _=>rfl) (fun b hb=>⟨.inl hb,foot_lt h hob b hb⟩) (fun b o hs=>.inl hs) h.cells
 have hrun:(Builtin.append_ #[t,t] o.type #[a.eval s,a.eval x]).run P w=.ok (a.eval s) w:=by
  rcases hxv with hvx | ⟨ad2,c,hvx⟩
  ·rw[hvx,hsv]
   exact run_append_none w t o.type e i hu hi ad n cap hcap
  ·rw[hvx,hsv]
   exact run_append_zero w t o.type e i hu hi ad n cap hcap ad2 c
 refine opOk_value (v:=a.eval s) ?_ (hrep.put (by intro d e;rw[SState.tmps_setObj];exact hd d e) (.e hval hrs fun _=>hone))
 unfold execOp
 simp only[ho,resolve,invoke,builtin,Sem.run_bind,Sem.run_pure,Result.andThen_ok,List.map_toArray,List.map_cons,List.map_nil,hrun]

theorem apph_fin {o:Oper} {t e:TypeId} {s x:Operand} {i:TypeInfo} {z:Value} {cf:StCfg} {hx s' x':E} {ix m n:Nat} {bs bs2:List D} {ys cs:List D} {xs:List Value} (ho:o.op=.call { callee:=.builtin .append,args:=#[s,x],argTypes:=#[t,t] }) (hu:P.underlying t=some (.slice e)) (hi:P.info? e=some i) (hz:i.zero=some z) (hzs:z.cells.size=i.size) (hpos:0<i.size)
  (hob:σ.obj HID=some (.store cf hx)) (hro:cf.ro=false) (hbe:hx.eval env=some (.st bs)) {dy:D} (hrx:RdD w ρ.S (a.eval x) dy) (hasl:D.asL (.st bs) i.size dy=some ys) (hne:ys≠[]) (hym:ys.length=m) (hall:allCells i.size ys=true) (hone1:(cellsL ys).all (·.one)=true) (hone0:∀(j:Nat) (d:D),cs[j]? = some d→d.one=true)
  (hown:w.ownsRow 0 e i.size (a.eval s) n xs) (hcl:cs.length=n*i.size) (hxr:∀(j:Nat) (v:Value) (d:D),xs[j]? = some v→cs[j]? = some d→RdD w ρ.S v d) (hml:n+m≤maxLen) (hby:(n+m)*i.bytes≤140737488355328)
  (hl2:bs2.length=bs.length) (hown2:∀b,(a.eval s).ownBlock=some b→ρ.foot b∧(∀off,¬ρ.S b off)∧∀(j:Nat) (x:D),bs2[j]? = some x→x.live=true→ρ.S.loc j≠b) (hold:∀(j:Nat) (x:D),bs2[j]? = some x→x.live=true→bs[j]? = some x)
  (hix:env[ix]? = some (.st (bs2++[.blk e i.size (cs++cellsL ys)]))) (hval:(E.apps hx s' x').eval env=some (.sl bs.length 0 (n+m))) (h:Rep w0 X w a σ env ρ) (hd:∀d,o.dst=some d→d<σ.tmps.length) :
  OpOk P o a w w0 X ((σ.setObj HID (some (.store cf (.sym ix)))).put o.dst (.e (.apps hx s' x') true)) env:=by
 obtain⟨bs0,hb0,hst,_⟩:=h.objs _ _ hob
 rw[hbe] at hb0
 cases hb0
 have hfl:=foot_lt h hob
 rcases news_asL hst hrx hasl hall with⟨h1,_⟩ | ⟨ad,m',c,news,hvx,hym',hnl,hcells,hone,hnrow⟩
 ·exact absurd h1 hne
 ·obtain rfl:m'=m:=by omega
  obtain⟨v',w',hrun,hown',hcase⟩:=run_append_cases (P:=P) w t o.type e i z i.size i.bytes hu hi hz rfl rfl hzs hpos (a.eval s) n xs hown ad m' c news hnl hcells hone hml hby
  rw[←hvx] at hrun
  obtain⟨hall',hfl',hfr⟩:=hnrow.flat hpos
  have hmpos:0<m':=by
   rw[←hym']
   exact List.length_pos_iff.2 hne
  rcases hown'.2 with⟨_,h0⟩ | ⟨g,cap,cur,rfl,_,hg,hnc,hcm,hcs,htake⟩
  ·omega
  have hK:Keeps ρ.S w w':=by
   intro b off hS
   refine World.cell?_of_block (a:=⟨b,off,none⟩) ?_
   rcases hcase with⟨hv',hgr⟩ | ⟨_,hgr⟩
   ·refine hgr.block b (h.cells b off hS) fun he=>?_
    exact(hown2 b he.symm).2.1 off hS
   ·exact hgr.block b (h.cells b off hS) (by simp)
  have hmeta:w'.os=w.os∧TL w' w∧w'.output=w.output∧w.heap.size≤w'.heap.size:=by
   rcases hcase with⟨_,hgr⟩ | ⟨_,hgr⟩ <;> exact⟨hgr.os,hgr.tape,hgr.output,hgr.size⟩
  have hgb:(ρ.foot g∨g=w.heap.size)∧(∀off,¬ρ.S g off)∧(∀(j:Nat) (x:D),bs2[j]? = some x→x.live=true→ρ.S.loc j≠g)∧g<w'.heap.size:=by
   have hglt:g<w'.heap.size:=(Array.getElem?_eq_some_iff.1 hg).1
   rcases hcase with⟨hv',hgr⟩ | ⟨hv',hgr⟩
   ·obtain⟨g1,g2,g3⟩:=hown2 g hv'.symm
    exact⟨.inl g1,g2,g3,hglt⟩
   ·have hge:g=w.heap.size:=by simpa[Value.ownBlock] using hv'
    refine⟨.inr hge,fun off hs=>?_,fun j x hj hx hl=>?_,hglt⟩
    ·have:=h.cells g off hs;omega
    ·have:=hfl _ (hst.live_foot (hold j _ hj hx) hx);omega
  have hother:∀b,b<w.heap.size→b≠g→w'.heap[b]? = w.heap[b]?:=by
   intro b hb hne'
   rcases hcase with⟨hv',hgr⟩ | ⟨_,hgr⟩
   ·refine hgr.block b hb fun he=>?_
    have:some b=some g:=by rw[he,←hv'];rfl
    cases this
    exact hne' rfl
   ·exact hgr.block b hb (by simp)
  have hxl:xs.length=n*i.size:=hown.1
  have hcurget:∀(j:Nat) (v:Value),cur[j]? = some v→j<(n+m')*i.size→(xs++news)[j]? = some v:=by
   intro j v hj hlt
   rw[←htake,List.getElem?_take,if_pos hlt]
   simpa using hj
  have hnst:StOk w' (ρ.S.more g cap) (fun b=>ρ.foot b∨b=g) (bs2++[.blk e i.size (cs++cellsL ys)]):=by
   refine stOk_more hst hK hl2 (fun j x hj hx=>?_) (fun _=>Iff.rfl) hg hcs ?_ (fun j d hj=>?_) (fun j v d hv hdd=>?_) hgb.2.1
   ·have hj':=hold j _ hj hx
    have:=hgb.2.2.1 j _ hj hx
    exact⟨hj',this,hother _ (hfl _ (hst.live_foot hj' hx)) this⟩
   ·rw[List.length_append,hcl,hfl',hnl,hcs,←Nat.add_mul]
    exact Nat.mul_le_mul_right _ hnc
   ·rw[List.getElem?_append] at hj
    split at hj
    ·exact hone0 j d hj
    ·exact List.all_eq_true.1 hone1 d (List.mem_of_getElem? hj)
   ·have hjl:j<(n+m')*i.size:=by
     have:=(List.getElem?_eq_some_iff.1 hdd).1
     rw[List.length_append,hcl,hfl',hnl,←Nat.add_mul] at this
     exact this
    have hxn:=hcurget j v hv hjl
    rw[List.getElem?_append] at hdd hxn
    split at hdd
    ·rename_i hlt
     rw[if_pos (by omega)] at hxn
     exact hxr j v d hxn hdd
    ·rename_i hlt
     rw[if_neg (by omega),hxl] at hxn
     rw[hcl] at hdd
     exact(hfr _ v d hxn hdd).1
  have hrep:=h.setStore (x':=.sym ix) hob hro (by simp only[E.eval];exact hix) hnst hK (ρ.S.le_more g cap) hmeta.1 hmeta.2.1 hmeta.2.2.1 hmeta.2.2.2 (fun b hb hnf=>hother b hb fun e'=>?_) (fun b hb=>?_) (fun b off hs=>.inl hs) (fun b off hs=>Nat.lt_of_lt_of_le (h.cells b off hs) hmeta.2.2.2)
  ·refine opOk_value (v:=.slice (some ⟨g,0,none⟩) (n+m') cap) ?_ (hrep.put (by rw[SState.tmps_setObj];exact hd) (.e (d:=.sl bs.length 0 (n+m')) hval ?_ fun _=>rfl))
   ·unfold execOp
    simp only[ho,resolve,invoke,builtin,Sem.run_bind,Sem.run_pure,Result.andThen_ok,List.map_toArray,List.map_cons,List.map_nil,hrun]
   ·have:=RdD.sl (w:=w') (S:=ρ.S.more g cap) (i:=bs.length) (off:=0) (len:=n+m') (c:=cap) (by simp[Sets.more,hst.n]) hnc hcm (fun _=>by simp[Sets.more,hst.n])
    have hl:(ρ.S.more g cap).loc bs.length=g:=by simp[Sets.more,hst.n]
    rwa [hl] at this
  ·subst e'
   rcases hgb.1 with h1 | h1
   ·exact hnf h1
   ·omega
  ·rcases hb with hb | rfl
   ·exact⟨.inl hb,Nat.lt_of_lt_of_le (hfl b hb) hmeta.2.2.2⟩
   ·refine⟨?_,hgb.2.2.2⟩
    rcases hgb.1 with h1 | h1
    ·exact .inl h1
    ·exact .inr (by omega)

theorem lpub_sound {o:Oper}{opv:Operand→SV}{ix:Nat}{r:LRes}(hv:∀x,SRd w ρ env (a.eval x) (opv x))(hl:lpub P o opv σ.obj ix=some r)(h:Rep w0 X w a σ env ρ)(hd:∀d,o.dst=some d→d<σ.tmps.length)(hb:BindOk P env ix r.bind) :
  (r.upd=none∧OpOk P o a w w0 X (σ.put o.dst r.val) env)∨∃z,r.upd=some (HID,z)∧OpOk P o a w w0 X ((σ.setObj HID (some z)).put o.dst r.val) env:=by
 unfold lpub at hl
 split at hl
 case isFalse=>cases hl
 unfold lpubC at hl
 split at hl
 ·rename_i cf hx dd hob hdst
  obtain⟨bs,hbe,hst,_⟩:=h.objs _ _ hob
  split at hl
  ·cases hl
  rename_i hro
  have hro:cf.ro=false:=by simpa using hro
  split at hl
  ·rename_i t ho
   split at hl
   ·split at hl
    ·rename_i z hz
     split at hl
     ·rename_i ds hds
      cases hl
      obtain⟨d,he,hix⟩:=hb
      simp only[E.eval,hbe,Option.bind_some,D.newb] at he
      split at he
      ·rename_i hone
       cases he
       obtain⟨g1,g2⟩:=D.ofCells_rd (w:=w) (S:=ρ.S) hds
       have g1':z.cells.size=ds.length:=by simpa using g1
       have hrun:(execOp a.eval o).run P w=.ok (.value (.pointer (some ⟨w.heap.size,0,none⟩))) (w.alloc (.cells z.cells t)):=by
        unfold execOp
        simp only[ho,Instr.alloc,Sem.run_bind,run_zeroValue hz,Result.andThen_ok,newVar,newRow,Sem.run_pure,run_newObj]
        rfl
       have hz1:∀(j:Nat) (d:D),ds[j]? = some d→d.one=true:=fun j d hj=>List.all_eq_true.1 hone d (List.mem_of_getElem? hj)
       obtain⟨hrep,hn⟩:=h.newStore (k:=1) (sz:=z.cells.size) (cs:=ds) (vs:=z.cells) (e:=t) (x':=.sym ix) hob hro hbe (by simp) (by omega) hz1 (fun j v d hj hd'=>(g2 j v d (by simpa using hj) hd').1) (by simp only[E.eval];exact hix)
       exact .inr ⟨_,rfl,opOk_value hrun (hrep.put (by rw[SState.tmps_setObj];exact hd) (fstid_rd hbe hn))⟩
      ·cases he
     ·cases hl
    ·cases hl
   ·cases hl
  ·rename_i t x ho
   split at hl
   ·split at hl
    ·rename_i agg n x' hg hn0 hxe
     split at hl
     ·rename_i hag
      cases hl
      obtain⟨dx,hdx,hrx⟩:=SV.toE_rd hxe (hv x)
      obtain⟨d,he,hix⟩:=hb
      simp only[E.eval,hbe,Option.bind_some,Option.bind_eq_some_iff] at he
      obtain⟨dc,hdc,he⟩:=he
      obtain⟨cs,rfl,h1,h1a,h1b,h2,h3,h4⟩:=cellsE_rd hdx hrx hdc
      simp only[D.newb] at he
      split at he
      ·rename_i hone
       cases he
       have hcn:cs.length=n:=by
        cases agg with
        | true=>exact h1a rfl
        | false=>rw[h1b rfl];exact(hag.resolve_left (by simp)).symm
       have hrun:(execOp a.eval o).run P w=.ok (.value (.pointer (some ⟨w.heap.size,0,none⟩))) (w.alloc (.cells (a.eval x).cells t)):=by
        unfold execOp
        simp only[ho,Instr.box,Sem.run_bind,Result.andThen_ok,newVar,newRow,Sem.run_pure,run_newObj]
        rfl
       obtain⟨hrep,hn⟩:=h.newStore (k:=1) (sz:=n) (cs:=cs) (vs:=(a.eval x).cells) (e:=t) (x':=.sym ix) hob hro hbe (by omega) (by omega) h3 h4 (by simp only[E.eval];exact hix)
       exact .inr ⟨_,rfl,opOk_value hrun (hrep.put (by rw[SState.tmps_setObj];exact hd) (fstid_rd hbe hn))⟩
      ·cases he
     ·cases hl
    ·cases hl
   ·cases hl
  ·rename_i t n c ho
   split at hl
   ·split at hl
    ·rename_i v0 u0 y e hlm hu
     split at hl
     ·rename_i i hi
      split at hl
      ·rename_i hpos
       cases hl
       obtain⟨d,he,hix⟩:=hb
       simp only[E.eval,hbe,Option.bind_some,Option.bind_eq_some_iff] at he
       obtain⟨dl,hdl,he⟩:=he
       obtain⟨e',i',es,vs,hu',hi',rfl,hrun,hvs,hml,hrow⟩:=lmake_run (ρ:=ρ) (env:=env) ho hlm (hv n) (hv c) rfl hdl
       rw[hu] at hu'
       cases hu'
       rw[hi] at hi'
       cases hi'
       obtain⟨hall,hfl,hfr⟩:=hrow.flat hpos
       simp only[D.newv] at he
       split at he
       ·cases he
        rename_i hall2
        have hone:∀(j:Nat) (d:D),(cellsL es)[j]? = some d→d.one=true:=fun j d hj=>List.all_eq_true.1 hall2.2 d (List.mem_of_getElem? hj)
        obtain⟨hrep,hn⟩:=h.newStore (k:=es.length) (sz:=i.size) (cs:=cellsL es) (vs:=vs) (e:=e) (x':=.sym ix) hob hro hbe hvs (by rw[hfl];simp) hone (fun j v d hj hd'=>(hfr j v d (by simpa using hj) hd').1) (by simp only[E.eval];exact hix)
        exact .inr ⟨_,rfl,opOk_value hrun (hrep.put (by rw[SState.tmps_setObj];exact hd) (fstsl_rd hbe hdl hml hn))⟩
       ·cases he
      ·cases hl
     ·cases hl
    ·cases hl
   ·cases hl
  ·rename_i x ho
   split at hl
   ·split at hl
    ·cases hl
     exact .inl ⟨rfl,opOk_same h hd (v:=.slice none 0 0) (by unfold execOp;simp only[ho];rfl) (.e rfl .snil fun _=>rfl)⟩
    ·cases hl
   ·cases hl
  ·rename_i c ho
   obtain⟨callee,args,ts⟩:=c
   simp only at hl
   split at hl
   ·split at hl
    ·rename_i s x t t' hargs hts
     split at hl
     ·rename_i htt
      obtain⟨htt,_⟩:=htt
      subst htt
      have e1:args=#[s,x]:=by rw[←Array.toArray_toList (xs:=args),hargs]
      have e2:ts=#[t,t]:=by rw[←Array.toArray_toList (xs:=ts),hts]
      subst e1 e2
      split at hl
      ·rename_i s' sb x' e hs' hx' hu
       split at hl
       ·rename_i i hi
        split at hl
        ·rename_i z hz
         split at hl
         ·rename_i hc
          cases hl
          have hvs:=nilS_rd (hv s)
          rw[hs'] at hvs
          obtain⟨ds,hds,hrs,_⟩:=hvs.e_inv
          obtain⟨dx,hdx,hrx⟩:=SV.toE_rd hx' (hv x)
          obtain⟨d,he,hix⟩:=hb
          simp only[E.eval,hbe,hds,hdx,Option.bind_some] at he
          refine .inr ⟨_,rfl,?_⟩
          unfold D.apph at he
          split at he
          ·rename_i bs1 ys e3 hasl _
           cases e3
           have hcnt:=asL_cnt hasl
           have hsv:a.eval s=.slice none 0 0:=by
            generalize a.eval s=v at hrs
            cases hrs
            rfl
           split at he
           ·rename_i hnil
            subst hnil
            cases he
            have hxn:a.eval x=.slice none 0 0∨∃ad c,a.eval x=.slice (some ad) 0 c:=by
             rcases news_asL hst hrx hasl (by simp[allCells]) with⟨_,h1⟩ | ⟨ad,m,c,news,h1,h2,_⟩
             ·exact h1
             ·exact .inr ⟨ad,c,by rw[h1,←h2];rfl⟩
            exact apph_none ho hu hi hob hro hbe hxn hsv (Nat.le_refl _) hrs rfl (by simpa using hix) (by simp only[E.eval,hbe,hds,hdx,Option.bind_some,D.apps,hcnt,List.length_nil,if_true]) h hd
           ·rename_i hne
            split at he
            ·rename_i hcc
             cases he
             exact apph_fin (n:=0) (m:=ys.length) (cs:=[]) (xs:=[]) (bs2:=bs) ho hu hi hz hc.1 hc.2.1 hob hro hbe hrx hasl hne rfl hcc.2.2.1 hcc.2.2.2 (by simp) (by rw[hsv];exact World.ownsRow_nil w 0 e i.size) (by simp) (by simp) (by simpa using hcc.2.1) (by simpa using hcc.1) rfl (fun b hb=>by rw[hsv] at hb;cases hb) (fun j _ hj _=>hj) (by simpa using hix) (by simp only[E.eval,hbe,hds,hdx,Option.bind_some,D.apps,hcnt,if_neg (fun e=>hne (List.eq_nil_of_length_eq_zero e)),Nat.zero_add]) h hd
            ·cases he
          ·rename_i bs1 k off n ys e3 hasl _
           cases e3
           have hcnt:=asL_cnt hasl
           split at he
           ·rename_i hnil
            subst hnil
            cases he
            have hrs2:=hrs
            generalize hsv:a.eval s=v at hrs
            cases hrs with
            | @sl _ _ _ cc hk hle hcm h0=>
             have hxn:a.eval x=.slice none 0 0∨∃ad c,a.eval x=.slice (some ad) 0 c:=by
              rcases news_asL hst hrx hasl (by simp[allCells]) with⟨_,h1⟩ | ⟨ad,m,c,news,h1,h2,_⟩
              ·exact h1
              ·exact .inr ⟨ad,c,by rw[h1,←h2];rfl⟩
             exact apph_none ho hu hi hob hro hbe hxn hsv hle hrs2 rfl hix (by simp only[E.eval,hbe,hds,hdx,Option.bind_some,D.apps,hcnt,List.length_nil,if_true]) h hd
           ·rename_i hne
            obtain⟨blk,hblk,he⟩:=Option.bind_eq_some_iff.1 he
            split at he
            ·rename_i hcc
             cases he
             obtain⟨c0,c1,c2,c3,c4,c5,c6,c7⟩:=hcc
             subst c0
             have hbs:=cellsAt_some hblk
             rw[c1,c2] at hbs
             obtain⟨hf,vs,⟨e',hh,hty⟩,hsz,hlen,hone,hr,hns⟩:=hst.cells k _ _ _ hbs
             obtain rfl:e=e':=(hty.resolve_left hc.2.2).symm
             generalize hsv:a.eval s=v at hrs
             cases hrs with
             | @sl _ _ _ cc hk hle hcm h0=>
             have hcap:=h0 rfl
             have hown:w.ownsRow 0 e i.size (a.eval s) n (vs.toList.take (n*i.size)):=by
              refine⟨?_,.inr ⟨ρ.S.loc k,cc,vs,hsv,Nat.zero_le _,hh,hle,hcm,by rw[hcap];exact hsz,rfl⟩⟩
              rw[List.length_take,Array.length_toList]
              omega
             refine apph_fin (n:=n) (m:=ys.length) (cs:=blk.2.2) (xs:=vs.toList.take (n*i.size)) (bs2:=bs.set k (.tup [])) ho hu hi hz hc.1 hc.2.1 hob hro hbe hrx hasl hne rfl c6 c7 hone hown c3 (fun j v d hj hdd=>?_) c5 c4 (by simp) (fun b hb=>?_) (fun j x hj hx=>?_) hix (by simp only[E.eval,hbe,hds,hdx,Option.bind_some,D.apps,hcnt,if_neg (fun e=>hne (List.eq_nil_of_length_eq_zero e))]) h hd
             ·rw[List.getElem?_take] at hj
              split at hj
              ·exact hr j v d (by simpa using hj) hdd
              ·cases hj
             ·rw[hsv] at hb
              have hb':ρ.S.loc k=b:=by simpa[Value.ownBlock] using hb
              subst hb'
              refine⟨hf,hns,fun j x hj hx hl=>?_⟩
              rw[List.getElem?_set] at hj
              split at hj
              ·split at hj <;> cases hj
               cases hx
              ·rename_i hne'
               exact hne' (hst.inj j k _ _ hj hbs hx rfl hl).symm
             ·rw[List.getElem?_set] at hj
              split at hj
              ·split at hj <;> cases hj
               cases hx
              ·exact hj
            ·cases he
          ·cases he
         ·cases hl
        ·cases hl
       ·cases hl
      ·cases hl
     ·cases hl
    ·cases hl
   ·cases hl
  ·cases hl
 ·cases hl

end
end
end Go.Am

/-
 Maps of the store.
-/
namespace Go.Am
noncomputable section
open Go.MapKept (bytes_beq run_findKey heap_set)

def keyKd (P:Program)(t:TypeId):Option Kd:=
 match kindOf P t with
 | some .int=>some .int
 | some .str=>some .str
 | some (.agg ks)=>some (.agg ks)
 | _=>none

def mapTy (P:Program)(t:TypeId):Option (TypeId×TypeId×Kd):=
 match P.underlying t with
 | some (.map k e)=>(keyKd P k).map fun kd=>(k,e,kd)
 | _=>none

def lmapC (P:Program)(o:Oper)(opv:Operand→SV)(hO:Option SObj)(ix:Nat):Option LRes:=
 match hO with
 | some (.store cf h)=>
  match o.op with
  | .makeMap _ none=>if cf.ro then none else some { val:=.e (.m4 .fstm h .nil .nil .nil) true,upd:=some (HID,.store cf (.sym ix)),bind:=some (.ev (.m4 .newm h .nil .nil .nil)) }
  | .mapUpdate t m k x | .insert t m k x=>if cf.ro then none else(match mapTy P t,(opv m).toE,(opv k).toE,(opv x).toE with
   | some (_,_,kd),some m',some k',some x'=>some { val:=.junk,upd:=some (HID,.store cf (.sym ix)),bind:=some (.ev (.m4 (.put kd) h m' k' x')) }
   | _,_,_,_=>none)
  | .lookup t m k ok=>(match mapTy P t,(opv m).toE,(opv k).toE with
   | some (_,e,kd),some m',some k'=>(match((P.info? e).bind (·.zero)).bind D.ofVal,aggT P e with
    | some z,some agg=>if ok then some { val:=.tup [.e (.tget 0 (.sym ix)) false,.e (.tget 1 (.sym ix)) true],bind:=some (.ev (.m4 (.getok kd) h m' k' (.const z))) }
      else some { val:=.e (.sym ix) (!agg),bind:=some (.ev (.m4 (.get kd agg) h m' k' (.const z))) }
    | _,_=>none)
   | _,_,_=>none)
  | .range t m=>if cf.ro then none else(match mapTy P t,(opv m).toE with
   | some _,some m'=>some { val:=.e (.fstid h) true,upd:=some (HID,.store cf (.sym ix)),bind:=some (.ev (.m4 .rng h m' .nil .nil)) }
   | _,_=>none)
  | .mapEntry t m k=>if cf.ro then none else(match mapTy P t,(opv m).toE,(opv k).toE with
   | some (_,e,kd),some m',some k'=>(((P.info? e).bind (·.zero)).bind D.ofVal).map fun z=>
     { val:=.tup [.e (.tget 0 (.m4 (.entv kd) h m' k' (.const z))) false,.e (.tget 1 (.m4 (.entv kd) h m' k' (.const z))) true],upd:=some (HID,.store cf (.sym ix)),bind:=some (.ev (.m4 (.entm kd) h m' k' (.const z))) }
   | _,_,_=>none)
  | .entryStore _ m s x=>if cf.ro then none else(match(opv m).toE,(opv s).toE,(opv x).toE with
   | some m',some s',some x'=>some { val:=.junk,upd:=some (HID,.store cf (.sym ix)),bind:=some (.ev (.m4 .ents h m' s' x')) }
   | _,_,_=>none)
  | .entry it=>(opv it).toE.map fun p=>{ val:=.tup [.e (.tget 0 (.sym ix)) false,.e (.tget 1 (.sym ix)) false],bind:=some (.ev (.m4 .entry h p .nil .nil)) }
  | .call c=>(match c.callee with
   | .builtin .len=>(match c.args.toList,c.argTypes.toList with
    | [x],[t]=>if cf.maps.contains t then(match mapTy P t,(opv x).toE with
     | some _,some m'=>some { val:=.e (.sym ix) true,bind:=some (.ev (.m4 .mlen h m' .nil .nil)) }
     | _,_=>none) else none
    | _,_=>none)
   | _=>none)
  | _=>none
 | _=>none

def lmap (P:Program)(o:Oper)(opv:Operand→SV)(obj:Nat→Option SObj)(ix:Nat):Option LRes:=
 if usesH o=true then lmapC P o opv (obj HID) ix else none

section
variable {P:Program} {w w0:World} {X:Ent} {a:Act} {σ:SState} {env:List D} {ρ:Rho}

theorem checkFields {cs:Array Value}{n:Nat}{em:Bool}(hn:0<n):∀(fs:List Field) (i:Nat) (ks:List Nat),flatFields P i fs=some ks→i+ks.length=cs.size →
  (forIn fs PUnit.unit (fun (f : Field) (_ : PUnit) => (if f.name ≠ "_" then do
   let x ←part f.type cs f.offset
   Instr.checkKey em n f.type x
   pure (ForInStep.yield PUnit.unit)
   else pure (ForInStep.yield PUnit.unit):Sem (ForInStep PUnit)))).run P w=.ok PUnit.unit w
 | [],i,ks,hf,hl=>by simp
 | f :: fs,i,ks,hf,hl=>by
  obtain⟨m,rfl⟩:∃m,n=m+1:=⟨n-1,by omega⟩
  simp only[flatFields] at hf
  split at hf
  ·rename_i hc
   obtain⟨hoff,hname⟩:=hc
   have key:∀{ks':List Nat} {k:TypeDesc},flatFields P (i+1) fs=some ks'→ks.length=ks'.length+1→P.underlying f.type=some k→aggT P f.type=some false→(∀v:Value,(Instr.checkKey em (m+1) f.type v).run P w=.ok () w) →
     (forIn (f :: fs) PUnit.unit (fun (f : Field) (_ : PUnit) => (if f.name ≠ "_" then do
      let x ←part f.type cs f.offset
      Instr.checkKey em (m+1) f.type x
      pure (ForInStep.yield PUnit.unit)
      else pure (ForInStep.yield PUnit.unit):Sem (ForInStep PUnit)))).run P w=.ok PUnit.unit w:=by
    intro ks' k hks hkl hu hagg hck
    have hil:i<cs.size:=by omega
    have hp:(part f.type cs f.offset).run P w=.ok cs[i] w:=run_part_one hagg (by rw[hoff];simp[hil])
    have ih:=checkFields (cs:=cs) (em:=em) (Nat.succ_pos m) fs (i+1) ks' hks (by omega)
    simp only[List.forIn_cons,Sem.run_bind,hname,ne_eq,not_false_eq_true,if_true,Result.andThen_ok,hp,hck,Sem.run_pure]
    exact ih
   split at hf
   ·rename_i q hu
    obtain⟨ks',hks,rfl⟩:=Option.map_eq_some_iff.1 hf
    exact key hks rfl hu (by unfold aggT;rw[hu];rfl) fun v=>by
     unfold Instr.checkKey
     simp[run_underlying hu,Result.andThen]
   ·rename_i hu
    obtain⟨ks',hks,rfl⟩:=Option.map_eq_some_iff.1 hf
    exact key hks rfl hu (by unfold aggT;rw[hu];rfl) fun v=>by
     unfold Instr.checkKey
     simp[run_underlying hu,Result.andThen]
   ·rename_i hu
    obtain⟨ks',hks,rfl⟩:=Option.map_eq_some_iff.1 hf
    exact key hks rfl hu (by unfold aggT;rw[hu];rfl) fun v=>by
     unfold Instr.checkKey
     simp[run_underlying hu,Result.andThen]
   ·cases hf
  ·cases hf

theorem keyKd_kind {t:TypeId}{kd:Kd}(h:keyKd P t=some kd):kindOf P t=some kd∧(kd=.int∨kd=.str∨∃ks,kd=.agg ks):=by
 unfold keyKd at h
 split at h <;> cases h <;> exact⟨by assumption,by simp⟩

theorem kindOf_agg {t:TypeId}{ks:List Nat}(h:kindOf P t=some (.agg ks)):∃fs:Array Field,P.underlying t=some (.struct fs)∧P.stoodInHeld t=false∧flatFields P 0 fs.toList=some ks:=by
 unfold kindOf at h
 split at h <;> simp at h
 rename_i fs hu
 unfold flatStruct at h
 rw[hu] at h
 simp only at h
 split at h
 ·rename_i hc
  exact⟨fs,hu,hc.1,h⟩
 ·cases h

theorem kindOf_int {t:TypeId}(h:kindOf P t=some .int):∃q,P.underlying t=some (.int q):=by
 unfold kindOf at h
 split at h <;> simp at h
 exact⟨_,by assumption⟩

theorem kindOf_str {t:TypeId}(h:kindOf P t=some .str):P.underlying t=some .string:=by
 unfold kindOf at h
 split at h <;> simp at h
 assumption

theorem run_checkKd {t:TypeId}{kd:Kd}{v:Value}{d:D}{em:Bool}{S:Sets}(h:keyKd P t=some kd)(hr:RdD w S v d)(hd:D.keyOk kd d=true):(Instr.checkKey em 10000 t v).run P w=.ok () w:=by
 obtain⟨hk,hc⟩:=keyKd_kind h
 rcases hc with rfl | rfl | ⟨ks,rfl⟩
 ·obtain⟨q,hu⟩:=kindOf_int hk
  unfold Instr.checkKey
  simp[run_underlying hu,Result.andThen]
 ·have hu:=kindOf_str hk
  unfold Instr.checkKey
  simp[run_underlying hu,Result.andThen]
 ·obtain⟨fs,hu,_,hfl⟩:=kindOf_agg hk
  cases d <;> simp[D.keyOk] at hd
  rename_i ds
  obtain⟨vs,rfl,hl,_⟩:=hr.agg_inv
  unfold Instr.checkKey
  simp only[Sem.run_bind,run_underlying hu,Result.andThen_ok]
  rw[←Array.forIn_toList]
  rw[checkFields (cs:=vs) (by omega) fs.toList 0 ks hfl (by omega)]
  rfl

theorem equal_agg {t:TypeId}{ks:List Nat}{v u:Value}{dx dy:List D}{b:Bool}{S:Sets}(hk:kindOf P t=some (.agg ks))(hx:RdD w S v (.agg dx))(hy:RdD w S u (.agg dy))(hb:D.eqs ks dx dy=some b):(Op.equal t v u).run P w=.ok b w:=by
 obtain⟨fs,hu,hst,hfl⟩:=kindOf_agg hk
 obtain⟨xs,rfl,hxl,_,hxr⟩:=hx.agg_inv
 obtain⟨ys,rfl,hyl,_,hyr⟩:=hy.agg_inv
 have hfo:P.fieldsOf t=fs:=by simp[Program.fieldsOf,hu]
 show(Op.equalIn 10000 t (.agg xs) (.agg ys)).run P w=.ok b w
 rw[run_equalIn_agg w 9999 t xs ys (by rw[hfo];exact hu) hst,hfo]
 exact run_eqFields (d:=9998) hxl hyl hxr hyr fs.toList 0 ks b hfl (by simpa using hb)

theorem keyEq_some {kd:Kd}{x y:D}{b:Bool}(h:D.keyEq kd x y=some b):D.bin .eql kd x y=some (.v (.bool b)):=by
 unfold D.keyEq at h
 split at h
 ·rename_i e;cases h;exact e
 ·cases h

theorem bin_eql_int {x y:D}{b:Bool}(h:D.bin .eql .int x y=some (.v (.bool b))):∃k m n,x=.v (.int k m)∧y=.v (.int k n)∧b=(m==n):=by
 unfold D.bin at h
 split at h <;> (try contradiction)
 ·rename_i k m k' n
  simp only[cmpI] at h
  split at h
  ·rename_i hk
   subst hk
   cases h
   exact⟨_,_,_,rfl,rfl,rfl⟩
  ·cases h

theorem bin_eql_str {x y:D}{b:Bool}(h:D.bin .eql .str x y=some (.v (.bool b))):∃m n,x=.v (.string m)∧y=.v (.string n)∧b=(m.toList==n.toList):=by
 unfold D.bin at h
 split at h <;> (try contradiction)
 ·cases h
  exact⟨_,_,rfl,rfl,rfl⟩

theorem bin_eql_agg {ks:List Nat}{x y:D}{b:Bool}(h:D.bin .eql (.agg ks) x y=some (.v (.bool b))):∃dx dy,x=.agg dx∧y=.agg dy∧D.eqs ks dx dy=some b:=by
 unfold D.bin at h
 split at h <;> (try contradiction)
 ·rename_i hh
  cases hh
  obtain⟨b',hb',hb⟩:=Option.map_eq_some_iff.1 h
  cases hb
  exact⟨_,_,rfl,rfl,hb'⟩

theorem bytesEq (m n:ByteArray):(m==n)=(m.toList==n.toList):=by
 apply Bool.eq_iff_iff.2
 rw[bytes_beq]
 constructor
 ·rintro rfl;simp
 ·intro h
  have:=eq_of_beq h
  have hd:m.data=n.data:=by simpa[ByteArray.toList_eq] using this
  cases m
  cases n
  simp only at hd
  rw[hd]

def NowKd (P:Program)(w:World)(t:TypeId)(v u:Value)(b:Bool):Kd→Prop
 | .agg _=>(Op.equal t v u).run P w=.ok b w
 | _=>∃k,P.underlying t=some k∧Instr.sameNow k v u=some b

def FindKd (P:Program)(w:World)(t:TypeId)(v:Value)(es:List MapEntry)(i:Nat)(r:Option (Nat×Value)):Kd→Prop
 | .agg _=>(Instr.findAsking t v es i).run P w=.ok r w
 | _=>∃k,P.underlying t=some k∧Instr.findNow k v es i=some r

theorem nowKd {S:Sets}{t:TypeId}{kd:Kd}{v u:Value}{d dk:D}{b:Bool}(h:keyKd P t=some kd)(hr:RdD w S v d)(hek:RdD w S u dk)(hb:D.keyEq kd d dk=some b):NowKd P w t v u b kd:=by
 have hb:=keyEq_some hb
 obtain⟨hk,hc⟩:=keyKd_kind h
 rcases hc with rfl | rfl | ⟨ks,rfl⟩
 ·obtain⟨q,hu⟩:=kindOf_int hk
  obtain⟨k,m,n,rfl,rfl,rfl⟩:=bin_eql_int hb
  rw[hr.v_eq,hek.v_eq]
  exact⟨_,hu,by simp[Instr.sameNow]⟩
 ·have hu:=kindOf_str hk
  obtain⟨m,n,rfl,rfl,rfl⟩:=bin_eql_str hb
  rw[hr.v_eq,hek.v_eq]
  exact⟨_,hu,by simp only[Instr.sameNow,Option.some.injEq];exact bytesEq m n⟩
 ·obtain⟨dx,dy,rfl,rfl,hb'⟩:=bin_eql_agg hb
  exact equal_agg hk hr hek hb'

def EntsRd (w:World)(S:Sets)(es:List MapEntry)(kvs:List D):Prop:=
 es.length=kvs.length∧∀(j:Nat) (e:MapEntry) (kv:D),es[j]? = some e→kvs[j]? = some kv→∃dk dv,kv=.tup [dk,dv]∧RdD w S e.key dk∧RdD w S e.val dv

theorem EntsRd.tail {S:Sets}{e:MapEntry}{es:List MapEntry}{kv:D}{kvs:List D}(h:EntsRd w S (e :: es) (kv :: kvs)):EntsRd w S es kvs:=
 ⟨by simpa using h.1,fun j e kv h1 h2=>h.2 (j+1) e kv (by simpa using h1) (by simpa using h2)⟩

theorem findKd {S:Sets}{t:TypeId}{kd:Kd}{v:Value}{d:D}(h:keyKd P t=some kd)(hr:RdD w S v d):∀(es:List MapEntry) (kvs:List D) (i:Nat) (r:Option (Nat×D)),EntsRd w S es kvs→D.mfind kd d kvs i=some r →
  (r=none∧FindKd P w t v es i none kd)∨∃j dv e dk,r=some (j,dv)∧FindKd P w t v es i (some (j,e.val)) kd∧i≤j∧es[j-i]? = some e∧RdD w S e.val dv∧RdD w S e.key dk∧D.keyEq kd d dk=some true
 | [],[],i,r,_,hf=>by
  simp only[D.mfind] at hf
  cases hf
  obtain⟨hk,hc⟩:=keyKd_kind h
  rcases hc with rfl | rfl | ⟨ks,rfl⟩
  ·obtain⟨q,hu⟩:=kindOf_int hk
   exact .inl ⟨rfl,_,hu,rfl⟩
  ·exact .inl ⟨rfl,_,kindOf_str hk,rfl⟩
  ·exact .inl ⟨rfl,by simp[FindKd,Instr.findAsking]⟩
 | e :: es,kv :: kvs,i,r,he,hf=>by
  obtain⟨dk,dv,rfl,hek,hev⟩:=he.2 0 e kv rfl rfl
  simp only[D.mfind] at hf
  obtain⟨hk,hc⟩:=keyKd_kind h
  split at hf
  ·rename_i hb
   cases hf
   have hn:=nowKd h hr hek hb
   refine .inr ⟨i,dv,e,dk,rfl,?_,Nat.le_refl _,by simp,hev,hek,hb⟩
   rcases hc with rfl | rfl | ⟨ks,rfl⟩
   ·obtain⟨k,hu,hs⟩:=hn
    exact⟨k,hu,by simp[Instr.findNow,hs]⟩
   ·obtain⟨k,hu,hs⟩:=hn
    exact⟨k,hu,by simp[Instr.findNow,hs]⟩
   ·have hn:(Op.equal t v e.key).run P w=.ok true w:=hn
    simp[FindKd,Instr.findAsking,hn]
  ·rename_i hb
   have hn:=nowKd h hr hek hb
   have step:∀r',FindKd P w t v es (i+1) r' kd→FindKd P w t v (e :: es) i r' kd:=by
    intro r' h1
    rcases hc with rfl | rfl | ⟨ks,rfl⟩
    ·obtain⟨k,hu,hs⟩:=hn
     obtain⟨k',hu',h1⟩:=h1
     rw[hu] at hu'
     cases hu'
     exact⟨k,hu,by simp[Instr.findNow,hs,h1]⟩
    ·obtain⟨k,hu,hs⟩:=hn
     obtain⟨k',hu',h1⟩:=h1
     rw[hu] at hu'
     cases hu'
     exact⟨k,hu,by simp[Instr.findNow,hs,h1]⟩
    ·have hn:(Op.equal t v e.key).run P w=.ok false w:=hn
     have h1:(Instr.findAsking t v es (i+1)).run P w=.ok r' w:=h1
     simp[FindKd,Instr.findAsking,hn,h1]
   rcases findKd h hr es kvs (i+1) r he.tail hf with⟨g1,g2⟩ | ⟨j,dv',e',dk',g1,g2,g3,g4,g5⟩
   ·exact .inl ⟨g1,step _ g2⟩
   ·refine .inr ⟨j,dv',e',dk',g1,step _ g2,by omega,?_,g5⟩
    rw[show j-i=(j-(i+1))+1 from by omega]
    simpa using g4
  ·cases hf
 | [],_ :: _,_,_,he,_ | _ :: _,[],_,_,he,_=>by simp[EntsRd] at he

theorem run_findKd {t:TypeId}{kd:Kd}{v:Value}{es:List MapEntry}{r:Option (Nat×Value)}(h:keyKd P t=some kd)(hf:FindKd P w t v es 0 r kd):(Instr.findKey t v es).run P w=.ok r w:=by
 obtain⟨hk,hc⟩:=keyKd_kind h
 rcases hc with rfl | rfl | ⟨ks,rfl⟩
 ·obtain⟨k,hu,hs⟩:=hf
  exact run_findKey hu hs
 ·obtain⟨k,hu,hs⟩:=hf
  exact run_findKey hu hs
 ·obtain⟨fs,hu,_⟩:=kindOf_agg hk
  cases es with
  | nil=>
   have:r=none:=by
    have hf:(Instr.findAsking t v [] 0).run P w=.ok r w:=hf
    simp[Instr.findAsking] at hf
    exact hf.symm
   subst this
   exact run_findKey hu rfl
  | cons e es=>
   have hf:(Instr.findAsking t v (e :: es) 0).run P w=.ok r w:=hf
   have hn:Instr.findNow (.struct fs) v (e :: es) 0=none:=by
    unfold Instr.findNow
    simp[Instr.sameNow]
   simp only[Instr.findKey,Sem.run_bind,run_underlying hu,Result.andThen_ok,hn,hf]

theorem mlook_run {S:Sets}{t:TypeId}{kd:Kd}{v:Value}{d:D}{es:List MapEntry}{kvs:List D}{r:Option (Nat×D)}(h:keyKd P t=some kd)(hr:RdD w S v d)(he:EntsRd w S es kvs)(hf:D.mlook kd d kvs=some r) :
  D.keyOk kd d=true∧((r=none∧(Instr.findKey t v es).run P w=.ok none w)∨∃j dv e dk,r=some (j,dv)∧(Instr.findKey t v es).run P w=.ok (some (j,e.val)) w∧es[j]? = some e∧RdD w S e.val dv∧RdD w S e.key dk∧D.keyEq kd d dk=some true):=by
 unfold D.mlook at hf
 split at hf
 ·rename_i hok
  refine⟨hok,?_⟩
  rcases findKd h hr es kvs 0 r he hf with⟨g1,g2⟩ | ⟨j,dv,e,dk,g1,g2,_,g3,g4⟩
  ·exact .inl ⟨g1,run_findKd h g2⟩
  ·exact .inr ⟨j,dv,e,dk,g1,run_findKd h g2,g3,g4⟩
 ·cases hf

theorem sameBits_eq {S:Sets}{t:TypeId}{kd:Kd}{v u:Value}{d dk:D}(h:keyKd P t=some kd)(hr:RdD w S v d)(hek:RdD w S u dk)(hb:D.keyEq kd d dk=some true):Instr.sameBits 10000 u v=true:=by
 have hb:=keyEq_some hb
 obtain⟨hk,hc⟩:=keyKd_kind h
 rcases hc with rfl | rfl | ⟨ks,rfl⟩
 ·obtain⟨k,m,n,rfl,rfl,hmn⟩:=bin_eql_int hb
  rw[hr.v_eq,hek.v_eq]
  have:m=n:=by simpa using hmn.symm
  simp[Instr.sameBits,this]
 ·obtain⟨m,n,rfl,rfl,hmn⟩:=bin_eql_str hb
  rw[hr.v_eq,hek.v_eq]
  rw[←bytesEq] at hmn
  have:m=n:=(bytes_beq m n).1 hmn.symm
  subst this
  have hh:(m==m)=true:=(bytes_beq m m).2 rfl
  simp[Instr.sameBits,hh]
 ·obtain⟨dx,dy,rfl,rfl,hb'⟩:=bin_eql_agg hb
  obtain⟨xs,rfl,hxl,_,hxr⟩:=hr.agg_inv
  obtain⟨ys,rfl,hyl,_,hyr⟩:=hek.agg_inv
  have cells:∀(ks:List Nat) (dx dy:List D),D.eqs ks dx dy=some true→dx.length=dy.length∧∀(i:Nat) (x y:D),dx[i]? = some x→dy[i]? = some y→∀u v:Value,RdD w S v x→RdD w S u y→Instr.sameBits 9999 u v=true:=by
   intro ks
   induction ks with
   | nil=>
    intro dx dy he
    cases dx <;> cases dy <;> simp[D.eqs] at he ⊢
   | cons k ks ih=>
    intro dx dy he
    unfold D.eqs at he
    split at he <;> (try contradiction)
    ·rename_i ks1 k1 a r k2 b s e1 
     split at he
     ·rename_i hkk
      subst hkk
      obtain⟨b',h1,h2⟩:=Option.map_eq_some_iff.1 he
      simp only[Bool.and_eq_true,beq_iff_eq] at h2
      obtain⟨rfl,rfl⟩:=h2
      have e2:ks=ks1:=by simp only[List.cons.injEq] at e1;exact e1.2
      subst e2
      obtain⟨g1,g2⟩:=ih r s h1
      refine⟨by simp[g1],fun i x y hx hy u v hv hu=>?_⟩
      cases i with
      | zero=>
       simp only[List.getElem?_cons_zero,Option.some.injEq] at hx hy
       subst hx hy
       rw[hv.v_eq,hu.v_eq]
       simp[Instr.sameBits]
      | succ i=>exact g2 i x y (by simpa using hx) (by simpa using hy) u v hv hu
     ·cases he
    ·rename_i ks1 a r b s e1
     obtain⟨b',h1,h2⟩:=Option.map_eq_some_iff.1 he
     simp only[Bool.and_eq_true,beq_iff_eq] at h2
     obtain⟨rfl,rfl⟩:=h2
     have e2:ks=ks1:=by simp only[List.cons.injEq] at e1;exact e1.2
     subst e2
     obtain⟨g1,g2⟩:=ih r s h1
     refine⟨by simp[g1],fun i x y hx hy u v hv hu=>?_⟩
     cases i with
     | zero=>
      simp only[List.getElem?_cons_zero,Option.some.injEq] at hx hy
      subst hx hy
      rw[hv.v_eq,hu.v_eq]
      simp[Instr.sameBits]
     | succ i=>exact g2 i x y (by simpa using hx) (by simpa using hy) u v hv hu
    ·rename_i ks1 a r b s e1
     obtain⟨b',h1,h2⟩:=Option.map_eq_some_iff.1 he
     simp only[Bool.and_eq_true] at h2
     obtain⟨hab,rfl⟩:=h2
     rw[←bytesEq] at hab
     have hab:=(bytes_beq a b).1 hab
     subst hab
     have hh:(a==a)=true:=(bytes_beq a a).2 rfl
     have e2:ks=ks1:=by simp only[List.cons.injEq] at e1;exact e1.2
     subst e2
     obtain⟨g1,g2⟩:=ih r s h1
     refine⟨by simp[g1],fun i x y hx hy u v hv hu=>?_⟩
     cases i with
     | zero=>
      simp only[List.getElem?_cons_zero,Option.some.injEq] at hx hy
      subst hx hy
      rw[hv.v_eq,hu.v_eq]
      simp[Instr.sameBits,hh]
     | succ i=>exact g2 i x y (by simpa using hx) (by simpa using hy) u v hv hu
  obtain⟨g1,g2⟩:=cells ks dx dy hb'
  unfold Instr.sameBits
  simp only[Bool.and_eq_true,beq_iff_eq,List.all_eq_true]
  refine⟨by omega,fun p hp=>?_⟩
  obtain⟨i,hi,hpi⟩:=List.mem_iff_getElem.1 hp
  simp only[List.length_zip,Array.length_toList] at hi
  simp only[List.getElem_zip] at hpi
  subst hpi
  refine g2 i (dx[i]'(by omega)) (dy[i]'(by omega)) (by simp) (by simp) _ _ (hxr i _ _ ?_ ?_) (hyr i _ _ ?_ ?_) <;> simp

theorem MapSz.push {es:Array MapEntry}{clock n:Nat}(h:MapSz es clock n)(v x:Value):MapSz (es.push { key:=v,val:=x,born:=clock }) (clock+1) (es.push { key:=v,val:=x,born:=clock }).size where
 len:=rfl
 clk:=by simp[h.clk,h.len]
 born:=fun j e he=>by
  rw[Array.getElem?_push] at he
  split at he
  ·cases he
   rename_i hj
   simp[hj,h.clk,h.len]
  ·exact h.born j e he

theorem MapSz.modify {es:Array MapEntry}{clock n:Nat}(h:MapSz es clock n)(j:Nat)(f:MapEntry→MapEntry)(hf:∀e,(f e).born=e.born):MapSz (es.modify j f) clock (es.modify j f).size where
 len:=rfl
 clk:=by simp[h.clk,h.len]
 born:=fun k e he=>by
  simp only[Array.getElem?_modify] at he
  split at he
  ·obtain⟨e0,h0,rfl⟩:=Option.map_eq_some_iff.1 he
   rw[hf]
   exact h.born k e0 h0
  ·exact h.born k e he

theorem stOk_setM {w':World}{bs:List D}{i:Nat}{kvs kvs':List D}{es':Array MapEntry}{clock':Nat}(hst:StOk w ρ.S ρ.foot bs)(hK:Keeps ρ.S w w')(hbs:bs[i]? = some (.mblk kvs))(hh:w'.heap[ρ.S.loc i]? = some (.map es' clock'))(hother:∀b,b≠ρ.S.loc i→w'.heap[b]? = w.heap[b]?)(he:EntsRd w ρ.S es'.toList kvs')(hsz:MapSz es' clock' es'.size) :
  StOk w' ρ.S ρ.foot (bs.set i (.mblk kvs')):=by
 refine hst.set hK hbs rfl (fun j x _ _ hne=>hother _ hne) (fun e sz cs hz=>by cases hz) (fun kvs2 hz=>?_) fun hz=>by cases hz
 cases hz
 refine⟨es',clock',hh,⟨by simpa using he.1,by rw[hsz.clk];simpa using he.1,hsz.born⟩,fun j e kv hj hkv=>?_⟩
 obtain⟨dk,dv,h1,h2,h3⟩:=he.2 j e kv (by simpa using hj) hkv
 exact⟨dk,dv,h1,h2.keep hK (Sets.le_refl _),h3.keep hK (Sets.le_refl _)⟩

theorem entries_rd {bs kvs:List D}{m:Value}{dm:D}(hst:StOk w ρ.S ρ.foot bs)(hm:RdD w ρ.S m dm)(he:D.entries (.st bs) dm=some kvs) :
  (m=.map none∧kvs=[])∨∃(i:Nat) (es:Array MapEntry) (clock:Nat),dm=.mp i∧bs[i]? = some (.mblk kvs)∧m=.map (some (ρ.S.loc i))∧w.heap[ρ.S.loc i]? = some (.map es clock)∧EntsRd w ρ.S es.toList kvs∧MapSz es clock kvs.length:=by
 unfold D.entries at he
 split at he
 ·cases he
  exact .inl ⟨hm.v_eq,rfl⟩
 ·rename_i i
  simp only at he
  split at he
  ·rename_i kvs' hbs
   cases he
   obtain⟨hf,es,clock,hh,hsz,hns,hr⟩:=hst.maps i _ hbs
   refine .inr ⟨i,es,clock,rfl,hbs,?_,hh,⟨by simpa using hsz.len,fun j e kv h1 h2=>hr j e kv (by simpa using h1) h2⟩,hsz⟩
   cases hm
   rfl
  ·cases he
 ·cases he

theorem mapTy_spec {t k e:TypeId}{kd:Kd}(h:mapTy P t=some (k,e,kd)):P.underlying t=some (.map k e)∧keyKd P k=some kd:=by
 unfold mapTy at h
 split at h
 ·rename_i k' e' hu
  obtain⟨kd',hk,h⟩:=Option.map_eq_some_iff.1 h
  cases h
  exact⟨hu,hk⟩
 ·cases h

theorem lookup_run {t k e:TypeId}{kd:Kd}{bs kvs:List D}{m v z:Value}{dm d:D}{ok:Bool}{r:Option (Nat×D)}(hst:StOk w ρ.S ρ.foot bs)(ht:mapTy P t=some (k,e,kd))(hm:RdD w ρ.S m dm)(hv:RdD w ρ.S v d)(he:D.entries (.st bs) dm=some kvs)(hf:D.mlook kd d kvs=some r)(hz:(P.info? e).bind (·.zero)=some z) :
  ∃x:Value,(Instr.lookup t m v ok).run P w=.ok (if ok then .tuple #[x,.bool r.isSome] else x) w∧((r=none∧x=z)∨∃j dv,r=some (j,dv)∧RdD w ρ.S x dv):=by
 obtain⟨hu,hk⟩:=mapTy_spec ht
 rcases entries_rd hst hm he with⟨rfl,rfl⟩ | ⟨i,es,clock,rfl,hbs,rfl,hh,hes,_⟩
 ·obtain⟨hok,hr⟩:=mlook_run (es:=[]) hk hv ⟨rfl,by simp⟩ hf
  rcases hr with⟨rfl,hrun⟩ | ⟨j,dv,e',dk,_,_,h3,_⟩
  ·refine⟨z,?_,.inl ⟨rfl,rfl⟩⟩
   have hck:(Instr.checkKey (#[]:Array MapEntry).isEmpty 10000 k v).run P w=.ok () w:=run_checkKd hk hv hok
   simp only[Instr.lookup,Sem.run_bind,run_underlying hu,Result.andThen_ok,Sem.run_pure,hck,hrun,run_zeroValue hz,Option.isSome_none]
  ·simp at h3
 ·obtain⟨hok,hr⟩:=mlook_run hk hv hes hf
  have hck:(Instr.checkKey es.isEmpty 10000 k v).run P w=.ok () w:=run_checkKd hk hv hok
  rcases hr with⟨rfl,hrun⟩ | ⟨j,dv,e',dk,rfl,hrun,h3,h4,_⟩
  ·refine⟨z,?_,.inl ⟨rfl,rfl⟩⟩
   simp only[Instr.lookup,Sem.run_bind,run_underlying hu,Result.andThen_ok,Sem.run_pure,Go.MapKept.run_getObj_map hh,hck,hrun,run_zeroValue hz,Option.isSome_none]
  ·refine⟨e'.val,?_,.inr ⟨j,dv,rfl,h4⟩⟩
   simp only[Instr.lookup,Sem.run_bind,run_underlying hu,Result.andThen_ok,Sem.run_pure,Go.MapKept.run_getObj_map hh,hck,hrun,Option.isSome_some]

theorem update_run {t k e:TypeId}{kd:Kd}{bs:List D}{i:Nat}{v x:Value}{d dx:D}{m:Value}{d':D}(hst:StOk w ρ.S ρ.foot bs)(ht:mapTy P t=some (k,e,kd))(hm:RdD w ρ.S m (.mp i))(hv:RdD w ρ.S v d)(hx:RdD w ρ.S x dx)(hput:D.mput kd (.st bs) (.mp i) d dx=some d') :
  ∃(kvs':List D) (es':Array MapEntry) (clock':Nat),(∃kvs,bs[i]? = some (.mblk kvs))∧d'=.st (bs.set i (.mblk kvs'))∧(Instr.mapUpdate t m v x).run P w=.ok () { w with heap:=w.heap.setIfInBounds (ρ.S.loc i) (.map es' clock') }∧EntsRd w ρ.S es'.toList kvs'∧MapSz es' clock' es'.size:=by
 obtain⟨hu,hk⟩:=mapTy_spec ht
 unfold D.mput at hput
 simp only at hput
 split at hput
 ·rename_i kvs hbs
  obtain⟨r,hf,hput⟩:=Option.map_eq_some_iff.1 hput
  have he:D.entries (.st bs) (.mp i)=some kvs:=by simp[D.entries,hbs]
  rcases entries_rd hst hm he with⟨rfl,_⟩ | ⟨i',es,clock,e1,hbs',rfl,hh,hes,hms⟩
  ·cases hm
  cases e1
  obtain⟨hok,hr⟩:=mlook_run hk hv hes hf
  have hck:(Instr.checkKey false 10000 k v).run P w=.ok () w:=run_checkKd hk hv hok
  rcases hr with⟨rfl,hrun⟩ | ⟨j,dv,e',dk,rfl,hrun,h3,h4,h5,h6⟩
  ·simp only at hput
   subst hput
   refine⟨_,es.push { key:=v,val:=x,born:=clock },clock+1,⟨_,hbs⟩,rfl,?_,⟨?_,?_⟩,hms.push v x⟩
   ·simp only[Instr.mapUpdate,Sem.run_bind,run_underlying hu,Result.andThen_ok,Go.MapKept.run_getObj_map hh,hck,hrun,Go.MapKept.run_setObj_map _ hh]
   ·simp[hes.1]
   ·intro j e2 kv hj hkv
    simp only[Array.toList_push] at hj
    rw[List.getElem?_append] at hj hkv
    rw[hes.1] at hj
    split at hj
    ·rename_i hlt
     rw[if_pos hlt] at hkv
     exact hes.2 j e2 kv hj hkv
    ·rename_i hlt
     rw[if_neg hlt] at hkv
     have h0:j-kvs.length=0:=by
      have:=(List.getElem?_eq_some_iff.1 hj).1
      simp at this
      omega
     rw[h0] at hj hkv
     simp only[List.getElem?_cons_zero,Option.some.injEq] at hj hkv
     subst hj hkv
     exact⟨_,_,rfl,hv,hx⟩
  ·simp only at hput
   subst hput
   have hjl:j<es.size:=by simpa using(List.getElem?_eq_some_iff.1 h3).1
   have hkey:((es[j]?).map (·.key)).getD v=e'.key:=by
    have:es[j]? = some e':=by simpa using h3
    simp[this]
   have hstay:(Instr.keyThatStays e'.key v).run P w=.ok v w:=by
    simp[Instr.keyThatStays,sameBits_eq hk hv h5 h6]
   refine⟨_,es.modify j fun e=>{ e with key:=v,val:=x },clock,⟨_,hbs⟩,rfl,?_,⟨?_,?_⟩,hms.modify j _ fun _=>rfl⟩
   ·simp only[Instr.mapUpdate,Sem.run_bind,run_underlying hu,Result.andThen_ok,Go.MapKept.run_getObj_map hh,hck,hrun,hkey,hstay,Go.MapKept.run_setObj_map _ hh]
   ·simpa using hes.1
   ·intro q e2 kv hq hkv
    simp only[Array.getElem?_toList,Array.getElem?_modify] at hq
    rw[List.getElem?_set] at hkv
    by_cases hjq:j=q
    ·subst hjq
     rw[if_pos rfl] at hq hkv
     rw[if_pos (by rw[←hes.1];simpa using hjl)] at hkv
     obtain⟨e0,he0,rfl⟩:=Option.map_eq_some_iff.1 hq
     cases hkv
     exact⟨_,_,rfl,hv,hx⟩
    ·rw[if_neg hjq] at hq hkv
     exact hes.2 q e2 kv (by simpa using hq) hkv
 ·cases hput

theorem mentry_run {t k e:TypeId}{kd:Kd}{bs:List D}{m v zv:Value}{dm d z d':D}(hst:StOk w ρ.S ρ.foot bs)(ht:mapTy P t=some (k,e,kd))(hm:RdD w ρ.S m dm)(hv:RdD w ρ.S v d)(hzv:(P.info? e).bind (·.zero)=some zv)(hz:D.ofVal zv=some z)(hput:D.mentm kd (.st bs) dm d z=some d') :
  ∃(i:Nat) (kvs kvs':List D) (es':Array MapEntry) (clock':Nat) (u:Value) (j:Nat) (du:D),dm=.mp i∧bs[i]? = some (.mblk kvs)∧d'=.st (bs.set i (.mblk kvs'))∧D.mentv kd (.st bs) dm d z=some (.tup [du,.int j])∧(Instr.mapEntry t m v).run P w=.ok (.tuple #[u,.int .i64 j]) { w with heap:=w.heap.setIfInBounds (ρ.S.loc i) (.map es' clock') }∧EntsRd w ρ.S es'.toList kvs'∧MapSz es' clock' es'.size∧RdD w ρ.S u du:=by
 obtain⟨hu,hk⟩:=mapTy_spec ht
 unfold D.mentm at hput
 split at hput
 ·rename_i i bs' e1
  cases e1
  split at hput
  ·rename_i kvs hbs
   obtain⟨r,hf,hput⟩:=Option.map_eq_some_iff.1 hput
   have he:D.entries (.st bs) (.mp i)=some kvs:=by simp[D.entries,hbs]
   rcases entries_rd hst hm he with⟨rfl,_⟩ | ⟨i',es,clock,e1,hbs',rfl,hh,hes,hms⟩
   ·cases hm
   cases e1
   obtain⟨hok,hr⟩:=mlook_run (w:=w) hk hv hes hf
   have hck:=run_checkKd (w:=w) (em:=false) hk hv hok
   rcases hr with⟨rfl,hrun⟩ | ⟨j,dv,e',dk,rfl,hrun,h3,h4,h5,h6⟩
   ·simp only at hput
    subst hput
    refine⟨i,kvs,_,es.push { key:=v,val:=zv,born:=clock },clock+1,zv,clock,z,rfl,hbs,rfl,?_,?_,⟨?_,?_⟩,hms.push v zv,D.ofVal_rd hz⟩
    ·unfold D.mentv
     rw[he,Option.bind_some,hf,hms.clk]
     rfl
    ·simp only[Instr.mapEntry,Sem.run_bind,run_underlying hu,Result.andThen_ok,Go.MapKept.run_getObj_map hh,hck,hrun,run_zeroValue hzv,Go.MapKept.run_setObj_map _ hh,Sem.run_pure]
     rfl
    ·simp[←hes.1]
    ·intro q e2 kv hq hkv
     rw[Array.toList_push] at hq
     rw[List.getElem?_append] at hq hkv
     rw[hes.1] at hq
     split at hq
     ·rename_i hlt
      rw[if_pos hlt] at hkv
      exact hes.2 q e2 kv hq hkv
     ·rename_i hge
      rw[if_neg hge] at hkv
      have h0:q-kvs.length=0:=by
       have:=(List.getElem?_eq_some_iff.1 hq).1
       simp at this
       omega
      rw[h0] at hq hkv
      simp only[List.getElem?_cons_zero,Option.some.injEq] at hq hkv
      subst hq hkv
      exact⟨_,_,rfl,hv,D.ofVal_rd hz⟩
   ·simp only at hput
    subst hput
    have hjl:j<es.size:=by simpa using(List.getElem?_eq_some_iff.1 h3).1
    have hej:es[j]? = some e':=by simpa using h3
    have hkey:((es[j]?).map (·.key)).getD v=e'.key:=by simp[hej]
    have hborn:((es[j]?).map fun x=>(x.born:Int)).getD 0=(j:Int):=by simp[hej,hms.born j e' hej]
    have hstay:(Instr.keyThatStays e'.key v).run P w=.ok v w:=by
     simp[Instr.keyThatStays,sameBits_eq hk hv h5 h6]
    refine⟨i,kvs,_,es.modify j fun e=>{ e with key:=v },clock,e'.val,j,dv,rfl,hbs,rfl,?_,?_,⟨?_,?_⟩,hms.modify j _ fun _=>rfl,h4⟩
    ·unfold D.mentv
     rw[he,Option.bind_some,hf]
     rfl
    ·simp only[Instr.mapEntry,Sem.run_bind,run_underlying hu,Result.andThen_ok,Go.MapKept.run_getObj_map hh,hck,hrun,hkey,hstay,Go.MapKept.run_setObj_map _ hh,hborn,Sem.run_pure]
     rfl
    ·simpa using hes.1
    ·intro q e2 kv hq hkv
     simp only[Array.getElem?_toList,Array.getElem?_modify] at hq
     rw[List.getElem?_set] at hkv
     by_cases hjq:j=q
     ·subst hjq
      rw[if_pos rfl] at hq hkv
      rw[if_pos (by rw[←hes.1];simpa using hjl)] at hkv
      rw[hej] at hq
      cases hq
      cases hkv
      exact⟨_,_,rfl,hv,h4⟩
     ·rw[if_neg hjq] at hq hkv
      exact hes.2 q e2 kv (by simpa using hq) hkv
  ·cases hput
 ·cases hput

theorem ments_run {t:TypeId}{bs:List D}{m s x:Value}{dm ds dx d':D}(hst:StOk w ρ.S ρ.foot bs)(hm:RdD w ρ.S m dm)(hs:RdD w ρ.S s ds)(hx:RdD w ρ.S x dx)(hput:D.ments (.st bs) dm ds dx=some d') :
  ∃(i:Nat) (kvs kvs':List D) (es':Array MapEntry) (clock':Nat),dm=.mp i∧bs[i]? = some (.mblk kvs)∧d'=.st (bs.set i (.mblk kvs'))∧(Instr.entryStore t m s x).run P w=.ok () { w with heap:=w.heap.setIfInBounds (ρ.S.loc i) (.map es' clock') }∧EntsRd w ρ.S es'.toList kvs'∧MapSz es' clock' es'.size:=by
 unfold D.ments at hput
 split at hput
 ·rename_i i bs' n e1
  cases e1
  split at hput
  ·rename_i kvs hbs
   split at hput
   ·rename_i hn0
    obtain⟨⟨k,u⟩,hku,e0⟩:=Option.map_eq_some_iff.1 hput
    subst e0
    obtain⟨j,rfl⟩:∃j:Nat,n=j:=⟨n.toNat,by omega⟩
    simp only[Int.toNat_natCast] at hku ⊢
    have he:D.entries (.st bs) (.mp i)=some kvs:=by simp[D.entries,hbs]
    rcases entries_rd hst hm he with⟨rfl,_⟩ | ⟨i',es,clock,e1,hbs',rfl,hh,hes,hms⟩
    ·cases hm
    cases e1
    obtain rfl:=hs.v_eq
    unfold pairAt at hku
    split at hku
    ·rename_i k' u' hk
     cases hku
     have hjl:j<es.size:=by
      have:=(List.getElem?_eq_some_iff.1 hk).1
      rw[hms.len]
      exact this
     have hej:es[j]? = some es[j]:=Array.getElem?_eq_getElem hjl
     obtain⟨dk,dv,e1,e2,e3⟩:=hes.2 j es[j] _ (by simp[hjl]) hk
     cases e1
     have hfind:es.findIdx? (fun e=>(e.born:Int)==(j:Int))=some j:=by
      rw[Array.findIdx?_eq_some_iff_getElem]
      refine⟨hjl,by simp[hms.born j _ hej],fun q hq=>?_⟩
      have:=hms.born q es[q] (Array.getElem?_eq_getElem (by omega))
      simp[this]
      omega
     refine⟨i,kvs,_,es.modify j fun e=>{ e with val:=x },clock,rfl,hbs,rfl,?_,⟨?_,?_⟩,hms.modify j _ fun _=>rfl⟩
     ·simp only[Instr.entryStore,Sem.run_bind,Go.MapKept.run_getObj_map hh,Result.andThen_ok,asInt,asIntOf,Sem.run_pure,hfind,Go.MapKept.run_setObj_map _ hh]
     ·simpa using hes.1
     ·intro q e2' kv hq hkv
      simp only[Array.getElem?_toList,Array.getElem?_modify] at hq
      rw[List.getElem?_set] at hkv
      by_cases hjq:j=q
      ·subst hjq
       rw[if_pos rfl] at hq hkv
       rw[if_pos (by rw[←hes.1];simpa using hjl)] at hkv
       rw[hej] at hq
       cases hq
       cases hkv
       exact⟨_,_,rfl,e2,hx⟩
      ·rw[if_neg hjq] at hq hkv
       exact hes.2 q e2' kv (by simpa using hq) hkv
    ·cases hku
   ·cases hput
  ·cases hput
 ·cases hput

/-! ## loops over a map -/

theorem mrng_some {bs:List D}{dm d:D}(h:D.mrng (.st bs) dm=some d):∃i kvs,dm=.mp i∧bs[i]? = some (.mblk kvs)∧d=.st (bs++[.itb i kvs.length []]):=by
 unfold D.mrng at h
 split at h
 ·rename_i i bs' e
  cases e
  split at h
  ·rename_i kvs hi
   cases h
   exact⟨i,kvs,rfl,hi,rfl⟩
  ·cases h
 ·cases h

theorem place_rd {bs:List D}{p:Value}{dp:D}{bs':List D}{i m n:Nat}{seen:List Nat}{kvs:List D}(hst:StOk w ρ.S ρ.foot bs)(hp:RdD w ρ.S p dp)(h:D.place (.st bs) dp=some (bs',i,m,n,seen,kvs)) :
  bs'=bs∧bs[i]? = some (.itb m n seen)∧p=.pointer (some ⟨ρ.S.loc i,0,none⟩)∧m<ρ.S.n∧w.heap[ρ.S.loc i]? = some (.mapIter (some (ρ.S.loc m)) n seen.toArray n)∧∃es:Array MapEntry,w.heap[ρ.S.loc m]? = some (.map es n)∧MapSz es n n∧EntsRd w ρ.S es.toList kvs∧kvs.length=n:=by
 unfold D.place at h
 split at h
 ·rename_i bs1 i1 e
  cases e
  split at h
  ·rename_i m1 n1 seen1 hi
   split at h
   ·rename_i kvs1 hm
    split at h
    ·rename_i hn
     cases h
     obtain⟨_,⟨g1,g2⟩,_⟩:=hst.its _ _ hi rfl
     obtain⟨_,es,clock,g3,g4,_,g5⟩:=hst.maps _ _ hm
     have hc:clock=n:=g4.clk.trans hn
     subst hc
     cases hp
     refine⟨rfl,hi,rfl,g1,g2,es,g3,by rw[hn] at g4;exact g4,⟨by simpa using g4.len,fun j e kv h1 h2=>g5 j e kv (by simpa using h1) h2⟩,hn⟩
    ·cases h
   ·cases h
  ·cases h
 ·cases h

theorem entry_run {bs:List D}{p:Value}{dp d:D}(hst:StOk w ρ.S ρ.foot bs)(hp:RdD w ρ.S p dp)(h:D.mentry (.st bs) dp=some d) :
  ∃v1 v2 d1 d2,(Instr.entry p).run P w=.ok (.tuple #[v1,v2]) w∧d=.tup [d1,d2]∧RdD w ρ.S v1 d1∧RdD w ρ.S v2 d2:=by
 unfold D.mentry at h
 obtain⟨q,hpl,hq⟩:=Option.bind_eq_some_iff.1 h
 obtain⟨bs',i,m,n,seen,kvs⟩:=q
 simp only at hq
 obtain⟨rfl,hi,rfl,hm,hit,es,hes,hsz,hrd,hn⟩:=place_rd hst hp hpl
 obtain⟨j,hj,hq2⟩:=Option.bind_eq_some_iff.1 hq
 obtain⟨⟨k,u⟩,hku,e0⟩:=Option.map_eq_some_iff.1 hq2
 simp only at e0
 subst e0
 unfold pairAt at hku
 split at hku
 ·rename_i k' u' hk
  cases hku
  have hjl:j<es.size:=by
   have:=(List.getElem?_eq_some_iff.1 hk).1
   rw[hsz.len,←hn]
   exact this
  obtain⟨dk,dv,e1,e2,e3⟩:=hrd.2 j es[j] _ (by simp[hjl]) hk
  cases e1
  obtain⟨s',rfl⟩:∃s',seen=s'++[j]:=by
   have:=List.getLast?_eq_some_iff.1 hj
   exact this
  refine⟨es[j].key,es[j].val,_,_,?_,rfl,e2,e3⟩
  have hborn:es[j].born=j:=hsz.born j _ (by simp[hjl])
  have hnd:(es.toList.map (·.born)).Nodup:=by
   refine List.pairwise_iff_getElem.2 fun a b ha hb hab=>?_
   have hb':b<es.size:=by simpa using hb
   have ha':a<es.size:=by simpa using ha
   simp only[List.getElem_map,Array.getElem_toList]
   rw[hsz.born a _ (Array.getElem?_eq_getElem ha'),hsz.born b _ (Array.getElem?_eq_getElem hb')]
   omega
  have:=run_entry_at (P:=P) w (ρ.S.loc i) (ρ.S.loc m) n s'.toArray es n es[j] (by rw[hit,hborn];simp) hes (by simp) hnd
  exact this
 ·cases hku

theorem next_run {ty:TypeId}{bs:List D}{p:Value}{dp:D}{ys:List D}(hst:StOk w ρ.S ρ.foot bs)(hp:RdD w ρ.S p dp)(h:D.mnext (.st bs) dp=some (.lst ys)) :
  ∃(v:Value) (w':World) (d:D) (bs':List D),.tup [d,.st bs']∈ys∧(Instr.next p false ty).run P w=.ok v w'∧RdD w' ρ.S v d∧StOk w' ρ.S ρ.foot bs'∧Keeps ρ.S w w'∧w'.os=w.os∧TL w' w∧w'.output=w.output∧w'.heap.size=w.heap.size∧∀b,¬ρ.foot b→w'.heap[b]? = w.heap[b]?:=by
 unfold D.mnext at h
 obtain⟨q,hpl,hq⟩:=Option.map_eq_some_iff.1 h
 clear h
 obtain⟨bs',i,m,n,seen,kvs⟩:=q
 simp only[D.lst.injEq] at hq
 have h:=hq
 clear hq
 obtain⟨rfl,hi,rfl,hm,hit,es,hes,hsz,hrd,hn⟩:=place_rd hst hp hpl
 have hborn:∀(j:Nat) (x:MapEntry),es[j]? = some x→x.born=j:=hsz.born
 have hold:∀x∈es.toList,x.born<n:=fun x hx=>by
  obtain⟨j,hj⟩:=List.getElem?_of_mem hx
  rw[hborn j x (by simpa using hj)]
  have:=(List.getElem?_eq_some_iff.1 hj).1
  rw[Array.length_toList,hsz.len] at this
  exact this
 have hf:=(hst.its i _ hi rfl).1
 have hns:∀off,¬ρ.S (ρ.S.loc i) off:=fun off=>hst.nos _ off hf
 have hleft:∀x∈es.toList,(x∈(leftOf es seen.toArray).toList↔x.born∈leftN n seen):=fun x hx=>by
  have:=hold x hx
  simp only[leftOf,leftN,Array.toList_filter,List.mem_filter,List.contains_toArray,List.mem_range,hx,this,true_and]
 rcases run_next_at (P:=P) w ty (ρ.S.loc i) (ρ.S.loc m) n n seen.toArray es n hit hes hold (Nat.le_refl _) with⟨h0,hrun⟩ | ⟨e,he,w1,hw1,hrun⟩
 ·have hemp:(leftN n seen).isEmpty=true:=by
   rw[List.isEmpty_iff]
   refine List.eq_nil_iff_forall_not_mem.2 fun j hj=>?_
   have hjn:j<n:=by simp only[leftN,List.mem_filter,List.mem_range] at hj;exact hj.1
   have hjl:j<es.size:=by rw[hsz.len];exact hjn
   have hb:=hborn j es[j] (Array.getElem?_eq_getElem hjl)
   have:=(hleft es[j] (by simp)).2 (by rw[hb];exact hj)
   rw[Array.eq_empty_of_size_eq_zero h0] at this
   simp at this
  rw[if_pos hemp] at h
  subst h
  exact⟨_,w,.tup [.bool false],bs',by simp,hrun,.tup rfl fun j v d hv hd=>by
   match j with
   | 0=>simp at hv hd;subst hv hd;exact .v rfl
   | j+1=>simp at hv,hst,Keeps.refl _ _,rfl,.refl _,rfl,rfl,fun _ _=>rfl⟩
 ·have hees:e∈es.toList:=by
   simp only[leftOf,Array.toList_filter,List.mem_filter] at he
   exact he.1
  have hj:=(hleft e hees).1 he
  obtain⟨j,hje⟩:=List.getElem?_of_mem hees
  have hej:es[j]? = some e:=by simpa using hje
  have hb:=hborn j e hej
  rw[hb] at hj
  have hne:¬(leftN n seen).isEmpty=true:=fun hh=>by
   rw[List.isEmpty_iff] at hh
   rw[hh] at hj
   cases hj
  rw[if_neg hne] at h
  have hjl:j<kvs.length:=by rw[hn,←hsz.len];exact(Array.getElem?_eq_some_iff.1 hej).1
  obtain⟨dk,dv,e1,e2,e3⟩:=hrd.2 j e kvs[j] hje (by simp)
  have hw:w1.heap=w.heap∧w1.os=w.os∧TL w1 w∧w1.output=w.output:=by
   rcases hw1 with rfl | rfl
   ·exact⟨rfl,rfl,.refl _,rfl⟩
   ·exact⟨rfl,rfl,⟨rfl,Nat.le_succ _⟩,rfl⟩
  have hil:ρ.S.loc i<w.heap.size:=(Array.getElem?_eq_some_iff.1 hit).1
  have hset:∀b,b≠ρ.S.loc i→(ChangeMaps.setBlock w1 (ρ.S.loc i) (.mapIter (some (ρ.S.loc m)) n (seen.toArray.push e.born) n)).heap[b]? = w.heap[b]?:=fun b hb=>by
   simp only[ChangeMaps.setBlock,hw.1,Array.getElem?_setIfInBounds,Ne.symm hb,if_false]
  have hat:(ChangeMaps.setBlock w1 (ρ.S.loc i) (.mapIter (some (ρ.S.loc m)) n (seen.toArray.push e.born) n)).heap[ρ.S.loc i]? = some (.mapIter (some (ρ.S.loc m)) n (seen++[j]).toArray n):=by
   simp only[ChangeMaps.setBlock,hw.1,Array.getElem?_setIfInBounds,if_true,hil,hb]
   simp
  have hK:Keeps ρ.S w (ChangeMaps.setBlock w1 (ρ.S.loc i) (.mapIter (some (ρ.S.loc m)) n (seen.toArray.push e.born) n)):=fun b o hbo=>World.cell?_of_block (a:=⟨b,o,none⟩) (hset b fun e=>hns o (e ▸ hbo))
  refine⟨_,_,.tup [.bool true,dk,dv],bs'.set i (.itb m n (seen++[j])),?_,hrun,?_,?_,hK,hw.2.1,⟨hw.2.2.1.tape,hw.2.2.1.dr⟩,hw.2.2.2,by simp[ChangeMaps.setBlock,hw.1],fun b hb=>hset b fun e=>hb (e ▸ hf)⟩
  ·rw[←h,List.mem_filterMap]
   refine⟨j,hj,?_⟩
   unfold pairAt
   rw[List.getElem?_eq_getElem hjl,e1]
   rfl
  ·refine .tup rfl fun q v d hv hd=>?_
   match q with
   | 0=>simp at hv hd;subst hv hd;exact .v rfl
   | 1=>simp at hv hd;subst hv hd;exact e2.keep hK (Sets.le_refl _)
   | 2=>simp at hv hd;subst hv hd;exact e3.keep hK (Sets.le_refl _)
   | q+3=>simp at hv
  ·refine hst.set hK hi rfl (fun k x _ _ hne=>hset _ hne) (fun e sz cs hz=>by cases hz) (fun kvs hz=>by cases hz) fun _=>⟨hm,hat⟩

theorem lmap_sound {o:Oper}{opv:Operand→SV}{ix:Nat}{r:LRes}(hv:∀x,SRd w ρ env (a.eval x) (opv x))(hl:lmap P o opv σ.obj ix=some r)(h:Rep w0 X w a σ env ρ)(hd:∀d,o.dst=some d→d<σ.tmps.length)(hb:BindOk P env ix r.bind) :
  (r.upd=none∧OpOk P o a w w0 X (σ.put o.dst r.val) env)∨∃z,r.upd=some (HID,z)∧OpOk P o a w w0 X ((σ.setObj HID (some z)).put o.dst r.val) env:=by
 unfold lmap at hl
 split at hl
 case isFalse=>cases hl
 unfold lmapC at hl
 split at hl
 case h_2=>cases hl
 rename_i cf hx hob
 obtain⟨bs,hbe,hst,_⟩:=h.objs _ _ hob
 have upd:∀{t:TypeId} {m k x:Operand} {ty:TypeId×TypeId×Kd} {m' k' x':E},(execOp a.eval o).run P w=((Instr.mapUpdate t (a.eval m) (a.eval k) (a.eval x)).run P w).andThen (fun _ w'=>.ok .skip w')→mapTy P t=some ty→(opv m).toE=some m'→(opv k).toE=some k'→(opv x).toE=some x'→cf.ro=false →
   BindOk P env ix (some (.ev (.m4 (.put ty.2.2) hx m' k' x')))→OpOk P o a w w0 X ((σ.setObj HID (some (.store cf (.sym ix)))).put o.dst .junk) env:=by
  rintro t m k x ⟨kt,e,kd⟩ m' k' x' hexec hty hm' hk' hx' hro hb
  obtain⟨dm,hdm,hrm⟩:=SV.toE_rd hm' (hv m)
  obtain⟨dk,hdk,hrk⟩:=SV.toE_rd hk' (hv k)
  obtain⟨dx,hdx,hrx⟩:=SV.toE_rd hx' (hv x)
  obtain⟨d,he,hix⟩:=hb
  simp only[E.eval,hbe,hdm,hdk,hdx,Option.bind_some,D.m4] at he
  have hmp:∃i,dm=.mp i:=by
   unfold D.mput at he
   split at he
   ·exact⟨_,rfl⟩
   ·cases he
  obtain⟨i,rfl⟩:=hmp
  obtain⟨kvs',es',clock',⟨kvs,hbs⟩,rfl,hrun,hes,hms⟩:=update_run hst hty hrm hrk hrx he
  rw[hrun] at hexec
  obtain⟨hf,es0,clock0,hh,_,hns,_⟩:=hst.maps i _ hbs
  obtain⟨g1,g2⟩:=heap_set (o':=.map es' clock') hh
  refine opOk_skip hexec ((h.setBlock (w':={ w with heap:=w.heap.setIfInBounds (ρ.S.loc i) (.map es' clock') }) (.inl rfl) hob (b0:=ρ.S.loc i) hf (by simpa[SObj.ro] using hro) (by intro _ hh;exact hh) hns (fun b hb'=>g2 b hb') rfl ⟨rfl,Nat.le_refl _⟩ rfl (by simp) fun hk=>?_).put (by rw[SState.tmps_setObj];exact hd) .junk)
  exact⟨_,by simp only[E.eval];exact hix,stOk_setM hst hk hbs g1 g2 hes hms,rfl⟩
 split at hl
 ·rename_i t ho
  split at hl
  ·cases hl
  rename_i hro
  have hro:cf.ro=false:=by simpa using hro
  cases hl
  obtain⟨d,he,hix⟩:=hb
  simp only[E.eval,hbe,Option.bind_some,D.m4] at he
  cases he
  have hrun:(execOp a.eval o).run P w=.ok (.value (.map (some w.heap.size))) (w.alloc (.map #[] 0)):=by
   unfold execOp
   simp only[ho,Option.map_none,Sem.run_bind]
   rfl
  obtain⟨hrep,hn⟩:=h.newStoreG (k:=0) (z:=.mblk []) (ob:=.map #[] 0) (x':=.sym ix) hob hro hbe (fun e sz cs hz=>by cases hz) (fun kvs hz=>by cases hz;exact⟨#[],0,rfl,⟨rfl,rfl,by simp⟩,by simp⟩) (by simp only[E.eval];exact hix)
  refine .inr ⟨_,rfl,opOk_value hrun (hrep.put (by rw[SState.tmps_setObj];exact hd) ?_)⟩
  refine .e (d:=.mp bs.length) (by simp only[E.eval,hbe];rfl) ?_ fun _=>rfl
  have:=RdD.mp (w:=w.alloc (.map #[] 0)) (S:=ρ.S.more w.heap.size 0) (i:=bs.length) (by simp[Sets.more,hn])
  have hl:(ρ.S.more w.heap.size 0).loc bs.length=w.heap.size:=by simp[Sets.more,hn]
  rwa [hl] at this
 ·rename_i t m k x ho
  split at hl
  ·cases hl
  rename_i hro
  split at hl
  ·rename_i ty m' k' x' hty hm' hk' hx'
   cases hl
   exact .inr ⟨_,rfl,upd (by unfold execOp;rw[ho];simp only[Sem.run_bind,Sem.run_pure]) hty hm' hk' hx' (by simpa using hro) hb⟩
  ·cases hl
 ·rename_i t m k x ho
  split at hl
  ·cases hl
  rename_i hro
  split at hl
  ·rename_i ty m' k' x' hty hm' hk' hx'
   cases hl
   exact .inr ⟨_,rfl,upd (by unfold execOp;rw[ho];simp only[Sem.run_bind,Sem.run_pure]) hty hm' hk' hx' (by simpa using hro) hb⟩
  ·cases hl
 ·rename_i t m k ok ho
  split at hl
  ·rename_i kt e kd m' k' hty hm' hk'
   split at hl
   ·rename_i z agg hz hagg
    obtain⟨zv,hzv,hz⟩:=Option.bind_eq_some_iff.1 hz
    obtain⟨dm,hdm,hrm⟩:=SV.toE_rd hm' (hv m)
    obtain⟨dk,hdk,hrk⟩:=SV.toE_rd hk' (hv k)
    split at hl
    ·rename_i hok
     subst hok
     cases hl
     obtain⟨d,he,hix⟩:=hb
     simp only[E.eval,hbe,hdm,hdk,Option.bind_some,D.m4,Option.bind_eq_some_iff,Option.map_eq_some_iff] at he
     obtain⟨kvs,hkvs,rr,hrr,he⟩:=he
     obtain⟨x,hrun,hx⟩:=lookup_run (ok:=true) hst hty hrm hrk hkvs hrr hzv
     have hexec:(execOp a.eval o).run P w=.ok (.value (.tuple #[x,.bool rr.isSome])) w:=by
      unfold execOp
      simp only[ho,Sem.run_bind,hrun,Result.andThen_ok,Sem.run_pure,if_true]
     refine .inl ⟨rfl,opOk_value hexec (h.put hd ?_)⟩
     obtain⟨dd,hdd,hxd⟩:∃dd,d=.tup [dd,.bool rr.isSome]∧RdD w ρ.S x dd:=by
      rcases hx with⟨rfl,rfl⟩ | ⟨j,dv,rfl,hdv⟩
      ·exact⟨_,he.symm,D.ofVal_rd hz⟩
      ·exact⟨_,he.symm,hdv⟩
     subst hdd
     refine .tup rfl fun i v c hv' hc=>?_
     match i with
     | 0=>
      simp at hv' hc
      subst hv' hc
      exact .e (d:=dd) (by simp[E.eval,hix,D.tget]) hxd (by simp)
     | 1=>
      simp at hv' hc
      subst hv' hc
      exact .e (d:=.bool rr.isSome) (by simp[E.eval,hix,D.tget]) (.v rfl) (fun _=>rfl)
     | i+2=>simp at hc
    ·rename_i hok
     have hok:ok=false:=by simpa using hok
     subst hok
     cases hl
     obtain⟨d,he,hix⟩:=hb
     simp only[E.eval,hbe,hdm,hdk,Option.bind_some,D.m4,Option.bind_eq_some_iff] at he
     obtain⟨kvs,hkvs,rr,hrr,he⟩:=he
     obtain⟨x,hrun,hx⟩:=lookup_run (ok:=false) hst hty hrm hrk hkvs hrr hzv
     have hexec:(execOp a.eval o).run P w=.ok (.value x) w:=by
      unfold execOp
      simp only[ho,Sem.run_bind,hrun,Result.andThen_ok,Sem.run_pure]
      rfl
     refine .inl ⟨rfl,opOk_value hexec (h.put hd ?_)⟩
     rcases hx with⟨rfl,rfl⟩ | ⟨j,dv,rfl,hdv⟩
     ·simp only at he
      split at he
      ·rename_i hone
       cases he
       exact .e hix (D.ofVal_rd hz) fun hag=>hone.resolve_left (by simpa using hag)
      ·cases he
     ·simp only at he
      split at he
      ·rename_i hone
       cases he
       exact .e hix hdv fun hag=>hone.resolve_left (by simpa using hag)
      ·cases he
   ·cases hl
  ·cases hl
 ·rename_i t m ho
  split at hl
  ·cases hl
  rename_i hro
  have hro:cf.ro=false:=by simpa using hro
  split at hl
  ·rename_i ty m' hty hm'
   cases hl
   obtain⟨kt,e,kd⟩:=ty
   obtain⟨hu,_⟩:=mapTy_spec hty
   obtain⟨dm,hdm,hrm⟩:=SV.toE_rd hm' (hv m)
   obtain⟨d,he,hix⟩:=hb
   simp only[E.eval,hbe,hdm,Option.bind_some,D.m4] at he
   obtain⟨i,kvs,rfl,hbs,rfl⟩:=mrng_some he
   obtain⟨hf,es,clock,hh,hsz,hns,hr⟩:=hst.maps i _ hbs
   have hlt:i<ρ.S.n:=by rw[hst.n];exact(List.getElem?_eq_some_iff.1 hbs).1
   have hme:a.eval m=.map (some (ρ.S.loc i)):=by
    generalize a.eval m=v at hrm
    cases hrm
    rfl
   have hrun:(execOp a.eval o).run P w=.ok (.value (.pointer (some ⟨w.heap.size,0,none⟩))) (w.alloc (.mapIter (some (ρ.S.loc i)) kvs.length [].toArray kvs.length)):=by
    unfold execOp
    simp only[ho,hme,Instr.range,Sem.run_bind,run_underlying hu,Result.andThen_ok,Go.MapKept.run_getObj_map hh,hsz.clk,Sem.run_pure]
    rfl
   obtain⟨hrep,hn⟩:=h.newStoreG (k:=0) (z:=.itb i kvs.length []) (ob:=.mapIter (some (ρ.S.loc i)) kvs.length [].toArray kvs.length) (x':=.sym ix) hob hro hbe (fun e sz cs hz=>by cases hz) (fun kvs hz=>by cases hz) (by simp only[E.eval];exact hix) (fun _=>⟨Nat.lt_succ_of_lt hlt,by rw[(ρ.S.le_more w.heap.size 0).loc _ hlt]⟩)
   refine .inr ⟨_,rfl,opOk_value hrun (hrep.put (by rw[SState.tmps_setObj];exact hd) ?_)⟩
   exact fstid_rd hbe hn
  ·cases hl
 ·rename_i t m k ho
  split at hl
  ·cases hl
  rename_i hro
  have hro:cf.ro=false:=by simpa using hro
  split at hl
  ·rename_i kt e kd m' k' hty hm' hk'
   obtain⟨z,hz,rfl⟩:=Option.map_eq_some_iff.1 hl
   obtain⟨zv,hzv,hz⟩:=Option.bind_eq_some_iff.1 hz
   obtain⟨dm,hdm,hrm⟩:=SV.toE_rd hm' (hv m)
   obtain⟨dk,hdk,hrk⟩:=SV.toE_rd hk' (hv k)
   obtain⟨d,he,hix⟩:=hb
   simp only[E.eval,hbe,hdm,hdk,Option.bind_some,D.m4] at he
   obtain⟨i,kvs,kvs',es',clock',u,j,du,rfl,hbs,rfl,hent,hrun,hes,hms,hu⟩:=mentry_run (P:=P) hst hty hrm hrk hzv hz he
   have hexec:(execOp a.eval o).run P w=.ok (.value (.tuple #[u,.int .i64 j])) { w with heap:=w.heap.setIfInBounds (ρ.S.loc i) (.map es' clock') }:=by
    unfold execOp
    simp only[ho,Sem.run_bind,hrun,Result.andThen_ok,Sem.run_pure]
   obtain⟨hf,es0,clock0,hh,_,hns,_⟩:=hst.maps i _ hbs
   obtain⟨g1,g2⟩:=heap_set (o':=.map es' clock') hh
   have hK:Keeps ρ.S w { w with heap:=w.heap.setIfInBounds (ρ.S.loc i) (.map es' clock') }:=fun b o hs=>World.cell?_of_block (a:=⟨b,o,none⟩) (g2 b fun e=>hns o (e ▸ hs))
   have hX:(E.m4 (.entv kd) hx m' k' (.const z)).eval env=some (.tup [du,.int j]):=by
    simp only[E.eval,hbe,hdm,hdk,Option.bind_some,D.m4]
    exact hent
   refine .inr ⟨_,rfl,opOk_value hexec ((h.setBlock (w':={ w with heap:=w.heap.setIfInBounds (ρ.S.loc i) (.map es' clock') }) (.inl rfl) hob (b0:=ρ.S.loc i) hf (by simpa[SObj.ro] using hro) (by intro _ hh;exact hh) hns (fun b hb'=>g2 b hb') rfl ⟨rfl,Nat.le_refl _⟩ rfl (by simp) fun hk=>?_).put (by rw[SState.tmps_setObj];exact hd) ?_)⟩
   ·exact⟨_,by simp only[E.eval];exact hix,stOk_setM hst hk hbs g1 g2 hes hms,rfl⟩
   ·refine .tup rfl fun q v c hv' hc=>?_
    match q with
    | 0=>
     simp at hv' hc
     subst hv' hc
     exact .e (d:=du) (by simp only[E.eval] at hX ⊢;rw[hX];rfl) (hu.keep hK (Sets.le_refl _)) (by simp)
    | 1=>
     simp at hv' hc
     subst hv' hc
     exact .e (d:=.int j) (by simp only[E.eval] at hX ⊢;rw[hX];rfl) (.v rfl) fun _=>rfl
    | q+2=>simp at hc
  ·cases hl
 ·rename_i t m s x ho
  split at hl
  ·cases hl
  rename_i hro
  have hro:cf.ro=false:=by simpa using hro
  split at hl
  ·rename_i m' s' x' hm' hs' hx'
   cases hl
   obtain⟨dm,hdm,hrm⟩:=SV.toE_rd hm' (hv m)
   obtain⟨ds,hds,hrs⟩:=SV.toE_rd hs' (hv s)
   obtain⟨dx,hdx,hrx⟩:=SV.toE_rd hx' (hv x)
   obtain⟨d,he,hix⟩:=hb
   simp only[E.eval,hbe,hdm,hds,hdx,Option.bind_some,D.m4] at he
   obtain⟨i,kvs,kvs',es',clock',rfl,hbs,rfl,hrun,hes,hms⟩:=ments_run (P:=P) (t:=t) hst hrm hrs hrx he
   have hexec:(execOp a.eval o).run P w=.ok .skip { w with heap:=w.heap.setIfInBounds (ρ.S.loc i) (.map es' clock') }:=by
    unfold execOp
    simp only[ho,Sem.run_bind,hrun,Result.andThen_ok,Sem.run_pure]
   obtain⟨hf,es0,clock0,hh,_,hns,_⟩:=hst.maps i _ hbs
   obtain⟨g1,g2⟩:=heap_set (o':=.map es' clock') hh
   refine .inr ⟨_,rfl,opOk_skip hexec ((h.setBlock (w':={ w with heap:=w.heap.setIfInBounds (ρ.S.loc i) (.map es' clock') }) (.inl rfl) hob (b0:=ρ.S.loc i) hf (by simpa[SObj.ro] using hro) (by intro _ hh;exact hh) hns (fun b hb'=>g2 b hb') rfl ⟨rfl,Nat.le_refl _⟩ rfl (by simp) fun hk=>?_).put (by rw[SState.tmps_setObj];exact hd) .junk)⟩
   exact⟨_,by simp only[E.eval];exact hix,stOk_setM hst hk hbs g1 g2 hes hms,rfl⟩
  ·cases hl
 ·rename_i it ho
  obtain⟨p,hp,rfl⟩:=Option.map_eq_some_iff.1 hl
  obtain⟨dp,hdp,hrp⟩:=SV.toE_rd hp (hv it)
  obtain⟨d,he,hix⟩:=hb
  simp only[E.eval,hbe,hdp,Option.bind_some,D.m4] at he
  obtain⟨v1,v2,d1,d2,hrun,rfl,h1,h2⟩:=entry_run (P:=P) hst hrp he
  have hexec:(execOp a.eval o).run P w=.ok (.value (.tuple #[v1,v2])) w:=by
   unfold execOp
   simp only[ho,Sem.run_bind,hrun,Result.andThen_ok,Sem.run_pure]
  refine .inl ⟨rfl,opOk_value hexec (h.put hd ?_)⟩
  refine .tup rfl fun i v c hv' hc=>?_
  match i with
  | 0=>
   simp at hv' hc
   subst hv' hc
   exact .e (d:=d1) (by simp[E.eval,hix,D.tget]) h1 (by simp)
  | 1=>
   simp at hv' hc
   subst hv' hc
   exact .e (d:=d2) (by simp[E.eval,hix,D.tget]) h2 (by simp)
  | i+2=>simp at hc
 ·rename_i c ho
  split at hl
  ·rename_i hcal
   split at hl
   ·rename_i x t hargs hts
    split at hl
    ·split at hl
     ·rename_i ty m' hty hm'
      cases hl
      obtain⟨kt,e,kd⟩:=ty
      obtain⟨hu,_⟩:=mapTy_spec hty
      obtain⟨dm,hdm,hrm⟩:=SV.toE_rd hm' (hv x)
      obtain⟨d,he,hix⟩:=hb
      simp only[E.eval,hbe,hdm,Option.bind_some,D.m4,Option.map_eq_some_iff] at he
      obtain⟨kvs,hkvs,rfl⟩:=he
      have ho':o.op=.call { callee:=.builtin .len,args:=#[x],argTypes:=#[t] }:=by
       rw[ho]
       obtain⟨c1,c2,c3⟩:=c
       simp only at hcal hargs hts
       subst hcal
       congr 2
       ·exact Array.toList_inj.1 (by simpa using hargs)
       ·exact Array.toList_inj.1 (by simpa using hts)
      have hexec:(execOp a.eval o).run P w=.ok (.value (.int .i64 kvs.length)) w:=by
       refine exec_len ho' ?_
       rcases entries_rd hst hrm hkvs with⟨e1,rfl⟩ | ⟨i,es,clock,rfl,hbs,e1,hh,hes,hms⟩
       ·rw[e1]
        simp only[Builtin.len_,List.getElem?_toArray,List.getElem?_cons_zero,Sem.run_bind,run_underlying hu,Result.andThen_ok,Sem.run_pure]
        rfl
       ·rw[e1]
        simp only[Builtin.len_,List.getElem?_toArray,List.getElem?_cons_zero,Sem.run_bind,run_underlying hu,Result.andThen_ok,Go.MapKept.run_getObj_map hh,Sem.run_pure,hms.len]
        rfl
      exact .inl ⟨rfl,opOk_value hexec (h.put hd (.e hix (.v rfl) fun _=>rfl))⟩
     ·cases hl
    ·cases hl
   ·cases hl
  ·cases hl
 ·cases hl

end
end
end Go.Am

/-
 Operations that make or change objects by name;one step with all that it does.
-/
namespace Go.Am
noncomputable section

structure Eff where
 val:SV
 upd:Option (Nat×SObj)
 del:Option Nat
 bind:Option Bind
 deriving Inhabited

def LRes.eff (r:LRes):Eff:=⟨r.val,r.upd,none,r.bind⟩

def SState.dels (σ:SState):Option Nat→SState
 | none=>σ
 | some k=>σ.setObj k none

def SState.sets (σ:SState):Option (Nat×SObj)→SState
 | none=>σ
 | some u=>σ.setObj u.1 (some u.2)

def SState.app (σ:SState)(dst:Option Tmp)(e:Eff):SState:=((σ.dels e.del).sets e.upd).put dst e.val

def isNilSlice:Operand→Bool
 | .const (.slice none 0 0)=>true
 | _=>false

def isNew (o:Oper):Bool:=
 match o.op with
 | .alloc _ | .box _ _ | .buildSlice _ _ _ | .makeSlice _ _ _=>true
 | .assign x=>isNilSlice x
 | .call c=>(match c.callee with | .builtin .append=>true | _=>false)
 | _=>false

def selfOk (o:Oper)(σ:SState)(e:Eff):Bool:=
 !isNew o||match e.upd with | some u=>decide (u.1=HID)||(o.op.operands.all fun x=>(σ.opv [] x).avoids u.1) | none=>true

def notH (e:Eff):Bool:=match e.upd with | some u=>decide (u.1≠HID) | none=>true

theorem notH_spec {e:Eff}(h:notH e=true){u:Nat×SObj}(hu:e.upd=some u):u.1≠HID:=by
 unfold notH at h
 rw[hu] at h
 simpa using h

def freshFor' (σ:SState)(o:Oper)(e:Eff):Prop:=isNew o=true→∀u,e.upd=some u→u.1≠HID→σ.obj u.1=none∧σ.avoids u.1∧∀x,x∈o.op.operands→(σ.opv [] x).avoids u.1=true

theorem selfOk_spec {o:Oper}{σ:SState}{e:Eff}(h:selfOk o σ e=true)(hn:isNew o=true){u:Nat×SObj}(hu:e.upd=some u)(hne:u.1≠HID):∀x,x∈o.op.operands→(σ.opv [] x).avoids u.1=true:=by
 simp only[selfOk,hn,hu,Bool.not_true,Bool.false_or,Bool.or_eq_true,decide_eq_true_eq] at h
 exact fun x hx=>Array.all_eq_true'.1 (h.resolve_left hne) x hx

def lnilTok (P:Program)(t:TypeId)(dst:Option Tmp):Option Eff:=
 match dst,P.underlying t with
 | some d,some (.slice e)=>(szT P e).map fun n=>⟨.own (.const (.lst [])) d,some (d,.tok e n),none,none⟩
 | _,_=>none

def lappend (P:Program)(t:TypeId)(s x:SV)(dst:Option Tmp)(obj:Nat→Option SObj)(ix:Nat):Option Eff:=
 match dst,P.underlying t,s with
 | some d,some (.slice e),.own y k=>match obj k,P.info? e,x.toE with
  | some (.tok e' size),some i,some x'=>match i.zero with
   | some z=>if e=e'∧i.size=size∧z.cells.size=size∧0<size then some ⟨.own (.sym ix) d,some (d,.tok e size),some k,some (.ev (.app size i.bytes y x'))⟩ else none
   | none=>none
  | _,_,_=>none
 | _,_,_=>none

def lappendN (P:Program)(t:TypeId)(x:SV)(dst:Option Tmp)(ix:Nat):Option Eff:=
 match dst,P.underlying t with
 | some d,some (.slice e)=>match P.info? e,x.toE with
  | some i,some x'=>match i.zero with
   | some z=>if z.cells.size=i.size∧0<i.size then some ⟨.own (.sym ix) d,some (d,.tok e i.size),none,some (.ev (.app i.size i.bytes (.const (.lst [])) x'))⟩ else none
   | none=>none
  | _,_=>none
 | _,_=>none

def nilsOf (obj:Nat→Option SObj):Bool:=match cfOf obj with | some cf=>cf.nils | none=>false

def lnew (nz:Bool)(P:Program)(o:Oper)(opv:Operand→SV)(obj:Nat→Option SObj)(ix:Nat):Option Eff:=
 match o.op with
 | .assign x=>if isNilSlice x then lnilTok P o.type o.dst else none
 | .makeSlice t n c=>(lmake nz P t (opv n) (opv c) o.dst ix).map LRes.eff
 | .buildSlice t len parts=>(llit P t len parts.toList opv o.dst ix).map LRes.eff
 | .call c=>match c.callee with
  | .builtin .append=>match c.args.toList,c.argTypes.toList with
   | [s,x],[t,t']=>if t=t' then(if isNilSlice s=true then lappendN P t (opv x) o.dst ix else lappend P t (opv s) (opv x) o.dst obj ix) else none
   | _,_=>none
  | _=>none
 | _=>none

def lpure2 (P:Program)(nz:Bool)(o:Oper)(opv:Operand→SV)(ix:Nat):Option LRes:=
 match o.op with
 | .build t parts=>lbuild nz P t parts.toList opv ix
 | _=>lpure P o opv ix

def estep (P:Program)(o:Oper)(opv:List (E×Bool)→Operand→SV)(act:List (E×Bool))(obj:Nat→Option SObj)(ix:Nat):Option Eff:=
 match ldat P o (opv act) act obj ix with
 | some r=>some r.eff
 | none=>match lpub P o (opv []) obj ix with
  | some r=>some r.eff
  | none=>match lmap P o (opv act) obj ix with
  | some r=>some r.eff
  | none=>match lnew (nilsOf obj) P o (opv []) obj ix with
   | some e=>if notH e then some e else none
   | none=>match lpure2 P (nilsOf obj) o (opv act) ix with
    | some r=>some r.eff
    | none=>(lstep P o opv act obj ix).bind fun r=>if !isNew o||notH r.eff then some r.eff else none

section
variable {P:Program} {w w0:World} {X:Ent} {a:Act} {σ:SState} {env:List D} {ρ:Rho}

theorem del_obj {k o:Nat}{y:SObj}(hy:(σ.setObj k none).obj o=some y):o≠k∧σ.obj o=some y:=by
 rcases SState.obj_setObj_some hy with⟨_,h⟩ | h
 ·cases h
 ·exact h

theorem Rep.delObj (h:Rep w0 X w a σ env ρ)(k:Nat):Rep w0 X w a (σ.setObj k none) env ρ:=
 ⟨by rw[SState.tmps_setObj];exact h.size,fun t=>by rw[SState.tmp_setObj];exact h.tmps t,fun o y hy=>h.objs o y (del_obj hy).2,fun o o' y y' b h1 h2=>h.inj o o' y y' b (del_obj h1).2 (del_obj h2).2,fun o y b h1=>h.own o y b (del_obj h1).2,h.cells,h.os,h.tape,h.output,h.grown,h.old,h.sub,h.new,h.nod,h.hold⟩

theorem avoids_delObj {k d:Nat}(h:σ.avoids d):(σ.setObj k none).avoids d:=
 ⟨fun t=>by rw[SState.tmp_setObj];exact h.1 t,fun o y hy=>h.2 o y (del_obj hy).2⟩

theorem lnilTok_sound {o:Oper} {x:Operand} {e:Eff} (ho:o.op=.assign x) (hx:isNilSlice x=true) (hl:lnilTok P o.type o.dst=some e) (h:Rep w0 X w a σ env ρ) (hd:∀d,o.dst=some d→d<σ.tmps.length) (hm:σ.mem.length=σ.tmps.length)
  (hf:∀u,e.upd=some u→σ.obj u.1=none∧σ.avoids u.1):OpOk P o a w w0 X (σ.app o.dst e) env:=by
 unfold lnilTok at hl
 split at hl
 ·rename_i d el hdst hu
  obtain⟨n,hn,rfl⟩:=Option.map_eq_some_iff.1 hl
  obtain⟨hfree,hav⟩:=hf _ rfl
  have hdl:=hd d hdst
  have hxe:a.eval x=.slice none 0 0:=by
   unfold isNilSlice at hx
   split at hx
   ·rfl
   ·cases hx
  have hrep:=h.addTok (w':=w) (k:=d) (by rw[hm];exact hdl) hfree hav (World.ownsRow_nil w 0 el n) (Keeps.refl _ _) (fun _ _ _ _ _=>⟨rfl,by simp[Value.ownBlock]⟩) (fun _ hb=>by simp[Value.ownBlock] at hb) (fun _ hb=>by simp[Value.ownBlock] at hb) rfl ⟨rfl,Nat.le_refl _⟩ rfl (Nat.le_refl _) fun _ _ _=>rfl
  refine opOk_value (v:=.slice none 0 0) (by unfold execOp;simp[ho,hxe]) (hrep.put (by rw[hdst];intro d' e;cases e;rw[SState.tmps_setObj];exact hdl) ?_)
  exact .own (es:=[]) rfl .nil (by simp[Rho.withTok])
 ·cases hl


theorem own_block (h:Rep w0 X w a σ env ρ){k:Nat}{e:TypeId}{size:Nat}(hk:σ.obj k=some (.tok e size)){b:Nat}(hb:(ρ.val k).ownBlock=some b):(w0.heap.size≤b∨X.may b)∧b<w.heap.size:=by
 have:=h.own k _ b hk hb
 exact⟨this.1.resolve_left (by simp[SObj.ro]),this.2⟩

theorem lappend_sound {o:Oper} {t:TypeId} {s x:Operand} {ss sx:SV} {ix:Nat} {e:Eff} (ho:o.op=.call { callee:=.builtin .append,args:=#[s,x],argTypes:=#[t,t] }) (hl:lappend P t ss sx o.dst σ.obj ix=some e) (hs:SRd w ρ env (a.eval s) ss) (hx:SRd w ρ env (a.eval x) sx)
  (h:Rep w0 X w a σ env ρ) (hd:∀d,o.dst=some d→d<σ.tmps.length) (hm:σ.mem.length=σ.tmps.length) (hb:BindOk P env ix e.bind) (hf:∀u,e.upd=some u→σ.obj u.1=none∧σ.avoids u.1):OpOk P o a w w0 X (σ.app o.dst e) env:=by
 unfold lappend at hl
 split at hl
 ·rename_i d el y k hdst hu
  split at hl
  ·rename_i e' size i x' hk hi hx'
   split at hl
   ·rename_i z hz
    split at hl
    ·rename_i hc
     obtain⟨rfl,hsize,hzs,hsz⟩:=hc
     cases hl
     obtain⟨hfree,hav⟩:=hf _ rfl
     have hdl:=hd d hdst
     obtain⟨es,hes,hrd,hval⟩:=hs.own_inv
     obtain⟨dx,hdx,hrx⟩:=SV.toE_rd hx' hx
     obtain⟨dz,hev,hix⟩:=hb
     simp only[E.eval,hes,hdx,Option.bind_some] at hev
     unfold D.app at hev
     split at hev
     ·rename_i xs0 ys heq
      cases heq
      split at hev
      ·rename_i hcond
       cases hev
       obtain⟨hby,hml,hz1,hz2⟩:=hcond
       obtain⟨n,xs,hown,hfreeS⟩:=h.objs k _ hk
       rw[←hval] at hown hfreeS
       obtain⟨hn,hrow⟩:=own_row hown hrd hz1
       have hkd:d≠k:=fun e=>by rw[e,hk] at hfree;cases hfree
       have hdel:=h.delObj k
       have hfree1:(σ.setObj k none).obj d=none:=by
        rw[SState.obj_setObj_ne σ none hkd];exact hfree
       have hother:∀o' y' b,(σ.setObj k none).obj o'=some y'→objBlk ρ o' y' b→b<w.heap.size∧(a.eval s).ownBlock≠some b:=by
        intro o' y' b h1 h2
        have h1':=del_obj h1
        refine⟨(h.own o' y' b h1'.2 h2).2,fun hg=>h1'.1 ?_⟩
        rw[hval] at hg
        exact h.inj o' k y' _ b h1'.2 hk h2 hg
       have fin:∀(v':Value) (w':World) (m:Nat) (news:List Value),(Builtin.append_ #[t,t] o.type #[a.eval s,a.eval x]).run P w=.ok v' w'→ys.length=m→RowRd w ρ.S size news ys→w'.ownsRow 0 el size v' (n+m) (xs++news) →
         ((v'.ownBlock=(a.eval s).ownBlock∧GBy w w' (a.eval s).ownBlock)∨(v'.ownBlock=some w.heap.size∧GBy w w' none))→OpOk P o a w w0 X (σ.app o.dst ⟨.own (.sym ix) d,some (d,.tok el size),some k,some (.ev (.app size i.bytes y x'))⟩) env:=by
        intro v' w' m news hrun hym hnr hown' hcase
        have hmeta:w'.os=w.os∧TL w' w∧w'.output=w.output∧w.heap.size≤w'.heap.size:=by
         rcases hcase with⟨_,hg⟩ | ⟨_,hg⟩ <;> exact⟨hg.os,hg.tape,hg.output,hg.size⟩
        have hblocks:∀b,b<w.heap.size→(a.eval s).ownBlock≠some b→w'.heap[b]? = w.heap[b]?:=by
         intro b hb hne
         rcases hcase with⟨_,hg⟩ | ⟨_,hg⟩
         ·exact hg.block b hb fun e=>hne e.symm
         ·exact hg.block b hb (by simp)
        have hK:Keeps ρ.S w w':=by
         intro b i' hS
         by_cases hg:(a.eval s).ownBlock=some b
         ·rcases hcase with⟨hv',_⟩ | ⟨_,hgr⟩
          ·have hlt:i'<n*size:=Nat.lt_of_not_le fun hle=>hfreeS b hg i' hle hS
           have hix':i'<xs.length:=by rw[hown.1];exact hlt
           have h1:=hown.cells hg i' _ (List.getElem?_eq_getElem hix')
           have h2:=hown'.cells (hv'.trans hg) i' xs[i'] (by rw[List.getElem?_append_left hix'];exact List.getElem?_eq_getElem hix')
           rw[addr_add] at h1 h2
           rw[Nat.zero_add] at h1 h2
           rw[h1,h2]
          ·exact World.cell?_of_block (a:=⟨b,i',none⟩) (hgr.block b (h.cells b i' hS) (by simp))
         ·exact World.cell?_of_block (a:=⟨b,i',none⟩) (hblocks b (h.cells b i' hS) hg)
        have hrep:=hdel.addTok (w':=w') (k:=d) (e:=el) (size:=size) (v:=v') (n:=n+m) (xs:=xs++news) (by rw[SState.mlen_setObj,hm];exact hdl) hfree1 (avoids_delObj hav) hown' hK ?_ ?_ ?_ hmeta.1 hmeta.2.1 hmeta.2.2.1 hmeta.2.2.2 ?_
        ·have hval':(ρ.withTok d v' ((n+m)*size)).val d=v':=by simp[Rho.withTok]
         refine opOk_value (v:=v') ?_ (hrep.put (by rw[hdst];intro d' e;cases e;rw[SState.tmps_setObj,SState.tmps_setObj];exact hdl) ?_)
         ·unfold execOp
          simp only[ho,resolve,invoke,builtin,Sem.run_bind,Sem.run_pure,Result.andThen_ok,List.map_toArray,List.map_cons,List.map_nil,hrun]
         ·refine .own (es:=es++ys) (by simp only[E.eval];exact hix) (own_rd hown' (by simp[hn,hym]) ((hrow.append hnr).keep hK (ρ.S.le_or _)) fun b hb i' hi'=>.inr ⟨hb,hi'⟩) hval'.symm
        ·intro o' y' b h1 h2
         obtain⟨h3,h4⟩:=hother o' y' b h1 h2
         refine⟨hblocks b h3 h4,?_⟩
         rcases hcase with⟨hv',_⟩ | ⟨hv',_⟩
         ·rw[hv'];exact h4
         ·rw[hv'];simp;omega
        ·intro b hb
         rcases hcase with⟨hv',_⟩ | ⟨hv',_⟩
         ·rw[hv',hval] at hb;exact(own_block h hk hb).1
         ·rw[hv'] at hb;cases hb;exact .inl h.grown
        ·intro b hb off hoff hS
         rcases hcase with⟨hv',_⟩ | ⟨hv',_⟩
         ·rw[hv'] at hb
          refine hfreeS b hb off (Nat.le_trans (Nat.mul_le_mul_right _ (Nat.le_add_right n m)) hoff) hS
         ·rw[hv'] at hb;cases hb
          have:=h.cells _ off hS
          omega
        ·intro b hb hnm
         refine hblocks b (Nat.lt_of_lt_of_le hb h.grown) fun hg=>?_
         rw[hval] at hg
         rcases(own_block h hk hg).1 with h1 | h1
         ·omega
         ·exact hnm h1
       rcases news_of hrx hz2 with⟨hvx,rfl⟩ | ⟨ad,m,c,news,hvx,hym,hnl,hcells,hone,hnrow⟩
       ·refine fin (a.eval s) w 0 [] ?_ rfl ⟨by simp,by simp,by simp⟩ (by simpa using hown) (.inl ⟨rfl,⟨rfl,.refl _,rfl,Nat.le_refl _,fun _ _ _=>rfl⟩⟩)
        rw[hvx]
        rcases hown.2 with⟨hv,hn0⟩ | ⟨g,cap,cur,hv,_,_,hnc,_⟩
        ·rw[hv];exact run_append_none w t o.type el i hu hi none 0 0 (Nat.le_refl _)
        ·rw[hv];exact run_append_none w t o.type el i hu hi _ n cap hnc
       ·obtain⟨v',w',hrun,hown',hcase⟩:=run_append_cases (P:=P) w t o.type el i z size i.bytes hu hi hz hsize rfl hzs hsz (a.eval s) n xs hown ad m c news hnl hcells hone (by rw[←hn,←hym];exact hml) (by rw[←hn,←hym];exact hby)
        rw[←hvx] at hrun
        exact fin v' w' m news hrun hym hnrow hown' hcase
      ·cases hev
     ·cases hev
    ·cases hl
   ·cases hl
  ·cases hl
 ·cases hl

theorem lappendN_sound {o:Oper} {t:TypeId} {s x:Operand} {sx:SV} {ix:Nat} {e:Eff} (ho:o.op=.call { callee:=.builtin .append,args:=#[s,x],argTypes:=#[t,t] }) (hn:isNilSlice s=true) (hl:lappendN P t sx o.dst ix=some e) (hx:SRd w ρ env (a.eval x) sx)
  (h:Rep w0 X w a σ env ρ) (hd:∀d,o.dst=some d→d<σ.tmps.length) (hm:σ.mem.length=σ.tmps.length) (hb:BindOk P env ix e.bind) (hf:∀u,e.upd=some u→σ.obj u.1=none∧σ.avoids u.1):OpOk P o a w w0 X (σ.app o.dst e) env:=by
 have hse:a.eval s=.slice none 0 0:=by
  unfold isNilSlice at hn
  split at hn
  ·rfl
  ·cases hn
 unfold lappendN at hl
 split at hl
 ·rename_i d el hdst hu
  split at hl
  ·rename_i i x' hi hx'
   split at hl
   ·rename_i z hz
    split at hl
    ·rename_i hc
     obtain⟨hzs,hsz⟩:=hc
     cases hl
     obtain⟨hfree,hav⟩:=hf _ rfl
     have hdl:=hd d hdst
     obtain⟨dx,hdx,hrx⟩:=SV.toE_rd hx' hx
     obtain⟨dz,hev,hix⟩:=hb
     simp only[E.eval,hdx,Option.bind_some] at hev
     unfold D.app at hev
     split at hev
     ·rename_i xs0 ys heq
      cases heq
      split at hev
      ·rename_i hcond
       cases hev
       obtain⟨hby,hml,_,hz2⟩:=hcond
       have hown:=World.ownsRow_nil w 0 el i.size
       have hob:(Value.slice none 0 0).ownBlock=none:=rfl
       have fin:∀(v':Value) (w':World) (m:Nat) (news:List Value),(Builtin.append_ #[t,t] o.type #[a.eval s,a.eval x]).run P w=.ok v' w'→ys.length=m→RowRd w ρ.S i.size news ys→w'.ownsRow 0 el i.size v' (0+m) ([]++news) →
         ((v'.ownBlock=none∧GBy w w' none)∨(v'.ownBlock=some w.heap.size∧GBy w w' none))→OpOk P o a w w0 X (σ.app o.dst ⟨.own (.sym ix) d,some (d,.tok el i.size),none,some (.ev (.app i.size i.bytes (.const (.lst [])) x'))⟩) env:=by
        intro v' w' m news hrun hym hnr hown' hcase
        have hmeta:w'.os=w.os∧TL w' w∧w'.output=w.output∧w.heap.size≤w'.heap.size:=by
         rcases hcase with⟨_,hg⟩ | ⟨_,hg⟩ <;> exact⟨hg.os,hg.tape,hg.output,hg.size⟩
        have hblocks:∀b,b<w.heap.size→w'.heap[b]? = w.heap[b]?:=by
         intro b hb
         rcases hcase with⟨_,hg⟩ | ⟨_,hg⟩ <;> exact hg.block b hb (by simp)
        have hK:Keeps ρ.S w w':=fun b i' hS=>World.cell?_of_block (a:=⟨b,i',none⟩) (hblocks b (h.cells b i' hS))
        have hrep:=h.addTok (w':=w') (k:=d) (e:=el) (size:=i.size) (v:=v') (n:=0+m) (xs:=[]++news) (by rw[hm];exact hdl) hfree hav hown' hK ?_ ?_ ?_ hmeta.1 hmeta.2.1 hmeta.2.2.1 hmeta.2.2.2 ?_
        ·have hval':(ρ.withTok d v' ((0+m)*i.size)).val d=v':=by simp[Rho.withTok]
         refine opOk_value (v:=v') ?_ (hrep.put (by rw[hdst];intro d' e;cases e;rw[SState.tmps_setObj];exact hdl) ?_)
         ·unfold execOp
          simp only[ho,resolve,invoke,builtin,Sem.run_bind,Sem.run_pure,Result.andThen_ok,List.map_toArray,List.map_cons,List.map_nil,hrun]
         ·refine .own (es:=[]++ys) (by simp only[E.eval];exact hix) (own_rd hown' (by simp[hym]) (RowRd.keep (by simpa using hnr) hK (ρ.S.le_or _)) fun b hb i' hi'=>.inr ⟨hb,hi'⟩) hval'.symm
        ·intro o' y' b h1 h2
         have h3:=(h.own o' y' b h1 h2).2
         refine⟨hblocks b h3,?_⟩
         rcases hcase with⟨hv',_⟩ | ⟨hv',_⟩
         ·rw[hv'];simp
         ·rw[hv'];simp;omega
        ·intro b hb
         rcases hcase with⟨hv',_⟩ | ⟨hv',_⟩
         ·rw[hv'] at hb;cases hb
         ·rw[hv'] at hb;cases hb;exact .inl h.grown
        ·intro b hb off hoff hS
         rcases hcase with⟨hv',_⟩ | ⟨hv',_⟩
         ·rw[hv'] at hb;cases hb
         ·rw[hv'] at hb;cases hb
          have:=h.cells _ off hS
          omega
        ·intro b hb hnm
         exact hblocks b (Nat.lt_of_lt_of_le hb h.grown)
       rcases news_of hrx hz2 with⟨hvx,rfl⟩ | ⟨ad,m,c,news,hvx,hym,hnl,hcells,hone,hnrow⟩
       ·refine fin (.slice none 0 0) w 0 [] ?_ rfl ⟨by simp,by simp,by simp⟩ (by simpa using hown) (.inl ⟨rfl,⟨rfl,.refl _,rfl,Nat.le_refl _,fun _ _ _=>rfl⟩⟩)
        rw[hvx,hse]
        exact run_append_none w t o.type el i hu hi none 0 0 (Nat.le_refl _)
       ·obtain⟨v',w',hrun,hown',hcase⟩:=run_append_cases (P:=P) w t o.type el i z i.size i.bytes hu hi hz rfl rfl hzs hsz (.slice none 0 0) 0 [] hown ad m c news hnl hcells hone (by rw[←hym];simpa using hml) (by rw[←hym];simpa using hby)
        rw[←hvx,←hse] at hrun
        exact fin v' w' m news hrun hym hnrow hown' (by rw[hob] at hcase;exact hcase)
      ·cases hev
     ·cases hev
    ·cases hl
   ·cases hl
  ·cases hl
 ·cases hl

theorem lpure2_sound {nz:Bool}{o:Oper}{opv:Operand→SV}{ix:Nat}{r:LRes}(hv:∀x,SRd w ρ env (a.eval x) (opv x))(hl:lpure2 P nz o opv ix=some r)(h:Rep w0 X w a σ env ρ)(hd:∀d,o.dst=some d→d<σ.tmps.length)(hb:BindOk P env ix r.bind) :
  r.upd=none∧OpOk P o a w w0 X (σ.put o.dst r.val) env:=by
 unfold lpure2 at hl
 split at hl
 ·rename_i ho
  exact lbuild_sound ho hv hl h hd hb
 ·exact lpure_sound hv hl h hd hb

theorem estep_sound {o:Oper} {act:List (E×Bool)} {ix:Nat} {e:Eff} (h:Rep w0 X w a σ env ρ) (ha:actHolds env act) (hl:estep P o σ.opv act σ.obj ix=some e) (hd:∀d,o.dst=some d→d<σ.tmps.length) (hm:σ.mem.length=σ.tmps.length)
  (hb:BindOk P env ix e.bind) (hf:freshFor' σ o e) (hact:isNew o=true→¬(e.upd=none∧e.del=none)→act=[]):OpOk P o a w w0 X (σ.app o.dst e) env:=by
 have hv:=fun x=>opv_rd (a:=a) h actHolds_nil x
 unfold estep at hl
 split at hl
 ·rename_i r hr
  cases hl
  obtain⟨hu,hok⟩:=ldat_sound (fun x=>opv_rd (a:=a) h ha x) hr h hd hb
  have:σ.app o.dst r.eff=σ.put o.dst r.val:=by simp[SState.app,LRes.eff,SState.dels,SState.sets,hu]
  rw[this];exact hok
 split at hl
 ·rename_i r hr
  cases hl
  rcases lpub_sound hv hr h hd hb with⟨hu,hok⟩ | ⟨z,hu,hok⟩
  ·have:σ.app o.dst r.eff=σ.put o.dst r.val:=by simp[SState.app,LRes.eff,SState.dels,SState.sets,hu]
   rw[this];exact hok
  ·have:σ.app o.dst r.eff=(σ.setObj HID (some z)).put o.dst r.val:=by simp[SState.app,LRes.eff,SState.dels,SState.sets,hu]
   rw[this];exact hok
 split at hl
 ·rename_i r hr
  cases hl
  rcases lmap_sound (fun x=>opv_rd (a:=a) h ha x) hr h hd hb with⟨hu,hok⟩ | ⟨z,hu,hok⟩
  ·have:σ.app o.dst r.eff=σ.put o.dst r.val:=by simp[SState.app,LRes.eff,SState.dels,SState.sets,hu]
   rw[this];exact hok
  ·have:σ.app o.dst r.eff=(σ.setObj HID (some z)).put o.dst r.val:=by simp[SState.app,LRes.eff,SState.dels,SState.sets,hu]
   rw[this];exact hok
 split at hl
 ·rename_i e' hn
  split at hl
  case isFalse=>cases hl
  rename_i hnH
  cases hl
  have hf:isNew o=true→∀u,e.upd=some u→σ.obj u.1=none∧σ.avoids u.1∧∀x,x∈o.op.operands→(σ.opv [] x).avoids u.1=true:=fun hn u hu=>hf hn u hu (notH_spec hnH hu)
  unfold lnew at hn
  split at hn
  ·rename_i x ho
   split at hn
   ·rename_i hx
    exact lnilTok_sound ho hx hn h hd hm fun u hu=>by
     have:=hf (by simp[isNew,ho,hx]) u hu
     exact⟨this.1,this.2.1⟩
   ·cases hn
  ·rename_i t n c ho
   obtain⟨r,hr,rfl⟩:=Option.map_eq_some_iff.1 hn
   obtain⟨ob,x,hu,hok⟩:=lmake_sound ho hr (hv n) (hv c) h hd hm hb fun u hu=>by
    have:=hf (by simp[isNew,ho]) u hu
    exact⟨this.1,this.2.1⟩
   have:σ.app o.dst r.eff=(σ.setObj ob (some x)).put o.dst r.val:=by simp[SState.app,LRes.eff,SState.dels,SState.sets,hu]
   rw[this];exact hok
  ·rename_i t len parts ho
   obtain⟨r,hr,rfl⟩:=Option.map_eq_some_iff.1 hn
   obtain⟨ob,x,hu,hok⟩:=llit_sound ho hv hr h hd hm hb fun u hu=>by
    have:=hf (by simp[isNew,ho]) u hu
    exact⟨this.1,this.2.1⟩
   have:σ.app o.dst r.eff=(σ.setObj ob (some x)).put o.dst r.val:=by simp[SState.app,LRes.eff,SState.dels,SState.sets,hu]
   rw[this];exact hok
  ·rename_i c ho
   obtain⟨callee,args,ts⟩:=c
   simp only at hn
   split at hn
   ·split at hn
    ·rename_i s x t t' hargs hts
     split at hn
     ·rename_i htt
      subst htt
      have e1:args=#[s,x]:=by rw[←Array.toArray_toList (xs:=args),hargs]
      have e2:ts=#[t,t]:=by rw[←Array.toArray_toList (xs:=ts),hts]
      subst e1 e2
      split at hn
      ·rename_i hnil
       exact lappendN_sound ho hnil hn (hv x) h hd hm hb fun u hu=>by
        have:=hf (by simp[isNew,ho]) u hu
        exact⟨this.1,this.2.1⟩
      ·exact lappend_sound ho hn (hv s) (hv x) h hd hm hb fun u hu=>by
        have:=hf (by simp[isNew,ho]) u hu
        exact⟨this.1,this.2.1⟩
     ·cases hn
    ·cases hn
   ·cases hn
  ·cases hn
 split at hl
 ·rename_i r hr
  cases hl
  obtain⟨hu,hok⟩:=lpure2_sound (fun x=>opv_rd (a:=a) h ha x) hr h hd hb
  have:σ.app o.dst r.eff=σ.put o.dst r.val:=by simp[SState.app,LRes.eff,SState.dels,SState.sets,hu]
  rw[this];exact hok
 ·obtain⟨r,hr,hl⟩:=Option.bind_eq_some_iff.1 hl
  split at hl
  case isFalse=>cases hl
  rename_i hnH
  cases hl
  have hf:isNew o=true→∀u,r.upd=some u→σ.obj u.1=none∧σ.avoids u.1∧∀x,x∈o.op.operands→(σ.opv [] x).avoids u.1=true:=fun hn u hu=>hf hn u hu (notH_spec (by simpa[hn] using hnH) hu)
  have hfo:freshOk σ o r.upd:=by
   intro ob x hu
   split
   ·rename_i t ho
    have:=hf (by simp[isNew,ho]) (ob,x) hu
    exact⟨this.1,this.2.1⟩
   ·rename_i t y ho
    have:=hf (by simp[isNew,ho]) (ob,x) hu
    exact⟨this.1,this.2.1,this.2.2 y (by rw[ho];simp[Op.operands])⟩
   ·trivial
  rcases lstep_sound h ha hr hd hm hb hfo (fun⟨t,x,ho⟩ hu=>hact (by simp[isNew,ho]) fun hh=>hu hh.1) with⟨hu,hok⟩ | ⟨ob,x,hu,hok⟩
  ·have:σ.app o.dst r.eff=σ.put o.dst r.val:=by simp[SState.app,LRes.eff,SState.dels,SState.sets,hu]
   rw[this];exact hok
  ·have:σ.app o.dst r.eff=(σ.setObj ob (some x)).put o.dst r.val:=by simp[SState.app,LRes.eff,SState.dels,SState.sets,hu]
   rw[this];exact hok

end
end
end Go.Am

/-
 A row that is not written any more becomes data.
-/
namespace Go.Am
noncomputable section

def SV.frz (k:Nat)(x:E)(sv:SV):SV:=
 match sv with
 | .slc o=>if o=k then .e x true else .slc o
 | sv=>sv

def SV.frzB (k:Nat)(x:E)(sv:SV):SV:=
 match sv with
 | .addr o 0=>if o=k then .e x true else .addr o 0
 | sv=>sv

def SState.frz (k:Nat)(σ:SState):SState:=
 match σ.obj k with
 | some (.row x _)=>{ (σ.setObj k none) with tmps:=σ.tmps.map (SV.frz k x) }
 | some (.box cs)=>(match SV.toEs cs with
  | some y=>{ (σ.setObj k none) with tmps:=σ.tmps.map (SV.frzB k (.mkptr y)) }
  | none=>σ)
 | _=>σ

def SObj.mapSV (f:SV→SV):SObj→SObj
 | .box cs=>.box (cs.map f)
 | x=>x

def SV.pubR (k:Nat)(y:E)(sv:SV):SV:=
 match sv with
 | .slc o=>if o=k then .e y true else .slc o
 | sv=>sv

def SV.pubB (k:Nat)(y:E)(sv:SV):SV:=
 match sv with
 | .addr o 0=>if o=k then .e y true else .addr o 0
 | sv=>sv

def SState.pubS (σ:SState)(k:Nat)(f:SV→SV)(y:SObj):SState:={ tmps:=σ.tmps.map f,mem:=(σ.mem.map (Option.map (SObj.mapSV f))).set k none,hs:=some y }

def SState.pubz (k:Nat)(σ:SState):SState:=
 match σ.obj HID with
 | some (.store cf h)=>if cf.ro=true then σ else(match σ.obj k with
  | some (.row x sz)=>if 0<sz then σ.pubS k (SV.pubR k (.fstsl h x)) (.store cf (.newv anyT sz h x)) else σ
  | some (.box cs)=>(match SV.toEs cs with
   | some y=>σ.pubS k (SV.pubB k (.fstid h)) (.store cf (.newb anyT cs.length h y))
   | none=>σ)
  | _=>σ)
 | _=>σ

def frzOne (k:Nat)(σ:SState):SState:=if 1000000<k then σ.pubz (k-1000000) else σ.frz k

def frzAll:List Nat→SState→SState
 | [],σ=>σ
 | k :: ks,σ=>frzAll ks (frzOne k σ)

def frzAt (id:Nat)(σ:SState):SState:=
 match σ.obj HID with
 | some (.store cf _)=>frzAll ((cf.frzs.filter fun p=>p.1==id).map (·.2)) σ
 | _=>σ

section
variable {w w0:World} {X:Ent} {a:Act} {σ:SState} {env:List D} {ρ:Rho}

theorem row_rdS {o:Nat}{x:E}{sz:Nat}(h:ObjOk w ρ env o (.row x sz)):∃d,x.eval env=some d∧RdD w (ρ.S.or fun b _=>b=ρ.blk o) (ρ.val o) d∧d.one=true:=by
 obtain⟨vs,ty,es,hh,hx,hz,hsz,hr,hval,hm,_⟩:=h
 refine⟨_,hx,?_,rfl⟩
 rw[hval]
 have hget:∀(i:Nat) (e:D) (j:Nat) (d:D),es[i]? = some e→e.cells[j]? = some d→∃v,vs[i*sz+j]? = some v∧RdD w ρ.S v d∧d.one=true:=by
  intro i e j d he hd
  obtain⟨h1,v,h2,h3⟩:=hr i e j d he hd
  exact⟨v,h2,h3,h1⟩
 refine .lst (size:=sz) (val:=fun i j=>vs.getD (i*sz+j) undef) rfl (Nat.le_refl _) hm hz (fun i e j d he hd=>(hget i e j d he hd).choose_spec.2.2) (fun i e j d he hd=>.inr rfl) (fun i e j d he hd=>?_) fun i e j d he hd=>?_
 ·obtain⟨v,h2,_⟩:=hget i e j d he hd
  rw[cell_heap hh,Nat.zero_add,h2,Array.getD_eq_getD_getElem?,h2]
  rfl
 ·obtain⟨v,h2,h3,_⟩:=hget i e j d he hd
  rw[Array.getD_eq_getD_getElem?,h2]
  exact h3.keep (Keeps.refl _ _) (ρ.S.le_or _)

theorem Rep.frzG (h:Rep w0 X w a σ env ρ){k:Nat}{z:SObj}(hk:σ.obj k=some z)(hz:objBlk ρ k z (ρ.blk k))(hro:z.ro=false){f:SV→SV}(hf:∀v sv,SRd w { ρ with S:=ρ.S.or fun b _=>b=ρ.blk k } env v sv→SRd w { ρ with S:=ρ.S.or fun b _=>b=ρ.blk k } env v (f sv))(hj:f .junk=.junk) :
  Rep w0 X w a { (σ.setObj k none) with tmps:=σ.tmps.map f } env { ρ with S:=ρ.S.or fun b _=>b=ρ.blk k }:=by
 have hle:ρ.S≤ρ.S.or fun b _=>b=ρ.blk k:=ρ.S.le_or _
 have hm:ρ.More { ρ with S:=ρ.S.or fun b _=>b=ρ.blk k } (fun _=>False):=⟨⟨fun _ _=>rfl,fun _ _=>rfl,hle⟩,fun _=>rfl,fun _=>rfl⟩
 have hownk:=h.own k _ (ρ.blk k) hk hz
 refine⟨by simpa using h.size,fun t=>?_,fun o y hy=>?_,fun o o' y y' b h1 h2=>h.inj o o' y y' b (del_obj h1).2 (del_obj h2).2,fun o y b h1=>h.own o y b (del_obj h1).2,fun b o hs=>?_,h.os,h.tape,h.output,h.grown,h.old,Sets.le_trans h.sub hle,fun b o hs=>?_,h.nod,h.hold⟩
 ·have hv:=(h.tmps t).keep (Keeps.refl _ _) hm (fun _ hf=>hf.elim)
  have htmp:SState.tmp { (σ.setObj k none) with tmps:=σ.tmps.map f } t=f (σ.tmp t):=by
   simp only[SState.tmp_def,List.getD_eq_getElem?_getD,List.getElem?_map]
   cases σ.tmps[t]? with
   | none=>exact hj.symm
   | some _=>rfl
  rw[htmp]
  exact hf _ _ hv
 ·obtain⟨hne,hy'⟩:=del_obj hy
  refine(h.objs o y hy').keep (Keeps.refl _ _) hm (fun hf=>hf) (fun _ hf=>hf.elim) (fun _ _=>rfl) fun b off hb hs=>?_
  rcases hs with hs | hs
  ·exact hs
  ·subst hs
   exact absurd (h.inj o k y _ _ hy' hk hb hz) hne
 ·rcases hs with hs | rfl
  ·exact h.cells b o hs
  ·exact hownk.2
 ·rcases hs with hs | rfl
  ·exact h.new b o hs
  ·rcases hownk.1 with g | g | g
   ·exact absurd g.1 (by simp[hro])
   ·exact .inr (.inl g)
   ·exact .inr (.inr g)

theorem Rep.frz (h:Rep w0 X w a σ env ρ)(k:Nat):∃ρ',Rep w0 X w a (σ.frz k) env ρ':=by
 unfold SState.frz
 split
 ·rename_i x sz hk
  refine⟨_,h.frzG hk rfl rfl (fun v sv hv=>?_) rfl⟩
  unfold SV.frz
  split
  ·rename_i o
   split
   ·rename_i e
    subst e
    obtain⟨d,h1,h2,h3⟩:=row_rdS (h.objs _ _ hk)
    rw[hv.slc_inv]
    exact .e h1 h2 fun _=>h3
   ·exact hv
  ·exact hv
 ·rename_i cs hk
  split
  ·rename_i y hy
   refine⟨_,h.frzG hk rfl rfl (fun v sv hv=>?_) rfl⟩
   unfold SV.frzB
   split
   ·rename_i o
    split
    ·rename_i e
     subst e
     obtain⟨vs,ty,hh,hsz,ho,hr,_⟩:=h.objs _ _ hk
     obtain⟨ds,he,hl,hd⟩:=SV.toEs_rd (vs:=vs.toList) hy (by simpa using hsz) (fun i v hv=>ho i v (by simpa using hv)) (fun i v c hv hc=>hr i v c (by simpa using hv) hc)
     rw[hv.addr_inv]
     refine .e (d:=.ptr ds) (by simp[E.eval,he,D.mkptr]) ?_ fun _=>rfl
     have hcell:∀(j:Nat) (c:D),ds[j]? = some c→∃u,vs[j]? = some u:=fun j c hj=>⟨_,Array.getElem?_eq_getElem (by have:=(List.getElem?_eq_some_iff.1 hj).1;simp at hl;omega)⟩
     refine .ptr (val:=fun j=>vs.getD j undef) (fun j c hj=>?_) (fun j c hj=>.inr rfl) (fun j c hj=>?_) fun j c hj=>?_
     ·obtain⟨u,hu⟩:=hcell j c hj
      exact(hd j u c (by simpa using hu) hj).2
     ·obtain⟨u,hu⟩:=hcell j c hj
      rw[cell_heap hh,Nat.zero_add,hu,Array.getD_eq_getD_getElem?,hu]
      rfl
     ·obtain⟨u,hu⟩:=hcell j c hj
      rw[Array.getD_eq_getD_getElem?,hu]
      exact(hd j u c (by simpa using hu) hj).1.keep (Keeps.refl _ _) (ρ.S.le_or _)
    ·exact hv
   ·exact hv
  ·exact⟨ρ,h⟩
 ·exact⟨ρ,h⟩

theorem pubS_obj {k o:Nat}{f:SV→SV}{y z:SObj}(hz:(σ.pubS k f y).obj o=some z):(o=HID∧z=y)∨(o≠HID∧o≠k∧∃x,σ.obj o=some x∧z=x.mapSV f):=by
 simp only[SState.pubS,SState.obj_def] at hz
 by_cases ho:o=HID
 ·simp only[ho,if_true,Option.some.injEq] at hz
  exact .inl ⟨ho,hz.symm⟩
 ·simp only[ho,if_false,List.getD_eq_getElem?_getD,List.getElem?_set,List.length_map] at hz
  by_cases hk:k=o
  ·simp only[hk,if_true] at hz
   split at hz <;> cases hz
  ·simp only[hk,if_false,List.getElem?_map] at hz
   refine .inr ⟨ho,Ne.symm hk,?_⟩
   simp only[SState.obj_def]
   simp only[ho,if_false,List.getD_eq_getElem?_getD]
   cases hm:σ.mem[o]? with
   | none=>rw[hm] at hz;cases hz
   | some x=>
    rw[hm] at hz
    cases x with
    | none=>cases hz
    | some x=>
     simp only[Option.map_some,Option.getD_some,Option.some.injEq] at hz
     exact⟨x,rfl,hz.symm⟩

theorem objBlk_mapSV {ρ:Rho}{o:Nat}{x:SObj}{f:SV→SV}:objBlk ρ o (x.mapSV f)=objBlk ρ o x:=by
 cases x <;> rfl

theorem Rep.pubG (h:Rep w0 X w a σ env ρ) {k:Nat} {z:SObj} (hk:σ.obj k=some z) (hz:objBlk ρ k z (ρ.blk k)) (hro:z.ro=false) (hns:∀off,¬ρ.S (ρ.blk k) off) {cf:StCfg} {x x':E} (hob:σ.obj HID=some (.store cf x)) (hkH:k≠HID) {bs:List D} (hbe:x.eval env=some (.st bs)) {n sz:Nat} {cs:List D}
  (hz1:∃vs:Array Value,CellsAt w (ρ.blk k) vs anyT∧vs.size=n*sz∧cs.length≤vs.size∧(∀(j:Nat) (d:D),cs[j]? = some d→d.one=true)∧∀(j:Nat) (v:Value) (d:D),vs[j]? = some v→cs[j]? = some d→RdD w ρ.S v d)
  (hx':x'.eval env=some (.st (bs++[.blk anyT sz cs]))) {f:SV→SV} (hf:∀v sv,ρ.S.n=bs.length→SRd w { ρ with S:=ρ.S.more (ρ.blk k) n,foot:=fun c=>ρ.foot c∨c=ρ.blk k } env v sv→SRd w { ρ with S:=ρ.S.more (ρ.blk k) n,foot:=fun c=>ρ.foot c∨c=ρ.blk k } env v (f sv)) (hj:f .junk=.junk) :
  Rep w0 X w a (σ.pubS k f (.store cf x')) env { ρ with S:=ρ.S.more (ρ.blk k) n,foot:=fun c=>ρ.foot c∨c=ρ.blk k }:=by
 have hle:=ρ.S.le_more (ρ.blk k) n
 have hle2:ρ.Le { ρ with S:=ρ.S.more (ρ.blk k) n,foot:=fun c=>ρ.foot c∨c=ρ.blk k } (fun _=>False):=⟨fun _ _=>rfl,fun _ _=>rfl,hle⟩
 obtain⟨bs0,hb0,hst,_⟩:=h.objs _ _ hob
 rw[hbe] at hb0
 cases hb0
 have hownk:=h.own k _ (ρ.blk k) hk hz
 have hfoot:∀b,ρ.foot b→b≠ρ.blk k:=fun b hb e=>hkH (h.inj k HID _ _ (ρ.blk k) hk hob hz (e ▸ hb))
 have hblk:∀o y,o≠HID→objBlk { ρ with S:=ρ.S.more (ρ.blk k) n,foot:=fun c=>ρ.foot c∨c=ρ.blk k } o y=objBlk ρ o y∨∃cf x,y=.store cf x:=by
  intro o y ho
  cases y with
  | store cf x=>exact .inr ⟨cf,x,rfl⟩
  | _=>exact .inl rfl
 have hnst:∀o y,o≠HID→σ.obj o=some y→objBlk { ρ with S:=ρ.S.more (ρ.blk k) n,foot:=fun c=>ρ.foot c∨c=ρ.blk k } o y=objBlk ρ o y:=by
  intro o y ho hy
  rcases hblk o y ho with g | ⟨cf,x,rfl⟩
  ·exact g
  ·obtain⟨_,_,_,e⟩:=h.objs o _ hy
   exact absurd e ho
 have hrd:∀v sv,SRd w ρ env v sv→SRd w { ρ with S:=ρ.S.more (ρ.blk k) n,foot:=fun c=>ρ.foot c∨c=ρ.blk k } env v (f sv):=fun v sv hv=>hf v sv hst.n (hv.keepL (Keeps.refl _ _) hle2 fun _ hf=>hf.elim)
 refine⟨by simpa[SState.pubS] using h.size,fun t=>?_,fun o y hy=>?_,fun o o' y y' b h1 h2 hb1 hb2=>?_,fun o y b hy hb=>?_,h.cells,h.os,h.tape,h.output,h.grown,h.old,Sets.le_trans h.sub hle,h.new,h.nod,h.hold⟩
 ·have htmp:(σ.pubS k f (.store cf x')).tmp t=f (σ.tmp t):=by
   simp only[SState.pubS,SState.tmp_def,List.getD_eq_getElem?_getD,List.getElem?_map]
   cases σ.tmps[t]? with
   | none=>exact hj.symm
   | some _=>rfl
  rw[htmp]
  exact hrd _ _ (h.tmps t)
 ·rcases pubS_obj hy with⟨rfl,rfl⟩ | ⟨ho,hok,y1,hy1,rfl⟩
  ·refine⟨_,hx',stOk_moreG hst (Keeps.refl _ _) rfl (fun i x hi hx=>⟨hi,hfoot _ (hst.live_foot hi hx),rfl⟩) (fun _=>Iff.rfl) (fun e sz' cs' he=>?_) (fun kvs he=>by cases he) hns,rfl⟩
   cases he
   exact hz1
  ·have:=(h.objs o y1 hy1).keepL (Keeps.refl _ _) hle2 (fun e=>absurd e ho) (fun hf=>hf) (fun _ hf=>hf.elim) (fun _ _=>rfl) (fun b off _ hs=>hs)
   cases y1 with
   | box cs=>
    obtain⟨vs,ty,g1,g2,g3,g4,g5⟩:=this
    refine⟨vs,ty,g1,by simpa using g2,g3,fun i v c hv hc=>?_,g5⟩
    simp only[List.getElem?_map,Option.map_eq_some_iff] at hc
    obtain⟨c',hc',rfl⟩:=hc
    exact hf _ _ hst.n (g4 i v c' hv hc')
   | _=>exact this
 ·rcases pubS_obj h1 with⟨rfl,rfl⟩ | ⟨ho,hok,y1,hy1,rfl⟩ <;> rcases pubS_obj h2 with⟨rfl,rfl⟩ | ⟨ho',hok',y2,hy2,rfl⟩
  ·rfl
  ·rw[objBlk_mapSV,hnst o' y2 ho' hy2] at hb2
   rcases hb1 with hb1 | rfl
   ·exact h.inj HID o' _ _ b hob hy2 hb1 hb2
   ·exact absurd (h.inj o' k _ _ _ hy2 hk hb2 hz) hok'
  ·rw[objBlk_mapSV,hnst o y1 ho hy1] at hb1
   rcases hb2 with hb2 | rfl
   ·exact h.inj o HID _ _ b hy1 hob hb1 hb2
   ·exact absurd (h.inj o k _ _ _ hy1 hk hb1 hz) hok
  ·rw[objBlk_mapSV,hnst o y1 ho hy1] at hb1
   rw[objBlk_mapSV,hnst o' y2 ho' hy2] at hb2
   exact h.inj o o' _ _ b hy1 hy2 hb1 hb2
 ·rcases pubS_obj hy with⟨rfl,rfl⟩ | ⟨ho,hok,y1,hy1,rfl⟩
  ·rcases hb with hb | rfl
   ·have:=h.own HID (.store cf x) b hob hb
    exact this
   ·refine⟨.inr (hownk.1.resolve_left ?_),hownk.2⟩
    rintro⟨e,_⟩
    rw[hro] at e
    cases e
  ·rw[objBlk_mapSV,hnst o y1 ho hy1] at hb
   have:=h.own o y1 b hy1 hb
   refine⟨?_,this.2⟩
   cases y1 <;> exact this.1

theorem Rep.pubz (h:Rep w0 X w a σ env ρ)(k:Nat):∃ρ',Rep w0 X w a (σ.pubz k) env ρ':=by
 unfold SState.pubz
 split
 ·rename_i cf hx hob
  split
  ·exact⟨ρ,h⟩
  obtain⟨bs,hbe,hst,_⟩:=h.objs _ _ hob
  split
  ·rename_i x sz hk
   split
   ·rename_i hsz
    have hkH:k≠HID:=fun e=>by rw[e,hob] at hk;cases hk
    obtain⟨vs,ty,es,hh,hxe,hz,hvs,hr,hval,hm,hns⟩:=h.objs _ _ hk
    have hrow:RowRd w ρ.S sz vs.toList es:=⟨by simpa using hvs,hz,fun i e j d he hd=>by
     obtain⟨g1,v,g2,g3⟩:=hr i e j d he hd
     exact⟨g1,v,by simpa using g2,g3⟩⟩
    obtain⟨hall,hfl,hfr⟩:=hrow.flat hsz
    have hone:(cellsL es).all (·.one)=true:=List.all_eq_true.2 fun d hd=>by
     obtain⟨j,hj⟩:=List.getElem?_of_mem hd
     have hjl:=(List.getElem?_eq_some_iff.1 hj).1
     exact(hfr j vs.toList[j] d (by rw[List.getElem?_eq_getElem (by rw[←hfl];exact hjl)]) hj).2
    refine⟨_,h.pubG (n:=es.length) (cs:=cellsL es) hk rfl rfl hns hob hkH hbe ⟨vs,⟨ty,hh,.inl rfl⟩,hvs,by rw[hfl];simp,fun j d hj=>List.all_eq_true.1 hone d (List.mem_of_getElem? hj),fun j v d hv hd=>(hfr j v d (by simpa using hv) hd).1⟩ (by simp only[E.eval,hbe,hxe,Option.bind_some,D.newv];rw[if_pos ⟨hall,hone⟩]) (fun v sv hn hv=>?_) rfl⟩
    unfold SV.pubR
    split
    ·rename_i o
     split
     ·rename_i e
      subst e
      rw[hv.slc_inv]
      refine .e (d:=.sl bs.length 0 es.length) (by simp only[E.eval,hbe,hxe];rfl) ?_ fun _=>rfl
      show RdD w _ (ρ.val o) _
      rw[hval]
      have:=RdD.sl (w:=w) (S:=ρ.S.more (ρ.blk o) es.length) (i:=bs.length) (off:=0) (len:=es.length) (c:=es.length) (by simp[Sets.more,hn]) (Nat.le_refl _) hm (fun _=>by simp[Sets.more,hn])
      have hl:(ρ.S.more (ρ.blk o) es.length).loc bs.length=ρ.blk o:=by simp[Sets.more,hn]
      rwa [hl] at this
     ·exact hv
    ·exact hv
   ·exact⟨ρ,h⟩
  ·rename_i cs hk
   split
   ·rename_i y hy
    have hkH:k≠HID:=fun e=>by rw[e,hob] at hk;cases hk
    obtain⟨vs,ty,hh,hsz,ho,hr,hns⟩:=h.objs _ _ hk
    obtain⟨ds,he,hl,hd⟩:=SV.toEs_rd (vs:=vs.toList) hy (by simpa using hsz) (fun i v hv=>ho i v (by simpa using hv)) (fun i v c hv hc=>hr i v c (by simpa using hv) hc)
    have hl':ds.length=vs.size:=by simpa using hl.symm
    have hone:ds.all (·.one)=true:=List.all_eq_true.2 fun d hdm=>by
     obtain⟨j,hj⟩:=List.getElem?_of_mem hdm
     have hjl:=(List.getElem?_eq_some_iff.1 hj).1
     exact(hd j vs.toList[j] d (by rw[List.getElem?_eq_getElem (by simp;omega)]) hj).2
    refine⟨_,h.pubG (n:=1) (cs:=ds) hk rfl rfl hns hob hkH hbe ⟨vs,⟨ty,hh,.inl rfl⟩,by rw[hsz,Nat.one_mul],by omega,fun j d hj=>List.all_eq_true.1 hone d (List.mem_of_getElem? hj),fun j v d hv hdd=>(hd j v d (by simpa using hv) hdd).1⟩ (by simp only[E.eval,hbe,he,Option.bind_some,D.newb];rw[if_pos hone]) (fun v sv hn hv=>?_) rfl⟩
    unfold SV.pubB
    split
    ·rename_i o
     split
     ·rename_i e
      subst e
      rw[hv.addr_inv]
      refine .e (d:=.loc bs.length 0) (by simp only[E.eval,hbe];rfl) ?_ fun _=>rfl
      have:=RdD.loc (w:=w) (S:=ρ.S.more (ρ.blk o) 1) (i:=bs.length) (off:=0) (by simp[Sets.more,hn])
      have hl:(ρ.S.more (ρ.blk o) 1).loc bs.length=ρ.blk o:=by simp[Sets.more,hn]
      rwa [hl] at this
     ·exact hv
    ·exact hv
   ·exact⟨ρ,h⟩
  ·exact⟨ρ,h⟩
 ·exact⟨ρ,h⟩

theorem Rep.frzOne (h:Rep w0 X w a σ env ρ)(k:Nat):∃ρ',Rep w0 X w a (frzOne k σ) env ρ':=by
 unfold Go.Am.frzOne
 split
 ·exact h.pubz _
 ·exact h.frz k

theorem Rep.frzAll:∀(ks:List Nat) {σ:SState} {ρ:Rho},Rep w0 X w a σ env ρ→∃ρ',Rep w0 X w a (frzAll ks σ) env ρ'
 | [],_,ρ,h=>⟨ρ,h⟩
 | k :: ks,_,_,h=>by
  obtain⟨_,h'⟩:=h.frzOne k
  exact Rep.frzAll ks h'

theorem Rep.frzAt (h:Rep w0 X w a σ env ρ)(id:Nat):∃ρ',Rep w0 X w a (frzAt id σ) env ρ':=by
 unfold Go.Am.frzAt
 split
 ·exact h.frzAll _
 ·exact⟨ρ,h⟩

theorem frz_len (k:Nat)(σ:SState):(σ.frz k).tmps.length=σ.tmps.length∧(σ.frz k).mem.length=σ.mem.length:=by
 unfold SState.frz
 split
 ·refine⟨by simp,?_⟩
  show(σ.setObj k none).mem.length=_
  exact SState.mlen_setObj _ _ _
 ·split
  ·refine⟨by simp,?_⟩
   show(σ.setObj k none).mem.length=_
   exact SState.mlen_setObj _ _ _
  ·exact⟨rfl,rfl⟩
 ·exact⟨rfl,rfl⟩

theorem pubS_len (k:Nat)(f:SV→SV)(y:SObj)(σ:SState):(σ.pubS k f y).tmps.length=σ.tmps.length∧(σ.pubS k f y).mem.length=σ.mem.length:=by
 simp[SState.pubS]

theorem frzOne_len (k:Nat)(σ:SState):(frzOne k σ).tmps.length=σ.tmps.length∧(frzOne k σ).mem.length=σ.mem.length:=by
 unfold frzOne
 split
 ·unfold SState.pubz
  split
  ·split
   ·exact⟨rfl,rfl⟩
   split
   ·split
    ·exact pubS_len _ _ _ _
    ·exact⟨rfl,rfl⟩
   ·split
    ·exact pubS_len _ _ _ _
    ·exact⟨rfl,rfl⟩
   ·exact⟨rfl,rfl⟩
  ·exact⟨rfl,rfl⟩
 ·exact frz_len k σ

theorem frzAll_len:∀(ks:List Nat) (σ:SState),(frzAll ks σ).tmps.length=σ.tmps.length∧(frzAll ks σ).mem.length=σ.mem.length
 | [],_=>⟨rfl,rfl⟩
 | k :: ks,σ=>by
  have h1:=frzAll_len ks (frzOne k σ)
  have h2:=frzOne_len k σ
  exact⟨h1.1.trans h2.1,h1.2.trans h2.2⟩

theorem frzAt_len (id:Nat)(σ:SState):(frzAt id σ).tmps.length=σ.tmps.length∧(frzAt id σ).mem.length=σ.mem.length:=by
 unfold frzAt
 split
 ·exact frzAll_len _ _
 ·exact⟨rfl,rfl⟩

end
end
end Go.Am

/-
 The operations of a region one after the other,guards and all.
-/
namespace Go.Am
noncomputable section

/-! ## evaluation ahead of use (for the kernel: the functions change nothing) -/

def atomV (act:List (E×Bool))(ix:Nat)(e:Eff):SV×Option Bind:=
 match act,e.bind,e.val with
 | _ :: _,none,.e x s=>if isAtom ix x then(e.val,none) else(.e (.sym ix) s,some (.ev x))
 | _,b,v=>(v,b)

def isCallV (o:Oper):Bool:=match o.op with | .call c=>(match c.callee with | .value _=>true | _=>false) | _=>false

def locOp (o:Oper)(cf:Option StCfg):Bool:=match o.op with | .call c=>locCall cf c.callee | _=>false

def callWrites (o:Oper)(hO:Option SObj)(ix:Nat)(e:Eff):Bool:=
 !locOp o (cfO hO)&&(isCallV o&&e.del.isNone&&match hO,e.upd with
  | some (.store cf h),some (k,.store cf' (.tget 1 (.sym j)))=>!cf.ro&&decide (k=HID)&&decide (cf=cf')&&decide (j=ix)&&(match e.bind with
   | some (.wcall [] _ h' _ _)=>h'.same h
   | some (.wcallv [] _ h' _ _)=>h'.same h
   | _=>false)
  | _,_=>false)

def gtok (P:Program)(o:Oper)(σ:SState)(act:List (E×Bool))(ix:Nat):Option Eff:=
 match act with
 | []=>none
 | act=>match o.op with
  | .call c=>(match c.callee with
   | .builtin .append=>(match lnew false P o (σ.opv act) σ.obj ix with
    | some e=>(match e.upd with
     | some (d,.tok _ _)=>if d≠HID∧o.dst=some d then some ⟨.cond act e.val,e.upd,e.del,guardBind act e.bind⟩ else none
     | _=>none)
    | none=>none)
   | _=>none)
  | _=>none

def reff (P:Program)(ops:Array Oper)(o:Oper)(σ:SState)(ix:Nat):Option Eff:=
 match actOf ops σ ix o.guard with
 | none=>none
 | some act=>match gtok P o σ act ix with
  | some e=>some e
  | none=>match estep P o σ.opv act σ.obj ix with
  | none=>none
  | some e=>if e.upd.isNone&&e.del.isNone then some ⟨wrapSV act (atomV act ix e).1,none,none,guardBind act (atomV act ix e).2⟩ else match act with
   | []=>if selfOk o σ e then some e else none
   | act=>if callWrites o (σ.obj HID) ix e then some ⟨.cond act e.val,e.upd,none,guardBind act e.bind⟩ else none

def freshAt (σ:SState)(ob:Nat):Prop:=(σ.obj ob).isNone=true∧σ.avoidsB ob=true

def freshFor (σ:SState)(o:Oper)(e:Eff):Bool:=!isNew o||match e.upd with | some u=>decide (u.1=HID)||((σ.obj u.1).isNone&&σ.avoidsB u.1) | none=>true

def rstep (P:Program)(ops:Array Oper)(o:Oper)(σ:SState)(ix:Nat):Option (SState×Option Bind):=
 match reff P ops o σ ix with
 | some e=>if dstOk σ o&&freshFor σ o e then some (σ.app o.dst e,e.bind) else none
 | none=>none

theorem rstep_of_reff {P:Program}{ops:Array Oper}{o:Oper}{σ:SState}{ix:Nat}{e:Eff}(h:reff P ops o σ ix=some e)(hd:dstOk σ o=true)(hf:isNew o=true→∀u,e.upd=some u→u.1=HID∨freshAt σ u.1) :
  rstep P ops o σ ix=some (σ.app o.dst e,e.bind):=by
 have:freshFor σ o e=true:=by
  unfold freshFor
  cases hn:isNew o with
  | false=>rfl
  | true=>
   cases hu:e.upd with
   | none=>rfl
   | some u=>
    rcases hf hn u hu with h1 | h1
    ·simp[h1]
    ·simp[h1.1,h1.2]
 unfold rstep
 rw[h]
 simp[hd,this]

section
variable {P:Program} {w w0:World} {X:Ent} {a:Act} {σ:SState} {env:List D} {ρ:Rho}

theorem atomV_ok {act:List (E×Bool)}{ix:Nat}{e:Eff}(h:BindOk P env ix (atomV act ix e).2):BindOk P env ix e.bind∧∀(w:World) (ρ:Rho) (v:Value),SRd w ρ env v e.val→SRd w ρ env v (atomV act ix e).1:=by
 unfold atomV at h ⊢
 split at h
 ·rename_i hb hv
  split at h
  ·rename_i hat
   rw[if_pos hat]
   exact⟨by rw[hb];trivial,fun _ _ _ h=>h⟩
  ·rename_i hat
   rw[if_neg hat]
   refine⟨by rw[hb];trivial,fun w ρ v hs=>?_⟩
   rw[hv] at hs
   obtain⟨d,hx,hix⟩:=h
   obtain⟨d',hx',hr,h1⟩:=hs.e_inv
   rw[hx] at hx'
   cases hx'
   exact .e (by simp only[E.eval];exact hix) hr h1
 ·exact⟨h,fun _ _ _ h=>h⟩

theorem gtok_sound {o:Oper}{act:List (E×Bool)}{ix:Nat}{e:Eff}(h:Rep w0 X w a σ env ρ)(hm:σ.mem.length=σ.tmps.length)(hd:∀d,o.dst=some d→d<σ.tmps.length)(hg:gtok P o σ act ix=some e)(hf:freshFor σ o e=true)(hb:BindOk P env ix e.bind)(hdef:∀p,p∈act→∃d,p.1.eval env=some d) :
  (actHolds env act→OpOk P o a w w0 X (σ.app o.dst e) env)∧(¬actHolds env act→∃ρ',Rep w0 X w (a.put o.dst undef) (σ.app o.dst e) env ρ'):=by
 unfold gtok at hg
 split at hg
 ·cases hg
 rename_i hact
 split at hg
 ·rename_i c ho
  split at hg
  ·rename_i hcal
   split at hg
   ·rename_i e0 hl
    split at hg
    ·rename_i d ty sz hupd
     split at hg
     ·rename_i hc
      obtain⟨hne,hdst⟩:=hc
      cases hg
      have hdl:=hd d hdst
      have hnew:isNew o=true:=by simp[isNew,ho,hcal]
      simp only[freshFor,hnew,hupd,Bool.not_true,Bool.false_or,Bool.or_eq_true,decide_eq_true_eq,Bool.and_eq_true,Option.isNone_iff_eq_none] at hf
      obtain⟨hfree,hav⟩:=hf.resolve_left hne
      have hav:=avoidsB_spec hav
      refine⟨fun ha=>?_,fun ha=>?_⟩
      ·have hv:=fun x=>opv_rd (a:=a) h ha x
       have hf':∀u,e0.upd=some u→σ.obj u.1=none∧σ.avoids u.1:=fun u hu=>by
        rw[hupd] at hu
        cases hu
        exact⟨hfree,hav⟩
       have hb0:=guardBind_ok ha hb
       have hok:OpOk P o a w w0 X (σ.app o.dst e0) env:=by
        unfold lnew at hl
        rw[ho] at hl
        obtain⟨callee,args,ts⟩:=c
        simp only at hcal
        subst hcal
        simp only at hl
        split at hl
        ·rename_i s x t t' hargs hts
         split at hl
         ·rename_i htt
          subst htt
          have e1:args=#[s,x]:=by rw[←Array.toArray_toList (xs:=args),hargs]
          have e2:ts=#[t,t]:=by rw[←Array.toArray_toList (xs:=ts),hts]
          subst e1 e2
          split at hl
          ·rename_i hnil
           exact lappendN_sound ho hnil hl (hv x) h hd hm hb0 hf'
          ·exact lappend_sound ho hl (hv s) (hv x) h hd hm hb0 hf'
         ·cases hl
        ·cases hl
       intro Q
       refine upon_mono (hok Q) ?_
       rintro a' w' ⟨ρ',hrep⟩
       refine⟨ρ',?_⟩
       unfold SState.app at hrep ⊢
       rw[hdst] at hrep ⊢
       simp only at hrep ⊢
       generalize hσ:(σ.dels e0.del).sets e0.upd=σ1 at hrep ⊢
       have hl1:d<σ1.tmps.length:=by
        rw[←hσ]
        unfold SState.dels SState.sets
        cases e0.del <;> cases e0.upd <;> simpa[SState.tmps_setObj] using hdl
       refine⟨by simpa[SState.put_def] using hrep.size,fun t=>?_,hrep.objs,hrep.inj,hrep.own,hrep.cells,hrep.os,hrep.tape,hrep.output,hrep.grown,hrep.old,hrep.sub,hrep.new,hrep.nod,hrep.hold⟩
       have:=hrep.tmps t
       rw[SState.tmp_put hl1] at this ⊢
       split
       ·rename_i e;rw[if_pos e] at this;exact .cond hdef (fun _=>this) fun hn=>absurd ha hn
       ·rename_i e;rw[if_neg e] at this;exact this
      ·have hdel:Rep w0 X w a (σ.dels e0.del) env ρ∧(σ.dels e0.del).obj d=none∧(σ.dels e0.del).avoids d∧(σ.dels e0.del).tmps.length=σ.tmps.length∧(σ.dels e0.del).mem.length=σ.mem.length:=by
        cases e0.del with
        | none=>exact⟨h,hfree,hav,rfl,rfl⟩
        | some k=>
         refine⟨h.delObj k,?_,avoids_delObj hav,by rw[SState.dels,SState.tmps_setObj],by rw[SState.dels,SState.mlen_setObj]⟩
         cases hx:(σ.setObj k none).obj d with
         | none=>exact hx
         | some y=>
          have:=(del_obj hx).2
          rw[hfree] at this
          cases this
       obtain⟨d1,d2,d3,d4,d5⟩:=hdel
       have hrep:=d1.addTok (w':=w) (k:=d) (by rw[d5,hm];exact hdl) d2 d3 (World.ownsRow_nil w 0 ty sz) (Keeps.refl _ _) (fun _ _ _ _ _=>⟨rfl,by simp[Value.ownBlock]⟩) (fun _ hb=>by simp[Value.ownBlock] at hb) (fun _ hb=>by simp[Value.ownBlock] at hb) rfl ⟨rfl,Nat.le_refl _⟩ rfl (Nat.le_refl _) fun _ _ _=>rfl
       refine⟨ρ.withTok d (.slice none 0 0) (0*sz),?_⟩
       unfold SState.app
       rw[hupd]
       exact hrep.put (by intro d' e;rw[SState.tmps_setObj,d4];exact hd d' e) (.cond hdef (fun hh=>absurd hh ha) fun _=>rfl)
     ·cases hg
    ·cases hg
   ·cases hg
  ·cases hg
 ·cases hg

theorem rstep_sound {ops:Array Oper} {o:Oper} {ix:Nat} {σ':SState} {b:Option Bind} (h:Rep w0 X w a σ env ρ) (hm:σ.mem.length=σ.tmps.length) (hix:ix≤env.length) (hsz:∀(j d:Nat),(ops[j]?).bind (fun(o:Oper)=>o.dst)=some d→d<σ.tmps.length)
  (hs:rstep P ops o σ ix=some (σ',b)) (hb:BindOk P env ix b):(Region.wanted o (yielded ops a.tmps)=true∧OpOk P o a w w0 X σ' env)∨(Region.wanted o (yielded ops a.tmps)=false∧∃ρ',Rep w0 X w (a.put o.dst undef) σ' env ρ'):=by
 unfold rstep at hs
 split at hs
 ·rename_i e he
  split at hs
  ·rename_i hc
   simp only[Bool.and_eq_true] at hc
   cases hs
   have hd:=dstOk_spec hc.1
   unfold reff at he
   split at he
   ·cases he
   ·rename_i act hact
    obtain⟨hdef,hwant⟩:=wanted_iff h hix hsz hact
    split at he
    ·rename_i eg hg
     cases he
     obtain⟨k1,k2⟩:=gtok_sound h hm hd hg hc.2 hb hdef
     by_cases ha:actHolds env act
     ·exact .inl ⟨hwant.2 ha,k1 ha⟩
     ·exact .inr ⟨by rw[←Bool.not_eq_true,hwant];exact ha,k2 ha⟩
    split at he
    ·cases he
    ·rename_i e0 hl
     split at he
     ·rename_i hn
      simp only[Bool.and_eq_true,Option.isNone_iff_eq_none] at hn
      cases he
      have happ:∀sv,σ.app o.dst ⟨sv,none,none,guardBind act (atomV act ix e0).2⟩=σ.put o.dst sv:=fun _=>rfl
      rw[happ]
      by_cases ha:actHolds env act
      ·refine .inl ⟨hwant.2 ha,?_⟩
       obtain⟨hbb,hatom⟩:=atomV_ok (guardBind_ok ha hb)
       have hok:=estep_sound h ha hl hd hm hbb (by simp[freshFor',hn.1]) (fun _=>by simp[hn.1,hn.2])
       have happ0:σ.app o.dst e0=σ.put o.dst e0.val:=by simp[SState.app,SState.dels,SState.sets,hn.1,hn.2]
       rw[happ0] at hok
       intro Q
       refine upon_mono (hok Q) ?_
       rintro a' w' ⟨ρ',hrep⟩
       refine⟨ρ',?_⟩
       cases hdo:o.dst with
       | none=>rw[hdo] at hrep;exact hrep
       | some d=>
        rw[hdo] at hrep
        have hdl:=hd d hdo
        refine⟨by simpa[SState.put_def] using hrep.size,fun t=>?_,hrep.objs,hrep.inj,hrep.own,hrep.cells,hrep.os,hrep.tape,hrep.output,hrep.grown,hrep.old,hrep.sub,hrep.new,hrep.nod,hrep.hold⟩
        have:=hrep.tmps t
        rw[SState.tmp_put hdl] at this ⊢
        split
        ·rename_i e;rw[if_pos e] at this;exact wrap_rd hdef ha (hatom _ _ _ this)
        ·rename_i e;rw[if_neg e] at this;exact this
      ·refine .inr ⟨by rw[←Bool.not_eq_true,hwant];exact ha,ρ,h.put hd ?_⟩
       cases act with
       | nil=>exact absurd actHolds_nil ha
       | cons p r=>exact .cond hdef (fun hh=>absurd hh ha) fun _=>rfl
     ·split at he
      ·split at he
       ·rename_i hself
        cases he
        have ha:actHolds env []:=actHolds_nil
        refine .inl ⟨hwant.2 ha,estep_sound h ha hl hd hm hb ?_ fun _ _=>rfl⟩
        intro hnew u hu hne
        have hf:=hc.2
        simp only[freshFor,hnew,hu,Bool.not_true,Bool.false_or,Bool.or_eq_true,decide_eq_true_eq,Bool.and_eq_true,Option.isNone_iff_eq_none] at hf
        have hf:=hf.resolve_left hne
        exact⟨hf.1,avoidsB_spec hf.2,selfOk_spec hself hnew hu hne⟩
       ·cases he
      ·rename_i hne
       split at he
       ·rename_i hcw
        cases he
        unfold callWrites at hcw
        simp only[Bool.and_eq_true] at hcw
        obtain⟨_,⟨hcv,hdel⟩,hcw⟩:=hcw
        split at hcw
        ·rename_i cf hE k cf' j hob hup
         simp only[Bool.and_eq_true,Bool.not_eq_true',decide_eq_true_eq] at hcw
         obtain⟨⟨⟨⟨hro,rfl⟩,rfl⟩,rfl⟩,hbm⟩:=hcw
         have hdel:e0.del=none:=by simpa using hdel
         have happ:∀sv b,σ.app o.dst ⟨sv,e0.upd,none,b⟩=(σ.setObj HID (some (.store cf (.tget 1 (.sym j))))).put o.dst sv:=fun sv b=>by simp[SState.app,SState.dels,SState.sets,hup]
         rw[happ]
         have hnew:isNew o=false:=by
          unfold isCallV at hcv
          unfold isNew
          split at hcv
          ·rename_i c hop
           rw[hop]
           split at hcv
           ·rename_i g hc
            simp[hc]
           ·cases hcv
          ·cases hcv
         by_cases ha:actHolds env act
         ·refine .inl ⟨hwant.2 ha,?_⟩
          have hok:=estep_sound h ha hl hd hm (guardBind_ok ha hb) (by simp[freshFor',hnew]) (fun hn=>by rw[hnew] at hn;cases hn)
          have happ0:σ.app o.dst e0=(σ.setObj HID (some (.store cf (.tget 1 (.sym j))))).put o.dst e0.val:=by rw[←happ e0.val e0.bind,←hdel]
          rw[happ0] at hok
          intro Q
          refine upon_mono (hok Q) ?_
          rintro a' w' ⟨ρ',hrep⟩
          refine⟨ρ',?_⟩
          cases hdo:o.dst with
          | none=>rw[hdo] at hrep;exact hrep
          | some d=>
           rw[hdo] at hrep
           have hdl:d<(σ.setObj HID (some (.store cf (.tget 1 (.sym j))))).tmps.length:=by rw[SState.tmps_setObj];exact hd d hdo
           refine⟨by simpa[SState.put_def] using hrep.size,fun t=>?_,hrep.objs,hrep.inj,hrep.own,hrep.cells,hrep.os,hrep.tape,hrep.output,hrep.grown,hrep.old,hrep.sub,hrep.new,hrep.nod,hrep.hold⟩
           have:=hrep.tmps t
           rw[SState.tmp_put hdl] at this ⊢
           split
           ·rename_i e;rw[if_pos e] at this;exact .cond hdef (fun _=>this) fun hn=>absurd ha hn
           ·rename_i e;rw[if_neg e] at this;exact this
         ·refine .inr ⟨by rw[←Bool.not_eq_true,hwant];exact ha,?_⟩
          obtain⟨bs,hbe,hst,_⟩:=h.objs _ _ hob
          have hna:¬actHolds env (act++[]):=by rw[List.append_nil];exact ha
          have hix:(E.tget 1 (.sym j)).eval env=some (.st bs):=by
           split at hbm
           ·rename_i g h' args rs hbe'
            rw[hbe'] at hb
            obtain⟨st,d,h2,g0,g1,_,g3⟩:=hb
            have:=E.same_eq hbm
            subst this
            rw[hbe] at g0
            cases g0
            simp only[E.eval,g1,Option.bind_some,D.tget,g3 hna]
            rfl
           ·rename_i x h' args rs hbe'
            rw[hbe'] at hb
            obtain⟨st,d,h2,g0,g1,_,g3⟩:=hb
            have:=E.same_eq hbm
            subst this
            rw[hbe] at g0
            cases g0
            simp only[E.eval,g1,Option.bind_some,D.tget,g3 hna]
            rfl
           ·cases hbm
          have hrep:=h.setStore (x':=.tget 1 (.sym j)) hob hro hix hst (Keeps.refl _ _) (Sets.le_refl _) rfl ⟨rfl,Nat.le_refl _⟩ rfl (Nat.le_refl _) (fun _ _ _=>rfl) (fun b hb=>⟨.inl hb,foot_lt h hob b hb⟩) (fun b o hs=>.inl hs) h.cells
          exact⟨_,hrep.put (by rw[SState.tmps_setObj];exact hd) (.cond hdef (fun hh=>absurd hh ha) fun _=>rfl)⟩
        ·cases hcw
       ·cases he
  ·cases hs
 ·cases hs

theorem rstep_defer {ops:Array Oper}{o:Oper}{ix:Nat}{x:SState×Option Bind}(hs:rstep P ops o σ ix=some x):noDefer o=true:=by
 unfold rstep at hs
 split at hs
 ·split at hs
  ·rename_i hc
   simp only[Bool.and_eq_true] at hc
   exact dstOk_defer hc.1
  ·cases hs
 ·cases hs

theorem app_len (σ:SState)(dst:Option Tmp)(e:Eff):(σ.app dst e).tmps.length=σ.tmps.length∧(σ.app dst e).mem.length=σ.mem.length:=by
 unfold SState.app SState.dels SState.sets
 cases e.del <;> cases e.upd <;> cases dst <;> simp[SState.put_def,SState.tmps_setObj,SState.mlen_setObj]

theorem rstep_len {ops:Array Oper}{o:Oper}{ix:Nat}{σ':SState}{b:Option Bind}(hs:rstep P ops o σ ix=some (σ',b)):σ'.tmps.length=σ.tmps.length∧σ'.mem.length=σ.mem.length:=by
 unfold rstep at hs
 split at hs
 ·split at hs
  ·cases hs;exact app_len _ _ _
  ·cases hs
 ·cases hs

def BindsOk (P:Program)(env:List D)(ix:Nat)(bs:List Bind):Prop:=∀i b,bs[i]? = some b→BindOk P env (ix+i) (some b)

end
end
end Go.Am

/-
 A region whose order is drawn: whatever the order,the state in the end is that of the text's order.
-/
namespace Go.Am
noncomputable section

/-! ## what an operation looks at -/

section congr
variable {P:Program} {obj obj':Nat→Option SObj} {ix:Nat}

theorem cellsOf_congr {agg:Bool}{n:Nat}{x:SV}(h:∀ob,x.avoids ob=false→obj ob=obj' ob):x.cellsOf agg n ix obj=x.cellsOf agg n ix obj':=by
 unfold SV.cellsOf
 split
 ·rfl
 ·cases x <;> try rfl
  ·rename_i y s;cases s <;> rfl
  ·rename_i o
   simp only
   rw[h o (by simp[SV.avoids])]

theorem lload_congr {t:TypeId}{x:SV}(h:∀ob,x.avoids ob=false→obj ob=obj' ob)(hh:(∃e s,x=.e e s)→obj HID=obj' HID):lload P t x obj ix=lload P t x obj' ix:=by
 unfold lload hOf
 cases x <;> try rfl
 ·rw[hh ⟨_,_,rfl⟩]
 ·rename_i ob off
  simp only
  rw[h ob (by simp[SV.avoids])]
 ·rename_i ob i sz off
  simp only
  rw[h ob (by simp[SV.avoids])]

theorem lstore_congr {t:TypeId}{x y:SV}(h:∀ob,x.avoids ob=false→obj ob=obj' ob)(h':∀ob,y.avoids ob=false→obj ob=obj' ob)(hh:(∃e s,x=.e e s)→obj HID=obj' HID):lstore P t x y obj ix=lstore P t x y obj' ix:=by
 unfold lstore
 have hc:∀agg n,y.cellsOf agg n ix obj=y.cellsOf agg n ix obj':=fun agg n=>cellsOf_congr h'
 cases x <;> try rfl
 ·rw[hh ⟨_,_,rfl⟩]
 ·rename_i ob off
  simp only[hc]
  rw[h ob (by simp[SV.avoids])]
 ·rename_i ob i sz off
  simp only
  rw[h ob (by simp[SV.avoids])]

theorem lindexAddr_congr {t:TypeId}{x i:SV}(h:∀ob,x.avoids ob=false→obj ob=obj' ob):lindexAddr P t x i obj ix=lindexAddr P t x i obj' ix:=by
 unfold lindexAddr
 cases x <;> try rfl
 rename_i ob
 simp only
 rw[h ob (by simp[SV.avoids])]

theorem llen_congr {t:TypeId}{x:SV}(h:∀ob,x.avoids ob=false→obj ob=obj' ob):llen P t x obj ix=llen P t x obj' ix:=by
 unfold llen
 cases x <;> try rfl
 rename_i ob
 simp only
 rw[h ob (by simp[SV.avoids])]

theorem lbox_congr {t:TypeId}{x:SV}{dst:Option Tmp}(h:∀ob,x.avoids ob=false→obj ob=obj' ob):lbox P t x dst obj ix=lbox P t x dst obj' ix:=by
 unfold lbox
 split
 ·rw[cellsOf_congr h]
 ·rfl

theorem cfOf_some {obj:Nat→Option SObj}{cf:StCfg}(h:cfOf obj=some cf):∃x,obj HID=some (.store cf x):=by
 unfold cfOf at h
 split at h
 ·rename_i x hx
  cases h
  exact⟨_,hx⟩
 ·cases h

theorem lstep_congr {o:Oper} {opv opv':List (E×Bool)→Operand→SV} {act:List (E×Bool)} (hv:∀act x,x∈o.op.operands→opv' act x=opv act x)
  (ho:∀x ob,x∈o.op.operands→(opv act x).avoids ob=false→obj ob=obj' ob) {m:Operand→Bool} (hM:∀act x,x∈o.op.operands→(∃e s,opv act x=.e e s)→m x=true) (hF:∀act g,opv act (.func g)=.func (.func g) []) (hC:cfOf obj=cfOf obj') (hH:usesHr o m (cfOf obj)=true→obj HID=obj' HID):lstep P o opv' act obj' ix=lstep P o opv act obj ix:=by
 unfold lstep
 unfold usesHr at hH
 generalize hop:o.op=op at *
 cases op <;> try rfl
 all_goals try simp only[Op.operands] at hv ho hM
 case move x=>simp[hv]
 case assign x=>simp[hv]
 case pick c a b=>simp[hv]
 case box t x=>simp only;rw[hv act x (by simp),lbox_congr (fun ob h=>ho x ob (by simp) h)]
 case load t x=>simp only;rw[hv act x (by simp),lload_congr (fun ob h=>ho x ob (by simp) h) (fun he=>hH (hM act x (by simp) he))]
 case store t x y=>simp only;rw[hv act x (by simp),hv act y (by simp),lstore_congr (fun ob h=>ho x ob (by simp) h) (fun ob h=>ho y ob (by simp) h) (fun he=>hH (hM act x (by simp) he))]
 case nilCheck x=>simp[hv]
 case binOp=>simp[hv]
 case unOp=>simp[hv]
 case convert=>simp[hv]
 case fieldAddr=>simp[hv]
 case indexAddr t x i=>simp only;rw[hv act x (by simp),hv act i (by simp),lindexAddr_congr (fun ob h=>ho x ob (by simp) h)]
 case extract=>simp[hv]
 case call c=>
  obtain⟨callee,args,ts⟩:=c
  simp only
  have hargs:∀x,x∈args→x∈(Call.mk callee args ts).operands:=by
   intro x hx
   unfold Call.operands
   simp
   cases callee <;> simp[hx]
  split
  ·split
   ·rename_i x t hx ht
    have:x∈args:=by
     have:x∈args.toList:=by rw[hx];simp
     simpa using this
    rw[hv act x (hargs x this),llen_congr (fun ob h=>ho x ob (hargs x this) h)]
   ·rfl
  ·rename_i f
   have hf:f∈(Call.mk (.value f) args ts).operands:=by
    unfold Call.operands
    simp
   rw[hv act f hf]
   have:args.toList.map (opv' act)=args.toList.map (opv act):=List.map_congr_left fun x hx=>hv act x (hargs x (by simpa using hx))
   rw[this]
   cases hloc:locCall (cfOf obj) (.value f) with
   | false=>
    have hHH:=hH (by simp only[hloc];rfl)
    unfold lcall lcallv
    rw[hHH]
   | true=>
    unfold locCall at hloc
    split at hloc
    ·rename_i g hg
     cases hg
     split at hloc
     ·rename_i cf hcf
      rw[hF act g]
      simp only
      obtain⟨h1,e1⟩:=cfOf_some hcf
      obtain⟨h2,e2⟩:=cfOf_some (hC ▸ hcf)
      unfold lcall
      rw[e1,e2]
      split
      ·split
       ·rfl
       ·cases scalars P _ with
        | none=>rfl
        | some rs=>
         cases toEAll (List.map (opv act) args.toList) with
         | none=>rfl
         | some xs=>simp only[hloc,if_true]
      ·rfl
     ·cases hloc
    ·cases hloc
  ·rfl
 case build t parts=>
  simp only
  have h1:parts.toList.map (fun p=>(p.1,oneSV obj' (opv' act p.2)))=parts.toList.map fun p=>(p.1,oneSV obj (opv act p.2)):=List.map_congr_left fun p hp=>by
   have hm:p.2∈(parts.toList.map (·.2)).toArray:=by simp;exact⟨p.1,by simpa using hp⟩
   rw[hv act p.2 hm]
   congr 1
   unfold oneSV
   split <;> try rfl
   rename_i k hk
   rw[ho p.2 k hm (by rw[hk];simp[SV.avoids])]
  unfold lbuildS
  rw[h1]
 case makeFunc fn first caps=>
  simp only
  have h1:first.toList.map (opv' act)=first.toList.map (opv act):=List.map_congr_left fun x hx=>hv act x (by simp;exact .inl (by simpa using hx))
  have h2:caps.toList.map (opv' act)=caps.toList.map (opv act):=List.map_congr_left fun x hx=>hv act x (by simp;exact .inr (by simpa using hx))
  rw[h1,h2]

theorem lappend_congr {t:TypeId}{s x:SV}{dst:Option Tmp}(h:∀ob,s.avoids ob=false→obj ob=obj' ob):lappend P t s x dst obj ix=lappend P t s x dst obj' ix:=by
 unfold lappend
 split
 ·rename_i k _
  rw[h k (by simp[SV.avoids])]
 ·rfl

theorem lnew_congr {nz:Bool}{o:Oper}{opv opv':Operand→SV}(hv:∀x,x∈o.op.operands→opv' x=opv x)(ho:∀x ob,x∈o.op.operands→(opv x).avoids ob=false→obj ob=obj' ob):lnew nz P o opv' obj' ix=lnew nz P o opv obj ix:=by
 unfold lnew
 generalize hop:o.op=op at *
 cases op <;> try rfl
 case buildSlice t len parts=>
  simp only
  have:parts.toList.map (fun p=>opv' p.2)=parts.toList.map fun p=>opv p.2:=List.map_congr_left fun p hp=>hv p.2 (by simp only[Op.operands,List.mem_toArray,List.mem_map];exact⟨p,hp,rfl⟩)
  unfold llit
  rw[this]
 case makeSlice t n c=>simp only;rw[hv n (by simp[Op.operands]),hv c (by simp[Op.operands])]
 case call c=>
  obtain⟨callee,args,ts⟩:=c
  simp only[Op.operands] at hv ho ⊢
  have hargs:∀x,x∈args→x∈(Call.mk callee args ts).operands:=by
   intro x hx
   unfold Call.operands
   simp
   cases callee <;> simp[hx]
  split
  ·split
   ·rename_i s x t t' hx ht
    have h1:s∈args:=by
     have:s∈args.toList:=by rw[hx];simp
     simpa using this
    have h2:x∈args:=by
     have:x∈args.toList:=by rw[hx];simp
     simpa using this
    rw[hv s (hargs s h1),hv x (hargs x h2),lappend_congr (fun ob h=>ho s ob (hargs s h1) h)]
   ·rfl
  ·rfl

theorem nilsOf_congr (hC:cfOf obj=cfOf obj'):nilsOf obj'=nilsOf obj:=by unfold nilsOf;rw[hC]

theorem lpure2_congr {nz:Bool}{o:Oper}{opv opv':Operand→SV}(hv:∀x,x∈o.op.operands→opv' x=opv x):lpure2 P nz o opv' ix=lpure2 P nz o opv ix:=by
 unfold lpure2
 split
 ·rename_i t parts ho
  have:parts.toList.map (fun p=>(p.1,opv' p.2))=parts.toList.map fun p=>(p.1,opv p.2):=List.map_congr_left fun p hp=>by
   rw[hv p.2 (by rw[ho];simp only[Op.operands,List.mem_toArray,List.mem_map];exact⟨p,hp,rfl⟩)]
  unfold lbuild
  rw[this]
 ·exact lpure_congr hv

theorem ldat_congr {o:Oper}{opv opv':Operand→SV}{act:List (E×Bool)}(hv:∀x,x∈o.op.operands→opv' x=opv x)(hC:cfOf obj=cfOf obj'):ldat P o opv' act obj' ix=ldat P o opv act obj ix:=by
 unfold ldat
 generalize hop:o.op=op at *
 cases op <;> try (simp;done)
 case box t x=>
  have h2:=hv x (by simp[Op.operands])
  simp only[isDat,hC,h2]
 case buildSlice t len parts=>
  have:parts.toList.map (fun p=>opv' p.2)=parts.toList.map fun p=>opv p.2:=List.map_congr_left fun p hp=>hv p.2 (by simp only[Op.operands,List.mem_toArray,List.mem_map];exact⟨p,hp,rfl⟩)
  simp only[isDat,hC,llit,this]

theorem cfOf_eq (obj:Nat→Option SObj):cfOf obj=cfO (obj HID):=by
 unfold cfOf cfO
 split <;> rfl

theorem lpubC_congr {o:Oper}{opv opv':Operand→SV}{hO:Option SObj}(hv:∀x,x∈o.op.operands→opv' x=opv x):lpubC P o opv' hO ix=lpubC P o opv hO ix:=by
 unfold lpubC
 generalize hop:o.op=op at *
 cases op <;> try rfl
 case box t x=>simp only[hv x (by simp[Op.operands])]
 case makeSlice t n c=>simp only[hv n (by simp[Op.operands]),hv c (by simp[Op.operands])]
 case call c=>
  obtain⟨callee,args,ts⟩:=c
  have hargs:∀x,x∈args.toList→opv' x=opv x:=fun x hx=>hv x (by
   have:x∈args:=by simpa using hx
   simp only[Op.operands,Call.operands]
   simp
   cases callee <;> simp[this])
  simp only
  split
  ·split
   ·rfl
   ·split
    ·split
     ·rename_i s x t t' hx _
      rw[hargs s (by rw[hx];simp),hargs x (by rw[hx];simp)]
     ·rfl
    ·rfl
  ·rfl

theorem lpubC_store {o:Oper}{opv:Operand→SV}{hO hO':Option SObj}{m:Operand→Bool}(hC:cfO hO=cfO hO')(hM:∀x,x∈o.op.operands→(∃e s,opv x=.e e s)→m x=true)(hH:usesHr o m (cfO hO)=true→hO=hO'):lpubC P o opv hO' ix=lpubC P o opv hO ix:=by
 have other:∀{hO:Option SObj},cfO hO=none→lpubC P o opv hO ix=none:=by
  intro hO h
  unfold lpubC
  split
  ·simp[cfO] at h
  ·rfl
 cases hc:cfO hO with
 | none=>rw[other hc,other (hC ▸ hc)]
 | some cf=>
  obtain⟨h1,rfl⟩:∃h1,hO=some (.store cf h1):=by
   unfold cfO at hc
   split at hc
   ·cases hc;exact⟨_,rfl⟩
   ·cases hc
  obtain⟨h2,rfl⟩:∃h2,hO'=some (.store cf h2):=by
   rw[hc] at hC
   unfold cfO at hC
   split at hC
   ·cases hC;exact⟨_,rfl⟩
   ·cases hC
  simp only[cfO] at hH
  unfold lpubC
  unfold usesHr at hH
  generalize hop:o.op=op at *
  cases hd:o.dst with
  | none=>rfl
  | some d=>
   rw[hd] at hH
   have pub:∀{α:Type} {A B:Option α},(cf.pubs.contains d=true→(some (SObj.store cf h1)=some (SObj.store cf h2)))→(h1=h2→A=B)→(if cf.pubs.contains d=true then A else none)=(if cf.pubs.contains d=true then B else none):=by
    intro α A B h3 h4
    split
    ·rename_i hp
     have:=h3 hp
     simp only[Option.some.injEq,SObj.store.injEq,true_and] at this
     exact h4 this
    ·rfl
   by_cases hro:cf.ro=true
   ·simp only[hro,if_true]
   simp only[hro]
   cases op <;> try rfl
   case alloc t=>exact pub hH fun e=>by subst e;rfl
   case box t x=>exact pub hH fun e=>by subst e;rfl
   case makeSlice t n c=>exact pub hH fun e=>by subst e;rfl
   case call c=>
    obtain⟨callee,args,ts⟩:=c
    cases callee <;> try rfl
    rename_i b
    cases b <;> try rfl
    simp only at hH ⊢
    have key:∀s r,args.toList=s :: r→(∃e q,nilS s (opv s)=.e e q)→h1=h2:=by
     intro s r hx he
     have hm:(m s||nilOp s)=true:=by
      by_cases hn:nilOp s=true
      ·simp[hn]
      ·rw[nilS,if_neg hn] at he
       rw[hM s (by
        have:s∈args:=by
         have:s∈args.toList:=by rw[hx];simp
         simpa using this
        simp only[Op.operands,Call.operands]
        simp[this]) he]
       rfl
     rw[hx] at hH
     have:=hH hm
     simpa using this
    clear hH
    cases hx:args.toList with
    | nil=>rfl
    | cons s r=>
     have key:=key s r hx
     cases hs:nilS s (opv s) with
     | e e q=>
      have:=key ⟨_,_,hs⟩
      subst this
      rfl
     | _=>
      cases r with
      | nil=>rfl
      | cons x r=>
       cases r with
       | cons _ _=>rfl
       | nil=>
        cases ht:ts.toList with
        | nil=>rfl
        | cons t q=>
         cases q with
         | nil=>rfl
         | cons t' q=>
          cases q with
          | cons _ _=>rfl
          | nil=>simp only[hs]

theorem lpub_congr {o:Oper}{opv opv':Operand→SV}(hv:∀x,x∈o.op.operands→opv' x=opv x){m:Operand→Bool}(hM:∀x,x∈o.op.operands→(∃e s,opv x=.e e s)→m x=true)(hC:cfOf obj=cfOf obj')(hH:usesHr o m (cfOf obj)=true→obj HID=obj' HID):lpub P o opv' obj' ix=lpub P o opv obj ix:=by
 unfold lpub
 split
 ·rw[lpubC_congr hv]
  rw[cfOf_eq,cfOf_eq] at hC
  rw[cfOf_eq] at hH
  exact lpubC_store hC hM hH
 ·rfl

theorem lmap_congr {o:Oper}{opv opv':Operand→SV}(hv:∀x,x∈o.op.operands→opv' x=opv x){m:Operand→Bool}(hC:cfOf obj=cfOf obj')(hH:usesHr o m (cfOf obj)=true→obj HID=obj' HID):lmap P o opv' obj' ix=lmap P o opv obj ix:=by
 unfold lmap
 split
 ·rename_i h
  have none2:∀{hO hO':Option SObj},cfO hO=cfO hO'→(∀cf h,hO=some (.store cf h)→∀h',lmapC P o opv' (some (.store cf h')) ix=lmapC P o opv (some (.store cf h)) ix)→lmapC P o opv' hO' ix=lmapC P o opv hO ix:=by
   intro hO hO' hc hs
   cases hcf:cfO hO with
   | none=>
    have other:∀{opv:Operand→SV} {hO:Option SObj},cfO hO=none→lmapC P o opv hO ix=none:=by
     intro opv hO h
     unfold lmapC
     split
     ·simp[cfO] at h
     ·rfl
    rw[other hcf,other (hc ▸ hcf)]
   | some cf=>
    obtain⟨h1,rfl⟩:∃h1,hO=some (.store cf h1):=by
     unfold cfO at hcf
     split at hcf
     ·cases hcf;exact⟨_,rfl⟩
     ·cases hcf
    obtain⟨h2,rfl⟩:∃h2,hO'=some (.store cf h2):=by
     rw[hcf] at hc
     unfold cfO at hc
     split at hc
     ·cases hc;exact⟨_,rfl⟩
     ·cases hc
    exact hs cf h1 rfl h2
  have same:usesHr o m (cfOf obj)=true→lmapC P o opv' (obj' HID) ix=lmapC P o opv (obj HID) ix:=by
   intro hu
   rw[hH hu]
   unfold lmapC
   generalize hop:o.op=op at *
   cases op <;> try rfl
   case mapUpdate t m k x=>simp only[hv m (by simp[Op.operands]),hv k (by simp[Op.operands]),hv x (by simp[Op.operands])]
   case insert t m k x=>simp only[hv m (by simp[Op.operands]),hv k (by simp[Op.operands]),hv x (by simp[Op.operands])]
   case makeMap t r=>cases r <;> rfl
   case lookup t m k ok=>simp only[hv m (by simp[Op.operands]),hv k (by simp[Op.operands])]
   case range t m=>simp only[hv m (by simp[Op.operands])]
   case entry it=>simp only[hv it (by simp[Op.operands])]
   case mapEntry t m k=>simp only[hv m (by simp[Op.operands]),hv k (by simp[Op.operands])]
   case entryStore t m s x=>simp only[hv m (by simp[Op.operands]),hv s (by simp[Op.operands]),hv x (by simp[Op.operands])]
   case call c=>
    obtain⟨callee,args,ts⟩:=c
    cases callee <;> try rfl
    rename_i b
    cases b <;> try rfl
    simp only
    match hx:args.toList with
    | [x]=>
     have hvx:=hv x (by
      have:x∈args:=by
       have:x∈args.toList:=by rw[hx];simp
       simpa using this
      simp only[Op.operands,Call.operands]
      simp[this])
     match ts.toList with
     | [t]=>simp only[hvx]
     | []=>rfl
     | _ :: _ :: _=>rfl
    | []=>rfl
    | _ :: _ :: _=>rfl
  rw[cfOf_eq,cfOf_eq] at hC
  cases hop:o.op
  case makeMap=>exact same (by unfold usesHr;rw[hop])
  case mapUpdate=>exact same (by unfold usesHr;rw[hop])
  case insert=>exact same (by unfold usesHr;rw[hop])
  case lookup=>exact same (by unfold usesHr;rw[hop])
  case range=>exact same (by unfold usesHr;rw[hop])
  case entry=>exact same (by unfold usesHr;rw[hop])
  case mapEntry=>exact same (by unfold usesHr;rw[hop])
  case entryStore=>exact same (by unfold usesHr;rw[hop])
  case call c=>
   by_cases hu:usesHr o m (cfOf obj)=true
   ·exact same hu
   ·refine none2 hC fun cf' h e h'=>?_
    unfold usesHr at hu
    rw[hop,cfOf_eq,e] at hu
    have off:∀{opv:Operand→SV} {h:E},lmapC P o opv (some (.store cf' h)) ix=none:=by
     intro opv h
     unfold lmapC
     rw[hop]
     simp only
     split
     ·rename_i hb
      simp only[hb,cfO,Bool.not_eq_true] at hu
      split
      ·rename_i x t _ ht
       rw[ht] at hu
       simp only[List.any_cons,List.any_nil,Bool.or_false] at hu
       rw[if_neg (by rw[hu];simp)]
      ·rfl
     ·rfl
    rw[off,off]
  all_goals exact none2 hC fun cf h _ h'=>by unfold lmapC;rw[hop]
 ·rfl

theorem estep_congr {o:Oper} {opv opv':List (E×Bool)→Operand→SV} {act:List (E×Bool)} (hv:∀act x,x∈o.op.operands→opv' act x=opv act x)
  (ho:∀act x ob,x∈o.op.operands→(opv act x).avoids ob=false→obj ob=obj' ob) {m:Operand→Bool} (hM:∀act x,x∈o.op.operands→(∃e s,opv act x=.e e s)→m x=true) (hF:∀act g,opv act (.func g)=.func (.func g) []) (hC:cfOf obj=cfOf obj') (hH:usesHr o m (cfOf obj)=true→obj HID=obj' HID):estep P o opv' act obj' ix=estep P o opv act obj ix:=by
 unfold estep
 rw[ldat_congr (hv act) hC,lpub_congr (hv []) (hM []) hC hH,lmap_congr (hv act) hC hH,nilsOf_congr hC,lnew_congr (hv []) (ho []),lpure2_congr (hv act),lstep_congr hv (ho act) hM hF hC hH]

end congr

end
end Go.Am

/-
 A region whose order is drawn: states by the set of what is done.
-/
namespace Go.Am
noncomputable section

structure Rec where
 eff:Eff
 seen:List SV
 ix:Nat
 deriving Inhabited

def dstAt (ops:Array Oper)(j:Nat):Option Tmp:=(ops[j]?).bind (·.dst)
def effAt (R:List Rec)(j:Nat):Eff:=((R[j]?).map (·.eff)).getD ⟨.junk,none,none,none⟩

def Eff.targets (e:Eff):List Nat:=(match e.upd with | some u=>[u.1] | none=>[])++(match e.del with | some k=>[k] | none=>[])

def runTo (ops:Array Oper)(R:List Rec)(D:Nat→Bool)(σ:SState):Nat→SState
 | 0=>σ
 | n+1=>if D n=true then(runTo ops R D σ n).app (dstAt ops n) (effAt R n) else runTo ops R D σ n

def seenOf (ops:Array Oper)(o:Oper)(σ:SState):List SV:=(o.looksAt ops).map σ.tmp++(if usesHr o (fun x=>(σ.opd x).mayE) (cfOf σ.obj) then[.slc HID] else[])

def drun (P:Program)(ops:Array Oper):List Oper→SState→Nat→Option (SState×List Bind×List Rec)
 | [],σ,_=>some (σ,[],[])
 | o :: r,σ,ix=>match reff P ops o σ ix with
  | none=>none
  | some e=>match e.bind with
   | none=>(drun P ops r (σ.app o.dst e) ix).map fun x=>(x.1,x.2.1,⟨e,seenOf ops o σ,ix⟩ :: x.2.2)
   | some b=>(drun P ops r (σ.app o.dst e) (ix+1)).map fun x=>(x.1,b :: x.2.1,⟨e,seenOf ops o σ,ix⟩ :: x.2.2)

/-! ## states -/

theorem runTo_len (ops:Array Oper)(R:List Rec)(D:Nat→Bool)(σ:SState):∀n,(runTo ops R D σ n).tmps.length=σ.tmps.length∧(runTo ops R D σ n).mem.length=σ.mem.length
 | 0=>⟨rfl,rfl⟩
 | n+1=>by
  have h:=runTo_len ops R D σ n
  unfold runTo
  split
  ·have:=app_len (runTo ops R D σ n) (dstAt ops n) (effAt R n)
   exact⟨this.1.trans h.1,this.2.trans h.2⟩
  ·exact h

theorem tmp_put_ne {σ:SState}{dst:Option Tmp}{sv:SV}{t:Nat}(h:dst≠some t):(σ.put dst sv).tmp t=σ.tmp t:=by
 cases dst with
 | none=>rfl
 | some d=>
  have:d≠t:=fun e=>h (by rw[e])
  simp[SState.put_def,SState.tmp_def,List.getD_eq_getElem?_getD,this]

theorem tmp_put_eq {σ:SState}{sv:SV}{t:Nat}:(σ.put (some t) sv).tmp t=if t<σ.tmps.length then sv else .junk:=by
 simp only[SState.put_def,SState.tmp_def,List.getD_eq_getElem?_getD,List.getElem?_set]
 simp only[if_true]
 split <;> rfl

theorem dels_tmp (σ:SState)(k:Option Nat)(t:Nat):(σ.dels k).tmp t=σ.tmp t:=by cases k;rfl;exact σ.tmp_setObj _ _ t
theorem sets_tmp (σ:SState)(u:Option (Nat×SObj))(t:Nat):(σ.sets u).tmp t=σ.tmp t:=by cases u;rfl;exact σ.tmp_setObj _ _ t
theorem dels_tmps (σ:SState)(k:Option Nat):(σ.dels k).tmps=σ.tmps:=by cases k;rfl;exact σ.tmps_setObj _ _
theorem sets_tmps (σ:SState)(u:Option (Nat×SObj)):(σ.sets u).tmps=σ.tmps:=by cases u;rfl;exact σ.tmps_setObj _ _

theorem app_tmp_ne {σ:SState}{dst:Option Tmp}{e:Eff}{t:Nat}(h:dst≠some t):(σ.app dst e).tmp t=σ.tmp t:=by
 unfold SState.app
 rw[tmp_put_ne h,sets_tmp,dels_tmp]

theorem app_tmp_eq {σ:SState}{e:Eff}{t:Nat}:(σ.app (some t) e).tmp t=if t<σ.tmps.length then e.val else .junk:=by
 unfold SState.app
 rw[tmp_put_eq,sets_tmps,dels_tmps]

theorem obj_setObj_ne {σ:SState}{o o':Nat}{x:Option SObj}(h:o≠o'):(σ.setObj o x).obj o'=σ.obj o':=σ.obj_setObj_ne x (Ne.symm h)

theorem obj_setObj_eq {σ:SState}{o:Nat}{x:Option SObj}:(σ.setObj o x).obj o=if o=HID∨o<σ.mem.length then x else none:=by
 split
 ·rename_i h;rw[SState.obj_setObj' h,if_pos rfl]
 ·rename_i h
  rw[not_or] at h
  simp only[SState.setObj_def,SState.obj_def]
  simp only[h.1,if_false,List.getD_eq_getElem?_getD]
  rw[List.getElem?_eq_none (by simpa using h.2)]
  rfl

theorem setObj_len (σ:SState)(o:Nat)(x:Option SObj):(σ.setObj o x).mem.length=σ.mem.length:=σ.mlen_setObj o x
theorem dels_len (σ:SState)(k:Option Nat):(σ.dels k).mem.length=σ.mem.length:=by cases k <;> simp[SState.dels,SState.mlen_setObj]

theorem app_obj_ne {σ:SState}{dst:Option Tmp}{e:Eff}{ob:Nat}(h:ob∉e.targets):(σ.app dst e).obj ob=σ.obj ob:=by
 unfold SState.app
 rw[SState.obj_put]
 unfold Eff.targets at h
 cases hu:e.upd with
 | none=>
  cases hk:e.del with
  | none=>rfl
  | some k=>
   rw[hu,hk] at h
   simp only[SState.sets,SState.dels]
   exact obj_setObj_ne fun e=>h (by simp[e])
 | some u=>
  rw[hu] at h
  simp only[SState.sets]
  rw[obj_setObj_ne fun e=>h (by simp[e])]
  cases hk:e.del with
  | none=>rfl
  | some k=>
   rw[hk] at h
   simp only[SState.dels]
   exact obj_setObj_ne fun e=>h (by simp[e])

theorem app_obj_eq {σ τ:SState}{dst:Option Tmp}{e:Eff}{ob:Nat}(h:ob∈e.targets)(hl:σ.mem.length=τ.mem.length):(σ.app dst e).obj ob=(τ.app dst e).obj ob:=by
 unfold SState.app
 rw[SState.obj_put,SState.obj_put]
 unfold Eff.targets at h
 have hdel:∀(e':Eff),e'.del=e.del→(∃k,e.del=some k∧k=ob)→(σ.dels e.del).obj ob=(τ.dels e.del).obj ob:=by
  rintro _ _ ⟨k,hk,rfl⟩
  rw[hk]
  simp only[SState.dels]
  rw[obj_setObj_eq,obj_setObj_eq,hl]
 cases hu:e.upd with
 | none=>
  rw[hu] at h
  cases hk:e.del with
  | none=>rw[hk] at h;simp at h
  | some k=>
   rw[hk] at h
   simp only[SState.sets]
   have:=hdel e rfl ⟨k,hk,by simp at h;exact h.symm⟩
   rwa [hk] at this
 | some u=>
  rw[hu] at h
  simp only[SState.sets]
  by_cases hob:u.1=ob
  ·subst hob
   rw[obj_setObj_eq,obj_setObj_eq,dels_len,dels_len,hl]
  ·rw[obj_setObj_ne hob,obj_setObj_ne hob]
   cases hk:e.del with
   | none=>rw[hk] at h;simp at h;exact absurd h.symm hob
   | some k=>
    rw[hk] at h
    have:=hdel e rfl ⟨k,hk,by simp at h;exact(h.resolve_left fun e=>hob e.symm).symm⟩
    rwa [hk] at this

section
variable {ops:Array Oper} {R:List Rec} {D D':Nat→Bool} {σ:SState}

theorem runTo_tmp {t:Nat}:∀n,(∀j,j<n→dstAt ops j=some t→D j=D' j)→(runTo ops R D σ n).tmp t=(runTo ops R D' σ n).tmp t
 | 0,_=>rfl
 | n+1,h=>by
  have ih:=runTo_tmp n fun j hj=>h j (by omega)
  unfold runTo
  by_cases hd:dstAt ops n=some t
  ·rw[←h n (by omega) hd]
   split
   ·rw[hd,app_tmp_eq,app_tmp_eq,(runTo_len ..).1,(runTo_len ..).1]
   ·exact ih
  ·split <;> split <;> (try simp only[app_tmp_ne hd]) <;> exact ih

theorem runTo_obj {ob:Nat}:∀n,(∀j,j<n→ob∈(effAt R j).targets→D j=D' j)→(runTo ops R D σ n).obj ob=(runTo ops R D' σ n).obj ob
 | 0,_=>rfl
 | n+1,h=>by
  have ih:=runTo_obj n fun j hj=>h j (by omega)
  unfold runTo
  by_cases hd:ob∈(effAt R n).targets
  ·rw[←h n (by omega) hd]
   split
   ·exact app_obj_eq hd (by rw[(runTo_len ..).2,(runTo_len ..).2])
   ·exact ih
  ·split <;> split <;> (try simp only[app_obj_ne hd]) <;> exact ih

theorem runTo_congr:∀n,(∀j,j<n→D j=D' j)→runTo ops R D σ n=runTo ops R D' σ n
 | 0,_=>rfl
 | n+1,h=>by
  unfold runTo
  rw[runTo_congr n fun j hj=>h j (by omega),h n (by omega)]

theorem runTo_below {i : Nat} : ∀ n, i ≤ n → (∀ j, j < n → i ≤ j → D j = false) → runTo ops R D σ n = runTo ops R D σ i
  | 0, h, _ => by have : i = 0 := by omega
                  subst this; rfl
  | n + 1, h, hD => by
    rcases Nat.lt_or_ge i (n + 1) with hlt | hge
    · unfold runTo
      rw [hD n (by omega) (by omega)]
      simp only [Bool.false_eq_true, if_false]
      rw [runTo_below n (by omega) fun j hj => hD j (by omega)]
      cases i <;> rfl
    · have : i = n + 1 := by omega
      subst this; rfl

theorem runTo_tmp_at {i n t:Nat}(hi:i≤n)(h:∀j,j<n→dstAt ops j=some t→D j=decide (j<i)):(runTo ops R D σ n).tmp t=(runTo ops R (fun _=>true) σ i).tmp t:=by
 rw[runTo_tmp (D':=fun j=>decide (j<i)) n h,runTo_below n hi (fun j _ hj=>by simp;omega),runTo_congr (D':=fun _=>true) i (fun j hj=>by simp[hj])]

theorem runTo_obj_at {i n ob:Nat}(hi:i≤n)(h:∀j,j<n→ob∈(effAt R j).targets→D j=decide (j<i)):(runTo ops R D σ n).obj ob=(runTo ops R (fun _=>true) σ i).obj ob:=by
 rw[runTo_obj (D':=fun j=>decide (j<i)) n h,runTo_below n hi (fun j _ hj=>by simp;omega),runTo_congr (D':=fun _=>true) i (fun j hj=>by simp[hj])]

theorem setObj_comm (σ:SState){o o':Nat}(x y:Option SObj)(h:o≠o'):(σ.setObj o x).setObj o' y=(σ.setObj o' y).setObj o x:=by
 simp only[SState.setObj_def]
 by_cases h1:o=HID <;> by_cases h2:o'=HID
 ·exact absurd (h1.trans h2.symm) h
 ·simp[h1,h2]
 ·simp[h1,h2]
 ·simp only[h1,h2,if_false]
  rw[List.set_comm _ _ h]

theorem put_comm (σ:SState){d d':Option Tmp}(x y:SV)(h:∀t,d=some t→d'≠some t):(σ.put d x).put d' y=(σ.put d' y).put d x:=by
 cases d with
 | none=>rfl
 | some t=>cases d' with
  | none=>rfl
  | some t'=>
   have:t≠t':=fun e=>h t rfl (by rw[e])
   simp[SState.put_def,List.set_comm _ _ this]

theorem put_setObj (σ:SState)(d:Option Tmp)(x:SV)(o:Nat)(y:Option SObj):(σ.put d x).setObj o y=(σ.setObj o y).put d x:=by
 simp only[SState.setObj_def]
 cases d <;> simp only[SState.put_def] <;> split <;> rfl

def setsL (σ:SState)(l:List (Nat×Option SObj)):SState:=l.foldl (fun σ u=>σ.setObj u.1 u.2) σ

theorem setsL_setObj {o:Nat}{x:Option SObj}:∀{l:List (Nat×Option SObj)} {σ:SState},(∀u,u∈l→u.1≠o)→(setsL σ l).setObj o x=setsL (σ.setObj o x) l
 | [],_,_=>rfl
 | u :: l,σ,h=>by
  have:=setsL_setObj (o:=o) (x:=x) (l:=l) (σ:=σ.setObj u.1 u.2) fun v hv=>h v (by simp[hv])
  simp only[setsL,List.foldl_cons] at this ⊢
  rw[this,setObj_comm _ _ _ (h u (by simp))]

theorem setsL_comm:∀{l l':List (Nat×Option SObj)} {σ:SState},(∀u u',u∈l→u'∈l'→u.1≠u'.1)→setsL (setsL σ l) l'=setsL (setsL σ l') l
 | l,[],_,_=>rfl
 | l,u :: l',σ,h=>by
  have h1:setsL (setsL σ l) (u :: l')=setsL ((setsL σ l).setObj u.1 u.2) l':=rfl
  have h2:setsL σ (u :: l')=setsL (σ.setObj u.1 u.2) l':=rfl
  rw[h1,h2,setsL_setObj fun v hv=>h v u hv (by simp),setsL_comm fun v v' hv hv'=>h v v' hv (by simp[hv'])]

def Eff.list (e:Eff):List (Nat×Option SObj):=(match e.del with | some k=>[(k,none)] | none=>[])++(match e.upd with | some u=>[(u.1,some u.2)] | none=>[])

theorem app_list (σ:SState)(dst:Option Tmp)(e:Eff):σ.app dst e=(setsL σ e.list).put dst e.val:=by
 unfold SState.app Eff.list
 cases e.del <;> cases e.upd <;> rfl

theorem list_targets {e:Eff}{u:Nat×Option SObj}(h:u∈e.list):u.1∈e.targets:=by
 unfold Eff.list at h
 unfold Eff.targets
 cases hd:e.del <;> cases hu:e.upd <;> rw[hd,hu] at h <;> simp at h ⊢
 ·rw[h]
 ·rw[h]
 ·rcases h with h | h <;> rw[h] <;> simp

theorem setsL_put (d:Option Tmp)(x:SV):∀(l:List (Nat×Option SObj)) (σ:SState),setsL (σ.put d x) l=(setsL σ l).put d x
 | [],_=>rfl
 | u :: l,σ=>by
  have:=setsL_put d x l (σ.setObj u.1 u.2)
  simp only[setsL,List.foldl_cons] at this ⊢
  rw[put_setObj,this]

theorem app_comm (σ:SState){d d':Option Tmp}{e e':Eff}(hd:∀t,d=some t→d'≠some t)(hu:∀ob,ob∈e.targets→ob∉e'.targets):(σ.app d e).app d' e'=(σ.app d' e').app d e:=by
 rw[app_list,app_list,app_list,app_list,setsL_put,setsL_put,put_comm _ _ _ hd,setsL_comm fun u u' h1 h2 h3=>hu u.1 (list_targets h1) (h3 ▸ list_targets h2)]

theorem runTo_add {i:Nat}(hi:D i=false):∀n,i<n→(∀j,j<n→i<j→D j=true→(∀t,dstAt ops i=some t→dstAt ops j≠some t)∧∀ob,ob∈(effAt R i).targets→ob∉(effAt R j).targets) →
  runTo ops R (fun j=>D j||j==i) σ n=(runTo ops R D σ n).app (dstAt ops i) (effAt R i)
 | 0,h,_=>by omega
 | n+1,h,hc=>by
  unfold runTo
  rcases Nat.lt_or_ge i n with hlt | hge
  ·have ih:=runTo_add hi n hlt fun j hj=>hc j (by omega)
   have hne:(n==i)=false:=by simp;omega
   rw[ih]
   simp only[hne,Bool.or_false]
   split
   ·rename_i hD
    obtain⟨h1,h2⟩:=hc n (by omega) hlt hD
    exact app_comm _ h1 h2
   ·rfl
  ·have:n=i:=by omega
   subst this
   simp only[hi,BEq.rfl,Bool.or_true,if_true,Bool.false_eq_true,if_false]
   rw[runTo_congr (D':=D) n fun j hj=>by simp;omega]

end

end
end Go.Am

/-
 A region whose order is drawn: the check,and what it shows.
-/
namespace Go.Am
noncomputable section

def Rec.touches (r:Rec)(ob:Nat):Bool:=
 r.seen.any (fun sv=>!sv.avoids ob)||!r.eff.val.avoids ob||r.eff.targets.contains ob||(match r.eff.upd with | some u=>!u.2.avoids ob | none=>false)

def conf (ops:Array Oper)(oj oi:Oper)(rj ri:Rec):Bool:=
 !oj.apart ops oi||rj.eff.targets.any ri.touches||ri.eff.targets.any rj.touches

def maskOf (ms:List Nat)(o:Oper):Nat:=o.after.toList.foldl (fun s e=>if Region.binds .any e=true then s ||| 2 ^ e.on ||| ms.getD e.on 0 else s) 0

def masks:List Oper→List Nat→List Nat
 | [],ms=>ms
 | o :: r,ms=>masks r (ms++[maskOf ms o])

def Rec.reader (r:Rec):Bool:=r.eff.upd.isNone&&r.eff.del.isNone

def Rec.storer (r:Rec):Bool:=match r.eff.targets with | [k]=>decide (k=HID) | _=>false

def softP (ops:Array Oper)(oj oi:Oper)(rj ri:Rec):Bool:=oj.apart ops oi&&((rj.reader&&ri.storer)||(ri.reader&&rj.storer))

def pairOk (ops:Array Oper)(m:Nat)(oi:Oper)(ri:Rec)(j:Nat)(oj:Oper)(rj:Rec):Bool:=
 (!conf ops oj oi rj ri||m.testBit j||softP ops oj oi rj ri)&&(!isNew oi||match ri.eff.upd with | some u=>decide (u.1=HID)||!rj.touches u.1 | none=>true)

def opOk (ops:Array Oper)(R:List Rec)(σ:SState)(m i:Nat):Bool:=
 match ops[i]?,R[i]? with
 | some oi,some ri=>oi.after.all (fun e=>!Region.binds .any e||decide (e.on<i))&&dstOk σ oi &&
   (!isNew oi||match ri.eff.upd with | some u=>decide (u.1=HID)||((σ.obj u.1).isNone&&σ.avoidsB u.1) | none=>true) &&
   (List.range i).all fun j=>match ops[j]?,R[j]? with
    | some oj,some rj=>pairOk ops m oi ri j oj rj
    | _,_=>true
 | _,_=>false

def cfKept (R:List Rec)(σ:SState):Bool:=
 R.all fun r=>decide (r.eff.del≠some HID)&&match r.eff.upd with
  | some u=>decide (u.1=HID→cfO (some u.2)=cfOf σ.obj)
  | none=>true

def orderOk (ops:Array Oper)(R:List Rec)(σ:SState):Bool:=cfKept R σ &&
 (List.range ops.size).all fun i=>opOk ops R σ ((masks ops.toList []).getD i 0) i

def softs (ops:Array Oper)(R:List Rec)(ms:List Nat)(i:Nat):List Nat:=
 (List.range ops.size).filter fun j=>(match R[j]? with | some rj=>rj.storer | none=>false)&&!(decide (j<i)&&(ms.getD i 0).testBit j)&&!(decide (i<j)&&(ms.getD j 0).testBit i)&&decide (j≠i)

def altObj (ops:Array Oper)(R:List Rec)(σ:SState)(i j:Nat):Option SObj:=(runTo ops R (fun k=>decide (k<i) != (k==j)) σ ops.size).obj HID

def altOk (P:Program)(ops:Array Oper)(R:List Rec)(σ:SState)(ms:List Nat)(i:Nat):Option (List E):=
 match ops[i]?,R[i]? with
 | some o,some r=>if r.reader&&r.touches HID then(match softs ops R ms i with
   | []=>some []
   | [j]=>(match reff P ops o ((runTo ops R (fun _=>true) σ i).setObj HID (altObj ops R σ i j)) r.ix with
    | some e=>if e.val.same r.eff.val&&e.upd.isNone&&e.del.isNone then(match e.bind,r.eff.bind with
      | some (.ev b),some (.ev a)=>some [.m4 .same a b .nil .nil]
      | none,none=>some []
      | _,_=>none) else none
    | none=>none)
   | _=>none) else some []
 | _,_=>none

def extrasTo (P:Program)(ops:Array Oper)(R:List Rec)(σ:SState)(ms:List Nat):Nat→Option (List E)
 | 0=>some []
 | n+1=>(extrasTo P ops R σ ms n).bind fun xs=>(altOk P ops R σ ms n).map (xs++·)

def extras (P:Program)(ops:Array Oper)(R:List Rec)(σ:SState):Option (List E):=extrasTo P ops R σ (masks ops.toList []) ops.size

theorem extras_at {P:Program}{ops:Array Oper}{R:List Rec}{σ:SState}{ms:List Nat}:∀{n:Nat} {xs:List E},extrasTo P ops R σ ms n=some xs→∀i,i<n→∃ys,altOk P ops R σ ms i=some ys∧∀y,y∈ys→y∈xs
 | 0,_,_,i,hi=>by omega
 | n+1,xs,h,i,hi=>by
  simp only[extrasTo,Option.bind_eq_some_iff,Option.map_eq_some_iff] at h
  obtain⟨zs,h1,ys,h2,rfl⟩:=h
  rcases Nat.lt_or_ge i n with hlt | hge
  ·obtain⟨ys',h3,h4⟩:=extras_at h1 i hlt
   exact⟨ys',h3,fun y hy=>List.mem_append.2 (.inl (h4 y hy))⟩
  ·obtain rfl:i=n:=by omega
   exact⟨ys,h2,fun y hy=>List.mem_append.2 (.inr hy)⟩

theorem storer_targets {r:Rec}(h:r.storer=true):r.eff.targets=[HID]:=by
 unfold Rec.storer at h
 split at h
 ·rename_i k hk
  simp only[decide_eq_true_eq] at h
  rw[hk,h]
 ·cases h

theorem reader_targets {r:Rec}(h:r.reader=true):r.eff.targets=[]:=by
 unfold Rec.reader at h
 simp only[Bool.and_eq_true,Option.isNone_iff_eq_none] at h
 unfold Eff.targets
 rw[h.1,h.2]
 rfl

section
variable {P:Program} {ops:Array Oper} {R:List Rec} {σ:SState} {D:Nat→Bool}

theorem strip_avoids {act:List (E×Bool)}{sv:SV}{ob:Nat}(h:(sv.strip act).avoids ob=false):sv.avoids ob=false:=by
 unfold SV.strip at h
 split at h
 ·split at h
  ·exact h
  ·simp[SV.avoids] at h
 ·exact h

theorem opv_avoids {act:List (E×Bool)}{x:Operand}{ob:Nat}(h:(σ.opv act x).avoids ob=false):∃t,x=.tmp t∧(σ.tmp t).avoids ob=false:=by
 have h:=strip_avoids h
 cases x with
 | tmp t=>exact⟨t,rfl,h⟩
 | const v=>
  simp only[SState.opd,constSV] at h
  split at h <;> simp[SV.avoids] at h
 | global g=>simp[SState.opd,SV.avoids] at h
 | func f=>simp[SState.opd,SV.avoids,SV.avoidsAll] at h

theorem mem_looksAt {o:Oper}{t:Tmp}(h:Operand.tmp t∈o.op.operands):t∈o.looksAt ops:=by
 unfold Oper.looksAt
 refine List.mem_append.2 (.inl (List.mem_filterMap.2 ⟨.tmp t,by simpa using h,rfl⟩))

theorem runTo_cf (h:cfKept R σ=true):∀n,cfOf (runTo ops R D σ n).obj=cfOf σ.obj
 | 0=>rfl
 | n+1=>by
  have ih:=runTo_cf h n
  unfold runTo
  split
  ·have key:∀e:Eff,(e.del≠some HID∧∀u,e.upd=some u→u.1=HID→cfO (some u.2)=cfOf σ.obj)→cfOf ((runTo ops R D σ n).app (dstAt ops n) e).obj=cfOf σ.obj:=by
    rintro e ⟨h1,h2⟩
    by_cases ht:HID∈e.targets
    ·unfold Eff.targets at ht
     cases hu:e.upd with
     | none=>
      rw[hu] at ht
      cases hk:e.del with
      | none=>rw[hk] at ht;simp at ht
      | some k=>rw[hk] at ht;simp at ht;exact absurd (by rw[hk,←ht]) h1
     | some u=>
      by_cases hu1:u.1=HID
      ·have hobj:((runTo ops R D σ n).app (dstAt ops n) e).obj HID=some u.2:=by
        unfold SState.app
        rw[SState.obj_put,hu]
        simp only[SState.sets]
        rw[hu1,obj_setObj_eq,if_pos (.inl rfl)]
       rw[cfOf_eq,hobj]
       exact h2 u hu hu1
      ·rw[hu] at ht
       cases hk:e.del with
       | none=>rw[hk] at ht;simp at ht;exact absurd ht.symm hu1
       | some k=>
        rw[hk] at ht
        simp at ht
        rcases ht with ht | ht
        ·exact absurd ht.symm hu1
        ·exact absurd (by rw[hk,←ht]) h1
    ·rw[cfOf_eq,app_obj_ne ht,←cfOf_eq]
     exact ih
   refine key _ ?_
   unfold effAt
   cases hr:R[n]? with
   | none=>exact⟨by simp,by simp⟩
   | some r=>
    have:=List.all_eq_true.1 h r (List.mem_of_getElem? hr)
    simp only[Bool.and_eq_true,decide_eq_true_eq] at this
    refine⟨this.1,fun u hu hh=>?_⟩
    have h2:=this.2
    simp only[Option.map_some,Option.getD_some] at hu
    rw[hu] at h2
    exact(of_decide_eq_true h2) hh
  ·exact ih

theorem reff_congr {σ':SState}{o:Oper}{ix:Nat}(ht:∀t,t∈o.looksAt ops→σ'.tmp t=σ.tmp t)(ho:∀t ob,t∈o.looksAt ops→(σ.tmp t).avoids ob=false→σ'.obj ob=σ.obj ob)(hC:cfOf σ'.obj=cfOf σ.obj)(hH:usesHr o (fun x=>(σ.opd x).mayE) (cfOf σ.obj)=true→σ'.obj HID=σ.obj HID):reff P ops o σ' ix=reff P ops o σ ix:=by
 have hact:actOf ops σ' ix o.guard=actOf ops σ ix o.guard:=by
  unfold actOf
  split
  ·rfl
  ·rename_i j want hg
   split
   ·rename_i d hd
    rw[ht d (by unfold Oper.looksAt;rw[hg];simp[hd])]
   ·rfl
 have hv:∀act x,x∈o.op.operands→σ'.opv act x=σ.opv act x:=by
  intro act x hx
  unfold SState.opv
  cases x with
  | tmp t=>simp only[SState.opd];rw[ht t (mem_looksAt hx)]
  | _=>rfl
 have hself:∀e,selfOk o σ' e=selfOk o σ e:=by
  intro e
  unfold selfOk
  cases e.upd with
  | none=>rfl
  | some u=>
   simp only
   congr 1
   congr 1
   rw[Bool.eq_iff_iff,Array.all_eq_true_iff_forall_mem,Array.all_eq_true_iff_forall_mem]
   exact⟨fun h x hx=>by rw[←hv [] x hx];exact h x hx,fun h x hx=>by rw[hv [] x hx];exact h x hx⟩
 have hstep:∀act,estep P o σ'.opv act σ'.obj ix=estep P o σ.opv act σ.obj ix:=fun act=>estep_congr (opv:=σ.opv) (obj:=σ.obj) hv (fun act x ob hx hav=>by
  obtain⟨t,rfl,hav'⟩:=opv_avoids hav
  exact(ho t ob (mem_looksAt hx) hav').symm) (m:=fun x=>(σ.opd x).mayE) (fun act x _ he=>by obtain⟨e,s,he⟩:=he;exact strip_mayE he) (fun act g=>rfl) hC.symm fun h=>(hH h).symm
 have hcw:∀e,callWrites o (σ'.obj HID) ix e=callWrites o (σ.obj HID) ix e:=by
  intro e
  have hC':cfO (σ'.obj HID)=cfO (σ.obj HID):=by rw[←cfOf_eq,←cfOf_eq];exact hC
  cases hl:locOp o (cfO (σ.obj HID)) with
  | true=>simp[callWrites,hl,hC']
  | false=>
  cases hc:isCallV o with
  | false=>simp[callWrites,hc]
  | true=>
   rw[hH ?_]
   unfold isCallV at hc
   unfold usesHr
   unfold locOp at hl
   rw[←cfOf_eq] at hl
   split at hc
   ·rename_i c hop
    rw[hop] at hl ⊢
    simp only at hl ⊢
    split at hc
    ·rename_i g hcc
     rw[hcc] at hl ⊢
     simp only
     rw[hl]
     rfl
    ·cases hc
   ·cases hc
 have hln:∀act,lnew false P o (σ'.opv act) σ'.obj ix=lnew false P o (σ.opv act) σ.obj ix:=fun act=>lnew_congr (opv:=σ.opv act) (opv':=σ'.opv act) (obj:=σ.obj) (obj':=σ'.obj) (hv act) fun x ob hx hav=>by
  obtain⟨t,rfl,hav'⟩:=opv_avoids hav
  exact(ho t ob (mem_looksAt hx) hav').symm
 have hgt:∀act,gtok P o σ' act ix=gtok P o σ act ix:=fun act=>by
  cases act with
  | nil=>rfl
  | cons p r=>simp only[gtok,hln]
 unfold reff
 rw[hact]
 split
 ·rfl
 ·rename_i act _
  rw[hgt act,hstep act]
  simp only[hself,hcw]

/-! ## masks -/

def Closed (ops:Array Oper)(D:Nat→Bool):Prop:=∀k o,D k=true→ops[k]? = some o→∀e,e∈o.after→Region.binds .any e=true→D e.on=true

def GoodMs (ops:Array Oper)(D:Nat→Bool)(ms:List Nat):Prop:=
 ∀(i m:Nat),ms[i]? = some m→∃o:Oper,ops[i]? = some o∧((∀e,e∈o.after→Region.binds .any e=true→D e.on=true)→∀j,m.testBit j=true→D j=true)

theorem maskOf_spec (hD:Closed ops D){ms:List Nat}(hg:GoodMs ops D ms){o:Oper}(ho:∀e,e∈o.after→Region.binds .any e=true→D e.on=true):∀j,(maskOf ms o).testBit j=true→D j=true:=by
 have go:∀(l:List Edge) (s:Nat),(∀e,e∈l→Region.binds .any e=true→D e.on=true)→(∀j,s.testBit j=true→D j=true)→∀j,(l.foldl (fun s e=>if Region.binds .any e=true then s ||| 2 ^ e.on ||| ms.getD e.on 0 else s) s).testBit j=true→D j=true:=by
  intro l
  induction l with
  | nil=>intro s _ hs;exact hs
  | cons e l ih=>
   intro s hl hs
   refine ih _ (fun e' he'=>hl e' (by simp[he'])) fun j hj=>?_
   dsimp only at hj
   split at hj
   ·rename_i hb
    have hon:=hl e (by simp) hb
    simp only[Nat.testBit_or,Bool.or_eq_true] at hj
    rcases hj with(hj | hj) | hj
    ·exact hs j hj
    ·rw[Nat.testBit_two_pow] at hj
     simp at hj
     rw[←hj];exact hon
    ·rw[List.getD_eq_getElem?_getD] at hj
     cases hm:ms[e.on]? with
     | none=>rw[hm] at hj;simp at hj
     | some m=>
      rw[hm] at hj
      obtain⟨o',ho',h'⟩:=hg e.on m hm
      exact h' (hD e.on o' hon ho') j hj
   ·exact hs j hj
 exact go o.after.toList 0 (fun e he=>ho e (by simpa using he)) (by simp)

theorem masks_good (hD:Closed ops D):∀{l:List Oper} {ms:List Nat},ops.toList.drop ms.length=l→GoodMs ops D ms→GoodMs ops D (masks l ms)
 | [],ms,_,hg=>hg
 | o :: r,ms,hl,hg=>by
  unfold masks
  have hat:ops[ms.length]? = some o:=by
   have:=congrArg (fun l=>l[0]?) hl
   simpa using this
  refine masks_good hD ?_ ?_
  ·have:ops.toList.drop (ms.length+1)=r:=by
    rw[←List.drop_drop,hl];rfl
   simpa using this
  ·show ∀(i m:Nat),_
   intro i m hi
   rcases Nat.lt_or_ge i ms.length with h | h
   ·rw[List.getElem?_append_left h] at hi
    exact hg i m hi
   ·rw[List.getElem?_append_right h] at hi
    have hi0:i=ms.length:=by
     rcases Nat.eq_or_lt_of_le h with h | h
     ·exact h.symm
     ·rw[List.getElem?_eq_none (by simp;omega)] at hi;cases hi
    subst hi0
    simp at hi
    subst hi
    exact⟨o,hat,fun ho=>maskOf_spec hD hg ho⟩

theorem masks_spec (hD:Closed ops D){i:Nat}{o:Oper}(ho:ops[i]? = some o)(ha:∀e,e∈o.after→Region.binds .any e=true→D e.on=true){j:Nat}(hj:((masks ops.toList []).getD i 0).testBit j=true):D j=true:=by
 have hg:=masks_good hD (l:=ops.toList) (ms:=[]) rfl (fun i m hi=>by simp at hi)
 rw[List.getD_eq_getElem?_getD] at hj
 cases hm:(masks ops.toList [])[i]? with
 | none=>rw[hm] at hj;simp at hj
 | some m=>
  rw[hm] at hj
  obtain⟨o',ho',h'⟩:=hg i m hm
  rw[ho] at ho'
  cases ho'
  exact h' ha j hj

/-! ## the run in the text's order -/

abbrev lex (ops:Array Oper)(R:List Rec)(σ:SState)(i:Nat):SState:=runTo ops R (fun _=>true) σ i

theorem drun_spec {env:List Am.D}:∀{l:List Oper} {k:Nat} {σk:SState} {ix:Nat} {σ':SState} {bs:List Bind} {rs:List Rec},drun P ops l σk ix=some (σ',bs,rs)→ops.toList.drop k=l→R.drop k=rs→k≤ops.size →
  lex ops R σ k=σk→BindsOk P env ix bs→ix+bs.length≤env.length →
  lex ops R σ ops.size=σ'∧∀(i:Nat) (o:Oper),k≤i→ops[i]? = some o→∃r,R[i]? = some r∧reff P ops o (lex ops R σ i) r.ix=some r.eff∧r.seen=seenOf ops o (lex ops R σ i)∧BindOk P env r.ix r.eff.bind∧r.ix≤env.length
 | [],k,σk,ix,σ',bs,rs,h,hl,_,hk,hσ,_,_=>by
  simp[drun] at h
  have:k=ops.size:=by
   have:=congrArg List.length hl
   simp at this
   omega
  subst this
  refine⟨hσ.trans h.1,fun i o hi ho=>?_⟩
  have:=(Array.getElem?_eq_some_iff.1 ho).1
  omega
 | o :: l,k,σk,ix,σ',bs,rs,h,hl,hr,hk,hσ,hb,hix=>by
  have hat:ops[k]? = some o:=by
   have:=congrArg (fun l=>l[0]?) hl
   simpa using this
  have hk1:k+1≤ops.size:=(Array.getElem?_eq_some_iff.1 hat).1
  have hl':ops.toList.drop (k+1)=l:=by rw[←List.drop_drop,hl];rfl
  have go:∀{e:Eff} {ix':Nat} {bs':List Bind} {rs':List Rec},reff P ops o σk ix=some e→drun P ops l (σk.app o.dst e) ix'=some (σ',bs',rs')→rs=⟨e,seenOf ops o σk,ix⟩ :: rs'→BindOk P env ix e.bind→ix≤env.length→BindsOk P env ix' bs'→ix'+bs'.length≤env.length →
    lex ops R σ ops.size=σ'∧∀(i:Nat) (o:Oper),k≤i→ops[i]? = some o→∃r,R[i]? = some r∧reff P ops o (lex ops R σ i) r.ix=some r.eff∧r.seen=seenOf ops o (lex ops R σ i)∧BindOk P env r.ix r.eff.bind∧r.ix≤env.length:=by
   intro e ix' bs' rs' he hd hrs hbo hixl hb' hix'
   have hRk:R[k]? = some ⟨e,seenOf ops o σk,ix⟩:=by
    have:=congrArg (fun l=>l[0]?) (hr.trans hrs)
    simpa using this
   have hr':R.drop (k+1)=rs':=by rw[←List.drop_drop,hr,hrs];rfl
   have hσ':lex ops R σ (k+1)=σk.app o.dst e:=by
    unfold lex runTo
    simp only[if_true,dstAt,hat,effAt,hRk,Option.bind_some,Option.map_some,Option.getD_some]
    rw[show runTo ops R (fun _=>true) σ k=σk from hσ]
   obtain⟨h1,h2⟩:=drun_spec hd hl' hr' hk1 hσ' hb' hix'
   refine⟨h1,fun i o' hi ho'=>?_⟩
   rcases Nat.eq_or_lt_of_le hi with heq | hlt
   ·subst heq
    rw[hat] at ho'
    cases ho'
    exact⟨_,hRk,by rw[hσ];exact he,by rw[hσ],hbo,hixl⟩
   ·exact h2 i o' hlt ho'
  simp only[drun] at h
  split at h
  ·cases h
  ·rename_i e he
   split at h
   ·rename_i hbe
    obtain⟨⟨τ,bs',rs'⟩,h2,h3⟩:=Option.map_eq_some_iff.1 h
    cases h3
    exact go he h2 rfl (by rw[hbe];trivial) (by omega) hb hix
   ·rename_i b hbe
    obtain⟨⟨τ,bs',rs'⟩,h2,h3⟩:=Option.map_eq_some_iff.1 h
    cases h3
    simp only[List.length_cons] at hix
    refine go he h2 rfl (by rw[hbe];simpa using hb 0 b rfl) (by omega) (fun i b' hi=>?_) (by omega)
    have:=hb (i+1) b' (by simpa using hi)
    rwa [show ix+(i+1)=ix+1+i from by omega] at this

/-! ## fresh names -/

theorem avoidsAll_iff {ob:Nat}:∀{l:List SV},SV.avoidsAll ob l=true↔∀x,x∈l→x.avoids ob=true
 | []=>by simp[SV.avoidsAll]
 | a :: l=>by simp[SV.avoidsAll,avoidsAll_iff (l:=l)]

theorem freshAt_app {ob:Nat}{τ:SState}{dst:Option Tmp}{e:Eff}(h:freshAt τ ob)(hv:e.val.avoids ob=true)(ht:ob∉e.targets)(hu:∀u,e.upd=some u→u.2.avoids ob=true):freshAt (τ.app dst e) ob:=by
 obtain⟨h1,h2⟩:=h
 refine⟨by rw[app_obj_ne ht];exact h1,?_⟩
 have hset:∀(τ:SState) (k:Nat) (x:Option SObj),τ.avoidsB ob=true→(∀y,x=some y→y.avoids ob=true)→(τ.setObj k x).avoidsB ob=true:=by
  intro τ k x ht hx
  simp only[SState.setObj_def]
  simp only[SState.avoidsB,Bool.and_eq_true,List.all_eq_true] at ht ⊢
  split
  ·refine⟨ht.1,?_⟩
   cases x with
   | none=>rfl
   | some z=>exact hx z rfl
  ·refine⟨⟨ht.1.1,fun y hy=>?_⟩,ht.2⟩
   rcases List.mem_or_eq_of_mem_set hy with hy | rfl
   ·exact ht.1.2 y hy
   ·cases y with
    | none=>rfl
    | some z=>exact hx z rfl
 have h3:(τ.dels e.del).avoidsB ob=true:=by
  cases e.del with
  | none=>exact h2
  | some k=>exact hset τ k none h2 fun y hy=>by cases hy
 have h4:((τ.dels e.del).sets e.upd).avoidsB ob=true:=by
  cases hu':e.upd with
  | none=>exact h3
  | some u=>exact hset _ _ _ h3 fun y hy=>by cases hy;exact hu u hu'
 unfold SState.app
 cases dst with
 | none=>exact h4
 | some d=>
  simp only[SState.avoidsB,Bool.and_eq_true,SState.put_def] at h4 ⊢
  refine⟨⟨avoidsAll_iff.2 fun x hx=>?_,h4.1.2⟩,h4.2⟩
  rcases List.mem_or_eq_of_mem_set hx with hx | rfl
  ·exact avoidsAll_iff.1 h4.1.1 x hx
  ·exact hv

theorem touches_false {r:Rec}{ob:Nat}(h:r.touches ob=false):r.eff.val.avoids ob=true∧ob∉r.eff.targets∧∀u,r.eff.upd=some u→u.2.avoids ob=true:=by
 simp only[Rec.touches,Bool.or_eq_false_iff,Bool.not_eq_false'] at h
 refine⟨h.1.1.2,by simpa using h.1.2,fun u hu=>?_⟩
 have:=h.2
 rw[hu] at this
 simpa using this

theorem runTo_fresh {ob:Nat}(h:freshAt σ ob):∀n,(∀j,j<n→D j=true→∃r,R[j]? = some r∧r.touches ob=false)→freshAt (runTo ops R D σ n) ob
 | 0,_=>h
 | n+1,hj=>by
  have ih:=runTo_fresh h n fun j hjn=>hj j (by omega)
  unfold runTo
  split
  ·rename_i hD
   obtain⟨r,hr,ht⟩:=hj n (by omega) hD
   obtain⟨h2,h3,h4⟩:=touches_false ht
   have he:effAt R n=r.eff:=by simp[effAt,hr]
   rw[he]
   exact freshAt_app ih h2 h3 h4
  ·exact ih

end
end
end Go.Am
