/- Texts. -/
import Derived.Test.YtjnipnanfjglpaaGreatDoorAmBasetoAmTok
import Derived.Laws.Slices
import Derived.Laws.Small
import Derived.Laws.Strings
import Derived.Laws.Strings2
import Derived.Laws.MakeOwn
import Derived.Great.BuildSlice
import Derived.Laws.Tables
import Derived.Lib.Builder
import Derived.Lib.UnsafeStr
import Derived.Lib.AppendStr
import Derived.Laws.IdiomStrings
import Derived.MapKept
import Derived.Laws.Externs
import Derived.Maps.RangeRun
set_option linter.unusedSimpArgs false
set_option linter.unusedVariables false
namespace Go.Am
section
noncomputable section
def ZM (bh:Operand→SV):Option Operand→Option E
 | none=>some (.const (.v (.int .i64 0)))
 | some x=>(bh x).toE
def hiE (bh:Operand→SV)(l:E):Option Operand→Option E
 | none=>some (.bI l)
 | some x=>(bh x).toE
def isIface (P:Program)(t:TypeId):Bool:=match P.underlying t with | some (.interface _)=>true | some _=>false | none=>true
def Tj (P:Program)(t:TypeId)(x:SV)(lo hi:Option E)(ix:Nat):Option cK:=
 match P.underlying t,x.toE,lo,hi with
 | some (.slice e),some x',some l,some h=>(r8 P e).map fun n=>{ val:=.e (.sym ix) true,bind:=some (.ev (.sub n x' l h)) }
 | _,_,_,_=>none
def hiS (bh:Operand→SV)(l:E):Option Operand→Option E
 | none=>some (.gy l)
 | some x=>(bh x).toE
def GR (P:Program)(t:TypeId)(x:SV)(lo hi:Option E)(ix:Nat):Option cK:=
 match P.underlying t,x.toE,lo,hi with
 | some .string,some x',some l,some h=>some { val:=.e (.sym ix) true,bind:=some (.ev (.m4 .kM x' l h .nil)) }
 | _,_,_,_=>none
def Tk (P:Program)(t:TypeId)(x i:SV)(ix:Nat):Option cK:=
 match P.underlying t,x.toE,i.toE with
 | some .string,some x',some i'=>some { val:=.e (.sym ix) true,bind:=some (.ev (.m4 .kN x' i' .nil .nil)) }
 | _,_,_=>none
def TU (P:Program)(e:TypeId):Bool:=
 match P.underlying e with
 | some (.int .u8)=>true
 | _=>false
theorem G8 {P:Program}{e:TypeId}(h:TU P e=true):P.underlying e=some (.int .u8):=by
 unfold TU at h;split at h
 ·assumption
 ·cases h
def TD (P:Program)(s t:TypeId)(x:SV)(ix:Nat):Option cK:=
 match P.underlying s,P.underlying t,x.toE with
 | some (.slice e),some .string,some x'=>if TU P e=true then some { val:=.e (.sym ix) true,bind:=some (.ev (.m4 .Nz x' .nil .nil .nil)) } else none
 | _,_,_=>none
def OJ:Operand→Bool
 | .const .nilIface=>true
 | _=>false
def GX (P:Program)(t:TypeId)(x:SV)(y:Operand)(neg:Bool)(ix:Nat):Option cK:=
 match P.underlying t with
 | some (.interface _)=>if OJ y then x.toE.map fun x'=>{ val:=.e (.sym ix) true,bind:=some (.ev (.m4 (.JG neg) x' .nil .nil .nil)) } else none
 | _=>none
def CA (P:Program)(t:TypeId)(x:SV)(ix:Nat):Option cK:=
 if isIface P t then none else match x.toE,((P.info? t).bind (·.zero)).bind D.uI with
 | some x',some z=>some { val:=.a_ [.e (.av 0 (.sym ix)) false,.e (.av 1 (.sym ix)) true],bind:=some (.ev (.m4 (.A5 t) x' (.const z) .nil .nil)) }
 | _,_=>none
def Fl (P:Program)(o:Oper)(bh:Operand→SV)(ix:Nat):Option cK:=
 match o.op with
 | .binOp .eql t x y _=>GX P t (bh x) y false ix
 | .binOp .neq t x y _=>GX P t (bh x) y true ix
 | .typeAssert x _ t true=>CA P t (bh x) ix
 | .makeInterface t x=>if isIface P t then none else(bh x).toE.map fun x'=>{ val:=.e (.iW t x') true }
 | .slice t x lo hi none=>((bh x).toE).bind fun x'=>match Tj P t (bh x) (ZM bh lo) (hiE bh x' hi) ix with
  | some r=>some r
  | none=>GR P t (bh x) (ZM bh lo) (hiS bh x' hi) ix
 | .index t x i=>Tk P t (bh x) (bh i) ix
 | .convert s t x=>TD P s t (bh x) ix
 | .call c=>match c.callee,c.args.toList with
  | .builtin .max,[x,y]=>(match(bh x).toE,(bh y).toE with
   | some x',some y'=>some { val:=.e (.sym ix) true,bind:=some (.ev (.mm true x' y')) }
   | _,_=>none)
  | .builtin .min,[x,y]=>(match(bh x).toE,(bh y).toE with
   | some x',some y'=>some { val:=.e (.sym ix) true,bind:=some (.ev (.mm false x' y')) }
   | _,_=>none)
  | _,_=>none
 | _=>none
theorem Jg {P:Program}{o:Oper}{bh eO:Operand→SV}{ix:Nat}(hv:∀x,x∈o.op.operands→eO x=bh x):Fl P o eO ix=Fl P o bh ix:=by
 unfold Fl;generalize oI:o.op=op at *;cases op <;> try rfl
 case makeInterface t x=>simp only;rw[hv x (by simp[Op.operands])]
 case binOp op t x y yt=>cases op <;> first | rfl | (simp only;rw[hv x (by simp[Op.operands])])
 case typeAssert x xt t ok=>cases ok <;> first | rfl | (simp only;rw[hv x (by simp[Op.operands])])
 case slice t x lo hi mx=>
  cases mx with
  | some m=>rfl
  | none=>
   simp only;rw[hv x (by simp[Op.operands])];have h1:ZM eO lo=ZM bh lo:=by
    cases lo with
    | none=>rfl
    | some y=>simp only[ZM];rw[hv y (by simp[Op.operands])]
   have h2:∀l,hiE eO l hi=hiE bh l hi:=by
    intro l;cases hi with
    | none=>rfl
    | some y=>simp only[hiE];rw[hv y (by simp[Op.operands])]
   have h3:∀l,hiS eO l hi=hiS bh l hi:=by
    intro l;cases hi with
    | none=>rfl
    | some y=>simp only[hiS];rw[hv y (by simp[Op.operands])]
   simp only[h1,h2,h3]
 case index t x i=>simp only;rw[hv x (by simp[Op.operands]),hv i (by simp[Op.operands])]
 case convert s t x=>simp only;rw[hv x (by simp[Op.operands])]
 case call c=>
  obtain⟨callee,args,ts⟩:=c;simp only[Op.operands] at hv ⊢;have eF:∀x,x∈args.toList→eO x=bh x:=by
   intro x hx;refine hv x ?_;unfold Call.operands;have:x∈args:=by simpa using hx
   simp;cases callee <;> simp[this]
  split
  ·rename_i x y hx;rw[eF x (by rw[hx];simp),eF y (by rw[hx];simp)]
  ·rename_i x y hx;rw[eF x (by rw[hx];simp),eF y (by rw[hx];simp)]
  ·rfl
section
variable {P:Program} {w w0:World} {X:jN} {a:Act} {σ:ah} {env:List D} {ρ:dD}
theorem YP {t e:TypeId}(h:P.underlying t=some (.slice e)):P.elem t=e:=by simp[Program.elem,h]
theorem aaV {S:Sets}{ad:Option Addr}{len cap n:Nat}{es:List D}{l h:Nat}(hr:bA w S (.slice ad len cap) (.bk es))(hz:cC n es=true)(h1:l≤h)(h2:h≤es.length)(m:Nat)(hm:h≤m)(hmc:m≤cap) :
  bA w S (sliced ad l h m n) (.bk ((es.drop l).take (h-l))):=by
 have Lf:∀(i:Nat) (e:D),es[i]? = some e→e.cells.length=n:=fun i e he=>nF hz he;cases hr with
 | nil=>
  simp at h2;have QB:l=0:=by omega
  have hm0:m=0:=by omega
  subst QB hm0 h2;exact .nil
 | emp xF=>
  simp at h2;have QB:l=0:=by omega
  subst QB h2;unfold sliced;simp only[B0R,D0E]
  by_cases qD:m=0
  ·simp only[qD,B0d];exact .emp (B0e _)
  ·simp only[A0B qD,A0y];exact .emp (by omega)
 | @bk b off _ _ size _ val hl hc xF OK ho hS hw hr=>
  unfold sliced;have oa:∀(i:Nat) (e:D),((es.drop l).take (h-l))[i]? = some e→es[l+i]? = some e∧i<h-l:=by
   intro i e he;rw[A0H] at he;split at he
   ·rename_i hi;exact⟨by simpa using he,hi⟩
   ·cases he
  by_cases qD:m=l
  ·have hhl:h=l:=by omega
   subst qD hhl;simp only[B0d,B0R,D0E];exact .bk (size:=size) (val:=val) (by simp) (A0m _) (by simp[maxLen]) (by simp) (by simp) (by simp) (by simp) (by simp)
  ·simp only[A0B qD,A0y];rw[gO];have bV:∀(i:Nat) (e:D),es[i]? = some e→size=n:=fun i e he=>(OK i e he).symm.trans (Lf i e he);refine .bk (size:=n) (val:=fun i j=>val (l+i) j) (by simp;omega) (by omega) (by omega) (fun i e he=>Lf _ e (oa i e he).1) (fun i e j d he hd=>ho _ e j d (oa i e he).1 hd) (fun i e j d he hd=>?_) (fun i e j d he hd=>?_) fun i e j d he hd=>hr _ e j d (oa i e he).1 hd
   ·have h5:=(oa i e he).1;have:=hS _ e j d h5 hd;rw[bV _ e h5] at this;rwa [show off+l*n+i*n+j=off+(l+i)*n+j from by rw[B0w];omega]
   ·have h5:=(oa i e he).1;have:=hw _ e j d h5 hd;rw[bV _ e h5] at this;rwa [show off+l*n+i*n+j=off+(l+i)*n+j from by rw[B0w];omega]
theorem Qq {t:TypeId}(h:isIface P t=false)(v:Value):(Instr.makeInterface t v).run P w=.ok (.iface t v) w:=by
 unfold isIface at h;cases hu:P.underlying t with
 | none=>rw[hu] at h;cases h
 | some d=>
  rw[hu] at h;unfold Instr.makeInterface;rw[A0n,A0G hu];cases d <;> first | rfl | simp at h
theorem ZL {bh:Operand→SV}(hv:∀x,cS w ρ env (a.eval x) (bh x)){lo:Option Operand}{l:E}(h:ZM bh lo=some l){k:IntKind}{n:Int}(he:l.eval env=some (.v (.int k n))):(lo=none∧n=0)∨∃x,lo=some x∧a.eval x=.int k n:=by
 cases lo with
 | none=>simp[ZM] at h;subst h;simp[E.eval] at he;exact .inl ⟨rfl,he.2.symm⟩
 | some x=>
  obtain⟨d,hd,hr⟩:=SV.toE_rd h (hv x);rw[he] at hd;cases hd;exact .inr ⟨x,rfl,hr.v_eq⟩
theorem ah0 {bh:Operand→SV}(hv:∀x,cS w ρ env (a.eval x) (bh x)){hi:Option Operand}{x' l:E}(h:hiE bh x' hi=some l){dx:D}{len:Nat}(hx:x'.eval env=some dx)(hln:D.bI dx=some (.v (.int .i64 len))){k:IntKind}{n:Int}(he:l.eval env=some (.v (.int k n))):(hi=none∧n=len)∨∃x,hi=some x∧a.eval x=.int k n:=by
 cases hi with
 | none=>simp[hiE] at h;subst h;simp[E.eval,hx,hln] at he;exact .inl ⟨rfl,he.2.symm⟩
 | some x=>
  obtain⟨d,hd,hr⟩:=SV.toE_rd h (hv x);rw[he] at hd;cases hd;exact .inr ⟨x,rfl,hr.v_eq⟩
theorem acn {bh:Operand→SV}(hv:∀x,cS w ρ env (a.eval x) (bh x)){hi:Option Operand}{x' l:E}(h:hiS bh x' hi=some l){s:ByteArray}(hx:x'.eval env=some (.v (.string s))){k:IntKind}{n:Int}(he:l.eval env=some (.v (.int k n))):(hi=none∧n=s.size)∨∃x,hi=some x∧a.eval x=.int k n:=by
 cases hi with
 | none=>simp[hiS] at h;subst h;simp[E.eval,hx,D.gy] at he;exact .inl ⟨rfl,he.2.symm⟩
 | some x=>
  obtain⟨d,hd,hr⟩:=SV.toE_rd h (hv x);rw[he] at hd;cases hd;exact .inr ⟨x,rfl,hr.v_eq⟩
theorem Eo {o:Oper}{t:TypeId}{x:Operand}{lo hi:Option Operand}{x':E}{bh:Operand→SV}{ix:Nat}{r:cK}(ho:o.op=.slice t x lo hi none)(fm:(bh x).toE=some x')(hv:∀x,cS w ρ env (a.eval x) (bh x))(hl:GR P t (bh x) (ZM bh lo) (hiS bh x' hi) ix=some r)(h:aF w0 X w a σ env ρ)(hd:∀d,o.dst=some d→d<σ.tmps.length)(hb:bD P env ix r.bind) :
  r.cm=none∧ea P o a w w0 X (σ.put o.dst r.val) env:=by
 unfold GR at hl;split at hl
 ·rename_i x'' l hh hu T9 su hhi;rw[fm] at T9;cases T9;cases hl;obtain⟨dx,iY,iG⟩:=SV.toE_rd fm (hv x);obtain⟨dz,bX,cA⟩:=hb;simp only[E.eval,iY,A0d,A0b] at bX;obtain⟨dl,fR,dh,hdh,bX⟩:=bX;simp only[D.m4] at bX;unfold D.kM at bX;split at bX
  ·rename_i s k1 lv k2 wg;split at bX
   ·rename_i hc;obtain⟨h0,h1,h2⟩:=hc;cases bX;refine⟨rfl,bl h hd (v:=.string (s.extract lv.toNat wg.toNat)) ?_ (.e (d:=.v (.string (s.extract lv.toNat wg.toNat))) (by simp only[E.eval];exact cA) (.v rfl) fun _=>rfl)⟩;have qC:a.eval x=.string s:=iG.v_eq;unfold execOp;simp only[ho,C0b,qC,A0n,run_sliceAt_string w t _ _ _ _ hu];rcases ZL hv su fR with⟨rfl,rfl⟩ | ⟨xl,rfl,p4⟩ <;> rcases acn hv hhi iY hdh with⟨rfl,rfl⟩ | ⟨xh,rfl,hxh⟩
    ·simp only[C0b,run_slice_string_all w t s hu,A0h,A0r];simp
    ·simp only[C0b,A0y,hxh,run_slice_string_h w t s hu k2 wg (by omega) (by omega),A0h,A0r];simp
    ·simp only[C0b,A0y,p4,run_slice_string_l w t s hu k1 lv h0 (by omega),A0h,A0r];simp
    ·simp only[A0y,p4,hxh,run_slice_string w t s k1 k2 lv wg hu h0 h1 (by omega),A0h,A0r]
   ·cases bX
  ·cases bX
 ·cases hl
theorem Je {o:Oper}{t:TypeId}{x i:Operand}{bh:Operand→SV}{ix:Nat}{r:cK}(ho:o.op=.index t x i)(hv:∀x,cS w ρ env (a.eval x) (bh x))(hl:Tk P t (bh x) (bh i) ix=some r)(h:aF w0 X w a σ env ρ)(hd:∀d,o.dst=some d→d<σ.tmps.length)(hb:bD P env ix r.bind) :
  r.cm=none∧ea P o a w w0 X (σ.put o.dst r.val) env:=by
 unfold Tk at hl;split at hl
 ·rename_i x' i' hu fm qn;cases hl;obtain⟨dx,iY,iG⟩:=SV.toE_rd fm (hv x);obtain⟨di,Yn,Ya⟩:=SV.toE_rd qn (hv i);obtain⟨dz,bX,cA⟩:=hb;simp only[E.eval,iY,Yn,A0d,A0b,D.m4] at bX;unfold D.kN at bX;split at bX
  ·rename_i s k n;split at bX
   ·rename_i h0;obtain⟨b,fI,rfl⟩:=A0a.1 bX;have qC:a.eval x=.string s:=iG.v_eq;have UF:a.eval i=.int k n:=Ya.v_eq;have hlt:n.toNat<s.size:=by
     rcases A0U n.toNat s.size with hlt | hge
     ·exact hlt
     ·rw[ByteArray.getElem?_ge' s _ (by omega)] at fI;cases fI
    have hbv:s[n.toNat]'hlt=b:=by rw[ByteArray.getElem?_lt' s _ hlt] at fI;exact B0M fI
    refine⟨rfl,bl h hd (v:=.int .u8 b.toNat) ?_ (.e (d:=.v (.int .u8 b.toNat)) (by simp only[E.eval];exact cA) (.v rfl) fun _=>rfl)⟩;unfold execOp;simp only[ho,qC,UF,A0n,run_index_string w t s k n hu];rw[dif_pos (by omega)];simp only[A0h,A0r,hbv]
   ·cases bX
  ·cases bX
 ·cases hl
theorem AV {t:TypeId}{ms:Array (String×TypeId)}(hu:P.underlying t=some (.interface ms))(d:Nat)(t':TypeId)(v:Value):(Op.equalIn (d+1) t (.iface t' v) .nilIface).run P w=.ok false w:=by simp[Op.equalIn,A0G hu]
theorem AU {t:TypeId}{ms:Array (String×TypeId)}(hu:P.underlying t=some (.interface ms))(d:Nat):(Op.equalIn (d+1) t .nilIface .nilIface).run P w=.ok true w:=by simp[Op.equalIn,A0G hu]
theorem AB {t:TypeId}{ms:Array (String×TypeId)}(hu:P.underlying t=some (.interface ms))(t':TypeId)(v:Value):(binOp .eql t (.iface t' v) .nilIface).run P w=.ok (.bool false) w∧(binOp .neq t (.iface t' v) .nilIface).run P w=.ok (.bool true) w:=by have h1:(Op.equal t (.iface t' v) .nilIface).run P w=.ok false w:=AV hu 9999 t' v;constructor <;> simp only[binOp,A0n,h1,A0h,A0r] <;> rfl
theorem AA {t:TypeId}{ms:Array (String×TypeId)}(hu:P.underlying t=some (.interface ms)):(binOp .eql t .nilIface .nilIface).run P w=.ok (.bool true) w∧(binOp .neq t .nilIface .nilIface).run P w=.ok (.bool false) w:=by have h1:(Op.equal t .nilIface .nilIface).run P w=.ok true w:=AU hu 9999;constructor <;> simp only[binOp,A0n,h1,A0h,A0r] <;> rfl
theorem EH {op:BinOp}{t:TypeId}{x:Operand}(t':TypeId)(v:Value):(eqGuard op t x (.const .nilIface) (.iface t' v) .nilIface).run P w=.ok () w:=by unfold eqGuard;cases op <;> simp
theorem EG {op:BinOp}{t:TypeId}{x:Operand}:(eqGuard op t x (.const .nilIface) .nilIface .nilIface).run P w=.ok () w:=by unfold eqGuard;cases op <;> simp
theorem xk {o:Oper}{bh:Operand→SV}{op:BinOp}{neg:Bool}{t yt:TypeId}{x y:Operand}{ix:Nat}{r:cK}(ho:o.op=.binOp op t x y yt)(oI:op=.eql∧neg=false∨op=.neq∧neg=true)(hv:∀x,cS w ρ env (a.eval x) (bh x))(hl:GX P t (bh x) y neg ix=some r)(h:aF w0 X w a σ env ρ)(hd:∀d,o.dst=some d→d<σ.tmps.length)(hb:bD P env ix r.bind) :
  r.cm=none∧ea P o a w w0 X (σ.put o.dst r.val) env:=by
 unfold GX at hl;split at hl
 ·rename_i ms hu;split at hl
  ·rename_i hy;obtain⟨x',fm,rfl⟩:=A0a.1 hl;obtain⟨dx,iY,iG⟩:=SV.toE_rd fm (hv x);obtain⟨dz,bX,cA⟩:=hb;simp only[E.eval,iY,A0d,D.m4] at bX;have Rz:y=.const .nilIface:=by
    unfold OJ at hy;split at hy
    ·rfl
    ·simp at hy
   subst Rz;have fin:∀b:Bool,dz=.bool b→(do eqGuard op t x (.const .nilIface) (a.eval x) (a.eval (.const .nilIface));binOp op t (a.eval x) (a.eval (.const .nilIface)):Sem Value).run P w=.ok (.bool b) w→ea P o a w w0 X (σ.put o.dst (.e (.sym ix) true)) env:=by
    rintro b rfl bt
    refine bl h hd (v:=.bool b) ?_ (.e (d:=.bool b) (by simp only[E.eval];exact cA) (.v rfl) fun _=>rfl);unfold execOp;simp only[ho];rw[A0n,bt];rfl
   refine⟨rfl,?_⟩;generalize qC:a.eval x=xv at iG fin;have hc:a.eval (.const .nilIface)=.nilIface:=rfl;rw[hc] at fin;split at bX
   ·cases bX;cases iG;refine fin neg rfl ?_;rw[A0n,EH,A0h];rcases oI with⟨rfl,rfl⟩ | ⟨rfl,rfl⟩
    ·exact(AB hu _ _).1
    ·exact(AB hu _ _).2
   ·cases bX;rw[iG.v_eq] at fin;refine fin (!neg) rfl ?_;rw[A0n,EG,A0h];rcases oI with⟨rfl,rfl⟩ | ⟨rfl,rfl⟩
    ·exact(AA hu).1
    ·exact(AA hu).2
   ·cases bX
  ·cases hl
 ·cases hl
theorem Cz {o:Oper}{bh:Operand→SV}{xt t:TypeId}{x:Operand}{ix:Nat}{r:cK}(ho:o.op=.typeAssert x xt t true)(hv:∀x,cS w ρ env (a.eval x) (bh x))(hl:CA P t (bh x) ix=some r)(h:aF w0 X w a σ env ρ)(hd:∀d,o.dst=some d→d<σ.tmps.length)(hb:bD P env ix r.bind) :
  r.cm=none∧ea P o a w w0 X (σ.put o.dst r.val) env:=by
 unfold CA at hl;split at hl
 ·cases hl
 rename_i hif;split at hl
 ·rename_i x' z fm hz;cases hl;obtain⟨zv,XX,hz⟩:=A0b.1 hz;obtain⟨dx,iY,iG⟩:=SV.toE_rd fm (hv x);obtain⟨dz,bX,cA⟩:=hb;simp only[E.eval,iY,A0d,D.m4] at bX;have fin:∀(b:Bool) (d:D) (v:Value),dz=.a_ [d,.bool b]→bA w ρ.S v d→(Instr.typeAssert (a.eval x) xt t true).run P w=.ok (.tuple #[v,.bool b]) w→ea P o a w w0 X (σ.put o.dst (.a_ [.e (.av 0 (.sym ix)) false,.e (.av 1 (.sym ix)) true])) env:=by
   rintro b d v rfl bO bt
   refine bl h hd (v:=.tuple #[v,.bool b]) ?_ (.a_ rfl fun i u c hu hc=>?_)
   ·unfold execOp;simp only[ho,A0n,bt,A0h,A0r]
   ·match i with
    | 0=>
     simp at hu hc;subst hu hc;exact .e (d:=d) (by simp[E.eval,cA,D.av]) bO (by simp)
    | 1=>
     simp at hu hc;subst hu hc;exact .e (d:=.bool b) (by simp[E.eval,cA,D.av]) (.v rfl) fun _=>rfl
    | i+2=>simp at hc
  refine⟨rfl,?_⟩;have an3:∃k,P.underlying t=some k∧∀ms,k≠.interface ms:=by
   unfold isIface at hif;cases hu:P.underlying t with
   | none=>rw[hu] at hif;simp at hif
   | some k=>
    rw[hu] at hif;refine⟨k,rfl,?_⟩
    rintro ms rfl
    simp at hif
  obtain⟨k,hu,hk⟩:=an3;generalize qC:a.eval x=xv at iG fin;split at bX
  ·rename_i t' d;cases bX;cases iG with
   | iW bO=>
   by_cases ht:t'=t
   ·refine fin true d _ (by rw[A0z ht]) bO ?_;unfold Instr.typeAssert;simp only[A0n,A0G hu,A0h];cases k <;> first | exact absurd rfl (hk _) | simp[ht]
   ·refine fin false z zv (by rw[A0B ht]) (D.jT hz) ?_;unfold Instr.typeAssert;simp only[A0n,A0G hu,A0h];cases k <;> first | exact absurd rfl (hk _) | simp[ht,ig XX]
  ·cases bX;rw[iG.v_eq] at fin;refine fin false z zv rfl (D.jT hz) ?_;unfold Instr.typeAssert;simp only[A0n,A0G hu,A0h];cases k <;> first | exact absurd rfl (hk _) | simp[ig XX]
  ·cases bX
 ·cases hl
theorem tJ:∀{es:List D} {ns:List Int},bytesOf es=some ns→es.length=ns.length∧∀(i:Nat) (e:D),es[i]? = some e→e.cells=[.v (.int .u8 (ns.getD i 0))]
 | [],ns,h=>by cases h;exact⟨rfl,fun i e h=>by simp at h⟩
 | e :: r,ns,h=>by
  unfold bytesOf at h;split at h
  ·rename_i n hc;obtain⟨ms,hm,rfl⟩:=A0a.1 h;obtain⟨h1,h2⟩:=tJ hm;refine⟨by simp[h1],fun i e' he=>?_⟩;cases i with
   | zero=>simp at he;subst he;simpa using hc
   | succ i=>simpa using h2 i e' (by simpa using he)
  ·cases h
theorem KQ {S:Sets}{v:Value}{es:List D}{ns:List Int}(h:bA w S v (.bk es))(hb:bytesOf es=some ns){s t e:TypeId}(hs:P.underlying s=some (.slice e))(he:P.underlying e=some (.int .u8))(ht:P.underlying t=some .string) :
  (convert s t v).run P w=.ok (.string (strOfNums ns)) w:=by
 obtain⟨hl,hg⟩:=tJ hb;cases h with
 | nil=>
  cases hb;exact run_convert_bytes_nil w s e hs he _ _ t ht
 | emp hm=>
  cases hb;rw[run_convert_bytes_string w s t e _ _ _ hs he ht,run_bytesToString w _ _ _ [] (by rfl)];rfl
 | @bk b off len cap size es val hlen hc hm hz ho hS hw hr=>
  refine run_convert_bytes_arg w s e hs he b off _ cap ns (by omega) (fun i hi=>?_) t ht;have qn:i<es.length:=by omega
  have hx:=hg i es[i] (A0e qn);have bV:=hz i es[i] (A0e qn);rw[hx] at bV;have h1:=hw i es[i] 0 _ (A0e qn) (by rw[hx];rfl);have h2:=(hr i es[i] 0 _ (A0e qn) (by rw[hx];rfl)).v_eq;rw[h2,show off+i*size+0=off+i by rw[←bV];simp] at h1;exact h1
theorem Jy {o:Oper} {s t:TypeId} {x:Operand} {sx:SV} {ix:Nat} {r:cK} (ho:o.op=.convert s t x) (hl:TD P s t sx ix=some r) (hx:cS w ρ env (a.eval x) sx) (h:aF w0 X w a σ env ρ)
  (hd:∀d,o.dst=some d→d<σ.tmps.length) (hb:bD P env ix r.bind):r.cm=none∧ea P o a w w0 X (σ.put o.dst r.val) env:=by
 unfold TD at hl;split at hl
 ·rename_i e x' hs ht fm;split at hl
  ·rename_i he;replace he:=G8 he;cases hl;obtain⟨dx,iY,iG⟩:=SV.toE_rd fm hx;obtain⟨dz,bX,cA⟩:=hb;simp only[E.eval,iY,A0d,D.m4] at bX;unfold D.Nz at bX;split at bX
   ·obtain⟨ns,jP,rfl⟩:=A0a.1 bX;refine⟨rfl,bl h hd (v:=.string (strOfNums ns)) ?_ (.e (by simp only[E.eval,cA]) (.v rfl) fun _=>rfl)⟩;unfold execOp;simp only[ho,A0n,KQ iG jP hs he ht,A0h,A0r]
   ·cases bX
  ·cases hl
 ·cases hl
theorem Jf {o:Oper}{bh:Operand→SV}{ix:Nat}{r:cK}(hv:∀x,cS w ρ env (a.eval x) (bh x))(hl:Fl P o bh ix=some r)(h:aF w0 X w a σ env ρ)(hd:∀d,o.dst=some d→d<σ.tmps.length)(hb:bD P env ix r.bind) :
  r.cm=none∧ea P o a w w0 X (σ.put o.dst r.val) env:=by
 unfold Fl at hl;split at hl
 ·rename_i t x y yt ho;exact xk ho (.inl ⟨rfl,rfl⟩) hv hl h hd hb
 ·rename_i t x y yt ho;exact xk ho (.inr ⟨rfl,rfl⟩) hv hl h hd hb
 ·rename_i x xt t ho;exact Cz ho hv hl h hd hb
 ·rename_i t x ho;split at hl
  ·cases hl
  ·rename_i hif;obtain⟨x',fm,rfl⟩:=A0a.1 hl;obtain⟨d,iY,iG⟩:=SV.toE_rd fm (hv x);refine⟨rfl,bl h hd (v:=.iface t (a.eval x)) ?_ (.e (d:=.iW t d) (by simp[E.eval,iY]) (.iW iG) fun _=>rfl)⟩;unfold execOp;simp only[ho,A0n,Qq (by simpa using hif),A0h,A0r]
 ·rename_i t x lo hi ho;obtain⟨x',fm,hl⟩:=A0b.1 hl;split at hl
  case h_2=>exact Eo ho fm hv hl h hd hb
  rename_i r' iH;cases hl;replace hl:=iH;unfold Tj at hl;split at hl
  ·rename_i e x'' l hh hu T9 su hhi;rw[fm] at T9;cases T9;obtain⟨n,hn,rfl⟩:=A0a.1 hl;obtain⟨dx,iY,iG⟩:=SV.toE_rd fm (hv x);obtain⟨dz,bX,cA⟩:=hb;simp only[E.eval,iY,A0d,A0b] at bX;obtain⟨dl,fR,dh,hdh,bX⟩:=bX;have oe:=YP hu;have kK:P.underlying t=some (.slice (P.elem t)):=by rw[oe];exact hu
   have pg:(sizeOf (P.elem t)).run P w=.ok n w:=by rw[oe];exact run_sizeOf hn w
   have go:∀(ad:Option Addr) (len cap:Nat) (k1 k2:IntKind) (lv wg:Int),a.eval x=.slice ad len cap→len≤cap→D.bI dx=some (.v (.int .i64 len))→dl=.v (.int k1 lv)→dh=.v (.int k2 wg)→0≤lv→lv≤wg→wg≤(len:Int)→bA w ρ.S (sliced ad lv.toNat wg.toNat cap n) dz→dz.one=true →
     ea P o a w w0 X (σ.put o.dst (.e (.sym ix) true)) env:=by
    rintro ad len cap k1 k2 lv wg qC nq hln rfl rfl h0 h1 h2 bO cV
    have fin:(Instr.slice t (.slice ad len cap) (lo.map a.eval) (hi.map a.eval) none).run P w=.ok (sliced ad lv.toNat wg.toNat cap n) w→ea P o a w w0 X (σ.put o.dst (.e (.sym ix) true)) env:=by intro bt;refine bl h hd (v:=sliced ad lv.toNat wg.toNat cap n) ?_ (.e (d:=dz) (by simp only[E.eval];exact cA) bO fun _=>cV);unfold execOp;simp only[ho,C0b,qC,A0n,run_sliceAt_slice w t _ _ _ _ kK,bt,A0h,A0r]
    rcases ZL hv su fR with⟨rfl,rfl⟩ | ⟨xl,rfl,p4⟩ <;> rcases ah0 hv hhi iY hln hdh with⟨rfl,rfl⟩ | ⟨xh,rfl,hxh⟩
    ·refine fin ?_;simp only[C0b,run_slice_all w t ad len cap kK,pg,A0h];simp
    ·refine fin ?_;simp only[C0b,A0y,hxh,run_slice_h w t ad len cap kK k2 wg (by omega) (by omega),pg,A0h];simp
    ·refine fin ?_;simp only[C0b,A0y,p4,run_slice_l w t ad len cap kK k1 lv h0 (by omega),pg,A0h];simp
    ·refine fin ?_;simp only[A0y,p4,hxh,run_slice_lh w t ad len cap kK k1 k2 lv wg h0 h1 (by omega),pg,A0h]
   unfold D.sub at bX;split at bX
   ·rename_i es k1 lv k2 wg;split at bX
    ·rename_i hc;obtain⟨h0,h1,h2,hz⟩:=hc;cases bX;refine⟨rfl,?_⟩;obtain⟨ad,len,cap,qC,hlen⟩:=iG.CC;have nq:len≤cap:=by
      rw[qC] at iG;cases iG with
      | nil=>exact A0m _
      | emp _=>exact B0e _
      | bk hl hc hm=>exact hc
     rw[qC] at iG;refine go ad len cap k1 k2 lv wg qC nq (by simp[D.bI,hlen]) rfl rfl h0 h1 (by omega) ?_ rfl;have:=aaV (l:=lv.toNat) (h:=wg.toNat) iG hz (by omega) (by omega) cap (by omega) (A0m _);rwa [show(wg-lv).toNat=wg.toNat-lv.toNat from by omega]
    ·cases bX
   ·rename_i j off ln k1 lv k2 wg;split at bX
    ·rename_i hc;obtain⟨h0,h1,h2,Yb⟩:=hc;split at bX
     case isFalse hlh=>
      cases bX;refine⟨rfl,?_⟩;generalize qC:a.eval x=xv at iG;cases iG with
      | @sl _ _ _ cap hj hle zk U_=>
      refine go _ ln cap k1 k2 lv wg qC hle rfl rfl rfl h0 h1 h2 ?_ rfl;unfold sliced;rw[show wg.toNat-lv.toNat=0 from by omega];split
      ·exact .emp (by omega)
      ·exact .emp (by omega)
     rename_i hlh;cases bX;refine⟨rfl,?_⟩;generalize qC:a.eval x=xv at iG;cases iG with
     | @sl _ _ _ cap hj hle zk U_=>
     refine go _ ln cap k1 k2 lv wg qC hle rfl rfl rfl h0 h1 h2 ?_ rfl;unfold sliced;have hlt:lv.toNat=0∨cap≠lv.toNat:=by omega
     by_cases qD:cap=lv.toNat
     ·have hz:lv.toNat=0:=by omega
      simp only[qD,B0d];have hh:wg.toNat=0:=by omega
      rw[show(wg-lv).toNat=0 from by omega,hz,hh];simp only[D0X,D0H,B0R];exact .sl hj (A0m _) (by omega) fun e=>by rw[←U_ e];omega
     ·simp only[A0B qD,A0y];rw[gO,show(wg-lv).toNat=wg.toNat-lv.toNat from by omega];refine .sl hj (by omega) (by omega) fun e=>?_;have:lv.toNat*n=0:=by omega
      have QB:lv.toNat=0:=by
       rcases Nat.mul_eq_zero.1 this with h | h
       ·exact h
       ·omega
      rw[←U_ (by omega)];omega
    ·cases bX
   ·rename_i k1 lv k2 wg;split at bX
    ·rename_i hc;obtain⟨rfl,rfl⟩:=hc;cases bX;refine⟨rfl,?_⟩;generalize qC:a.eval x=xv at iG;cases iG with
     | bS=>
     refine go none 0 0 k1 k2 0 0 qC (A0m _) rfl rfl rfl (B0P _) (B0P _) (B0P _) ?_ rfl;unfold sliced;simp only[Int.toNat_zero,B0d,B0R];exact .bS
    ·cases bX
   ·cases bX
  ·cases hl
 ·rename_i t x i ho;exact Je ho hv hl h hd hb
 ·rename_i s t x ho;exact Jy ho hl (hv x) h hd hb
 ·rename_i c ho;obtain⟨callee,args,ts⟩:=c;simp only at hl;split at hl
  ·rename_i x y eF;split at hl
   ·rename_i x' y' fm yp;cases hl;obtain⟨dx,iY,iG⟩:=SV.toE_rd fm (hv x);obtain⟨dy,Eh,X9⟩:=SV.toE_rd yp (hv y);obtain⟨dz,bX,cA⟩:=hb;simp only[E.eval,iY,Eh,A0d] at bX;unfold D.mm at bX;split at bX
    ·rename_i k p k' q;split at bX
     ·rename_i hk;subst hk;cases bX;have e1:args=#[x,y]:=by rw[←B0b (xs:=args),eF]
      subst e1;refine⟨rfl,bl h hd (v:=.int k (if q > p then q else p)) ?_ (.e (by simp only[E.eval];exact cA) (.v rfl) fun _=>rfl)⟩;unfold execOp;simp only[ho,resolve,invoke,builtin,A0n,A0r,A0h,C0f,B0p,C0x,iG.v_eq,X9.v_eq,run_max_int2]
     ·cases bX
    ·cases bX
   ·cases hl
  ·rename_i x y eF;split at hl
   ·rename_i x' y' fm yp;cases hl;obtain⟨dx,iY,iG⟩:=SV.toE_rd fm (hv x);obtain⟨dy,Eh,X9⟩:=SV.toE_rd yp (hv y);obtain⟨dz,bX,cA⟩:=hb;simp only[E.eval,iY,Eh,A0d] at bX;unfold D.mm at bX;split at bX
    ·rename_i k p k' q;split at bX
     ·rename_i hk;subst hk;cases bX;have e1:args=#[x,y]:=by rw[←B0b (xs:=args),eF]
      subst e1;refine⟨rfl,bl h hd (v:=.int k (if q<p then q else p)) ?_ (.e (by simp only[E.eval];exact cA) (.v rfl) fun _=>rfl)⟩;unfold execOp;simp only[ho,resolve,invoke,builtin,A0n,A0r,A0h,C0f,B0p,C0x,iG.v_eq,X9.v_eq,run_min_int2]
     ·cases bX
    ·cases bX
   ·cases hl
  ·cases hl
 ·cases hl
end
end
end
section
noncomputable section
def D.yW:D→Bool
 | .a_ _=>false
 | _=>true
def D.L4 (nz:Bool)(y:Value):Option D:=if nz=true then(match y with
 | .slice none 0 0=>some .bS
 | y=>D.uI y) else D.uI y
theorem D.Fc {w:World}{S:Sets}{nz:Bool}{v:Value}{d:D}(h:D.L4 nz v=some d):bA w S v d:=by
 unfold D.L4 at h;split at h
 ·split at h
  ·cases h;exact .bS
  ·exact D.jT h
 ·exact D.jT h
def Fm (nz:Bool)(P:Program)(t:TypeId)(n c:SV)(dst:Option Tmp)(ix:Nat):Option cK:=
 match dst,P.underlying t,n.toE,c.toE with
 | some d,some (.slice e),some n',some c'=>match P.info? e with
  | some i=>(i.zero).bind fun z=>(D.L4 nz z).bind fun dz=>
    if n'.same c'=true∧dz.cells.length=i.size∧dz.yW=true then some { val:=.mE d,cm:=some (d,.row (.sym ix) i.size),bind:=some (.ev (.rep i.bytes n' dz)) } else none
  | none=>none
 | _,_,_,_=>none
section
variable {P:Program} {w w0:World} {X:jN} {a:Act} {σ:ah} {env:List D} {ρ:dD}
theorem bA.cellAt {S:Sets}{v:Value}{d:D}(h:bA w S v d)(hd:d.yW=true) :
  v.cells.size=d.cells.length∧∀(j:Nat) (x:D),d.cells[j]? = some x→x.one=true∧∃u,v.cells[j]? = some u∧bA w S u x:=by
 have one:d.one=true→v.cells.size=d.cells.length∧∀(j:Nat) (x:D),d.cells[j]? = some x→x.one=true∧∃u,v.cells[j]? = some u∧bA w S u x:=by
  intro h1;have hc:v.cells=#[v]:=by have:=h.one h1;cases v <;> first | rfl | simp[Value.oneCell'] at this
  rw[hc,D.cells_one h1];refine⟨rfl,fun j x hx=>?_⟩;cases j with
  | zero=>simp at hx;subst hx;exact⟨h1,v,rfl,h⟩
  | succ j=>simp at hx
 cases d with
 | agg ds=>
  obtain⟨vs,rfl,hl,ho,hr⟩:=h.kq;refine⟨hl,fun j x hx=>⟨ho j x hx,?_⟩⟩;have hj:j<vs.size:=by rw[hl];exact(A0c.1 hx).1
  exact⟨vs[j],A0p hj,hr j _ x (A0p hj) hx⟩
 | a_ ds=>cases hd
 | blk _ _ _=>cases h
 | st _=>cases h
 | cg _=>cases h
 | itb _ _ _=>cases h
 | Tl _=>cases h
 | E3 _ _=>cases h
 | qF _ _ _=>cases h
 | _=>exact one rfl
theorem Jo {o:Oper} {t:TypeId} {n c:Operand} {sn sc:SV} {ix:Nat} {r:cK} {nz:Bool} (ho:o.op=.makeSlice t n c) (hl:Fm nz P t sn sc o.dst ix=some r) (hn:cS w ρ env (a.eval n) sn) (hc:cS w ρ env (a.eval c) sc) (h:aF w0 X w a σ env ρ)
  (hd:∀d,o.dst=some d→d<σ.tmps.length) (hm:σ.mem.length=σ.tmps.length) (hb:bD P env ix r.bind) (hf:∀u,r.cm=some u→σ.obj u.1=none∧σ.aM u.1):∃ob x,r.cm=some (ob,x)∧ea P o a w w0 X ((σ.setObj ob (some x)).put o.dst r.val) env:=by
 unfold Fm at hl;split at hl
 ·rename_i d e n' c' gB hu Yc rY;split at hl
  ·rename_i i hi;obtain⟨z,hz,hl⟩:=A0b.1 hl;obtain⟨dz,hdz,hl⟩:=A0b.1 hl;split at hl
   ·rename_i xJ;cases hl;obtain⟨xC,hlen,abR⟩:=xJ;obtain⟨iI,mU⟩:=hf _ rfl;refine⟨d,_,rfl,?_⟩;have fR:=hd d gB;obtain⟨dn,hdn,hrn⟩:=SV.toE_rd Yc hn;obtain⟨dc,FF,JM⟩:=SV.toE_rd rY hc;rw[←E.cL xC,hdn] at FF;cases FF;obtain⟨dy,bX,cA⟩:=hb;simp only[E.eval,hdn,A0d] at bX;unfold D.rep at bX;split at bX
    ·rename_i k;split at bX
     ·rename_i hk;obtain⟨Eg,hkb,hkm⟩:=hk;cases bX;have hzr:bA w ρ.S z dz:=D.Fc hdz;obtain⟨T7,hzc⟩:=hzr.cellAt abR;rw[hlen] at T7;have acj:k≤9223372036854775807:=by have h9:k.toNat≤9223372036854775807:=hkm;omega
      have vI:(i.bytes:Int)*k≤281474976710656:=by
       have h1:((k.toNat*i.bytes:Nat):Int)≤140737488355328:=by generalize k.toNat*i.bytes=q at hkb ⊢;omega
       rw[Int.natCast_mul,D0R Eg,Int.mul_comm] at h1;omega
      have bt:(execOp a.eval o).run P w=.ok (.value (.slice (some ⟨w.heap.size,0,none⟩) k.toNat k.toNat)) (w.alloc (.cells (madeCells z.cells (k.toNat*i.size)) e)):=by unfold execOp;simp only[ho,hrn.v_eq,JM.v_eq,A0n,run_make w t e i z hu hi hz .i64 .i64 k k Eg (B0P _) vI acj,A0h,A0r]
      have hK:bM ρ.S w (w.alloc (.cells (madeCells z.cells (k.toNat*i.size)) e)):=bM.alloc h.cells _;have bg:=h.fe (o:=d) (x:=.row (.sym ix) i.size) (v:=.slice (some ⟨w.heap.size,0,none⟩) k.toNat k.toNat) (by rw[hm];exact fR) iI mU hK (fun b hb=>g_ w _ b hb) rfl ⟨rfl,A0m _⟩ rfl (by simp) ?_ ?_
      ·refine bW bt (bg.put (by rw[gB];intro d' e;cases e;rw[ah.aP];exact fR) ?_);have fB:(ρ.fe d w.heap.size (.slice (some ⟨w.heap.size,0,none⟩) k.toNat k.toNat)).val d=.slice (some ⟨w.heap.size,0,none⟩) k.toNat k.toNat:=by simp[dD.fe]
       have hs:cS (w.alloc (.cells (madeCells z.cells (k.toNat*i.size)) e)) (ρ.fe d w.heap.size (.slice (some ⟨w.heap.size,0,none⟩) k.toNat k.toNat)) env ((ρ.fe d w.heap.size (.slice (some ⟨w.heap.size,0,none⟩) k.toNat k.toNat)).val d) (.mE d):=.mE;rwa [fB] at hs
      ·have hbk:(ρ.fe d w.heap.size (.slice (some ⟨w.heap.size,0,none⟩) k.toNat k.toNat)).blk d=w.heap.size:=by simp[dD.fe]
       have JK:∀(m:Nat) (x:D),(List.replicate k.toNat dz)[m]? = some x→x=dz∧m<k.toNat:=by
        intro m x hx;rw[B0o] at hx;split at hx
        ·cases hx;exact⟨rfl,by assumption⟩
        ·cases hx
       refine⟨madeCells z.cells (k.toNat*i.size),e,List.replicate k.toNat dz,by rw[hbk];exact C0p w _,by simp only[E.eval];exact cA,fun m x hx=>by rw[(JK m x hx).1];exact hlen,by simp[E0H],fun m x j y hx hy=>?_,by rw[hbk];simp[dD.fe],by simpa using hkm,fun off hs=>?_⟩
       ·obtain⟨rfl,WA⟩:=JK m x hx;obtain⟨h1,u,h2,h3⟩:=hzc j y hy;have hj:j<i.size:=by rw[←hlen];exact(A0c.1 hy).1
        refine⟨h1,u,?_,h3.keep hK (Sets.le_refl _)⟩;have hlt:m*i.size+j<k.toNat*i.size:=by have:(m+1)*i.size≤k.toNat*i.size:=B0k _ WA;rw[B0w,C0S] at this;omega
        have Uz:(m*i.size+j) % i.size=j:=by rw[C0h,D0S,C0C hj]
        have hjz:j<z.cells.size:=by rw[T7];exact hj
        have kK:u=z.cells[j]:=by rw[A0p hjz] at h2;exact(B0M h2).symm
        simp only[madeCells,D0u,Array.getElem?_range,hlt,B0d,A0y,T7,Uz,A0x];rw[kK];exact C0I z.cells j hjz
       ·rw[hbk] at hs;have:=h.cells _ off hs;omega
      ·intro b hb;simpa[bN,dD.fe] using hb.symm
     ·cases bX
    ·cases bX
   ·cases hl
  ·cases hl
 ·cases hl
end
end
end
section
noncomputable section
def Il (agg:Bool)(n:Nat)(x:E):E:=if agg then .bE n x else .aV x
def Fp (agg:Bool)(n:Nat):List SV→Option E
 | []=>some (.const (.bk []))
 | s :: r=>match s.toE,Fp agg n r with
  | some x,some y=>some (.bz (Il agg n x) y)
  | _,_=>none
def CG (P:Program)(t:TypeId)(len:Nat)(parts:List (Nat×Operand))(bh:Operand→SV)(dst:Option Tmp)(ix:Nat):Option cK:=
 match dst,P.underlying t with
 | some d,some (.slice e)=>match P.info? e,jH P e,Fp ((jH P e).getD false) ((r8 P e).getD 0) (parts.map fun p=>bh p.2) with
  | some i,some agg,some y=>
    if parts.map (·.1)=List.range len∧0<i.size∧len*i.size≤16777216∧(agg=true∨i.size=1)∧i.zero.isSome=true then some { val:=.own (.sym ix) d,cm:=some (d,.tok e i.size),bind:=some (.ev y) } else none
  | _,_,_=>none
 | _,_=>none
section
variable {P:Program} {w w0:World} {X:jN} {a:Act} {σ:ah} {env:List D} {ρ:dD}
theorem Ga {agg:Bool}{n:Nat}{x:E}{d u:D}{v:Value}{S:Sets}(Ak:agg=true∨n=1)(hx:x.eval env=some d)(hr:bA w S v d)(hu:(Il agg n x).eval env=some u):bA w S v u∧u.cells.length=n∧u.yW=true:=by
 unfold Il at hu;split at hu
 ·simp only[E.eval,hx,A0d] at hu;unfold D.bE at hu;split at hu
  ·split at hu
   ·rename_i hl;cases hu;exact⟨hr,hl,rfl⟩
   ·cases hu
  ·cases hu
 ·rename_i hna;simp only[E.eval,hx,A0d] at hu;unfold D.aV at hu;split at hu
  ·rename_i h1;cases hu;refine⟨hr,?_,?_⟩
   ·rw[D.cells_one h1,Ak.resolve_left hna];rfl
   ·cases d <;> first | rfl | simp[D.one] at h1
  ·cases hu
theorem Jr {agg:Bool}{n:Nat}{S:Sets}(Ak:agg=true∨n=1):∀{rU:List SV} {vs:List Value} {y:E} {d:D},Fp agg n rU=some y→vs.length=rU.length→(∀(i:Nat) (v:Value) (s:SV) (x:E),vs[i]? = some v→rU[i]? = some s→s.toE=some x→∃d,x.eval env=some d∧bA w S v d)→y.eval env=some d →
  ∃ds,d=.bk ds∧ds.length=vs.length∧∀(i:Nat) (v:Value) (u:D),vs[i]? = some v→ds[i]? = some u→bA w S v u∧u.cells.length=n∧u.yW=true
 | [],vs,y,d,h,hl,_,hd=>by simp[Fp] at h;subst h;simp[E.eval] at hd;subst hd;have:vs=[]:=A0D (by simpa using hl);subst this;exact⟨[],rfl,rfl,by simp⟩
 | s :: r,vs,y,d,h,hl,hh,hd=>by
  match vs,hl with
  | v :: vs,hl=>
   simp only[Fp] at h;split at h
   ·rename_i x y' hx hy;cases h;simp only[E.eval,A0b] at hd;obtain⟨u,hu,d',fo,hc⟩:=hd;obtain⟨ds,rfl,fR,kQ⟩:=Jr (vs:=vs) Ak hy (by simpa using hl) (fun i v s x h1 h2 h3=>hh (i+1) v s x (by simpa using h1) (by simpa using h2) h3) fo;simp only[D.bz,A0x] at hc;subst hc;obtain⟨dx,iY,iG⟩:=hh 0 v s x rfl rfl hx;refine⟨u :: ds,rfl,by simp[fR],fun i v' u' hv kK=>?_⟩;cases i with
    | zero=>simp at hv kK;subst hv kK;exact Ga Ak iY iG hu
    | succ i=>exact kQ i v' u' (by simpa using hv) (by simpa using kK)
   ·cases h
theorem AM (w:World)(t e:TypeId)(i:TypeInfo)(hu:P.underlying t=some (.slice e))(hi:P.info? e=some i):(Instr.buildSlice t 0 #[]).run P w=.ok (.slice (some ⟨w.heap.size,0,none⟩) 0 0) (w.alloc (.cells #[] e)):=by simp[Instr.buildSlice,A0G hu,sizeOf,typeInfo,hi,Instr.fill,newRow];rw[show Array.range 0=#[] from Array.size_eq_zero_iff.1 (by simp)];simp
theorem GW {o:Oper} {t e:TypeId} {len:Nat} {parts:Array (Nat×Operand)} {bh:Operand→SV} {i:TypeInfo} {agg:Bool} {y:E} {z:Value} {dz:D} (ho:o.op=.buildSlice t len parts) (hv:∀x,cS w ρ env (a.eval x) (bh x)) (hu:P.underlying t=some (.slice e)) (hi:P.info? e=some i)
  (hy:Fp agg i.size (parts.toList.map fun p=>bh p.2)=some y) (oa:parts.toList.map (·.1)=List.range len) (mK:0<i.size) (td:len*i.size≤16777216) (qp:agg=true∨i.size=1) (hz:i.zero=some z) (bX:y.eval env=some dz) :
  ∃(r:Array Value) (ds:List D),dz=.bk ds∧ds.length=len∧(execOp a.eval o).run P w=.ok (.value (.slice (some ⟨w.heap.size,0,none⟩) len len)) (w.alloc (.cells r e))∧r.size=len*i.size∧len≤maxLen∧j8 w ρ.S i.size r.toList ds:=by
 have xE:parts.toList.length=len:=by have:=B0q List.length oa;simpa using this
 obtain⟨ds,rfl,Ym,kQ⟩:=Jr (w:=w) (S:=ρ.S) (vs:=parts.toList.map fun p=>a.eval p.2) qp hy (by simp) (fun j v s x h1 h2 h3=>by
  simp only[A0w,A0a] at h1 h2;obtain⟨p,hp,rfl⟩:=h1;obtain⟨q,hq,rfl⟩:=h2;rw[hp] at hq;cases hq;exact SV.toE_rd h3 (hv p.2)) bX
 have Hv:ds.length=len:=by rw[Ym];simpa using xE
 have ab4:(parts.map fun(x:Nat×Operand)=>(x.1,a.eval x.2)).toList=((parts.toList.map fun p=>a.eval p.2).zipIdx 0).map fun x=>(x.2,x.1):=by
  apply E0h;intro j;simp only[C0g,A0w,List.getElem?_zipIdx,A0Q];cases hp:parts.toList[j]? with
  | none=>rfl
  | some p=>
   have h1:(parts.toList.map (·.1))[j]? = some p.1:=by rw[A0w,hp];rfl
   rw[oa] at h1;have h2:p.1=j:=by have hj:j<(List.range len).length:=(A0c.1 h1).1;rw[D0T (by simpa using hj)] at h1;exact(B0M h1).symm
   simp[h2]
 have AS:∀v,v∈parts.toList.map (fun p=>a.eval p.2)→v.cells.size=i.size:=by
  intro v gQ;obtain⟨j,hj⟩:=B0Q gQ;have pT:j<ds.length:=by rw[Ym];exact(A0c.1 hj).1
  obtain⟨h1,h2,h3⟩:=kQ j v _ hj (A0e pT);rw[(h1.cellAt h3).1,h2]
 have bt:∃r:Array Value,(Instr.buildSlice t len (parts.map fun(x:Nat×Operand)=>(x.1,a.eval x.2))).run P w=.ok (.slice (some ⟨w.heap.size,0,none⟩) len len) (w.alloc (.cells r e))∧r.size=len*i.size ∧
   ∀k,k<len*i.size→r[k]? = ((parts.toList.map fun p=>a.eval p.2)[k / i.size]?).bind fun v=>v.cells[k % i.size]?:=by
  rcases D0Y len with h0 | h0
  ·subst h0;have:parts=#[]:=by have:parts.toList=[]:=A0D xE;rw[←B0b (xs:=parts),this]
   subst this;refine⟨#[],?_,by simp,fun k hk=>by simp at hk⟩;rw[show(#[]:Array (Nat×Operand)).map (fun x=>(x.1,a.eval x.2))=#[] from by simp];exact AM w t e i hu hi
  ·have hp':0<len*i.size:=Nat.mul_pos h0 mK;obtain⟨r,hr,kf,xD⟩:=Great.fill_dense mK (parts.toList.map fun p=>a.eval p.2) 0 ((Array.range (len*i.size)).map (z.cells[· % z.cells.size]!)) AS (by simp[xE]);refine⟨r,run_buildSlice w t e len _ r i z hu hi hz (by omega) (by omega) (by rw[ab4];exact hr),by rw[kf];simp,fun k hk=>?_⟩;rw[xD k,A0z ⟨by omega,by simpa[xE] using hk⟩,C0y]
 obtain⟨r,bt,kf,xD⟩:=bt;have qD:len≤maxLen:=by
  have:len≤len*i.size:=Nat.le_mul_of_pos_right _ mK;have h9:len≤9223372036854775807:=by omega
  exact h9
 have Lf:∀(j:Nat) (u:D),ds[j]? = some u→u.cells.length=i.size:=fun j u hj=>by
  have pT:j<(parts.toList.map fun p=>a.eval p.2).length:=by rw[←Ym];exact(A0c.1 hj).1
  exact(kQ j _ u (A0e pT) hj).2.1
 have pS:j8 w ρ.S i.size r.toList ds:=by
  refine⟨by simp[kf,Hv],Lf,fun j u q x hj hq=>?_⟩;have pT:j<(parts.toList.map fun p=>a.eval p.2).length:=by rw[←Ym];exact(A0c.1 hj).1
  obtain⟨h1,h2,h3⟩:=kQ j _ u (A0e pT) hj;obtain⟨h4,v,h5,h6⟩:=(h1.cellAt h3).2 q x hq;obtain⟨hlt,hqs⟩:=s_ Lf hj hq;refine⟨h4,v,?_,h6⟩;have hdiv:(j*i.size+q) / i.size=j:=by rw[C0h,Nat.mul_add_div mK,D0n hqs,D0H]
  have Uz:(j*i.size+q) % i.size=q:=by rw[C0h,D0S,C0C hqs]
  rw[B0c,xD _ (by rw[←Hv];exact hlt),hdiv,Uz,A0e pT];exact h5
 refine⟨r,ds,rfl,Hv,?_,kf,qD,pS⟩;unfold execOp;simp only[ho,A0n,bt,A0h,A0r]
theorem Mn {o:Oper} {t:TypeId} {len:Nat} {parts:Array (Nat×Operand)} {bh:Operand→SV} {ix:Nat} {r:cK} (ho:o.op=.buildSlice t len parts) (hv:∀x,cS w ρ env (a.eval x) (bh x)) (hl:CG P t len parts.toList bh o.dst ix=some r) (h:aF w0 X w a σ env ρ)
  (hd:∀d,o.dst=some d→d<σ.tmps.length) (hm:σ.mem.length=σ.tmps.length) (hb:bD P env ix r.bind) (hf:∀u,r.cm=some u→σ.obj u.1=none∧σ.aM u.1):∃ob x,r.cm=some (ob,x)∧ea P o a w w0 X ((σ.setObj ob (some x)).put o.dst r.val) env:=by
 unfold CG at hl;split at hl
 ·rename_i d e gB hu;split at hl
  ·rename_i i agg y hi Ak hy;split at hl
   ·rename_i hc;cases hl;obtain⟨oa,mK,td,qp,hzero⟩:=hc;obtain⟨iI,mU⟩:=hf _ rfl;refine⟨d,_,rfl,?_⟩;have fR:=hd d gB;have bV:r8 P e=some i.size:=by simp[r8,hi]
    rw[Ak,bV] at hy;simp only[B0l] at hy;obtain⟨dz,bX,cA⟩:=hb;obtain⟨z,hz⟩:=C0t.1 hzero;obtain⟨r,ds,rfl,Hv,JJ,kf,qD,pS⟩:=GW ho hv hu hi hy oa mK td qp hz bX;have hK:bM ρ.S w (w.alloc (.cells r e)):=bM.alloc h.cells _;have eB:(w.alloc (.cells r e)).ownsRow 0 e i.size (.slice (some ⟨w.heap.size,0,none⟩) len len) len r.toList:=World.ownsRow_lit w r len (B0e _) qD kf;have bg:=h.D6 (w':=w.alloc (.cells r e)) (k:=d) (by rw[hm];exact fR) iI mU eB hK (fun o' y' b h1 h2=>?_) (fun b hb=>?_) (fun b hb off _ hS=>?_) rfl ⟨rfl,A0m _⟩ rfl (by simp) (fun b hb _=>g_ w _ b (A0v hb h.grown))
    ·refine bW (v:=.slice (some ⟨w.heap.size,0,none⟩) len len) ?_ (bg.put (by rw[gB];intro d' e;cases e;rw[ah.aP];exact fR) ?_)
     ·exact JJ
     ·exact .own (es:=ds) (by simp only[E.eval];exact cA) (Gz eB Hv (pS.keep hK (ρ.S.pe _)) fun b hb j hj=>.inr ⟨hb,hj⟩) (by simp[dD.j9])
    ·have:=(h.own o' y' b h1 h2).2;refine⟨g_ w _ b this,?_⟩;simp[Value.ownBlock];omega
    ·simp[Value.ownBlock] at hb;exact .inl (by rw[←hb];exact h.grown)
    ·simp[Value.ownBlock] at hb;have:=h.cells b off hS;omega
   ·cases hl
  ·cases hl
 ·cases hl
end
end
end
section
noncomputable section
def yz (nz:Bool)(z:Value)(parts:List (Nat×SV))(i off size:Nat)(agg:Bool):Option E:=
 match parts.find? (fun p=>p.1==i) with
 | some p=>if agg=true∨size=1 then p.2.toE.map (Il agg size) else none
 | none=>(D.jy nz ((z.cells.toList.drop off).take size)).bind fun ds=>if ds.length=size then some (.const (.agg ds)) else none
def DK (nz:Bool)(z:Value)(parts:List (Nat×SV)):Nat→Nat→List ((Nat×Nat)×Bool)→Option E
 | _,off,[]=>if off=z.cells.size then some .nil else none
 | i,off,p :: r=>if p.1.1=off then(match yz nz z parts i off p.1.2 p.2,DK nz z parts (i+1) (off+p.1.2) r with
   | some x,some y=>some (.cons x y)
   | _,_=>none) else none
def py (P:Program)(fields:Array Field):Option (List (Nat×Nat)):=fields.toList.mapM fun f=>(P.info? f.type).map fun i=>(f.offset,i.size)
def gU (P:Program)(fields:Array Field):List Bool:=fields.toList.map fun f=>(jH P f.type).getD false
def D5 (pl:List (Nat×Nat)):Bool:=(List.range pl.length).all fun i=>(List.range pl.length).all fun j=>decide (i=j)||(match pl[i]?,pl[j]? with | some p,some q=>Wd p q | _,_=>true)
def G4 (nz:Bool)(P:Program)(t:TypeId)(parts:List (Nat×Operand))(bh:Operand→SV)(ix:Nat):Option cK:=
 match P.info? t,P.underlying t with
 | some it,some (.struct fields)=>match it.zero,py P fields with
  | some z,some pl=>match DK nz z (parts.map fun p=>(p.1,bh p.2)) 0 0 (pl.zip (gU P fields)) with
   | some y=>if(parts.map (·.1)).Nodup∧parts.all (fun p=>decide (p.1<pl.length))=true∧D5 pl=true then some { val:=.e (.sym ix) false,bind:=some (.ev y) } else none
   | none=>none
  | _,_=>none
 | _,_=>none
section
variable {P:Program} {w w0:World} {X:jN} {a:Act} {σ:ah} {env:List D} {ρ:dD}
theorem DI {nz:Bool}{z:Value}{parts:List (Nat×SV)}(hlen:∀i off size agg x u,yz nz z parts i off size agg=some x→x.eval env=some u→u.cells.length=size):∀{l:List ((Nat×Nat)×Bool)} {i off:Nat} {y:E} {d:D},DK nz z parts i off l=some y→y.eval env=some d →
  ∃cs,d=.agg cs∧off+cs.length=z.cells.size∧(∀(f:Nat) (q:(Nat×Nat)×Bool),l[f]? = some q→q.1.1+q.1.2≤z.cells.size∧∃x u,yz nz z parts (i+f) q.1.1 q.1.2 q.2=some x∧x.eval env=some u) ∧
  ∀k,off≤k→k<z.cells.size→∃f q x u,l[f]? = some q∧q.1.1≤k∧k<q.1.1+q.1.2∧yz nz z parts (i+f) q.1.1 q.1.2 q.2=some x∧x.eval env=some u∧cs[k-off]? = u.cells[k-q.1.1]?
 | [],i,off,y,d,h,hd=>by
  simp only[DK] at h;split at h
  ·rename_i ho;cases h;simp only[E.eval,A0x] at hd;subst hd;exact⟨[],rfl,by simpa using ho,by simp,fun k h1 h2=>by omega⟩
  ·cases h
 | q :: r,i,off,y,d,h,hd=>by
  simp only[DK] at h;split at h
  ·rename_i ho;split at h
   ·rename_i x y' hx hy;cases h;simp only[E.eval,A0b] at hd;obtain⟨u,hu,d',fo,hc⟩:=hd;obtain⟨cs,rfl,hl,h1,h2⟩:=DI hlen hy fo;have Hj:=hlen _ _ _ _ _ _ hx hu;have zj:d=.agg (u.cells++cs):=by
     unfold D.cons at hc;split at hc <;> first | cases hc;done | (cases hc;rename_i e1 e2;cases e2;rfl) | skip
     all_goals first | (cases hc;rfl) | cases hc
    refine⟨u.cells++cs,zj,by simp[Hj];omega,fun f q' hq=>?_,fun k Ln Ef=>?_⟩
    ·cases f with
     | zero=>simp at hq;subst hq;rw[ho];exact⟨by omega,x,u,hx,hu⟩
     | succ f=>
      obtain⟨h5,x',u',h3,h4⟩:=h1 f q' (by simpa using hq);exact⟨h5,x',u',by rw[show i+(f+1)=i+1+f from by omega];exact h3,h4⟩
    ·by_cases hk:k<off+q.1.2
     ·refine⟨0,q,x,u,rfl,by omega,by omega,by rw[ho];exact hx,hu,?_⟩;rw[A0g (by omega),ho]
     ·obtain⟨f,q',x',u',h3,h4,h5,h6,h7,h8⟩:=h2 k (by omega) Ef;refine⟨f+1,q',x',u',by simpa using h3,h4,h5,by rw[show i+(f+1)=i+1+f from by omega];exact h6,h7,?_⟩;rw[A0o (by omega),Hj,show k-off-q.1.2=k-(off+q.1.2) from by omega];exact h8
   ·cases h
  ·cases h
theorem pX {pl:List (Nat×Nat)}(h:D5 pl=true){i j:Nat}{p q:Nat×Nat}(hi:pl[i]? = some p)(hj:pl[j]? = some q)(bQ:i≠j):p.1+p.2≤q.1∨q.1+q.2≤p.1:=by have h1:=A0C.1 h i (A0X.2 (A0c.1 hi).1);have h2:=A0C.1 h1 j (A0X.2 (A0c.1 hj).1);simp only[bQ,decide_false,D0r,hi,hj,Wd,B0v,A0t] at h2;exact h2
theorem mapM_length {α β:Type}{f:α→Option β}:∀{l:List α} {r:List β},l.mapM f=some r→r.length=l.length
 | [],r,h=>by simp at h;subst h;rfl
 | a :: l,r,h=>by simp only[C0U,D0O,E0z,A0b,A0x] at h;obtain⟨b,_,r',h2,rfl⟩:=h;simp[mapM_length h2]
theorem G3 {nz:Bool} {o:Oper} {t:TypeId} {parts:Array (Nat×Operand)} {bh:Operand→SV} {ix:Nat} {r:cK} (ho:o.op=.build t parts) (hv:∀x,cS w ρ env (a.eval x) (bh x)) (hl:G4 nz P t parts.toList bh ix=some r) (h:aF w0 X w a σ env ρ)
  (hd:∀d,o.dst=some d→d<σ.tmps.length) (hb:bD P env ix r.bind):r.cm=none∧ea P o a w w0 X (σ.put o.dst r.val) env:=by
 unfold G4 at hl;split at hl
 ·rename_i it fields UG hu;split at hl
  ·rename_i z pl hz mR;split at hl
   ·rename_i y hy;split at hl
    ·rename_i hc;obtain⟨oJ,nh,hap⟩:=hc;cases hl;refine⟨rfl,?_⟩;obtain⟨dz,bX,cA⟩:=hb;have anX:pl.length=fields.toList.length:=mapM_length mR;have BD:∀i off size agg x u,yz nz z (parts.toList.map fun p=>(p.1,bh p.2)) i off size agg=some x→x.eval env=some u→u.cells.length=size ∧
       ((∃p,p∈parts.toList∧p.1=i∧bA w ρ.S (a.eval p.2) u∧u.yW=true)∨((∀p,p∈parts.toList→p.1≠i)∧∃ds,u=.agg ds∧D.jy nz ((z.cells.toList.drop off).take size)=some ds)):=by
      intro i off size agg x u hx kK;unfold yz at hx;split at hx
      ·rename_i p hp;split at hx
       ·rename_i Ak;obtain⟨x',fm,rfl⟩:=A0a.1 hx;have iK:=B0G hp;have vD:=D0h hp;simp only[B0K] at vD;obtain⟨p0,Uo,rfl⟩:=A0F.1 iK;obtain⟨d,iY,iG⟩:=SV.toE_rd fm (hv p0.2);obtain⟨h1,h2,h3⟩:=Ga Ak iY iG kK;exact⟨h2,.inl ⟨p0,Uo,vD,h1,h3⟩⟩
       ·cases hx
      ·rename_i Ah;obtain⟨ds,kQ,hx⟩:=A0b.1 hx;split at hx
       ·rename_i fR;cases hx;simp only[E.eval,A0x] at kK;subst kK;refine⟨fR,.inr ⟨fun p hp vD=>?_,ds,rfl,kQ⟩⟩;have:=D0t.1 Ah (p.1,bh p.2) (A0F.2 ⟨p,hp,rfl⟩);simp[vD] at this
       ·cases hx
     obtain⟨cs,rfl,dU,hf,QH⟩:=DI (fun i off size agg x u h1 h2=>(BD i off size agg x u h1 h2).1) hy bX;rw[A0Q] at dU;have abI:∀(i:Nat) (q:Nat×Nat),pl[i]? = some q→∃b,(pl.zip (gU P fields))[i]? = some (q,b):=by
      intro i q hq;have hi:=(A0c.1 hq).1;have hi2:i<(gU P fields).length:=by simp only[gU,B0u];omega
      exact⟨(gU P fields)[i],by rw[C0M];exact⟨hq,A0e hi2⟩⟩
     have MJ:∀(i:Nat) (q:(Nat×Nat)×Bool),(pl.zip (gU P fields))[i]? = some q→pl[i]? = some q.1:=by intro i q hq;rw[C0M] at hq;exact hq.1
     have FA:∀p,p∈parts.toList→∃off,pl[p.1]? = some (off,(a.eval p.2).cells.size)∧off+(a.eval p.2).cells.size≤z.cells.size:=by
      intro p hp;have hlt:p.1<pl.length:=by have:=A0C.1 nh p hp;simpa using this
      obtain⟨b,hb⟩:=abI p.1 pl[p.1] (A0e hlt);obtain⟨hle,x,u,h1,h2⟩:=hf p.1 _ hb;rw[A0Q] at h1;obtain⟨h3,h4⟩:=BD _ _ _ _ _ _ h1 h2;rcases h4 with⟨p',hp',vD,hr,Ll⟩ | ⟨uS,_⟩
      ·have:=iD oJ hp' hp vD;subst this;have bV:=(hr.cellAt Ll).1;rw[h3] at bV;exact⟨pl[p'.1].1,by rw[bV];exact A0e hlt,by rw[bV];exact hle⟩
      ·exact absurd rfl (uS p hp)
     obtain⟨r,hr,kf,xD⟩:=Bs (place:=fun i=>pl.toArray[i]?) (parts.toList.map fun p=>(p.1,a.eval p.2)) z.cells (fun p hp=>by
      obtain⟨q,hq,rfl⟩:=A0F.1 hp;obtain⟨off,h1,h2⟩:=FA q hq;exact⟨off,by simpa using h1,h2⟩)
     have Di:P.built t (parts.map fun(x:Nat×Operand)=>(x.1,a.eval x.2)).toList=some r:=by unfold Program.built;simp only[UG,hu,hz];unfold py at mR;simp only[mR,C0g];exact hr
     have jK:∀(k:Nat) (c:D),cs[k]? = some c→c.one=true∧∃v,r[k]? = some v∧bA w ρ.S v c:=by
      intro k c hk;have OT:k<z.cells.size:=by rw[←dU];exact(A0c.1 hk).1
      obtain⟨f,q,x,u,h1,h2,h3,h4,h5,h6⟩:=QH k (B0e _) OT;rw[C0y] at h6;rw[A0Q] at h4;have JN:=MJ f q h1;obtain⟨h7,h8⟩:=BD _ _ _ _ _ _ h4 h5;have huc:u.cells[k-q.1.1]? = some c:=h6 ▸ hk;have zh:∀p,p∈parts.toList→p.1≠f→¬Ea (fun i=>pl.toArray[i]?) (p.1,a.eval p.2) k:=by
       rintro p hp bQ ⟨off,size,h9,zl,Lp⟩
       simp only[A0R] at h9;have:=pX hap h9 JN bQ;simp only at this;omega
      rcases h8 with⟨p,hp,vD,bO,Ll⟩ | ⟨uS,ds,rfl,kQ⟩
      ·obtain⟨h9,v,zl,Lp⟩:=(bO.cellAt Ll).2 _ c huc;have bV:=(bO.cellAt Ll).1;rw[h7] at bV;refine⟨h9,v,?_,Lp⟩;have:=(xD k OT).2 (p.1,a.eval p.2) q.1.1 (A0F.2 ⟨p,hp,rfl⟩) (by simp only[A0R,vD,JN,bV]) h2 (by simp only[bV];exact h3) fun q' HY bQ=>by obtain⟨p',hp',rfl⟩:=A0F.1 HY;refine zh p' hp' fun e=>bQ ?_;rw[iD oJ hp' hp (e.trans vD.symm)]
       rw[this];exact zl
      ·have:=(xD k OT).1 fun q' HY=>by obtain⟨p',hp',rfl⟩:=A0F.1 HY;exact zh p' hp' (uS p' hp')
       rw[this];obtain⟨_,bO⟩:=D.kz (w:=w) (S:=ρ.S) kQ;have jh:((z.cells.toList.drop q.1.1).take q.1.2)[k-q.1.1]? = some z.cells[k]:=by rw[A0H,A0z (by omega),A0Z,show q.1.1+(k-q.1.1)=k from by omega];simp[OT]
       obtain⟨h9,zl⟩:=bO _ _ c jh huc;exact⟨zl,z.cells[k],A0p OT,h9⟩
     refine bl h hd (v:=.agg r) ?_ (.e (d:=.agg cs) (by simp only[E.eval];exact cA) (.agg (by rw[kf,dU]) (fun k c hk=>(jK k c hk).1) fun k v c gQ hk=>?_) (by simp))
     ·unfold execOp;simp only[ho,A0n,run_build w t _ r Di,A0h,A0r]
     ·obtain⟨_,v',h1,h2⟩:=jK k c hk;rw[gQ] at h1;cases h1;exact h2
    ·cases hl
   ·cases hl
  ·cases hl
 ·cases hl
end
end
end
section
noncomputable section
def gC (obj:Nat→Option aY):Option cF:=
 match obj br with
 | some (.store cf _)=>some cf
 | _=>none
def HH (agg:Bool)(n:Nat)(x:E):E:=if agg then .bE n x else .cons (.aV x) .nil
def T1 (o:Oper)(act:List (E×Bool))(obj:Nat→Option aY):Bool:=
 match act,o.dst,gC obj with
 | _ :: _,_,_=>true
 | [],some d,some cf=>cf.adr.contains d
 | _,_,_=>false
def Qi (P:Program)(o:Oper)(bh:Operand→SV)(act:List (E×Bool))(obj:Nat→Option aY)(ix:Nat):Option cK:=
 if T1 o act obj then
  match o.op with
  | .box t x=>(match jH P t,r8 P t,(bh x).toE with
   | some agg,some n,some x'=>some { val:=.e (.sym ix) true,bind:=some (.ev (.cw (HH agg n x'))) }
   | _,_,_=>none)
  | .buildSlice t len parts=>(CG P t len (parts.toList) bh (some 0) ix).map fun r=>{ val:=.e (.sym ix) true,bind:=r.bind }
  | _=>none
 else none
def Fh:Operand→Bool
 | .const (.slice none 0 0)=>true
 | _=>false
def IY (s:Operand)(sv:SV):SV:=if Fh s=true then .e (.const .bS) true else sv
theorem Oe {w:World}{ρ:dD}{env:List D}{a:Act}{s:Operand}{sv:SV}(h:cS w ρ env (a.eval s) sv):cS w ρ env (a.eval s) (IY s sv):=by
 unfold IY;split
 ·rename_i hn;unfold Fh at hn;split at hn
  ·exact .e rfl .bS fun _=>rfl
  ·cases hn
 ·exact h
def sX (P:Program)(o:Oper)(bh:Operand→SV)(hO:Option aY)(ix:Nat):Option cK:=
 match hO,o.dst with
 | some (.store cf h),some d=>
  if cf.ro then none else match o.op with
  | .alloc t=>if cf.B_.contains d then(match(P.info? t).bind (·.zero) with
   | some z=>(match D.jy cf.aS z.cells.toList with
    | some ds=>some { val:=.e (.aJ h) true,cm:=some (br,.store cf (.sym ix)),bind:=some (.ev (.fO t z.cells.size h (.const (.agg ds)))) }
    | none=>none)
   | none=>none) else none
  | .box t x=>if cf.B_.contains d then(match jH P t,r8 P t,(bh x).toE with
   | some agg,some n,some x'=>if agg=true∨n=1 then some { val:=.e (.aJ h) true,cm:=some (br,.store cf (.sym ix)),bind:=some (.ev (.fO t n h (HH agg n x'))) } else none
   | _,_,_=>none) else none
  | .makeSlice t n c=>if cf.B_.contains d then(match Fm cf.aS P t (bh n) (bh c) (some 0) ix,P.underlying t with
   | some { bind:=some (.ev y),.. },some (.slice e)=>(match P.info? e with
    | some i=>if 0<i.size then some { val:=.e (.cR h y) true,cm:=some (br,.store cf (.sym ix)),bind:=some (.ev (.cE e i.size h y)) } else none
    | none=>none)
   | _,_=>none) else none
  | .buildSlice t len parts=>if cf.B_.contains d then(match CG P t len parts.toList bh (some 0) ix,P.underlying t with
   | some { bind:=some (.ev y),.. },some (.slice e)=>(match P.info? e with
    | some i=>if 0<i.size then some { val:=.e (.cR h y) true,cm:=some (br,.store cf (.sym ix)),bind:=some (.ev (.cE e i.size h y)) } else none
    | none=>none)
   | _,_=>none) else none
  | .assign x=>if cf.B_.contains d then(match x with
   | .const (.slice none 0 0)=>some { val:=.e (.const .bS) true }
   | _=>none) else none
  | .call c=>(match c.callee with
   | .builtin .append=>(match c.args.toList,c.argTypes.toList with
    | [s,x],[t,t']=>if t=t'∧¬(Fh s=true∧cf.adr.contains d=true) then(match IY s (bh s),(bh x).toE,P.underlying t with
     | .e s' _,some x',some (.slice e)=>(match P.info? e with
      | some i=>(match i.zero with
       | some z=>if z.cells.size=i.size∧0<i.size∧e≠K3 then some { val:=.e (.apps h s' x') true,cm:=some (br,.store cf (.sym ix)),bind:=some (.ev (.gM e i.size i.bytes h s' x')) } else none
       | none=>none)
      | none=>none)
     | _,_,_=>none) else none
    | _,_=>none)
   | _=>none)
  | _=>none
 | _,_=>none
def NN (o:Oper):Bool:=
 match o.op with
 | .load _ _ | .store _ _ _ | .alloc _ | .box _ _ | .makeSlice _ _ _ | .assign _ | .buildSlice _ _ _ | .makeMap _ _ | .mapUpdate _ _ _ _ | .insert _ _ _ _ | .lookup _ _ _ _ | .range _ _ | .entry _ | .mapEntry _ _ _ | .entryStore _ _ _ _ | .next _ true | .convert _ _ _ | .indexAddr _ (.global _) _=>true
 | .call c=>(match c.callee with | .value _=>true | .invoke _ _=>true | .builtin .append=>true | .builtin .len=>true | .builtin .delete=>true | .builtin .unsafeString=>true | _=>false)
 | _=>false
def SV.L_:SV→Bool
 | .e _ _=>true
 | .cond _ sv=>sv.L_
 | _=>false
theorem LK {act:List (E×Bool)}{sv:SV}{x:E}{s:Bool}(h:sv.strip act=.e x s):sv.L_=true:=by
 unfold SV.strip at h;split at h
 ·split at h
  ·subst h;rfl
  ·cases h
 ·subst h;rfl
def uq:Option aY→Option cF
 | some (.store cf _)=>some cf
 | _=>none
def Bj (cf:Option cF):Callee→Bool
 | .value (.func g)=>(match cf with | some cf=>cf.XK.contains g | none=>false)
 | _=>false
def fk (o:Oper)(m:Operand→Bool)(cf:Option cF):Bool:=
 match o.op with
 | .load _ x=>m x
 | .store _ x _=>m x
 | .alloc _ | .box _ _ | .makeSlice _ _ _ | .buildSlice _ _ _ | .convert _ _ _=>match cf,o.dst with
  | some cf,some d=>cf.B_.contains d
  | _,_=>false
 | .makeMap _ _ | .mapUpdate _ _ _ _ | .insert _ _ _ _ | .lookup _ _ _ _ | .range _ _ | .entry _ | .mapEntry _ _ _ | .entryStore _ _ _ _ | .next _ true | .indexAddr _ (.global _) _=>true
 | .call c=>(match c.callee with
  | .value _=>!Bj cf c.callee
  | .invoke _ _=>true
  | .builtin .append=>match c.args.toList with
   | s :: _=>m s||Fh s
   | []=>false
  | .builtin .len=>(match cf with
   | some cf=>c.argTypes.toList.any cf.maps.contains
   | none=>false)
  | .builtin .delete=>true
  | .builtin .unsafeString=>true
  | _=>false)
 | _=>false
def Jj (P:Program)(o:Oper)(bh:Operand→SV)(obj:Nat→Option aY)(ix:Nat):Option cK:=
 if NN o=true then sX P o bh (obj br) ix else none
section
variable {P:Program} {w w0:World} {X:jN} {a:Act} {σ:ah} {env:List D} {ρ:dD}
theorem FQ {S:Sets}{agg:Bool}{n:Nat}{x:E}{d dc:D}{v:Value}(hx:x.eval env=some d)(hr:bA w S v d)(hc:(HH agg n x).eval env=some dc):∃cs,dc=.agg cs∧v.cells.size=cs.length∧(agg=true→cs.length=n)∧(agg=false→cs.length=1)∧(∀(i:Nat) (u:Value),v.cells[i]? = some u→u.oneCell'=true) ∧
  (∀(i:Nat) (c:D),cs[i]? = some c→c.one=true)∧∀(i:Nat) (u:Value) (c:D),v.cells[i]? = some u→cs[i]? = some c→bA w S u c:=by
 unfold HH at hc;split at hc
 ·rename_i qp;simp only[E.eval,hx,A0d] at hc;unfold D.bE at hc;split at hc
  ·rename_i cs;split at hc
   ·rename_i hl;cases hc;obtain⟨vs,rfl,iL,ho,hh⟩:=hr.kq;refine⟨cs,rfl,iL,fun _=>hl,(by simp[qp]),fun i u hu=>?_,fun i c hc=>ho i c hc,hh⟩;have hi:i<cs.length:=by rw[←iL];exact(A0l.1 hu).1
    exact(hh i u _ hu (A0e hi)).one (ho i _ (A0e hi))
   ·cases hc
  ·cases hc
 ·rename_i qp;simp only[E.eval,hx,A0d,D.aV] at hc
  by_cases h1:d.one=true
  ·rw[A0z h1] at hc;simp only[A0d,D.KD h1] at hc;cases hc;obtain⟨g1,g2,g3⟩:=hr.KK (by rw[D.cells_one h1];simp[h1]);rw[D.cells_one h1] at g1 g3;refine⟨[d],rfl,g1,(by simp[qp]),fun _=>rfl,g2,fun i c hc=>?_,g3⟩;cases i with
   | zero=>simp at hc;subst hc;exact h1
   | succ i=>simp at hc
  ·rw[A0B h1] at hc;cases hc
theorem Mt {o:Oper}{bh:Operand→SV}{act:List (E×Bool)}{ix:Nat}{r:cK}(hv:∀x,cS w ρ env (a.eval x) (bh x))(hl:Qi P o bh act σ.obj ix=some r)(h:aF w0 X w a σ env ρ)(hd:∀d,o.dst=some d→d<σ.tmps.length)(hb:bD P env ix r.bind) :
  r.cm=none∧ea P o a w w0 X (σ.put o.dst r.val) env:=by
 unfold Qi at hl;split at hl
 ·split at hl
  ·rename_i t x ho;split at hl
   ·rename_i agg n x' hg hn hx;cases hl;obtain⟨dx,iY,iG⟩:=SV.toE_rd hx (hv x);obtain⟨d,he,cA⟩:=hb;simp only[E.eval,A0b] at he;obtain⟨dc,FF,he⟩:=he;obtain⟨cs,rfl,h1,_,_,h2,h3,h4⟩:=FQ iY iG FF;simp only[D.cw] at he;cases he;have bt:(execOp a.eval o).run P w=.ok (.value (.pointer (some ⟨w.heap.size,0,none⟩))) (w.alloc (.cells (a.eval x).cells t)):=by unfold execOp;simp only[ho,Instr.box,A0n,A0h,newVar,newRow,A0r,E0E];rfl
    have bg:=h.Wf (.cells (a.eval x).cells t);have hK:bM ρ.S w (w.alloc (.cells (a.eval x).cells t)):=bM.alloc h.cells _;refine⟨rfl,bW bt (bg.put hd (.e (d:=.ptr cs) (by simp[E.eval,cA]) ?_ fun _=>rfl))⟩;have jK:∀(j:Nat) (c:D),cs[j]? = some c→∃u,(a.eval x).cells[j]? = some u:=fun j c hj=>⟨_,A0p (by rw[h1];exact(A0c.1 hj).1)⟩;refine .ptr (val:=fun j=>(a.eval x).cells.getD j undef) h3 (fun j c hj=>.inr rfl) (fun j c hj=>?_) fun j c hj=>?_
    ·obtain⟨u,hu⟩:=jK j c hj;rw[eM (C0p w _),A0Q,hu,A0s,hu];rfl
    ·obtain⟨u,hu⟩:=jK j c hj;rw[A0s,hu];exact(h4 j u c hu hj).keep hK (ρ.S.pe _)
   ·cases hl
  ·rename_i t len parts ho;obtain⟨r0,Wx,rfl⟩:=A0a.1 hl;unfold CG at Wx;split at Wx
   ·rename_i e gB hu;split at Wx
    ·rename_i i agg y hi Ak hy;split at Wx
     ·rename_i hc;cases Wx;obtain⟨oa,mK,td,qp,hzero⟩:=hc;have bV:r8 P e=some i.size:=by simp[r8,hi]
      rw[Ak,bV] at hy;simp only[B0l] at hy;obtain⟨dz,bX,cA⟩:=hb;obtain⟨z,hz⟩:=C0t.1 hzero;obtain⟨r,ds,rfl,Hv,JJ,kf,qD,pS⟩:=GW ho hv hu hi hy oa mK td qp hz bX;have bg:=h.Wf (.cells r e);have hK:bM ρ.S w (w.alloc (.cells r e)):=bM.alloc h.cells _;refine⟨rfl,bW JJ (bg.put hd (.e (d:=.bk ds) (by simp[E.eval,cA]) ?_ fun _=>rfl))⟩;have eB:(w.alloc (.cells r e)).ownsRow 0 e i.size (.slice (some ⟨w.heap.size,0,none⟩) len len) len r.toList:=World.ownsRow_lit w r len (B0e _) qD kf;exact Gz eB Hv (pS.keep hK (ρ.S.pe _)) fun b hb j hj=>.inr (by simpa[Value.ownBlock] using hb.symm)
     ·cases Wx
    ·cases Wx
   ·cases Wx
  ·cases hl
 ·cases hl
theorem GF {S:Sets}{size:Nat}{v:Value}{ys:List D}(h:bA w S v (.bk ys))(hz:cC size ys=true) :
  (v=.slice none 0 0∧ys=[])∨∃(ad:Addr) (m c:Nat) (news:List Value),v=.slice (some ad) m c∧ys.length=m∧news.length=m*size∧(∀j u,news[j]? = some u→w.cell? (ad.add j)=some u)∧(∀u∈news,u.oneCell'=true)∧j8 w S size news ys:=by
 have Lf:∀(i:Nat) (e:D),ys[i]? = some e→e.cells.length=size:=fun i e he=>nF hz he;cases h with
 | nil=>exact .inl ⟨rfl,rfl⟩
 | @emp ad c _=>exact .inr ⟨ad,0,c,[],rfl,rfl,by simp,by simp,by simp,by simp,Lf,by simp⟩
 | @bk b off len cap Iz _ val hl hc hm OK ho hS hw hr=>
  right;refine⟨⟨b,off,none⟩,len,cap,(List.range (len*size)).map fun q=>val (q / size) (q % size),rfl,hl.symm,by simp,?_,?_,by simp[hl],Lf,?_⟩
  all_goals
   have jh:∀q,q<len*size→∃e d,ys[q / size]? = some e∧e.cells[q % size]? = some d∧Iz=size:=by
    intro q hq;have hs:0<size:=by
     rcases D0Y size with h0 | h0
     ·subst h0;simp at hq
     ·exact h0
    have hi:q / size<ys.length:=by rw[←hl];exact(D0c hs).2 hq
    have dU:=Lf _ _ (A0e hi);have hj:q % size<(ys[q / size]).cells.length:=by rw[dU];exact C0D _ hs
    exact⟨_,_,A0e hi,A0e hj,(OK _ _ (A0e hi)).symm.trans dU⟩
  ·intro j u hu;simp only[A0w,A0a] at hu;obtain⟨q,hq,rfl⟩:=hu;obtain⟨pT,rfl⟩:=A0c.1 hq;simp only[E0l] at pT;simp only[D0w];obtain⟨e,d,h1,h2,rfl⟩:=jh j pT;have:=hw _ _ _ _ h1 h2;rw[gO];have Dg:=Nat.div_add_mod j Iz;rw[C0h] at Dg;rw[show off+j=off+j / Iz*Iz+j % Iz from by omega];exact this
  ·intro u hu;simp only[A0F,A0X] at hu;obtain⟨q,hq,rfl⟩:=hu;obtain⟨e,d,h1,h2,rfl⟩:=jh q hq;exact(hr _ _ _ _ h1 h2).one (ho _ _ _ _ h1 h2)
  ·intro i e j d he hd;obtain⟨hlt,hj⟩:=s_ Lf he hd;refine⟨ho _ _ _ _ he hd,val i j,?_,hr _ _ _ _ he hd⟩;have hq:i*size+j<len*size:=by rw[hl];exact hlt
   rw[A0w,D0T hq];have hs:0<size:=by omega
   have h1:(i*size+j) / size=i:=by rw[C0h,Nat.mul_add_div hs,D0n hj,D0H]
   have h2:(i*size+j) % size=j:=by rw[C0h,D0S,C0C hj]
   simp[h1,h2]
theorem vS {sz:Nat}:∀{n:Nat} {cs:List D} {i:Nat},i<n→(chunks sz n cs)[i]? = some ((cs.drop (i*sz)).take sz)
 | 0,_,_,h=>absurd h (B0U _)
 | n+1,cs,0,_=>by simp[chunks]
 | n+1,cs,i+1,h=>by rw[chunks,B0B,vS (by omega),D0F,E0B,D0J]
theorem kE {sz:Nat}:∀{n:Nat} {cs:List D},(chunks sz n cs).length=n
 | 0,_=>rfl
 | n+1,cs=>by rw[chunks,B0a,kE]
theorem Co {S:Sets}{az:Nat→Prop}{bs:List D}{size:Nat}{v:Value}{dy:D}{ys:List D}(hst:cI w S az bs)(h:bA w S v dy)(ha:D.Ic (.st bs) size dy=some ys)(hz:cC size ys=true) :
  (ys=[]∧(v=.slice none 0 0∨∃ad c,v=.slice (some ad) 0 c))∨∃(ad:Addr) (m c:Nat) (news:List Value),v=.slice (some ad) m c∧ys.length=m∧news.length=m*size∧(∀j u,news[j]? = some u→w.cell? (ad.add j)=some u)∧(∀u∈news,u.oneCell'=true)∧j8 w S size news ys:=by
 unfold D.Ic at ha;split at ha
 ·cases ha;rcases GF h hz with⟨h1,h2⟩ | h1
  ·exact .inl ⟨h2,.inl h1⟩
  ·exact .inr h1
 ·cases ha;cases h;exact .inl ⟨rfl,.inl rfl⟩
 ·rename_i j off m;split at ha
  ·rename_i hm;subst hm;cases ha;cases h;exact .inl ⟨rfl,.inr ⟨_,_,rfl⟩⟩
  ·obtain⟨blk,hblk,ha⟩:=A0b.1 ha;split at ha
   ·rename_i dQ;cases ha;obtain⟨hf,vs,⟨e',hh,xz⟩,bV,hlen,cV,hr,jP⟩:=hst.cells j _ _ _ (h_ hblk);cases h with
    | @sl _ _ _ c hj hle zk h0=>
    right;refine⟨⟨S.loc j,off,none⟩,m,c,(vs.toList.drop off).take (m*size),rfl,by simp[kE],?_,fun q u hq=>?_,fun u hu=>?_,?_,fun i e he=>nF hz he,fun i e q d he hd=>?_⟩
    ·rw[B0g,B0E,A0W];omega
    ·rw[A0H] at hq;split at hq
     ·rw[A0Z] at hq;rw[gO];simp only[World.cell?,hh];simpa using hq
     ·cases hq
    ·obtain⟨q,hq⟩:=B0Q hu;rw[A0H] at hq;split at hq
     ·rename_i hql;rw[A0Z] at hq;have dU:off+q<blk.2.2.length:=by omega
      have hd:=A0e dU;exact(hr _ _ _ (by simpa using hq) hd).one (cV _ _ hd)
     ·cases hq
    ·rw[B0g,B0E,A0W,B0u,kE];omega
    ·have hi:i<m:=by have:=(A0c.1 he).1;rw[B0u,kE] at this;exact this
     rw[A0w,vS hi] at he;cases he;simp only[D.cells] at hd;rw[A0H] at hd;split at hd
     ·rename_i hq;rw[D0F,A0Z] at hd;have hlt:i*size+q<m*size:=by have:(i+1)*size≤m*size:=B0k _ hi;rw[E0B] at this;omega
      refine⟨cV _ _ hd,?_⟩;have iL:off+(i*size+q)<vs.size:=by omega
      refine⟨vs[off+(i*size+q)],?_,hr _ _ _ (A0p iL) (by rw[←C0m];exact hd)⟩;rw[A0H,A0z hlt,A0Z];simp[iL]
     ·cases hd
   ·cases ha
 ·cases ha
theorem j8.append {S:Sets}{size:Nat}{xs ys:List Value}{es fs:List D}(h:j8 w S size xs es)(k:j8 w S size ys fs):j8 w S size (xs++ys) (es++fs):=by
 obtain⟨h1,h2,h3⟩:=h;obtain⟨k1,k2,k3⟩:=k;refine⟨by simp[h1,k1,B0w],fun i e he=>?_,fun i e j d he hd=>?_⟩
 ·rw[B0J] at he;split at he
  ·exact h2 i e he
  ·exact k2 _ e he
 ·rw[B0J] at he;split at he
  ·obtain⟨h4,v,h5,h6⟩:=h3 i e j d he hd;refine⟨h4,v,?_,h6⟩;rw[A0g (by rw[h1];exact(s_ h2 he hd).1)];exact h5
  ·rename_i hi;obtain⟨h4,v,h5,h6⟩:=k3 _ e j d he hd;refine⟨h4,v,?_,h6⟩;have hle:es.length*size≤i*size:=B0k _ (by omega);rw[A0o (by rw[h1];omega),h1];rw[show i*size+j-es.length*size=(i-es.length)*size+j from by rw[Nat.sub_mul];omega];exact h5
def Sets.more (S:Sets)(b k:Nat)(l:Loop×Code:=default):Sets:={ mem:=S.mem,loc:=fun i=>if i=S.n then b else S.loc i,n:=S.n+1,cap:=fun i=>if i=S.n then k else S.cap i,hold:=S.hold,mz:=fun i=>if i=S.n then l else S.mz i }
theorem Sets.ua (S:Sets)(b k:Nat)(l:Loop×Code:=default):S≤S.more b k l:=
 ⟨fun _ _ h=>h,E0K _,fun i hi=>by simp[Sets.more,D0f hi],fun i hi=>by simp[Sets.more,D0f hi],rfl,fun i hi=>by simp[Sets.more,D0f hi]⟩
theorem qK {w':World} {bs nS:List D} {k b:Nat} {l:Loop×Code} {z:D} {bJ:Nat→Prop} (hst:cI w ρ.S ρ.az bs) (hK:bM ρ.S w w') (uf:nS.length=bs.length) (hold:∀(i:Nat) (x:D),nS[i]? = some x→x.live=true→bs[i]? = some x∧ρ.S.loc i≠b∧w'.heap[ρ.S.loc i]? = w.heap[ρ.S.loc i]?)
  (hf:∀c,bJ c↔(ρ.az c∨c=b))
  (HV:∀e sz cs,z=.blk e sz cs→∃vs:Array Value,nI w' b vs e∧vs.size=k*sz∧cs.length≤vs.size∧(∀(j:Nat) (d:D),cs[j]? = some d→d.one=true)∧∀(j:Nat) (v:Value) (d:D),vs[j]? = some v→cs[j]? = some d→bA w ρ.S v d)
  (XY:∀bU,z=.cg bU→∃(es:Array MapEntry) (clock:Nat),w'.heap[b]? = some (.map es clock)∧gG es clock bU∧∀(j:Nat) (e:MapEntry) (kv:D),es[j]? = some e→(D.kept bU)[j]? = some kv→∃dk dv,kv=.a_ [dk,dv]∧bA w ρ.S e.key dk∧bA w ρ.S e.val dv)
  (hS:∀off,¬ρ.S b off) (hz3:z.isIt=true→zI (ρ.S.more b k l) ρ.S.n w'.heap[b]? z:=by intro hz;cases hz):cI w' (ρ.S.more b k l) bJ (nS++[z]):=by
 have hle:=ρ.S.ua b k l;have gd:∀(i:Nat) (x:D),(nS++[z])[i]? = some x→(i=ρ.S.n∧x=z)∨(i<ρ.S.n∧nS[i]? = some x):=by
  intro i x hi;rw[B0J] at hi;split at hi
  ·rename_i hlt;exact .inr ⟨by rw[hst.n,←uf];exact hlt,hi⟩
  ·rename_i hge;have hi0:i-nS.length=0:=by have:=(A0c.1 hi).1;simp at this;omega
   rw[hi0] at hi;simp only[A0L,A0x] at hi;exact .inl ⟨by rw[hst.n,←uf];omega,hi.symm⟩
 have h1:(ρ.S.more b k l).loc ρ.S.n=b:=by simp[Sets.more]
 have h2:(ρ.S.more b k l).cap ρ.S.n=k:=by simp[Sets.more]
 refine⟨by simp[Sets.more,hst.n,uf],fun i e' yG vR hi=>?_,fun c off hc hs=>?_,fun i bU hi=>?_,fun i j x y hi hj hx hy hl=>?_,fun i y hi hy=>?_⟩
 ·rcases gd i _ hi with⟨rfl,hz⟩ | ⟨hlt,hi⟩
  ·rw[h1,h2];obtain⟨vs,g1,g2,g3,g4,g5⟩:=HV _ _ _ hz.symm;exact⟨(hf b).2 (.inr rfl),vs,g1,g2,g3,g4,fun j v d hv hd=>(g5 j v d hv hd).keep hK hle,hS⟩
  ·obtain⟨qn,bQ,hh⟩:=hold i _ hi rfl;obtain⟨g1,us,g2,g3,g4,g5,g6,g7⟩:=hst.cells i _ _ _ qn;rw[hle.loc i hlt,hle.cap i hlt];exact⟨(hf _).2 (.inl g1),us,g2.to hh,g3,g4,g5,fun j v d hv hd=>(g6 j v d hv hd).keep hK hle,g7⟩
 ·rcases(hf c).1 hc with h1 | rfl
  ·exact hst.v_ c off h1 hs
  ·exact hS off hs
 ·rcases gd i _ hi with⟨rfl,hz⟩ | ⟨hlt,hi⟩
  ·rw[h1];obtain⟨es,clock,g1,g2,g3⟩:=XY _ hz.symm;refine⟨(hf b).2 (.inr rfl),es,clock,g1,g2,hS,fun j e kv he iM=>?_⟩;obtain⟨dk,dv,g4,g5,g6⟩:=g3 j e kv he iM;exact⟨dk,dv,g4,g5.keep hK hle,g6.keep hK hle⟩
  ·obtain⟨qn,bQ,hh⟩:=hold i _ hi rfl;obtain⟨g1,es,clock,g2,g3,g4,g5⟩:=hst.maps i _ qn;rw[hle.loc i hlt];refine⟨(hf _).2 (.inl g1),es,clock,by rw[hh];exact g2,g3,g4,fun j e kv he iM=>?_⟩;obtain⟨dk,dv,g6,g7,g8⟩:=g5 j e kv he iM;exact⟨dk,dv,g6,g7.keep hK hle,g8.keep hK hle⟩
 ·rcases gd i _ hi with⟨rfl,_⟩ | ⟨hlt,hi⟩ <;> rcases gd j _ hj with⟨rfl,_⟩ | ⟨Ye,hj⟩
  ·rfl
  ·rw[hle.loc j Ye,h1] at hl;exact absurd hl.symm (hold j _ hj hy).2.1
  ·rw[hle.loc i hlt,h1] at hl;exact absurd hl (hold i _ hi hx).2.1
  ·rw[hle.loc i hlt,hle.loc j Ye] at hl;exact hst.inj i j _ _ (hold i _ hi hx).1 (hold j _ hj hy).1 hx hy hl
 ·rcases gd i _ hi with⟨rfl,hz⟩ | ⟨hlt,hi⟩
  ·subst hz;rw[h1];exact⟨(hf b).2 (.inr rfl),hz3 hy,hS⟩
  ·obtain⟨qn,bQ,hh⟩:=hold i _ hi (D.gb hy);obtain⟨g1,g2,g4⟩:=hst.s7 i _ qn hy;rw[hle.loc i hlt,hh];exact⟨(hf _).2 (.inl g1),g2.to hle.n hle.loc (hle.mz i hlt) hlt,g4⟩
theorem PD {w':World} {bs nS:List D} {vs:Array Value} {e:TypeId} {sz k b:Nat} {cs:List D} {bJ:Nat→Prop} (hst:cI w ρ.S ρ.az bs) (hK:bM ρ.S w w') (uf:nS.length=bs.length) (hold:∀(i:Nat) (x:D),nS[i]? = some x→x.live=true→bs[i]? = some x∧ρ.S.loc i≠b∧w'.heap[ρ.S.loc i]? = w.heap[ρ.S.loc i]?)
  (hf:∀c,bJ c↔(ρ.az c∨c=b)) (hb:w'.heap[b]? = some (.cells vs e (0,0))) (C2:vs.size=k*sz) (dU:cs.length≤vs.size) (cV:∀(j:Nat) (d:D),cs[j]? = some d→d.one=true)
  (hr:∀(j:Nat) (v:Value) (d:D),vs[j]? = some v→cs[j]? = some d→bA w ρ.S v d) (hS:∀off,¬ρ.S b off):cI w' (ρ.S.more b k) bJ (nS++[.blk e sz cs]):=by
 refine qK hst hK uf hold hf (fun e' yG vR hz=>?_) (fun bU hz=>by cases hz) hS;cases hz;exact⟨vs,.of hb,C2,dU,cV,hr⟩
theorem aF.tX (h:aF w0 X w a σ env ρ) {cf:cF} {x x':E} (cO:σ.obj br=some (.store cf x)) (fQ:cf.ro=false) {bs:List D} (gr:x.eval env=some (.st bs)) {ob:Obj} {k:Nat} {l:Loop×Code} {z:D}
  (HV:∀e sz cs,z=.blk e sz cs→∃vs:Array Value,ob=.cells vs e (0,0)∧vs.size=k*sz∧cs.length≤vs.size∧(∀(j:Nat) (d:D),cs[j]? = some d→d.one=true)∧∀(j:Nat) (v:Value) (d:D),vs[j]? = some v→cs[j]? = some d→bA w ρ.S v d)
  (XY:∀bU,z=.cg bU→∃(es:Array MapEntry) (clock:Nat),ob=.map es clock∧gG es clock bU∧∀(j:Nat) (e:MapEntry) (kv:D),es[j]? = some e→(D.kept bU)[j]? = some kv→∃dk dv,kv=.a_ [dk,dv]∧bA w ρ.S e.key dk∧bA w ρ.S e.val dv)
  (fm:x'.eval env=some (.st (bs++[z]))) (hz3:z.isIt=true→zI (ρ.S.more w.heap.size k l) ρ.S.n (some ob) z:=by intro hz;cases hz) :
  aF w0 X (w.alloc ob) a (σ.setObj br (some (.store cf x'))) env { ρ with S:=ρ.S.more w.heap.size k l,az:=fun c=>ρ.az c∨c=w.heap.size }∧ρ.S.n=bs.length:=by
 obtain⟨oD,Bq,hst,_⟩:=h.cT _ _ cO;rw[gr] at Bq;cases Bq;have hK:bM ρ.S w (w.alloc ob):=bM.alloc h.cells _;have fG:∀b,ρ.az b→b<w.heap.size:=gj h cO;refine⟨h.gJ cO fQ fm (qK hst hK rfl (fun i x hi hx=>?_) (fun _=>E0J) (fun e sz cs hz=>?_) (fun bU hz=>?_) (fun off hs=>?_) fun hz=>?_) hK (ρ.S.ua _ _ _) rfl ⟨rfl,A0m _⟩ rfl (by simp) (fun b hb _=>g_ w _ b hb) (fun b hb=>?_) (fun b o hs=>.inl hs) (fun b o hs=>?_),hst.n⟩
 ·have:=fG _ (hst.iE hi hx);exact⟨hi,D0f this,g_ w _ _ this⟩
 ·obtain⟨vs,rfl,g⟩:=HV e sz cs hz;exact⟨vs,.of (C0p w _),g⟩
 ·obtain⟨es,clock,rfl,g⟩:=XY bU hz;exact⟨es,clock,C0p w _,g⟩
 ·have:=h.cells _ off hs;omega
 ·rw[C0p w];exact hz3 hz
 ·rcases hb with hb | rfl
  ·exact⟨.inl hb,by have:=fG b hb;simp;omega⟩
  ·exact⟨.inr (A0m _),by simp⟩
 ·have:=h.cells b o hs;simp;omega
theorem aF.wV (h:aF w0 X w a σ env ρ) {cf:cF} {x x':E} (cO:σ.obj br=some (.store cf x)) (fQ:cf.ro=false) {bs:List D} (gr:x.eval env=some (.st bs)) {vs:Array Value} {e:TypeId} {sz k:Nat} {cs:List D} (C2:vs.size=k*sz) (dU:cs.length≤vs.size) (cV:∀(j:Nat) (d:D),cs[j]? = some d→d.one=true)
  (hr:∀(j:Nat) (v:Value) (d:D),vs[j]? = some v→cs[j]? = some d→bA w ρ.S v d) (fm:x'.eval env=some (.st (bs++[.blk e sz cs]))) :
  aF w0 X (w.alloc (.cells vs e)) a (σ.setObj br (some (.store cf x'))) env { ρ with S:=ρ.S.more w.heap.size k,az:=fun c=>ρ.az c∨c=w.heap.size }∧ρ.S.n=bs.length:=by
 refine h.tX cO fQ gr (fun e' yG vR hz=>?_) (fun bU hz=>by cases hz) fm;cases hz;exact⟨vs,rfl,C2,dU,cV,hr⟩
theorem DO {size:Nat}:∀{es:List D},cC size es=true→(cH es).length=es.length*size
 | [],_=>by simp[cH]
 | e :: es,h=>by simp only[cC,E0N,A0f,B0K] at h;have ih:=DO (es:=es) (size:=size) (by simpa[cC] using h.2);simp only[cH,B0r,A0u,B0a] at ih ⊢;rw[ih,h.1,B0w,C0S,D0J]
theorem DP {size:Nat}(hs:0<size):∀{es:List D},cC size es=true→∀{j:Nat} {d:D},(cH es)[j]? = some d→∃e,es[j / size]? = some e∧e.cells[j % size]? = some d
 | [],_,j,d,h=>by simp[cH] at h
 | e :: es,h,j,d,hj=>by
  simp only[cC,E0N,A0f,B0K] at h;simp only[cH,B0r] at hj;rcases A0U j size with hlt | hge
  ·rw[A0g (by omega)] at hj;exact⟨e,by rw[D0n hlt];rfl,by rw[C0C hlt];exact hj⟩
  ·rw[A0o (by omega),h.1] at hj;obtain⟨e',h1,h2⟩:=DP hs (es:=es) (by simpa[cC] using h.2) hj;have hd:j / size=(j-size) / size+1:=by rw[Nat.div_eq_sub_div hs hge]
   have hm:j % size=(j-size) % size:=by rw[Nat.mod_eq_sub_mod hge]
   exact⟨e',by rw[hd];simpa using h1,by rw[hm];exact h2⟩
theorem j8.flat {S:Sets}{size:Nat}{xs:List Value}{es:List D}(hs:0<size)(h:j8 w S size xs es):cC size es=true∧(cH es).length=xs.length∧∀(j:Nat) (v:Value) (d:D),xs[j]? = some v→(cH es)[j]? = some d→bA w S v d∧d.one=true:=by
 obtain⟨h1,h2,h3⟩:=h;have ji:cC size es=true:=by unfold cC;rw[A0C];intro e he;obtain⟨i,hi⟩:=B0Q he;simpa using h2 i e hi
 refine⟨ji,by rw[DO ji,h1],fun j v d hv hd=>?_⟩;obtain⟨e,he,fo⟩:=DP hs ji hd;obtain⟨g1,u,g2,g3⟩:=h3 _ e _ d he fo;have Dg:j / size*size+j % size=j:=by rw[C0h];exact Nat.div_add_mod j size
 rw[Dg,hv] at g2;cases g2;exact⟨g3,g1⟩
theorem xO {w':World}{k:Nat}{hx:E}{bs:List D}{bJ:Nat→Prop}(gr:hx.eval env=some (.st bs))(hn:ρ.S.n=bs.length):cS w' { ρ with S:=ρ.S.more w.heap.size k,az:=bJ } env (.pointer (some ⟨w.heap.size,0,none⟩)) (.e (.aJ hx) true):=by
 refine .e (d:=.loc bs.length 0) (by simp only[E.eval,gr];rfl) ?_ fun _=>rfl;have:=bA.loc (w:=w') (S:=ρ.S.more w.heap.size k) (i:=bs.length) (off:=0) (by simp[Sets.more,hn]);have hl:(ρ.S.more w.heap.size k).loc bs.length=w.heap.size:=by simp[Sets.more,hn]
 rwa [hl] at this
theorem Kb {w':World}{hx y:E}{bs:List D}{es:List D}{bJ:Nat→Prop}(gr:hx.eval env=some (.st bs))(Rz:y.eval env=some (.bk es))(hm:es.length≤maxLen)(hn:ρ.S.n=bs.length):cS w' { ρ with S:=ρ.S.more w.heap.size es.length,az:=bJ } env (.slice (some ⟨w.heap.size,0,none⟩) es.length es.length) (.e (.cR hx y) true):=by
 refine .e (d:=.sl bs.length 0 es.length) (by simp only[E.eval,gr,Rz];rfl) ?_ fun _=>rfl;have:=bA.sl (w:=w') (S:=ρ.S.more w.heap.size es.length) (i:=bs.length) (off:=0) (len:=es.length) (c:=es.length) (by simp[Sets.more,hn]) (A0m _) hm (fun _=>by simp[Sets.more,hn]);have hl:(ρ.S.more w.heap.size es.length).loc bs.length=w.heap.size:=by simp[Sets.more,hn]
 rwa [hl] at this
theorem Tx {o:Oper}{t:TypeId}{len:Nat}{parts:Array (Nat×Operand)}{bh:Operand→SV}{ix dd:Nat}{r:cK}{y:E}{dl:D}(ho:o.op=.buildSlice t len parts)(hv:∀x,cS w ρ env (a.eval x) (bh x))(hl:CG P t len parts.toList bh (some dd) ix=some r)(hy:r.bind=some (.ev y))(Qt:y.eval env=some dl) :
  ∃(e:TypeId) (i:TypeInfo) (es:List D) (vs:Array Value),P.underlying t=some (.slice e)∧P.info? e=some i∧dl=.bk es∧(execOp a.eval o).run P w=.ok (.value (.slice (some ⟨w.heap.size,0,none⟩) es.length es.length)) (w.alloc (.cells vs e))∧vs.size=es.length*i.size∧es.length≤maxLen∧j8 w ρ.S i.size vs.toList es:=by
 unfold CG at hl;split at hl
 ·rename_i d e gB hu;split at hl
  ·rename_i i agg y' hi Ak yp;split at hl
   ·rename_i hc;cases hl;cases hy;obtain⟨oa,mK,td,qp,hzero⟩:=hc;have bV:r8 P e=some i.size:=by simp[r8,hi]
    rw[Ak,bV] at yp;simp only[B0l] at yp;obtain⟨z,hz⟩:=C0t.1 hzero;obtain⟨r,ds,rfl,Hv,JJ,kf,qD,pS⟩:=GW ho hv hu hi yp oa mK td qp hz Qt;subst Hv;exact⟨e,i,ds,r,hu,hi,rfl,JJ,kf,qD,pS⟩
   ·cases hl
  ·cases hl
 ·cases hl
theorem Qf {o:Oper}{t:TypeId}{n c:Operand}{sn sc:SV}{ix dd:Nat}{r:cK}{y:E}{dl:D}{nz:Bool}(ho:o.op=.makeSlice t n c)(hl:Fm nz P t sn sc (some dd) ix=some r)(hn:cS w ρ env (a.eval n) sn)(hc:cS w ρ env (a.eval c) sc)(hy:r.bind=some (.ev y))(Qt:y.eval env=some dl) :
  ∃(e:TypeId) (i:TypeInfo) (es:List D) (vs:Array Value),P.underlying t=some (.slice e)∧P.info? e=some i∧dl=.bk es∧(execOp a.eval o).run P w=.ok (.value (.slice (some ⟨w.heap.size,0,none⟩) es.length es.length)) (w.alloc (.cells vs e))∧vs.size=es.length*i.size∧es.length≤maxLen∧j8 w ρ.S i.size vs.toList es:=by
 unfold Fm at hl;split at hl
 ·rename_i d e n' c' gB hu Yc rY;split at hl
  ·rename_i i hi;obtain⟨z,hz,hl⟩:=A0b.1 hl;obtain⟨dz,hdz,hl⟩:=A0b.1 hl;split at hl
   ·rename_i xJ;cases hl;cases hy;obtain⟨xC,hlen,abR⟩:=xJ;obtain⟨dn,hdn,hrn⟩:=SV.toE_rd Yc hn;obtain⟨dc,FF,JM⟩:=SV.toE_rd rY hc;rw[←E.cL xC,hdn] at FF;cases FF;simp only[E.eval,hdn,A0d] at Qt;unfold D.rep at Qt;split at Qt
    ·rename_i k;split at Qt
     ·rename_i hk;obtain⟨Eg,hkb,hkm⟩:=hk;cases Qt;have hzr:bA w ρ.S z dz:=D.Fc hdz;obtain⟨T7,hzc⟩:=hzr.cellAt abR;rw[hlen] at T7;have acj:k≤9223372036854775807:=by have h9:k.toNat≤9223372036854775807:=hkm;omega
      have vI:(i.bytes:Int)*k≤281474976710656:=by
       have h1:((k.toNat*i.bytes:Nat):Int)≤140737488355328:=by generalize k.toNat*i.bytes=q at hkb ⊢;omega
       rw[Int.natCast_mul,D0R Eg,Int.mul_comm] at h1;omega
      have bt:(execOp a.eval o).run P w=.ok (.value (.slice (some ⟨w.heap.size,0,none⟩) k.toNat k.toNat)) (w.alloc (.cells (madeCells z.cells (k.toNat*i.size)) e)):=by unfold execOp;simp only[ho,hrn.v_eq,JM.v_eq,A0n,run_make w t e i z hu hi hz .i64 .i64 k k Eg (B0P _) vI acj,A0h,A0r]
      have JK:∀(m:Nat) (x:D),(List.replicate k.toNat dz)[m]? = some x→x=dz∧m<k.toNat:=by
       intro m x hx;rw[B0o] at hx;split at hx
       ·cases hx;exact⟨rfl,by assumption⟩
       ·cases hx
      refine⟨e,i,List.replicate k.toNat dz,madeCells z.cells (k.toNat*i.size),hu,hi,rfl,by simpa using bt,by simp[E0H],by simpa using hkm,by simp[E0H],fun m x hx=>by rw[(JK m x hx).1];exact hlen,fun m x j y hx hy=>?_⟩;obtain⟨rfl,WA⟩:=JK m x hx;obtain⟨h1,u,h2,h3⟩:=hzc j y hy;have hj:j<i.size:=by rw[←hlen];exact(A0c.1 hy).1
      refine⟨h1,u,?_,h3⟩;have hlt:m*i.size+j<k.toNat*i.size:=by have:(m+1)*i.size≤k.toNat*i.size:=B0k _ WA;rw[B0w,C0S] at this;omega
      have Uz:(m*i.size+j) % i.size=j:=by rw[C0h,D0S,C0C hj]
      have hjz:j<z.cells.size:=by rw[T7];exact hj
      have kK:u=z.cells[j]:=by rw[A0p hjz] at h2;exact(B0M h2).symm
      rw[B0c];simp only[madeCells,D0u,Array.getElem?_range,hlt,B0d,A0y,T7,Uz,A0x];rw[kK];exact C0I z.cells j hjz
     ·cases Qt
    ·cases Qt
   ·cases hl
  ·cases hl
 ·cases hl
theorem Ps {h:D}{sz:Nat}{y:D}{ys:List D}(ha:D.Ic h sz y=some ys):D.cnt y=some ys.length:=by
 unfold D.Ic at ha;split at ha
 ·cases ha;rfl
 ·cases ha;rfl
 ·split at ha
  ·rename_i hm;subst hm;cases ha;rfl
  ·obtain⟨b,_,ha⟩:=A0b.1 ha;split at ha
   ·cases ha;simp[D.cnt,kE]
   ·cases ha
 ·cases ha
theorem FZ {o:Oper} {t e:TypeId} {s x:Operand} {i:TypeInfo} {cf:cF} {hx s' x':E} {ix n cap:Nat} {ad:Option Addr} {bs:List D} {ds:D} (ho:o.op=.call { callee:=.builtin .append,args:=#[s,x],argTypes:=#[t,t] }) (hu:P.underlying t=some (.slice e)) (hi:P.info? e=some i)
  (cO:σ.obj br=some (.store cf hx)) (fQ:cf.ro=false) (gr:hx.eval env=some (.st bs)) (qC:a.eval x=.slice none 0 0∨∃ad c,a.eval x=.slice (some ad) 0 c) (vC:a.eval s=.slice ad n cap) (nq:n≤cap) (kf:bA w ρ.S (a.eval s) ds) (cV:ds.one=true)
  (cA:env[ix]? = some (.st bs)) (fB:(E.apps hx s' x').eval env=some ds) (h:aF w0 X w a σ env ρ) (hd:∀d,o.dst=some d→d<σ.tmps.length) :
  ea P o a w w0 X ((σ.setObj br (some (.store cf (.sym ix)))).put o.dst (.e (.apps hx s' x') true)) env:=by
 obtain⟨oD,Bq,hst,_⟩:=h.cT _ _ cO;rw[gr] at Bq;cases Bq;have bg:=h.gJ (x':=.sym ix) cO fQ (by simpa[E.eval] using cA) hst (bM.refl _ _) (Sets.le_refl _) rfl ⟨rfl,A0m _⟩ rfl (A0m _) (fun _ _ _=>rfl) (fun b hb=>⟨.inl hb,gj h cO b hb⟩) (fun b o hs=>.inl hs) h.cells;have bt:(Builtin.append_ #[t,t] o.type #[a.eval s,a.eval x]).run P w=.ok (a.eval s) w:=by
  rcases qC with JH | ⟨ad2,c,JH⟩
  ·rw[JH,vC];exact j_ w t o.type e i hu hi ad n cap nq
  ·rw[JH,vC];exact AN w t o.type e i hu hi ad n cap nq ad2 c
 refine bW (v:=a.eval s) ?_ (bg.put (by intro d e;rw[ah.aP];exact hd d e) (.e fB kf fun _=>cV));unfold execOp;simp only[ho,resolve,invoke,builtin,A0n,A0r,A0h,C0f,B0p,C0x,bt]
theorem DZ {o:Oper} {e:TypeId} {i:TypeInfo} {cf:cF} {hx vE:E} {vs:Value} {ix m' n:Nat} {bs nS:List D} {ys cs:List D} {xs news:List Value} {v':Value} {w':World} (mK:0<i.size)
  (cO:σ.obj br=some (.store cf hx)) (fQ:cf.ro=false) (gr:hx.eval env=some (.st bs)) (bQ:ys≠[]) (abJ:ys.length=m') (FC:(cH ys).all (·.one)=true) (JP:∀(j:Nat) (d:D),cs[j]? = some d→d.one=true)
  (eB:w.ownsRow 0 e i.size vs n xs) (dU:cs.length=n*i.size) (EB:∀(j:Nat) (v:Value) (d:D),xs[j]? = some v→cs[j]? = some d→bA w ρ.S v d)
  (uf:nS.length=bs.length) (FB:∀b,vs.ownBlock=some b→ρ.az b∧(∀off,¬ρ.S b off)∧∀(j:Nat) (x:D),nS[j]? = some x→x.live=true→ρ.S.loc j≠b) (hold:∀(j:Nat) (x:D),nS[j]? = some x→x.live=true→bs[j]? = some x)
  (cA:env[ix]? = some (.st (nS++[.blk e i.size (cs++cH ys)]))) (fB:vE.eval env=some (.sl bs.length 0 (n+m'))) (h:aF w0 X w a σ env ρ) (hd:∀d,o.dst=some d→d<σ.tmps.length)
  (bt:(execOp a.eval o).run P w=.ok (.value v') w') (mS:w'.ownsRow 0 e i.size v' (n+m') (xs++news)) (gd:(v'.ownBlock=vs.ownBlock∧RU w w' vs.ownBlock)∨(v'.ownBlock=some w.heap.size∧RU w w' none))
  (Wz:news.length=m'*i.size) (Yl:(cH ys).length=news.length) (hfr:∀(j:Nat) (v:Value) (d:D),news[j]? = some v→(cH ys)[j]? = some d→bA w ρ.S v d∧d.one=true) :
  ea P o a w w0 X ((σ.setObj br (some (.store cf (.sym ix)))).put o.dst (.e vE true)) env:=by
 obtain⟨oD,Bq,hst,_⟩:=h.cT _ _ cO;rw[gr] at Bq;cases Bq;have fG:=gj h cO;have as1:0<m':=by rw[←abJ];exact B0x.2 bQ
 rcases mS.2 with⟨_,h0⟩ | ⟨g,cap,cur,rfl,_,hg,Lm,zk,AS,xB⟩
 ·omega
 have hK:bM ρ.S w w':=by
  intro b off hS;refine A0V (a:=⟨b,off,none⟩) ?_;rcases gd with⟨gQ,sA⟩ | ⟨_,sA⟩
  ·refine sA.block b (h.cells b off hS) fun he=>?_;exact(FB b he.symm).2.1 off hS
  ·exact sA.block b (h.cells b off hS) (by simp)
 have mT:w'.os=w.os∧TL w' w∧w'.output=w.output∧w.heap.size≤w'.heap.size:=by rcases gd with⟨_,sA⟩ | ⟨_,sA⟩ <;> exact⟨sA.os,sA.tape,sA.output,sA.size⟩
 have WE:(ρ.az g∨g=w.heap.size)∧(∀off,¬ρ.S g off)∧(∀(j:Nat) (x:D),nS[j]? = some x→x.live=true→ρ.S.loc j≠g)∧g<w'.heap.size:=by
  have ah2:g<w'.heap.size:=(A0l.1 hg).1;rcases gd with⟨gQ,sA⟩ | ⟨gQ,sA⟩
  ·obtain⟨g1,g2,g3⟩:=FB g gQ.symm;exact⟨.inl g1,g2,g3,ah2⟩
  ·have hge:g=w.heap.size:=by simpa[Value.ownBlock] using gQ
   refine⟨.inr hge,fun off hs=>?_,fun j x hj hx hl=>?_,ah2⟩
   ·have:=h.cells g off hs;omega
   ·have:=fG _ (hst.iE (hold j _ hj hx) hx);omega
 have k8:∀b,b<w.heap.size→b≠g→w'.heap[b]? = w.heap[b]?:=by
  intro b hb Hq;rcases gd with⟨gQ,sA⟩ | ⟨_,sA⟩
  ·refine sA.block b hb fun he=>?_;have:some b=some g:=by rw[he,←gQ];rfl
   cases this;exact Hq rfl
  ·exact sA.block b hb (by simp)
 have p4:xs.length=n*i.size:=eB.1;have Yp:∀(j:Nat) (v:Value),cur[j]? = some v→j<(n+m')*i.size→(xs++news)[j]? = some v:=by intro j v hj hlt;rw[←xB,A0H,A0z hlt];simpa using hj
 have MP:cI w' (ρ.S.more g cap) (fun b=>ρ.az b∨b=g) (nS++[.blk e i.size (cs++cH ys)]):=by
  refine PD hst hK uf (fun j x hj hx=>?_) (fun _=>E0J) hg AS ?_ (fun j d hj=>?_) (fun j v d hv Ei=>?_) WE.2.1
  ·have EE:=hold j _ hj hx;have:=WE.2.2.1 j _ hj hx;exact⟨EE,this,k8 _ (fG _ (hst.iE EE hx)) this⟩
  ·rw[A0u,dU,Yl,Wz,AS,←B0w];exact B0k _ Lm
  ·rw[B0J] at hj;split at hj
   ·exact JP j d hj
   ·exact A0C.1 FC d (A0I hj)
  ·have pT:j<(n+m')*i.size:=by have:=(A0c.1 Ei).1;rw[A0u,dU,Yl,Wz,←B0w] at this;exact this
   have XZ:=Yp j v hv pT;rw[B0J] at Ei XZ;split at Ei
   ·rename_i hlt;rw[A0z (by omega)] at XZ;exact EB j v d XZ Ei
   ·rename_i hlt;rw[A0B (by omega),p4] at XZ;rw[dU] at Ei;exact(hfr _ v d XZ Ei).1
 have bg:=h.gJ (x':=.sym ix) cO fQ (by simp only[E.eval];exact cA) MP hK (ρ.S.ua g cap) mT.1 mT.2.1 mT.2.2.1 mT.2.2.2 (fun b hb FD=>k8 b hb fun e'=>?_) (fun b hb=>?_) (fun b off hs=>.inl hs) (fun b off hs=>A0v (h.cells b off hs) mT.2.2.2)
 ·refine bW (v:=.slice (some ⟨g,0,none⟩) (n+m') cap) ?_ (bg.put (by rw[ah.aP];exact hd) (.e (d:=.sl bs.length 0 (n+m')) fB ?_ fun _=>rfl))
  ·exact bt
  ·have:=bA.sl (w:=w') (S:=ρ.S.more g cap) (i:=bs.length) (off:=0) (len:=n+m') (c:=cap) (by simp[Sets.more,hst.n]) Lm zk (fun _=>by simp[Sets.more,hst.n]);have hl:(ρ.S.more g cap).loc bs.length=g:=by simp[Sets.more,hst.n]
   rwa [hl] at this
 ·subst e';rcases WE.1 with h1 | h1
  ·exact FD h1
  ·omega
 ·rcases hb with hb | rfl
  ·exact⟨.inl hb,A0v (fG b hb) mT.2.2.2⟩
  ·refine⟨?_,WE.2.2.2⟩;rcases WE.1 with h1 | h1
   ·exact .inl h1
   ·exact .inr (by omega)
theorem DY {o:Oper} {t e:TypeId} {s x:Operand} {i:TypeInfo} {z:Value} {cf:cF} {hx s' x':E} {ix m n:Nat} {bs nS:List D} {ys cs:List D} {xs:List Value} (ho:o.op=.call { callee:=.builtin .append,args:=#[s,x],argTypes:=#[t,t] }) (hu:P.underlying t=some (.slice e)) (hi:P.info? e=some i) (hz:i.zero=some z) (Hh:z.cells.size=i.size) (mK:0<i.size)
  (cO:σ.obj br=some (.store cf hx)) (fQ:cf.ro=false) (gr:hx.eval env=some (.st bs)) {dy:D} (iG:bA w ρ.S (a.eval x) dy) (sq:D.Ic (.st bs) i.size dy=some ys) (bQ:ys≠[]) (Ry:ys.length=m) (ji:cC i.size ys=true) (FC:(cH ys).all (·.one)=true) (JP:∀(j:Nat) (d:D),cs[j]? = some d→d.one=true)
  (eB:w.ownsRow 0 e i.size (a.eval s) n xs) (dU:cs.length=n*i.size) (EB:∀(j:Nat) (v:Value) (d:D),xs[j]? = some v→cs[j]? = some d→bA w ρ.S v d) (qD:n+m≤maxLen) (RM:(n+m)*i.bytes≤140737488355328)
  (uf:nS.length=bs.length) (FB:∀b,(a.eval s).ownBlock=some b→ρ.az b∧(∀off,¬ρ.S b off)∧∀(j:Nat) (x:D),nS[j]? = some x→x.live=true→ρ.S.loc j≠b) (hold:∀(j:Nat) (x:D),nS[j]? = some x→x.live=true→bs[j]? = some x)
  (cA:env[ix]? = some (.st (nS++[.blk e i.size (cs++cH ys)]))) (fB:(E.apps hx s' x').eval env=some (.sl bs.length 0 (n+m))) (h:aF w0 X w a σ env ρ) (hd:∀d,o.dst=some d→d<σ.tmps.length) :
  ea P o a w w0 X ((σ.setObj br (some (.store cf (.sym ix)))).put o.dst (.e (.apps hx s' x') true)) env:=by
 obtain⟨oD,Bq,hst,_⟩:=h.cT _ _ cO;rw[gr] at Bq;cases Bq;have fG:=gj h cO;rcases Co hst iG sq ji with⟨h1,_⟩ | ⟨ad,m',c,news,JH,abJ,Wz,tj,cV,uR⟩
 ·exact absurd h1 bQ
 ·obtain rfl:m'=m:=by omega
  obtain⟨v',w',bt,mS,gd⟩:=lM (P:=P) w t o.type e i z i.size i.bytes hu hi hz rfl rfl Hh mK (a.eval s) n xs eB ad m' c news Wz tj cV qD RM;rw[←JH] at bt;have hex:(execOp a.eval o).run P w=.ok (.value v') w':=by unfold execOp;simp only[ho,resolve,invoke,builtin,A0n,A0r,A0h,C0f,B0p,C0x,bt]
  obtain⟨U4,Yl,hfr⟩:=uR.flat mK;exact DZ mK cO fQ gr bQ abJ FC JP eB dU EB uf FB hold cA fB h hd hex mS gd Wz Yl hfr
theorem Mg {o:Oper}{bh:Operand→SV}{ix:Nat}{r:cK}(hv:∀x,cS w ρ env (a.eval x) (bh x))(hl:Jj P o bh σ.obj ix=some r)(h:aF w0 X w a σ env ρ)(hd:∀d,o.dst=some d→d<σ.tmps.length)(hb:bD P env ix r.bind) :
  (r.cm=none∧ea P o a w w0 X (σ.put o.dst r.val) env)∨∃z,r.cm=some (br,z)∧ea P o a w w0 X ((σ.setObj br (some z)).put o.dst r.val) env:=by
 unfold Jj at hl;split at hl
 case isFalse=>cases hl
 unfold sX at hl;split at hl
 ·rename_i cf hx dd cO gB;obtain⟨bs,gr,hst,_⟩:=h.cT _ _ cO;split at hl
  ·cases hl
  rename_i fQ;have fQ:cf.ro=false:=by simpa using fQ
  split at hl
  ·rename_i t ho;split at hl
   ·split at hl
    ·rename_i z hz;split at hl
     ·rename_i ds kQ;cases hl;obtain⟨d,he,cA⟩:=hb;simp only[E.eval,gr,A0d,D.fO] at he;split at he
      ·rename_i cV;cases he;obtain⟨g1,g2⟩:=D.kz (w:=w) (S:=ρ.S) kQ;have g1':z.cells.size=ds.length:=by simpa using g1
       have bt:(execOp a.eval o).run P w=.ok (.value (.pointer (some ⟨w.heap.size,0,none⟩))) (w.alloc (.cells z.cells t)):=by unfold execOp;simp only[ho,Instr.alloc,A0n,ig hz,A0h,newVar,newRow,A0r,E0E];rfl
       have HV:∀(j:Nat) (d:D),ds[j]? = some d→d.one=true:=fun j d hj=>A0C.1 cV d (A0I hj);obtain⟨bg,hn⟩:=h.wV (k:=1) (sz:=z.cells.size) (cs:=ds) (vs:=z.cells) (e:=t) (x':=.sym ix) cO fQ gr (by simp) (by omega) HV (fun j v d hj fo=>(g2 j v d (by simpa using hj) fo).1) (by simp only[E.eval];exact cA);exact .inr ⟨_,rfl,bW bt (bg.put (by rw[ah.aP];exact hd) (xO gr hn))⟩
      ·cases he
     ·cases hl
    ·cases hl
   ·cases hl
  ·rename_i t x ho;split at hl
   ·split at hl
    ·rename_i agg n x' hg Yb Fw;split at hl
     ·rename_i Ak;cases hl;obtain⟨dx,iY,iG⟩:=SV.toE_rd Fw (hv x);obtain⟨d,he,cA⟩:=hb;simp only[E.eval,gr,A0d,A0b] at he;obtain⟨dc,FF,he⟩:=he;obtain⟨cs,rfl,h1,h1a,h1b,h2,h3,h4⟩:=FQ iY iG FF;simp only[D.fO] at he;split at he
      ·rename_i cV;cases he;have hcn:cs.length=n:=by
        cases agg with
        | true=>exact h1a rfl
        | false=>rw[h1b rfl];exact(Ak.resolve_left (by simp)).symm
       have bt:(execOp a.eval o).run P w=.ok (.value (.pointer (some ⟨w.heap.size,0,none⟩))) (w.alloc (.cells (a.eval x).cells t)):=by unfold execOp;simp only[ho,Instr.box,A0n,A0h,newVar,newRow,A0r,E0E];rfl
       obtain⟨bg,hn⟩:=h.wV (k:=1) (sz:=n) (cs:=cs) (vs:=(a.eval x).cells) (e:=t) (x':=.sym ix) cO fQ gr (by omega) (by omega) h3 h4 (by simp only[E.eval];exact cA);exact .inr ⟨_,rfl,bW bt (bg.put (by rw[ah.aP];exact hd) (xO gr hn))⟩
      ·cases he
     ·cases hl
    ·cases hl
   ·cases hl
  ·rename_i t n c ho;split at hl
   ·split at hl
    ·rename_i v0 u0 y e WB hu;split at hl
     ·rename_i i hi;split at hl
      ·rename_i mK;cases hl;obtain⟨d,he,cA⟩:=hb;simp only[E.eval,gr,A0d,A0b] at he;obtain⟨dl,fR,he⟩:=he;obtain⟨e',i',es,vs,kK,qn,rfl,bt,C2,qD,pS⟩:=Qf (ρ:=ρ) (env:=env) ho WB (hv n) (hv c) rfl fR;rw[hu] at kK;cases kK;rw[hi] at qn;cases qn;obtain⟨ji,fG,hfr⟩:=pS.flat mK;simp only[D.cE] at he;split at he
       ·cases he;rename_i J5;have cV:∀(j:Nat) (d:D),(cH es)[j]? = some d→d.one=true:=fun j d hj=>A0C.1 J5.2 d (A0I hj);obtain⟨bg,hn⟩:=h.wV (k:=es.length) (sz:=i.size) (cs:=cH es) (vs:=vs) (e:=e) (x':=.sym ix) cO fQ gr C2 (by rw[fG];simp) cV (fun j v d hj fo=>(hfr j v d (by simpa using hj) fo).1) (by simp only[E.eval];exact cA);exact .inr ⟨_,rfl,bW bt (bg.put (by rw[ah.aP];exact hd) (Kb gr fR qD hn))⟩
       ·cases he
      ·cases hl
     ·cases hl
    ·cases hl
   ·cases hl
  ·rename_i t len parts ho;split at hl
   ·split at hl
    ·rename_i v0 u0 y e WB hu;split at hl
     ·rename_i i hi;split at hl
      ·rename_i mK;cases hl;obtain⟨d,he,cA⟩:=hb;simp only[E.eval,gr,A0d,A0b] at he;obtain⟨dl,fR,he⟩:=he;obtain⟨e',i',es,vs,kK,qn,rfl,bt,C2,qD,pS⟩:=Tx (ρ:=ρ) (env:=env) ho hv WB rfl fR;rw[hu] at kK;cases kK;rw[hi] at qn;cases qn;obtain⟨ji,fG,hfr⟩:=pS.flat mK;simp only[D.cE] at he;split at he
       ·cases he;rename_i J5;have cV:∀(j:Nat) (d:D),(cH es)[j]? = some d→d.one=true:=fun j d hj=>A0C.1 J5.2 d (A0I hj);obtain⟨bg,hn⟩:=h.wV (k:=es.length) (sz:=i.size) (cs:=cH es) (vs:=vs) (e:=e) (x':=.sym ix) cO fQ gr C2 (by rw[fG];simp) cV (fun j v d hj fo=>(hfr j v d (by simpa using hj) fo).1) (by simp only[E.eval];exact cA);exact .inr ⟨_,rfl,bW bt (bg.put (by rw[ah.aP];exact hd) (Kb gr fR qD hn))⟩
       ·cases he
      ·cases hl
     ·cases hl
    ·cases hl
   ·cases hl
  ·rename_i x ho;split at hl
   ·split at hl
    ·cases hl;exact .inl ⟨rfl,bl h hd (v:=.slice none 0 0) (by unfold execOp;simp only[ho];rfl) (.e rfl .bS fun _=>rfl)⟩
    ·cases hl
   ·cases hl
  ·rename_i c ho;obtain⟨callee,args,ts⟩:=c;simp only at hl;split at hl
   ·split at hl
    ·rename_i s x t t' eF Uc;split at hl
     ·rename_i OO;obtain⟨OO,_⟩:=OO;subst OO;have e1:args=#[s,x]:=by rw[←B0b (xs:=args),eF]
      have e2:ts=#[t,t]:=by rw[←B0b (xs:=ts),Uc]
      subst e1 e2;split at hl
      ·rename_i s' sb x' e Ae fm hu;split at hl
       ·rename_i i hi;split at hl
        ·rename_i z hz;split at hl
         ·rename_i hc;cases hl;have C2:=Oe (hv s);rw[Ae] at C2;obtain⟨ds,kQ,kf,_⟩:=C2.jL;obtain⟨dx,iY,iG⟩:=SV.toE_rd fm (hv x);obtain⟨d,he,cA⟩:=hb;simp only[E.eval,gr,kQ,iY,A0d] at he;refine .inr ⟨_,rfl,?_⟩;unfold D.gM at he;split at he
          ·rename_i fN ys e3 sq _;cases e3;have QI:=Ps sq;have vC:a.eval s=.slice none 0 0:=by generalize a.eval s=v at kf;cases kf;rfl
           split at he
           ·rename_i ng;subst ng;cases he;have XZ:a.eval x=.slice none 0 0∨∃ad c,a.eval x=.slice (some ad) 0 c:=by
             rcases Co hst iG sq (by simp[cC]) with⟨_,h1⟩ | ⟨ad,m,c,news,h1,h2,_⟩
             ·exact h1
             ·exact .inr ⟨ad,c,by rw[h1,←h2];rfl⟩
            exact FZ ho hu hi cO fQ gr XZ vC (A0m _) kf rfl (by simpa using cA) (by simp only[E.eval,gr,kQ,iY,A0d,D.apps,QI,B0C,B0d]) h hd
           ·rename_i bQ;split at he
            ·rename_i Bp;cases he;exact DY (n:=0) (m:=ys.length) (cs:=[]) (xs:=[]) (nS:=bs) ho hu hi hz hc.1 hc.2.1 cO fQ gr iG sq bQ rfl Bp.2.2.1 Bp.2.2.2 (by simp) (by rw[vC];exact C0O w 0 e i.size) (by simp) (by simp) (by simpa using Bp.2.1) (by simpa using Bp.1) rfl (fun b hb=>by rw[vC] at hb;cases hb) (fun j _ hj _=>hj) (by simpa using cA) (by simp only[E.eval,gr,kQ,iY,A0d,D.apps,QI,A0B (fun e=>bQ (A0D e)),A0Q]) h hd
            ·cases he
          ·rename_i fN k off n ys e3 sq _;cases e3;have QI:=Ps sq;split at he
           ·rename_i ng;subst ng;cases he;have abX:=kf;generalize vC:a.eval s=v at kf;cases kf with
            | @sl _ _ _ cc hk hle zk h0=>
             have XZ:a.eval x=.slice none 0 0∨∃ad c,a.eval x=.slice (some ad) 0 c:=by
              rcases Co hst iG sq (by simp[cC]) with⟨_,h1⟩ | ⟨ad,m,c,news,h1,h2,_⟩
              ·exact h1
              ·exact .inr ⟨ad,c,by rw[h1,←h2];rfl⟩
             exact FZ ho hu hi cO fQ gr XZ vC hle abX rfl cA (by simp only[E.eval,gr,kQ,iY,A0d,D.apps,QI,B0C,B0d]) h hd
           ·rename_i bQ;obtain⟨blk,hblk,he⟩:=A0b.1 he;split at he
            ·rename_i Bp;cases he;obtain⟨c0,c1,c2,c3,c4,c5,c6,c7⟩:=Bp;subst c0;have jc:=h_ hblk;rw[c1,c2] at jc;obtain⟨hf,vs,⟨e',hh,xz⟩,bV,hlen,cV,hr,jP⟩:=hst.cells k _ _ _ jc;obtain rfl:e=e':=(xz.resolve_left hc.2.2).symm;generalize vC:a.eval s=v at kf;cases kf with
             | @sl _ _ _ cc hk hle zk h0=>
             have nq:=h0 rfl;have eB:w.ownsRow 0 e i.size (a.eval s) n (vs.toList.take (n*i.size)):=by refine⟨?_,.inr ⟨ρ.S.loc k,cc,vs,vC,B0e _,hh,hle,zk,by rw[nq];exact bV,rfl⟩⟩;rw[B0g,A0W];omega
             refine DY (n:=n) (m:=ys.length) (cs:=blk.2.2) (xs:=vs.toList.take (n*i.size)) (nS:=bs.set k (.a_ [])) ho hu hi hz hc.1 hc.2.1 cO fQ gr iG sq bQ rfl c6 c7 cV eB c3 (fun j v d hj Ei=>?_) c5 c4 (by simp) (fun b hb=>?_) (fun j x hj hx=>?_) cA (by simp only[E.eval,gr,kQ,iY,A0d,D.apps,QI,A0B (fun e=>bQ (A0D e))]) h hd
             ·rw[A0H] at hj;split at hj
              ·exact hr j v d (by simpa using hj) Ei
              ·cases hj
             ·rw[vC] at hb;have fI:ρ.S.loc k=b:=by simpa[Value.ownBlock] using hb
              subst fI;refine⟨hf,jP,fun j x hj hx hl=>?_⟩;rw[A0N] at hj;split at hj
              ·split at hj <;> cases hj;cases hx
              ·rename_i Hq;exact Hq (hst.inj j k _ _ hj jc hx rfl hl).symm
             ·rw[A0N] at hj;split at hj
              ·split at hj <;> cases hj;cases hx
              ·exact hj
            ·split at he
             ·rename_i Bp;cases he;obtain⟨c0,c1,c2,c3,c4,c5,c6,c7⟩:=Bp;subst c0;have jc:=h_ hblk;rw[c1,c2] at jc;obtain⟨hf,vs,⟨e',hh,xz⟩,bV,hlen,cV,hr,jP⟩:=hst.cells k _ _ _ jc;obtain rfl:e=e':=(xz.resolve_left hc.2.2).symm;generalize vC:a.eval s=v at kf;cases kf with
              | @sl _ _ _ cc hk hle zk h0=>
              have nq:=h0 rfl;have eB:w.ownsRow 0 e i.size (a.eval s) n (vs.toList.take (n*i.size)):=by refine⟨?_,.inr ⟨ρ.S.loc k,cc,vs,vC,B0e _,hh,hle,zk,by rw[nq];exact bV,rfl⟩⟩;rw[B0g,A0W];omega
              refine DY (n:=n) (m:=ys.length) (cs:=blk.2.2.take (n*i.size)) (xs:=vs.toList.take (n*i.size)) (nS:=bs.set k (.a_ [])) ho hu hi hz hc.1 hc.2.1 cO fQ gr iG sq bQ rfl c6 c7 (fun j d hj=>by
               rw[A0H] at hj;split at hj
               ·exact cV j d hj
               ·cases hj) eB (by rw[B0g];omega) (fun j v d hj Ei=>?_) c5 c4 (by simp) (fun b hb=>?_) (fun j x hj hx=>?_) cA (by simp only[E.eval,gr,kQ,iY,A0d,D.apps,QI,A0B (fun e=>bQ (A0D e))]) h hd
              ·rw[A0H] at hj Ei;split at hj
               ·rename_i hlt;rw[A0z hlt] at Ei;exact hr j v d (by simpa using hj) Ei
               ·cases hj
              ·rw[vC] at hb;have fI:ρ.S.loc k=b:=by simpa[Value.ownBlock] using hb
               subst fI;refine⟨hf,jP,fun j x hj hx hl=>?_⟩;rw[A0N] at hj;split at hj
               ·split at hj <;> cases hj;cases hx
               ·rename_i Hq;exact Hq (hst.inj j k _ _ hj jc hx rfl hl).symm
              ·rw[A0N] at hj;split at hj
               ·split at hj <;> cases hj;cases hx
               ·exact hj
             ·cases he
          ·cases he
         ·cases hl
        ·cases hl
       ·cases hl
      ·cases hl
     ·cases hl
    ·cases hl
   ·cases hl
  ·cases hl
 ·cases hl
end
end
end
section
noncomputable section
def TZ (P:Program)(f:FuncId)(nm:String):Bool:=
 match P.funcs[f]? with
 | some fn=>fn.body.isNone&&fn.name==nm&&(Extern.findNext fn).isNone
 | none=>false
def Qh (P:Program)(o:Oper)(bh:Operand→SV)(ix:Nat):Option cK:=
 match o.op with
 | .slice t x (some lo) none none=>(match P.underlying t,(bh x).toE,(bh lo).toE with
  | some (.array n e),some x',some l'=>(r8 P e).bind fun sz=>if n≤maxLen then some { val:=.e (.sym ix) true,bind:=some (.ev (.m4 (.V8 n sz) x' l' .nil .nil)) } else none
  | _,_,_=>none)
 | .convert s t x=>(match P.underlying s,P.underlying t,(bh x).toE with
  | some .string,some (.slice e),some x'=>if TU P e=true then some { val:=.e (.sym ix) true,bind:=some (.ev (.m4 .jO x' .nil .nil .nil)) } else none
  | _,_,_=>none)
 | .call c=>(match c.callee,c.args.toList with
  | .value f,[x,y]=>(match bh f with
   | .func (.func f) [] => if TZ P f "internal/bytealg.IndexByteString" = true then (match (bh x).toE, (bh y).toE with
    | some x',some y'=>some { val:=.e (.sym ix) true,bind:=some (.ev (.m4 .sib x' y' .nil .nil)) }
    | _,_=>none) else none
   | _=>none)
  | _,_=>none)
 | .typeAssert x _ t false=>(match P.underlying t,(bh x).toE with
  | some (.map _ _),some x'=>some { val:=.e (.sym ix) true,bind:=some (.ev (.aV (.m4 (.iw t) x' .nil .nil .nil))) }
  | some (.struct _),some x'=>some { val:=.e (.sym ix) false,bind:=some (.ev (.m4 (.iw t) x' .nil .nil .nil)) }
  | _,_=>none)
 | _=>none
theorem Ms {P:Program}{o:Oper}{bh eO:Operand→SV}{ix:Nat}(hv:∀x,x∈o.op.operands→eO x=bh x):Qh P o eO ix=Qh P o bh ix:=by
 unfold Qh;generalize oI:o.op=op at *;cases op <;> try rfl
 case slice t x lo hi mx=>
  cases lo with
  | none=>rfl
  | some lo=>cases hi <;> cases mx <;> first | rfl | (simp only;rw[hv x (by simp[Op.operands]),hv lo (by simp[Op.operands])])
 case convert s t x=>simp only;rw[hv x (by simp[Op.operands])]
 case typeAssert x xt t ok=>cases ok <;> first | rfl | (simp only;rw[hv x (by simp[Op.operands])])
 case call c=>
  obtain⟨callee,args,ts⟩:=c;have eF:∀x,x∈args.toList→eO x=bh x:=fun x hx=>hv x (by
   simp only[Op.operands,Call.operands];have:x∈args:=by simpa using hx
   simp[this])
  simp only;cases callee with
  | builtin b=>rfl
  | value f=>
   have hf:=hv f (by simp[Op.operands,Call.operands]);cases hl:args.toList with
   | nil=>rfl
   | cons x r=>
    cases r with
    | nil=>rfl
    | cons y r=>cases r with
     | nil=>simp only;rw[hf,eF x (by rw[hl];simp),eF y (by rw[hl];simp)]
     | cons _ _=>rfl
  | invoke r n=>rfl
section
variable {P:Program} {w w0:World} {X:jN} {a:Act} {σ:ah} {env:List D} {ρ:dD}
theorem Qm {f : FuncId} {nm : String} {e : Array Value → Sem Value} (h : TZ P f nm = true) (OR : nm ≠ "runtime.NumGoroutine") (he : ∀ fn : Func, fn.name = nm → Extern.find fn = some e) (args : Array Value) : (callFunc f args).run P w = ((e args).run P w).andThen fun v w' => .ok (.value v) w' := by
 unfold TZ at h;split at h
 ·rename_i fn hf;simp only[A0f,B0K,B0i] at h;obtain⟨⟨h1,h2⟩,h3⟩:=h;exact run_callFunc_extern hf (by rw[h2];simpa using OR) (by rw[h1];rfl) h3 (he fn h2) args w
 ·cases h
theorem Du (fn : Func) (h : fn.name = "internal/bytealg.IndexByteString") : Extern.find fn = some Extern.BytealgIndexByte.indexByte := by unfold Extern.find;rw[h];kernel_rfl
theorem Vc {c:Operand}{bh:Operand→SV}{f:FuncId}(hv:∀x,cS w ρ env (a.eval x) (bh x))(hc:bh c=.func (.func f) []):a.eval c=.func (.func f) #[] #[]:=by have h:=hv c;rw[hc] at h;obtain⟨vs,h1,h2,_⟩:=h.oh;rw[h1,show vs=#[] from C0s h2]
theorem Vn {o:Oper}{c:Operand}{args:Array Operand}{ts:Array TypeId}{f:FuncId}{u:Value}(ho:o.op=.call { callee:=.value c,args:=args,argTypes:=ts })(hc:a.eval c=.func (.func f) #[] #[])(h:(callFunc f (args.map a.eval)).run P w=.ok (.value u) w) :
  (execOp a.eval o).run P w=.ok (.value u) w:=by
 unfold execOp;simp only[ho,resolve,hc,Deferred.ofValue,invoke,A0n,A0r,A0h];simpa using h
theorem BH (w:World)(t xT k e:TypeId)(v:Value)(h:P.underlying t=some (.map k e)):(Instr.typeAssert (.iface t v) xT t false).run P w=.ok v w:=by simp[Instr.typeAssert,A0G h,go_sem,Result.andThen]
theorem AL (w:World)(t xT:TypeId)(fs:Array Field)(v:Value)(h:P.underlying t=some (.struct fs)):(Instr.typeAssert (.iface t v) xT t false).run P w=.ok v w:=by simp[Instr.typeAssert,A0G h,go_sem,Result.andThen]
theorem Mr {o:Oper}{bh:Operand→SV}{ix:Nat}{r:cK}(hv:∀x,cS w ρ env (a.eval x) (bh x))(hl:Qh P o bh ix=some r)(h:aF w0 X w a σ env ρ)(hd:∀d,o.dst=some d→d<σ.tmps.length)(hb:bD P env ix r.bind) :
  r.cm=none∧ea P o a w w0 X (σ.put o.dst r.val) env:=by
 unfold Qh at hl;split at hl
 ·rename_i t x lo ho;split at hl
  ·rename_i n e x' l' ht hx su;obtain⟨sz,bV,hl⟩:=A0b.1 hl;split at hl
   ·rename_i hn;cases hl;obtain⟨dx,iY,iG⟩:=SV.toE_rd hx (hv x);obtain⟨dl,fR,HX⟩:=SV.toE_rd su (hv lo);obtain⟨d,he,cA⟩:=hb;simp only[E.eval,iY,fR,A0d,D.m4] at he;unfold D.V8 at he;split at he
    ·rename_i i off k l;split at he
     ·rename_i hc;obtain⟨h0,h1,h2⟩:=hc;cases he;have Fw:a.eval x=.pointer (some ⟨ρ.S.loc i,off,none⟩)∧i<ρ.S.n:=by generalize a.eval x=v at iG;cases iG;exact⟨rfl,by assumption⟩
      have oe:P.elem t=e:=by unfold Program.elem;rw[ht]
      have hal:P.arrayLen t=n:=by unfold Program.arrayLen;rw[ht]
      have bt:=run_sliceAt_array_l (P:=P) w t ⟨ρ.S.loc i,off,none⟩ (by rw[oe,hal];exact ht) k l h0 (by rw[hal];omega);rw[oe,hal,run_sizeOf bV] at bt;simp only[A0h,slicedAt] at bt;rw[A0B (by omega)] at bt;refine⟨rfl,bl h hd (v:=.slice (some ⟨ρ.S.loc i,off+l.toNat*sz,none⟩) (n-l.toNat) (n-l.toNat)) ?_ (.e (by simp only[E.eval];exact cA) (.sl Fw.2 (A0m _) (by omega) fun e=>absurd e (by omega)) fun _=>rfl)⟩;unfold execOp;simp only[ho,A0y,C0b,Fw.1,HX.v_eq,A0n,bt,A0h,A0r,Addr.add_lit]
     ·cases he
    ·cases he
   ·cases hl
  ·cases hl
 ·rename_i s t x ho;split at hl
  ·rename_i te x' hs ht hx;split at hl
   ·rename_i hte;cases hl;obtain⟨dx,iY,iG⟩:=SV.toE_rd hx (hv x);obtain⟨d,bX,cA⟩:=hb;simp only[E.eval,iY,A0d,D.m4] at bX;unfold D.jO at bX;split at bX
    ·rename_i str;split at bX
     ·rename_i RD;cases bX;have bt:=run_bytes_of_string (P:=P) w s t te str hs ht (G8 hte);have Ys:Blw w.heap.size w (w.drew.alloc (.cells (bytesRow str (grownCap w str.size 0 te)) te ((bytesRow str (grownCap w str.size 0 te)).size,(bytesRow str (grownCap w str.size 0 te)).size+1))):=
       ⟨⟨rfl,rfl,rfl,by simp,fun k hk=>g_ w.drew _ k hk⟩,by simp⟩
      have bg:=h.behind (S':=ρ.S.or fun b _=>b=w.heap.size) Ys (ρ.S.pe _) rfl (fun b o hs=>hs.imp_right fun e=>Nat.le_of_eq e.symm) (fun b o hs=>by
       rcases hs with hs | hs
       ·exact A0v (h.cells b o hs) Ys.size
       ·simp[hs])
      refine⟨rfl,bW (v:=.slice (some ⟨w.heap.size,0,none⟩) str.size (grownCap w str.size 0 te)) ?_ (bg.put hd (.e (d:=.bk (fH str)) (by simp only[E.eval];exact cA) ?_ fun _=>rfl))⟩
      ·unfold execOp;simp only[ho,iG.v_eq,A0n,bt,A0h,A0r]
      ·have hl:(fH str).length=str.size:=by unfold fH;rw[B0u,A0W];rfl
       have lE:∀(i:Nat) (e:D),(fH str)[i]? = some e→∃b:UInt8,str.data[i]? = some b∧e=.v (.int .u8 b.toNat):=by intro i e he;simp only[fH,A0w,A0a] at he;obtain⟨b,hb,rfl⟩:=he;exact⟨b,by simpa using hb,rfl⟩
       have hj0:∀{i:Nat} {e:D} {j:Nat} {d:D},(fH str)[i]? = some e→e.cells[j]? = some d→j=0∧∃b:UInt8,str.data[i]? = some b∧d=.v (.int .u8 b.toNat):=by
        intro i e j d he hd;obtain⟨b,hb,rfl⟩:=lE i e he;cases j with
        | zero=>simp[D.cells] at hd;exact⟨rfl,b,hb,hd.symm⟩
        | succ j=>simp[D.cells] at hd
       refine .bk (size:=1) (val:=fun i _=>.int .u8 ((str.data[i]?).getD 0).toNat) hl.symm (grownCap_ge w str.size 0 te) (E0c w str.size 0 te RD) (fun i e he=>?_) (fun i e j d he hd=>?_) (fun i e j d he hd=>.inr rfl) (fun i e j d he hd=>?_) fun i e j d he hd=>?_
       ·obtain⟨b,_,rfl⟩:=lE i e he;rfl
       ·obtain⟨_,b,_,rfl⟩:=hj0 he hd;rfl
       ·obtain⟨rfl,b,hb,rfl⟩:=hj0 he hd;have hlt:i<str.data.size:=(A0l.1 hb).1;have hh:(w.drew.alloc (.cells (bytesRow str (grownCap w str.size 0 te)) te ((bytesRow str (grownCap w str.size 0 te)).size,(bytesRow str (grownCap w str.size 0 te)).size+1))).heap[w.heap.size]? = some (.cells (bytesRow str (grownCap w str.size 0 te)) te ((bytesRow str (grownCap w str.size 0 te)).size,(bytesRow str (grownCap w str.size 0 te)).size+1)):=C0p w.drew _;rw[eM hh,A0Q,D0D,D0H,bytesRow_at str _ i hlt,hb];rw[A0p hlt] at hb;rw[←B0M hb];rfl
       ·obtain⟨rfl,b,hb,rfl⟩:=hj0 he hd;rw[hb];exact .v rfl
     ·cases bX
    ·cases bX
   ·cases hl
  ·cases hl
 ·rename_i c ho;obtain⟨callee,args,ts⟩:=c;split at hl
  ·rename_i f x y jY eF;simp only at jY eF;subst jY;have e1:args=#[x,y]:=by rw[←B0b (xs:=args),eF]
   subst e1;split at hl
   ·rename_i g hg;split at hl
    ·rename_i hx;split at hl
     ·rename_i x' y' fm yp;cases hl;obtain⟨dx,iY,iG⟩:=SV.toE_rd fm (hv x);obtain⟨dy,Eh,X9⟩:=SV.toE_rd yp (hv y);obtain⟨d,he,cA⟩:=hb;simp only[E.eval,iY,Eh,A0d,D.m4] at he;unfold D.sib at he;split at he
      ·rename_i s c;cases he;refine⟨rfl,bl h hd (Vn (u:=.int .i64 (firstIdx s c.toNat.toUInt8)) ho (Vc hv hg) ?_) (.e (by simp only[E.eval];exact cA) (.v rfl) fun _=>rfl)⟩;rw[Qm hx (by decide) Du];have:=run_indexByte_string (P:=P) s c w;simp only[C0f,B0p,C0x,iG.v_eq,X9.v_eq,this,A0h]
      ·cases he
     ·cases hl
    ·cases hl
   ·cases hl
  ·cases hl
 ·rename_i x xt t ho;split at hl
  ·rename_i k e x' hu fm;cases hl;obtain⟨dx,iY,iG⟩:=SV.toE_rd fm (hv x);obtain⟨d,he,cA⟩:=hb;simp only[E.eval,iY,A0d,D.m4] at he;obtain⟨y,hy,he⟩:=A0b.1 he;unfold D.aV at he;split at he
   ·rename_i cV;cases he;unfold D.iw at hy;split at hy
    ·rename_i t' y';split at hy
     ·rename_i OO;cases hy;subst OO;generalize qC:a.eval x=v at iG;cases iG with
      | iW bO=>
       refine⟨rfl,bl h hd ?_ (.e (by simp only[E.eval];exact cA) bO fun _=>cV)⟩;unfold execOp;simp only[ho,qC,A0n,BH _ _ _ _ _ _ hu,A0h,A0r]
     ·cases hy
    ·cases hy
   ·cases he
  ·rename_i fs x' hu fm;cases hl;obtain⟨dx,iY,iG⟩:=SV.toE_rd fm (hv x);obtain⟨d,hy,cA⟩:=hb;simp only[E.eval,iY,A0d,D.m4] at hy;unfold D.iw at hy;split at hy
   ·rename_i t' y';split at hy
    ·rename_i OO;cases hy;subst OO;generalize qC:a.eval x=v at iG;cases iG with
     | iW bO=>
      refine⟨rfl,bl h hd ?_ (.e (by simp only[E.eval];exact cA) bO (by simp))⟩;unfold execOp;simp only[ho,qC,A0n,AL _ _ _ _ _ hu,A0h,A0r]
    ·cases hy
   ·cases hy
  ·cases hl
 ·cases hl
end
def abc (cf:cF)(o:Oper):Bool:=
 match o.dst with
 | some d=>cf.B_.contains d
 | none=>false
def z8 (P:Program)(cf:cF)(h:E)(s:Operand)(bh:Operand→SV)(x:SV)(t t':TypeId)(ix:Nat):Option cK:=
 if cf.ro=true then none else match IY s (bh s),x.toE,P.underlying t,P.underlying t' with
 | .e s' _,some x',some (.slice e),some .string=>(match P.info? e with
  | some i=>(match i.zero with
   | some (.int .u8 0)=>if i.size=1∧i.bytes=1∧e≠K3 then some { val:=.e (.apps h s' (.m4 .jO x' .nil .nil .nil)) true,cm:=some (br,.store cf (.sym ix)),bind:=some (.ev (.gM e 1 1 h s' (.m4 .jO x' .nil .nil .nil))) } else none
   | _=>none)
  | none=>none)
 | _,_,_,_=>none
def sY (P:Program)(o:Oper)(bh:Operand→SV)(hO:Option aY)(ix:Nat):Option cK:=
 match hO with
 | some (.store cf h)=>(match o.op with
  | .convert s t x=>if abc cf o=true then(match P.underlying s,P.underlying t,(bh x).toE with
   | some (.slice e),some .string,some x'=>if TU P e=true then some { val:=.e (.sym ix) true,bind:=some (.ev (.m4 .uZ h x' .nil .nil)) } else none
   | _,_,_=>none) else none
  | .indexAddr t (.global g) i=>(match P.underlying t,(bh i).toE with
   | some (.array n e),some i'=>(r8 P e).map fun sz=>{ val:=.e (.sym ix) true,bind:=some (.ev (.m4 (.gix g n sz) h i' .nil .nil)) }
   | _,_=>none)
  | .call c=>(match c.callee,c.args.toList,c.argTypes.toList with
   | .builtin .append,[s,x],[t,t']=>z8 P cf h s bh (bh x) t t' ix
   | _,_,_=>none)
  | _=>none)
 | _=>none
section
variable {P:Program} {w w0:World} {X:jN} {a:Act} {σ:ah} {env:List D} {ρ:dD}
theorem V4 {w:World}{S:Sets}{az:Nat→Prop}{bs:List D}{i:Nat}{b:TypeId×Nat×List D}(hst:cI w S az bs)(hb:D.eG (.st bs) i=some b):∃(vs:Array Value) (e':TypeId),w.heap[S.loc i]? = some (.cells vs e' (0,0))∧(b.1≠K3→e'=b.1)∧b.2.2.length≤vs.size∧az (S.loc i) ∧
  ∀(j:Nat) (d:D),b.2.2[j]? = some d→d.one=true∧∃v,vs[j]? = some v∧bA w S v d:=by
 obtain⟨hf,vs,⟨e',hh,he⟩,_,hle,cV,hr,_⟩:=hst.cells i _ _ _ (h_ hb);refine⟨vs,e',hh,fun bQ=>he.resolve_left bQ,hle,hf,fun j d hj=>⟨cV j d hj,?_⟩⟩;have hlt:j<vs.size:=A0v (A0c.1 hj).1 hle;exact⟨vs[j],A0p hlt,hr j _ d (A0p hlt) hj⟩
theorem KM {w:World}{S:Sets}{az:Nat→Prop}{bs:List D}{i off n:Nat}{b:TypeId×Nat×List D}{ns:List Int}(hst:cI w S az bs)(hb:D.eG (.st bs) i=some b)(hn:off+n≤b.2.2.length)(jP:bytesOf ((b.2.2.drop off).take n)=some ns) :
  ns.length=n∧∀j,j<n→w.cell? ⟨S.loc i,off+j,none⟩=some (.int .u8 (ns.getD j 0)):=by
 obtain⟨h1,h2⟩:=tJ jP;have hl:ns.length=n:=by rw[←h1];simp;omega
 refine⟨hl,fun j hj=>?_⟩;obtain⟨vs,e',hh,_,hle,_,hc⟩:=V4 hst hb;have pT:off+j<b.2.2.length:=by omega
 obtain⟨g1,v,g2,g3⟩:=hc (off+j) _ (A0e pT);have hx:=h2 j (b.2.2[off+j]) (by
  rw[A0H,A0z hj,A0Z];exact A0e pT)
 rw[D.cells_one g1] at hx;simp only[C0a,E0a] at hx;rw[hx] at g3;rw[eM hh,g2,g3.v_eq]
theorem xL {g:Nat}:∀{bs:List D} {k j:Nat},rI g bs k=some j→k≤j∧∃t vs,bs[j-k]? = some (.qF g t vs)
 | [],k,j,h=>by simp[rI] at h
 | x :: r,k,j,h=>by
  have next:rI g r (k+1)=some j→k≤j∧∃t vs,(x :: r)[j-k]? = some (.qF g t vs):=fun h=>by obtain⟨h1,t,vs,h2⟩:=xL h;refine⟨by omega,t,vs,?_⟩;rw[show j-k=(j-(k+1))+1 from by omega];simpa using h2
  cases x with
  | qF g' t vs=>
   simp only[rI] at h;split at h
   ·rename_i hg;cases h;subst hg;exact⟨A0m _,t,vs,by simp⟩
   ·exact next h
  | _=>exact next h
theorem acW {w:World}{S:Sets}{az:Nat→Prop}{bs:List D}{g len sz:Nat}{i d:D}(hst:cI w S az bs)(h:D.gix g len sz (.st bs) i=some d):∃(k:IntKind) (n:Int),i=.v (.int k n)∧0≤n∧n<len∧bA w S (.pointer (some ⟨g,n.toNat*sz,none⟩)) d∧d.one=true:=by
 unfold D.gix at h;split at h
 ·rename_i e1;cases e1;split at h
  ·rename_i hc;obtain⟨j,hj,rfl⟩:=A0a.1 h;obtain⟨_,_,vs,hz⟩:=xL hj;obtain⟨_,⟨mL,_⟩,_⟩:=hst.s7 _ _ hz rfl;refine⟨_,_,rfl,hc.1,hc.2,?_,rfl⟩;rw[C0y] at hz mL;rw[←mL];exact .loc (by rw[hst.n];exact(A0c.1 hz).1)
  ·cases h
 ·cases h
theorem Rh {S:Sets}{az:Nat→Prop}{bs:List D}{v:Value}{x d:D}{s t e:TypeId}(hst:cI w S az bs)(hs:P.underlying s=some (.slice e))(he:P.underlying e=some (.int .u8))(ht:P.underlying t=some .string)(hx:bA w S v x)(h:D.uZ (.st bs) x=some d) :
  ∃u:ByteArray,(convert s t v).run P w=.ok (.string u) w∧d=.v (.string u):=by
 unfold D.uZ at h;split at h
 ·cases h;cases hx;exact⟨_,run_convert_bytes_nil w s e hs he _ _ t ht,rfl⟩
 ·obtain⟨b,hb,h⟩:=A0b.1 h;split at h
  ·rename_i hc;obtain⟨ns,jP,rfl⟩:=A0a.1 h;obtain⟨g1,g2⟩:=KM hst hb hc.1 jP;cases hx;exact⟨_,run_convert_bytes_arg w s e hs he _ _ _ _ ns g1 g2 t ht,rfl⟩
  ·cases h
 ·unfold D.Nz at h;split at h
  ·obtain⟨ns,jP,rfl⟩:=A0a.1 h;exact⟨_,KQ hx jP hs he ht,rfl⟩
  ·cases h
theorem wH (w:World) (t u ty e:TypeId) (i:TypeInfo) (ht:P.underlying t=some (.slice e)) (hu:P.underlying u=some .string) (hi:P.info? e=some i) (hz:i.zero=some (.int .u8 0)) (pg:i.size=1) (RM:i.bytes=1)
  (v:Value) (n:Nat) (xs:List Value) (eB:w.ownsRow 0 e 1 v n xs) (s:ByteArray) (hs:0<s.size) (h63:n+s.size≤maxLen) (vI:n+s.size≤140737488355328) :
  ∃v' w',(Builtin.append_ #[t,u] ty #[v,.string s]).run P w=.ok v' w'∧w'.ownsRow 0 e 1 v' (n+s.size) (xs++Lib.strCells s) ∧
   ((v'.ownBlock=v.ownBlock∧RU w w' v.ownBlock)∨(v'.ownBlock=some w.heap.size∧RU w w' none)):=by
 have td:n+s.size≤9223372036854775807:=by simp only[maxLen] at h63;omega
 have p4:xs.length=n:=by simpa using eB.1
 have hlen:(xs++Lib.strCells s).length=(n+s.size)*1:=by rw[A0u,p4,Lib.strCells_length,D0D]
 have grown:∀(old:Nat),old<n+s.size →
   (w.drew.alloc (.cells (xs.toArray++(Lib.strCells s).toArray++Builtin.zeroCells (Value.int .u8 0).cells (grownCap w (n+s.size) old e-(n+s.size))) e)).ownsRow 0 e 1
    (.slice (some ⟨w.heap.size,0,none⟩) (n+s.size) (grownCap w (n+s.size) old e)) (n+s.size) (xs++Lib.strCells s) ∧
   RU w (w.drew.alloc (.cells (xs.toArray++(Lib.strCells s).toArray++Builtin.zeroCells (Value.int .u8 0).cells (grownCap w (n+s.size) old e-(n+s.size))) e)) none:=by
  intro old ho;have hge:=grownCap_ge w (n+s.size) old e;have zk:grownCap w (n+s.size) old e≤maxLen:=E0c w (n+s.size) old e h63;refine⟨⟨hlen,.inr ⟨w.heap.size,_,_,rfl,B0e _,C0p w.drew _,hge,zk,?_,?_⟩⟩,⟨rfl,⟨rfl,by simp⟩,rfl,by simp,fun k hk _=>g_ w.drew _ k hk⟩⟩
  ·simp only[D0B,B0I,size_zeroCells,p4,Lib.strCells_length,Value.cells];simp;omega
  ·simp only[B0X,A0A];rw[←A0A,←hlen];exact E0g
 rcases eB.2 with⟨rfl,rfl⟩ | ⟨g,cap,cur,rfl,Yu,hg,Lm,zk,AS,xB⟩
 ·have hx:xs=[]:=A0D p4;subst hx;have hr:=run_append_nil_string (P:=P) w t u ty e i _ ht hu hi hz s hs (by omega) (by rw[RM];omega);have sA:=grown 0 (by omega);simp only[A0Q,A0j,Array.empty_append] at sA ⊢;have hce:(s.data.map fun b=>Value.int .u8 b.toNat)=(Lib.strCells s).toArray:=by apply Array.ext';simp[Lib.strCells]
  rw[hce] at hr;exact⟨_,_,hr,sA.1,.inr ⟨rfl,sA.2⟩⟩
 ·by_cases Fy:n+s.size≤cap
  ·have dQ:n+s.size≤cur.size:=by omega
   have hr:=Lib.run_append_room_string (P:=P) w t u ty e i ht hu hi pg g n cap cur hg s Fy dQ;refine⟨_,_,hr,⟨hlen,.inr ⟨g,cap,_,rfl,Yu,E0p w g cur _ e _ hg,Fy,zk,?_,?_⟩⟩,.inl ⟨rfl,⟨rfl,⟨rfl,A0m _⟩,rfl,by simp,fun k _ hk=>D0I w g k _ (fun e=>hk (by simp[Value.ownBlock,e]))⟩⟩⟩
   ·simp only[B0I,A0u,B0g,B0E,A0W,Lib.strCells_length];omega
   ·rw[show cur.toList.take n=xs from by rw[←xB,D0D],←hlen];exact E0g
  ·have holds:∀j u,xs[j]? = some u→w.cell? ((⟨g,0,none⟩:Addr).add j)=some u:=eB.cells (g:=g) rfl;have hr:=Lib.run_append_grow_string (P:=P) w t u ty e i _ ht hu hi hz ⟨g,0,none⟩ n cap xs (by rw[pg,p4,D0D]) holds s (by omega) (by omega) (growslice_fits (by omega) (by rw[RM];omega));have sA:=grown cap (by omega);exact⟨_,_,hr,sA.1,.inr ⟨rfl,sA.2⟩⟩
theorem KO (s:ByteArray):cH (fH s)=fH s∧(fH s).length=s.size∧cC 1 (fH s)=true∧∀{w:World} {S:Sets} (j:Nat) (v:Value) (d:D),(Lib.strCells s)[j]? = some v→(fH s)[j]? = some d→bA w S v d∧d.one=true:=by
 have hc:∀l:List UInt8,cH (l.map fun b:UInt8=>D.v (.int .u8 b.toNat))=l.map fun b:UInt8=>D.v (.int .u8 b.toNat):=by
  intro l
  induction l with
  | nil=>rfl
  | cons x r ih=>simp only[B0p,cH,B0r,D.cells] at ih ⊢;rw[ih];rfl
 refine⟨hc _,by unfold fH;rw[B0u,A0W];rfl,by unfold cC fH;rw[A0C];intro e he;obtain⟨b,_,rfl⟩:=A0F.1 he;rfl,fun j v d hv hd=>?_⟩;simp only[Lib.strCells,fH,A0w,A0a] at hv hd;obtain⟨b,hb,rfl⟩:=hv;obtain⟨b',fI,rfl⟩:=hd;rw[hb] at fI;cases fI;exact⟨.v rfl,rfl⟩
theorem yO (w:World)(t u ty e:TypeId)(i:TypeInfo)(ht:P.underlying t=some (.slice e))(hu:P.underlying u=some .string)(hi:P.info? e=some i)(ad:Option Addr)(n cap:Nat)(hn:n≤cap)(s:ByteArray)(hs:s.size=0) :
  (Builtin.append_ #[t,u] ty #[.slice ad n cap,.string s]).run P w=.ok (.slice ad n cap) w:=by
 have hf:(Builtin.firstCells i.size 0 (.string s)).run P w=.ok #[] w:=by simp[Builtin.firstCells]
 cases ad <;> simp[Builtin.append_,A0G ht,A0G hu,sizeOf,typeInfo,hi,Builtin.lenOf,hs,hn,hf,storeCells]
theorem Jz {o:Oper} {s x:Operand} {t t':TypeId} {cf:cF} {hx:E} {bh:Operand→SV} {ix:Nat} {r:cK} (ho:o.op=.call { callee:=.builtin .append,args:=#[s,x],argTypes:=#[t,t'] }) (hv:∀x,cS w ρ env (a.eval x) (bh x)) (cO:σ.obj br=some (.store cf hx)) (hl:z8 P cf hx s bh (bh x) t t' ix=some r)
  (h:aF w0 X w a σ env ρ) (hd:∀d,o.dst=some d→d<σ.tmps.length) (hb:bD P env ix r.bind):∃z,r.cm=some (br,z)∧ea P o a w w0 X ((σ.setObj br (some z)).put o.dst r.val) env:=by
 obtain⟨bs,gr,hst,_⟩:=h.cT _ _ cO;unfold z8 at hl;split at hl
 ·cases hl
 rename_i fQ;replace fQ:cf.ro=false:=by simpa using fQ
 split at hl
 ·rename_i s' sb x' e Ae fm hu kK;split at hl
  ·rename_i i hi;split at hl
   ·rename_i hz;split at hl
    ·rename_i hc;obtain⟨hi1,hi2,bQ⟩:=hc;cases hl;have C2:=Oe (hv s);rw[Ae] at C2;obtain⟨ds,kQ,kf,_⟩:=C2.jL;obtain⟨dx,iY,iG⟩:=SV.toE_rd fm (hv x);obtain⟨d,he,cA⟩:=hb;simp only[E.eval,gr,kQ,iY,A0d,D.m4] at he;refine⟨_,rfl,?_⟩;obtain⟨dy,Eh,he⟩:=A0b.1 he;obtain⟨str,rfl,RD,rfl⟩:∃str:ByteArray,dx=.v (.string str)∧str.size≤maxLen∧dy=.bk (fH str):=by
      unfold D.jO at Eh;split at Eh
      ·split at Eh
       ·cases Eh;exact⟨_,rfl,by assumption,rfl⟩
       ·cases Eh
      ·cases Eh
     obtain⟨qo,hlen,ji,bO⟩:=KO str;have qC:a.eval x=.string str:=iG.v_eq;have hyE:(E.m4 .jO x' .nil .nil .nil).eval env=some (.bk (fH str)):=by simp only[E.eval,iY,A0d,D.m4,Eh]
     have ep:∀{v':Value} {w':World},(Builtin.append_ #[t,t'] o.type #[a.eval s,.string str]).run P w=.ok v' w'→(execOp a.eval o).run P w=.ok (.value v') w':=by intro v' w' hr;rw[←qC] at hr;unfold execOp;simp only[ho,resolve,invoke,builtin,A0n,A0r,A0h,C0f,B0p,C0x,hr]
     have ZI:∀{ad:Option Addr} {n cap:Nat} {kL:D},fH str=[]→a.eval s=.slice ad n cap→n≤cap→bA w ρ.S (a.eval s) kL→kL.one=true→env[ix]? = some (.st bs)→(E.apps hx s' (.m4 .jO x' .nil .nil .nil)).eval env=some kL→ea P o a w w0 X ((σ.setObj br (some (.store cf (.sym ix)))).put o.dst (.e (.apps hx s' (.m4 .jO x' .nil .nil .nil)) true)) env:=by
      intro ad n cap kL ng vC nq anP cV cA fB;have Qu:str.size=0:=by rw[←hlen,ng];rfl
      have bg:=h.gJ (x':=.sym ix) cO fQ (by simpa[E.eval] using cA) hst (bM.refl _ _) (Sets.le_refl _) rfl ⟨rfl,A0m _⟩ rfl (A0m _) (fun _ _ _=>rfl) (fun b hb=>⟨.inl hb,gj h cO b hb⟩) (fun b o hs=>.inl hs) h.cells;refine bW (v:=a.eval s) (ep ?_) (bg.put (by intro d e;rw[ah.aP];exact hd d e) (.e fB anP fun _=>cV));rw[vC];exact yO w t t' o.type e i hu kK hi ad n cap nq str Qu
     have SA:∀{n:Nat} {cs xs:List Value} {eH nS:List D},fH str≠[]→n+(fH str).length≤maxLen→(n+(fH str).length)*1≤140737488355328→(∀(j:Nat) (d:D),eH[j]? = some d→d.one=true)→w.ownsRow 0 e 1 (a.eval s) n xs→eH.length=n*1→(∀(j:Nat) (v:Value) (d:D),xs[j]? = some v→eH[j]? = some d→bA w ρ.S v d) →
       nS.length=bs.length→(∀b,(a.eval s).ownBlock=some b→ρ.az b∧(∀off,¬ρ.S b off)∧∀(j:Nat) (x:D),nS[j]? = some x→x.live=true→ρ.S.loc j≠b)→(∀(j:Nat) (x:D),nS[j]? = some x→x.live=true→bs[j]? = some x)→env[ix]? = some (.st (nS++[.blk e 1 (eH++cH (fH str))])) →
       (E.apps hx s' (.m4 .jO x' .nil .nil .nil)).eval env=some (.sl bs.length 0 (n+(fH str).length))→ea P o a w w0 X ((σ.setObj br (some (.store cf (.sym ix)))).put o.dst (.e (.apps hx s' (.m4 .jO x' .nil .nil .nil)) true)) env:=by
      intro n cs xs eH nS Wy qD RM JP eB dU EB uf FB hold cA fB;have Qu:0<str.size:=by rw[←hlen];exact B0x.2 Wy
      obtain⟨v',w',bt,mS,gd⟩:=wH w t t' o.type e i hu kK hi hz hi1 hi2 (a.eval s) n xs eB str Qu (by rw[hlen] at qD;exact qD) (by rw[hlen] at RM;omega);refine DZ (i:=i) (n:=n) (m':=(fH str).length) (cs:=eH) (news:=Lib.strCells str) (by omega) cO fQ gr Wy rfl (by rw[qo,A0C];intro d hd;obtain⟨b,_,rfl⟩:=A0F.1 hd;rfl) JP (by rw[hi1];exact eB) (by rw[hi1];exact dU) EB uf FB hold (by rw[hi1];exact cA) fB h hd (ep bt) (by rw[hi1,hlen];exact mS) gd (by rw[Lib.strCells_length,hlen,hi1,D0D]) (by rw[qo,hlen,Lib.strCells_length]) (fun j v d hv hd=>?_);rw[qo] at hd;exact bO j v d hv hd
     unfold D.gM at he;split at he
     ·rename_i fN ys e3 sq _ _;cases e3;have sq:fH str=ys:=by simpa[D.Ic] using sq
      subst sq;have vC:a.eval s=.slice none 0 0:=by generalize a.eval s=v at kf;cases kf;rfl
      split at he
      ·rename_i ng;cases he;exact ZI ng vC (A0m _) kf rfl cA (by simp only[E.eval,gr,kQ,iY,A0d,D.m4,Eh,D.apps,D.cnt,ng,B0C,B0d])
      ·rename_i Wy;split at he
       ·rename_i Bp;cases he;exact SA (n:=0) (cs:=[]) (xs:=[]) (eH:=[]) (nS:=bs) Wy (by simpa using Bp.2.1) (by simpa using Bp.1) (by simp) (by rw[vC];exact C0O w 0 e 1) (by simp) (by simp) rfl (fun b hb=>by rw[vC] at hb;cases hb) (fun j _ hj _=>hj) (by simpa using cA) (by simp only[E.eval,gr,kQ,iY,A0d,D.m4,Eh,D.apps,D.cnt,A0B (fun e=>Wy (A0D e)),A0Q])
       ·cases he
     ·rename_i fN k off n ys e3 sq _ _;cases e3;have sq:fH str=ys:=by simpa[D.Ic] using sq
      subst sq;split at he
      ·rename_i ng;cases he;have abX:=kf;generalize vC:a.eval s=v at kf;cases kf with
       | @sl _ _ _ cc hk hle zk h0=>
        exact ZI ng vC hle abX rfl cA (by simp only[E.eval,gr,kQ,iY,A0d,D.m4,Eh,D.apps,D.cnt,ng,B0C,B0d])
      ·rename_i Wy;obtain⟨blk,hblk,he⟩:=A0b.1 he;split at he
       ·rename_i Bp;cases he;obtain⟨c0,c1,c2,c3,c4,c5,c6,c7⟩:=Bp;subst c0;have jc:=h_ hblk;rw[c1,c2] at jc;obtain⟨hf,vs,⟨e',hh,xz⟩,bV,UB,cV,hr,jP⟩:=hst.cells k _ _ _ jc;obtain rfl:e=e':=(xz.resolve_left bQ).symm;generalize vC:a.eval s=v at kf;cases kf with
        | @sl _ _ _ cc hk hle zk h0=>
        have nq:=h0 rfl;have eB:w.ownsRow 0 e 1 (a.eval s) n (vs.toList.take (n*1)):=by refine⟨?_,.inr ⟨ρ.S.loc k,cc,vs,vC,B0e _,hh,hle,zk,by rw[nq];exact bV,rfl⟩⟩;rw[B0g,A0W];omega
        refine SA (n:=n) (cs:=[]) (xs:=vs.toList.take (n*1)) (eH:=blk.2.2) (nS:=bs.set k (.a_ [])) Wy c5 c4 cV eB c3 (fun j v d hj Ei=>?_) (by simp) (fun b hb=>?_) (fun j x hj hx=>?_) cA (by simp only[E.eval,gr,kQ,iY,A0d,D.m4,Eh,D.apps,D.cnt,A0B (fun e=>Wy (A0D e))])
        ·rw[A0H] at hj;split at hj
         ·exact hr j v d (by simpa using hj) Ei
         ·cases hj
        ·rw[vC] at hb;have fI:ρ.S.loc k=b:=by simpa[Value.ownBlock] using hb
         subst fI;refine⟨hf,jP,fun j x hj hx hl=>?_⟩;rw[A0N] at hj;split at hj
         ·split at hj <;> cases hj;cases hx
         ·rename_i Hq;exact Hq (hst.inj j k _ _ hj jc hx rfl hl).symm
        ·rw[A0N] at hj;split at hj
         ·split at hj <;> cases hj;cases hx
         ·exact hj
       ·split at he
        ·rename_i Bp;cases he;obtain⟨c0,c1,c2,c3,c4,c5,c6,c7⟩:=Bp;subst c0;have jc:=h_ hblk;rw[c1,c2] at jc;obtain⟨hf,vs,⟨e',hh,xz⟩,bV,UB,cV,hr,jP⟩:=hst.cells k _ _ _ jc;obtain rfl:e=e':=(xz.resolve_left bQ).symm;generalize vC:a.eval s=v at kf;cases kf with
         | @sl _ _ _ cc hk hle zk h0=>
         have nq:=h0 rfl;have eB:w.ownsRow 0 e 1 (a.eval s) n (vs.toList.take (n*1)):=by refine⟨?_,.inr ⟨ρ.S.loc k,cc,vs,vC,B0e _,hh,hle,zk,by rw[nq];exact bV,rfl⟩⟩;rw[B0g,A0W];omega
         refine SA (n:=n) (cs:=[]) (xs:=vs.toList.take (n*1)) (eH:=blk.2.2.take (n*1)) (nS:=bs.set k (.a_ [])) Wy c5 c4 (fun j d hj=>by
           rw[A0H] at hj;split at hj
           ·exact cV j d hj
           ·cases hj) eB (by rw[B0g];omega) (fun j v d hj Ei=>?_) (by simp) (fun b hb=>?_) (fun j x hj hx=>?_) cA (by simp only[E.eval,gr,kQ,iY,A0d,D.m4,Eh,D.apps,D.cnt,A0B (fun e=>Wy (A0D e))])
         ·rw[A0H] at hj Ei;split at hj
          ·rename_i hlt;rw[A0z hlt] at Ei;exact hr j v d (by simpa using hj) Ei
          ·cases hj
         ·rw[vC] at hb;have fI:ρ.S.loc k=b:=by simpa[Value.ownBlock] using hb
          subst fI;refine⟨hf,jP,fun j x hj hx hl=>?_⟩;rw[A0N] at hj;split at hj
          ·split at hj <;> cases hj;cases hx
          ·rename_i Hq;exact Hq (hst.inj j k _ _ hj jc hx rfl hl).symm
         ·rw[A0N] at hj;split at hj
          ·split at hj <;> cases hj;cases hx
          ·exact hj
        ·cases he
     ·cases he
    ·cases hl
   ·cases hl
  ·cases hl
 ·cases hl
theorem Js {o:Oper}{bh:Operand→SV}{ix:Nat}{r:cK}(hv:∀x,cS w ρ env (a.eval x) (bh x))(hl:sY P o bh (σ.obj br) ix=some r)(h:aF w0 X w a σ env ρ)(hd:∀d,o.dst=some d→d<σ.tmps.length)(hb:bD P env ix r.bind) :
  (r.cm=none∧ea P o a w w0 X (σ.put o.dst r.val) env)∨∃z,r.cm=some (br,z)∧ea P o a w w0 X ((σ.setObj br (some z)).put o.dst r.val) env:=by
 unfold sY at hl;split at hl
 case h_2=>cases hl
 rename_i cf hx cO;obtain⟨bs,gr,hst,_⟩:=h.cT _ _ cO;split at hl
 ·rename_i s t x ho;split at hl
  case isFalse=>cases hl
  have conv:∀{v:Value},(convert s t (a.eval x)).run P w=.ok v w→(execOp a.eval o).run P w=.ok (.value v) w:=fun hr=>by unfold execOp;simp only[ho,A0n,hr,A0h,A0r]
  split at hl
  ·rename_i e x' hs ht fm;split at hl
   ·rename_i he;cases hl;obtain⟨dx,iY,iG⟩:=SV.toE_rd fm (hv x);obtain⟨d,bX,cA⟩:=hb;simp only[E.eval,gr,iY,A0d,D.m4] at bX;obtain⟨u,g1,rfl⟩:=Rh hst hs (G8 he) ht iG bX;exact .inl ⟨rfl,bl h hd (conv g1) (.e (by simp only[E.eval];exact cA) (.v rfl) fun _=>rfl)⟩
   ·cases hl
  ·cases hl
 ·rename_i t g i ho;split at hl
  ·rename_i n e i' ht qn;obtain⟨sz,bV,rfl⟩:=A0a.1 hl;obtain⟨di,Yn,Ya⟩:=SV.toE_rd qn (hv i);obtain⟨d,bX,cA⟩:=hb;simp only[E.eval,gr,Yn,A0d,D.m4] at bX;obtain⟨k,m,rfl,h0,h1,bO,h2⟩:=acW hst bX;have he:P.elem t=e:=by simp[Program.elem,ht]
   have hlen:P.arrayLen t=n:=by simp[Program.arrayLen,ht]
   refine .inl ⟨rfl,bl h hd (v:=.pointer (some ⟨g,m.toNat*sz,none⟩)) ?_ (.e (by simp only[E.eval];exact cA) bO fun _=>h2)⟩;have hr:=run_indexAt_array (P:=P) w t ⟨g,0,none⟩ k m (by rw[he,hlen];exact ht);rw[hlen,A0z ⟨h0,h1⟩,he,run_sizeOf bV] at hr;simp only[A0h,gO,A0Q] at hr;have hg:a.eval (.global g)=.pointer (some ⟨g,0,none⟩):=rfl;unfold execOp;simp only[ho,hg,Ya.v_eq,A0n,hr,A0h,A0r]
  ·cases hl
 ·rename_i c ho;obtain⟨callee,args,ts⟩:=c;split at hl
  ·rename_i s x t t' jY eF Uc;simp only at jY eF Uc;subst jY;have e1:args=#[s,x]:=by rw[←B0b (xs:=args),eF]
   have e2:ts=#[t,t']:=by rw[←B0b (xs:=ts),Uc]
   subst e1 e2;exact .inr (Jz ho hv cO hl h hd hb)
  ·cases hl
 ·cases hl
end
end
end
section
noncomputable section
open Go.MapKept (bytes_beq run_findKey heap_set)
def uN (P:Program)(t:TypeId):Option Kd:=
 match kindOf P t with
 | some .int=>some .int
 | some .str=>some .str
 | some (.agg ks)=>some (.agg ks)
 | _=>none
def sW (P:Program)(t:TypeId):Option (TypeId×TypeId×Kd):=
 match P.underlying t with
 | some (.map k e)=>(uN P k).map fun kd=>(k,e,kd)
 | _=>none
def mP (P:Program)(o:Oper)(bh:Operand→SV)(hO:Option aY)(ix:Nat):Option cK:=
 match hO with
 | some (.store cf h)=>
  match o.op with
  | .makeMap _ none=>if cf.ro then none else some { val:=.e (.m4 .ez h .nil .nil .nil) true,cm:=some (br,.store cf (.sym ix)),bind:=some (.ev (.m4 .GG h .nil .nil .nil)) }
  | .mapUpdate t m k x | .insert t m k x=>if cf.ro then none else(match sW P t,(bh m).toE,(bh k).toE,(bh x).toE with
   | some (_,_,kd),some m',some k',some x'=>some { val:=.cz,cm:=some (br,.store cf (.sym ix)),bind:=some (.ev (.m4 (.put kd) h m' k' x')) }
   | _,_,_,_=>none)
  | .lookup t m k ok=>(match sW P t,(bh m).toE,(bh k).toE with
   | some (_,e,kd),some m',some k'=>(match((P.info? e).bind (·.zero)).bind D.uI,jH P e with
    | some z,some agg=>if ok then some { val:=.a_ [.e (.av 0 (.sym ix)) false,.e (.av 1 (.sym ix)) true],bind:=some (.ev (.m4 (.xM kd) h m' k' (.const z))) }
      else some { val:=.e (.sym ix) (!agg),bind:=some (.ev (.m4 (.get kd agg) h m' k' (.const z))) }
    | _,_=>none)
   | _,_,_=>none)
  | .range t m=>if cf.ro then none else(match sW P t,(bh m).toE with
   | some _,some m'=>some { val:=.e (.aJ h) true,cm:=some (br,.store cf (.sym ix)),bind:=some (.ev (.m4 .rng h m' .nil .nil)) }
   | _,_=>none)
  | .mapEntry t m k=>if cf.ro then none else(match sW P t,(bh m).toE,(bh k).toE with
   | some (_,e,kd),some m',some k'=>(((P.info? e).bind (·.zero)).bind D.uI).map fun z=>
     { val:=.a_ [.e (.av 0 (.m4 (.QV kd) h m' k' (.const z))) false,.e (.av 1 (.m4 (.QV kd) h m' k' (.const z))) true],cm:=some (br,.store cf (.sym ix)),bind:=some (.ev (.m4 (.YM kd) h m' k' (.const z))) }
   | _,_,_=>none)
  | .entryStore _ m s x=>if cf.ro then none else(match(bh m).toE,(bh s).toE,(bh x).toE with
   | some m',some s',some x'=>some { val:=.cz,cm:=some (br,.store cf (.sym ix)),bind:=some (.ev (.m4 .nw h m' s' x')) }
   | _,_,_=>none)
  | .entry it=>(bh it).toE.map fun p=>{ val:=.a_ [.e (.av 0 (.sym ix)) false,.e (.av 1 (.sym ix)) false],bind:=some (.ev (.m4 .entry h p .nil .nil)) }
  | .call c=>(match c.callee with
   | .builtin .len=>(match c.args.toList,c.argTypes.toList with
    | [x],[t]=>if cf.maps.contains t then(match sW P t,(bh x).toE with
     | some _,some m'=>some { val:=.e (.sym ix) true,bind:=some (.ev (.m4 .XD h m' .nil .nil)) }
     | _,_=>none) else none
    | _,_=>none)
   | _=>none)
  | _=>none
 | _=>none
def wZ (P:Program)(o:Oper)(bh:Operand→SV)(hO:Option aY)(ix:Nat):Option cK:=
 match hO with
 | some (.store cf h)=>if cf.ro=true then none else(match o.op with
  | .range t m=>(match P.underlying t,(bh m).toE with
   | some .string,some m'=>some { val:=.e (.aJ h) true,cm:=some (br,.store cf (.sym ix)),bind:=some (.ev (.m4 .Iv h m' .nil .nil)) }
   | _,_=>none)
  | .next it true=>(bh it).toE.map fun p=>{ val:=.e (.m4 .La h p .nil .nil) false,cm:=some (br,.store cf (.sym ix)),bind:=some (.ev (.m4 .Wr h p .nil .nil)) }
  | _=>none)
 | _=>none
def lmap (P:Program)(o:Oper)(bh:Operand→SV)(obj:Nat→Option aY)(ix:Nat):Option cK:=
 if NN o=true then(match mP P o bh (obj br) ix with
  | some r=>some r
  | none=>(match wZ P o bh (obj br) ix with
   | some r=>some r
   | none=>sY P o bh (obj br) ix)) else none
section
variable {P:Program} {w w0:World} {X:jN} {a:Act} {σ:ah} {env:List D} {ρ:dD}
theorem Aw {cs:Array Value}{n:Nat}{em:Bool}(hn:0<n):∀(fs:List Field) (i:Nat) (ks:List Nat),gp P i fs=some ks→i+ks.length=cs.size →
  (forIn fs PUnit.unit (fun (f : Field) (_ : PUnit) => (if f.name ≠ "_" then do
   let x ←part f.type cs f.offset
   Instr.checkKey em n f.type x
   pure (ForInStep.yield PUnit.unit)
   else pure (ForInStep.yield PUnit.unit):Sem (ForInStep PUnit)))).run P w=.ok PUnit.unit w
 | [],i,ks,hf,hl=>by simp
 | f :: fs,i,ks,hf,hl=>by
  obtain⟨m,rfl⟩:∃m,n=m+1:=⟨n-1,by omega⟩;simp only[gp] at hf;split at hf
  ·rename_i hc;obtain⟨r_,Uy⟩:=hc;have key:∀{AQ:List Nat} {k:TypeDesc},gp P (i+1) fs=some AQ→ks.length=AQ.length+1→P.underlying f.type=some k→jH P f.type=some false→(∀v:Value,(Instr.checkKey em (m+1) f.type v).run P w=.ok () w) →
     (forIn (f :: fs) PUnit.unit (fun (f : Field) (_ : PUnit) => (if f.name ≠ "_" then do
      let x ←part f.type cs f.offset
      Instr.checkKey em (m+1) f.type x
      pure (ForInStep.yield PUnit.unit)
      else pure (ForInStep.yield PUnit.unit):Sem (ForInStep PUnit)))).run P w=.ok PUnit.unit w:=by
    intro AQ k rX HZ hu qp RL;have ug:i<cs.size:=by omega
    have hp:(part f.type cs f.offset).run P w=.ok cs[i] w:=qP qp (by rw[r_];simp[ug]);have ih:=Aw (cs:=cs) (em:=em) (Nat.succ_pos m) fs (i+1) AQ rX (by omega);simp only[List.forIn_cons,A0n,Uy,ne_eq,not_false_eq_true,B0d,A0h,hp,RL,A0r];exact ih
   split at hf
   ·rename_i q hu;obtain⟨AQ,rX,rfl⟩:=A0a.1 hf;exact key rX rfl hu (by unfold jH;rw[hu];rfl) fun v=>by unfold Instr.checkKey;simp[A0G hu,Result.andThen]
   ·rename_i hu;obtain⟨AQ,rX,rfl⟩:=A0a.1 hf;exact key rX rfl hu (by unfold jH;rw[hu];rfl) fun v=>by unfold Instr.checkKey;simp[A0G hu,Result.andThen]
   ·rename_i hu;obtain⟨AQ,rX,rfl⟩:=A0a.1 hf;exact key rX rfl hu (by unfold jH;rw[hu];rfl) fun v=>by unfold Instr.checkKey;simp[A0G hu,Result.andThen]
   ·cases hf
  ·cases hf
theorem lV {t:TypeId}{kd:Kd}(h:uN P t=some kd):kindOf P t=some kd∧(kd=.int∨kd=.str∨∃ks,kd=.agg ks):=by unfold uN at h;split at h <;> cases h <;> exact⟨by assumption,by simp⟩
theorem vA {t:TypeId}{ks:List Nat}(h:kindOf P t=some (.agg ks)):∃fs:Array Field,P.underlying t=some (.struct fs)∧P.stoodInHeld t=false∧gp P 0 fs.toList=some ks:=by
 unfold kindOf at h;split at h <;> simp at h;rename_i fs hu;unfold rL at h;rw[hu] at h;simp only at h;split at h
 ·rename_i hc;exact⟨fs,hu,hc.1,h⟩
 ·cases h
theorem vz {t:TypeId}(h:kindOf P t=some .int):∃q,P.underlying t=some (.int q):=by unfold kindOf at h;split at h <;> simp at h;exact⟨_,by assumption⟩
theorem vw {t:TypeId}(h:kindOf P t=some .str):P.underlying t=some .string:=by
 unfold kindOf at h;split at h <;> simp at h
 assumption
theorem oV {t:TypeId}{kd:Kd}{v:Value}{d:D}{em:Bool}{S:Sets}(h:uN P t=some kd)(hr:bA w S v d)(hd:D.Ft kd d=true):(Instr.checkKey em 10000 t v).run P w=.ok () w:=by
 obtain⟨hk,hc⟩:=lV h;rcases hc with rfl | rfl | ⟨ks,rfl⟩
 ·obtain⟨q,hu⟩:=vz hk;unfold Instr.checkKey;simp[A0G hu,Result.andThen]
 ·have hu:=vw hk;unfold Instr.checkKey;simp[A0G hu,Result.andThen]
 ·obtain⟨fs,hu,_,fG⟩:=vA hk;cases d <;> simp[D.Ft] at hd;rename_i ds;obtain⟨vs,rfl,hl,_⟩:=hr.kq;unfold Instr.checkKey;simp only[A0n,A0G hu,A0h];rw[←Array.forIn_toList];rw[Aw (cs:=vs) (by omega) fs.toList 0 ks fG (by omega)];rfl
theorem QU {t:TypeId}{ks:List Nat}{v u:Value}{dx dy:List D}{b:Bool}{S:Sets}(hk:kindOf P t=some (.agg ks))(hx:bA w S v (.agg dx))(hy:bA w S u (.agg dy))(hb:D.eqs ks dx dy=some b):(Op.equal t v u).run P w=.ok b w:=by
 obtain⟨fs,hu,hst,fG⟩:=vA hk;obtain⟨xs,rfl,p4,_,EB⟩:=hx.kq;obtain⟨ys,rfl,vB,_,hyr⟩:=hy.kq;have Yj:P.fieldsOf t=fs:=by simp[Program.fieldsOf,hu]
 show(Op.equalIn 10000 t (.agg xs) (.agg ys)).run P w=.ok b w;rw[run_equalIn_agg w 9999 t xs ys (by rw[Yj];exact hu) hst,Yj];exact qS (d:=9998) p4 vB EB hyr fs.toList 0 ks b fG (by simpa using hb)
theorem CR {kd:Kd}{x y:D}{b:Bool}(h:D.s6 kd x y=some b):D.bin .eql kd x y=some (.v (.bool b)):=by
 unfold D.s6 at h;split at h
 ·rename_i e;cases h;exact e
 ·cases h
theorem AE {x y:D}{b:Bool}(h:D.bin .eql .int x y=some (.v (.bool b))):∃k m n,x=.v (.int k m)∧y=.v (.int k n)∧b=(m==n):=by
 unfold D.bin at h;split at h <;> (try contradiction)
 ·rename_i k m k' n;simp only[rP] at h;split at h
  ·rename_i hk;subst hk;cases h;exact⟨_,_,_,rfl,rfl,rfl⟩
  ·cases h
theorem AD {x y:D}{b:Bool}(h:D.bin .eql .str x y=some (.v (.bool b))):∃m n,x=.v (.string m)∧y=.v (.string n)∧b=(m.toList==n.toList):=by
 unfold D.bin at h;split at h <;> (try contradiction)
 ·cases h;exact⟨_,_,rfl,rfl,rfl⟩
theorem AF {ks:List Nat}{x y:D}{b:Bool}(h:D.bin .eql (.agg ks) x y=some (.v (.bool b))):∃dx dy,x=.agg dx∧y=.agg dy∧D.eqs ks dx dy=some b:=by
 unfold D.bin at h;split at h <;> (try contradiction)
 ·rename_i hh;cases hh;obtain⟨b',fI,hb⟩:=A0a.1 h;cases hb;exact⟨_,_,rfl,rfl,fI⟩
theorem HL (m n:ByteArray):(m==n)=(m.toList==n.toList):=by
 apply C0Z.2;rw[bytes_beq];constructor
 ·rintro rfl;simp
 ·intro h;have:=eq_of_beq h;have hd:m.data=n.data:=by simpa[B0N] using this
  cases m;cases n;simp only at hd;rw[hd]
def ajQ (P:Program)(w:World)(t:TypeId)(v u:Value)(b:Bool):Kd→Prop
 | .agg _=>(Op.equal t v u).run P w=.ok b w
 | _=>∃k,P.underlying t=some k∧Instr.sameNow k v u=some b
def tP (P:Program)(w:World)(t:TypeId)(v:Value)(es:List MapEntry)(i:Nat)(r:Option (Nat×Value)):Kd→Prop
 | .agg _=>(Instr.findAsking t v es i).run P w=.ok r w
 | _=>∃k,P.underlying t=some k∧Instr.findNow k v es i=some r
theorem ZG {S:Sets}{t:TypeId}{kd:Kd}{v u:Value}{d dk:D}{b:Bool}(h:uN P t=some kd)(hr:bA w S v d)(UW:bA w S u dk)(hb:D.s6 kd d dk=some b):ajQ P w t v u b kd:=by
 have hb:=CR hb;obtain⟨hk,hc⟩:=lV h;rcases hc with rfl | rfl | ⟨ks,rfl⟩
 ·obtain⟨q,hu⟩:=vz hk;obtain⟨k,m,n,rfl,rfl,rfl⟩:=AE hb;rw[hr.v_eq,UW.v_eq];exact⟨_,hu,by simp[Instr.sameNow]⟩
 ·have hu:=vw hk;obtain⟨m,n,rfl,rfl,rfl⟩:=AD hb;rw[hr.v_eq,UW.v_eq];exact⟨_,hu,by simp only[Instr.sameNow,A0x];exact HL m n⟩
 ·obtain⟨dx,dy,rfl,rfl,fI⟩:=AF hb;exact QU hk hr UW fI
def kH (w:World)(S:Sets)(es:List MapEntry)(bU:List D):Prop:=
 es.length=bU.length∧∀(j:Nat) (e:MapEntry) (kv:D),es[j]? = some e→bU[j]? = some kv→∃dk dv,kv=.a_ [dk,dv]∧bA w S e.key dk∧bA w S e.val dv
theorem kH.tail {S:Sets}{e:MapEntry}{es:List MapEntry}{kv:D}{bU:List D}(h:kH w S (e :: es) (kv :: bU)):kH w S es bU:=
 ⟨by simpa using h.1,fun j e kv h1 h2=>h.2 (j+1) e kv (by simpa using h1) (by simpa using h2)⟩
theorem kH.CS {S:Sets}{es:List MapEntry}{bU:List D}(hl:D.lost bU=false)(h:kH w S es bU):kH w S es (D.kept bU):=by rwa [D.rz hl]
theorem Vj {S:Sets}{t:TypeId}{kd:Kd}{v:Value}{d:D}(h:uN P t=some kd)(hr:bA w S v d):∀(es:List MapEntry) (bU:List D) (i:Nat) (r:Option (Nat×D)),kH w S es bU→D.uJ kd d bU i=some r →
  (r=none∧tP P w t v es i none kd)∨∃j dv e dk,r=some (j,dv)∧tP P w t v es i (some (j,e.val)) kd∧i≤j∧es[j-i]? = some e∧bA w S e.val dv∧bA w S e.key dk∧D.s6 kd d dk=some true
 | [],[],i,r,_,hf=>by
  simp only[D.uJ] at hf;cases hf;obtain⟨hk,hc⟩:=lV h;rcases hc with rfl | rfl | ⟨ks,rfl⟩
  ·obtain⟨q,hu⟩:=vz hk;exact .inl ⟨rfl,_,hu,rfl⟩
  ·exact .inl ⟨rfl,_,vw hk,rfl⟩
  ·exact .inl ⟨rfl,by simp[tP,Instr.findAsking]⟩
 | e :: es,kv :: bU,i,r,he,hf=>by
  obtain⟨dk,dv,rfl,UW,bX⟩:=he.2 0 e kv rfl rfl;simp only[D.uJ] at hf;obtain⟨hk,hc⟩:=lV h;split at hf
  ·rename_i hb;cases hf;have hn:=ZG h hr UW hb;refine .inr ⟨i,dv,e,dk,rfl,?_,A0m _,by simp,bX,UW,hb⟩;rcases hc with rfl | rfl | ⟨ks,rfl⟩
   ·obtain⟨k,hu,hs⟩:=hn;exact⟨k,hu,by simp[Instr.findNow,hs]⟩
   ·obtain⟨k,hu,hs⟩:=hn;exact⟨k,hu,by simp[Instr.findNow,hs]⟩
   ·have hn:(Op.equal t v e.key).run P w=.ok true w:=hn;simp[tP,Instr.findAsking,hn]
  ·rename_i hb;have hn:=ZG h hr UW hb;have step:∀r',tP P w t v es (i+1) r' kd→tP P w t v (e :: es) i r' kd:=by
    intro r' h1;rcases hc with rfl | rfl | ⟨ks,rfl⟩
    ·obtain⟨k,hu,hs⟩:=hn;obtain⟨k',kK,h1⟩:=h1;rw[hu] at kK;cases kK;exact⟨k,hu,by simp[Instr.findNow,hs,h1]⟩
    ·obtain⟨k,hu,hs⟩:=hn;obtain⟨k',kK,h1⟩:=h1;rw[hu] at kK;cases kK;exact⟨k,hu,by simp[Instr.findNow,hs,h1]⟩
    ·have hn:(Op.equal t v e.key).run P w=.ok false w:=hn;have h1:(Instr.findAsking t v es (i+1)).run P w=.ok r' w:=h1;simp[tP,Instr.findAsking,hn,h1]
   rcases Vj h hr es bU (i+1) r he.tail hf with⟨g1,g2⟩ | ⟨j,dv',e',dk',g1,g2,g3,g4,g5⟩
   ·exact .inl ⟨g1,step _ g2⟩
   ·refine .inr ⟨j,dv',e',dk',g1,step _ g2,by omega,?_,g5⟩;rw[show j-i=(j-(i+1))+1 from by omega];simpa using g4
  ·cases hf
 | [],_ :: _,_,_,he,_ | _ :: _,[],_,_,he,_=>by simp[kH] at he
theorem BX {t:TypeId}{kd:Kd}{v:Value}{es:List MapEntry}{r:Option (Nat×Value)}(h:uN P t=some kd)(hf:tP P w t v es 0 r kd):(Instr.findKey t v es).run P w=.ok r w:=by
 obtain⟨hk,hc⟩:=lV h;rcases hc with rfl | rfl | ⟨ks,rfl⟩
 ·obtain⟨k,hu,hs⟩:=hf;exact run_findKey hu hs
 ·obtain⟨k,hu,hs⟩:=hf;exact run_findKey hu hs
 ·obtain⟨fs,hu,_⟩:=vA hk;cases es with
  | nil=>
   have:r=none:=by have hf:(Instr.findAsking t v [] 0).run P w=.ok r w:=hf;simp[Instr.findAsking] at hf;exact hf.symm
   subst this;exact run_findKey hu rfl
  | cons e es=>
   have hf:(Instr.findAsking t v (e :: es) 0).run P w=.ok r w:=hf;have hn:Instr.findNow (.struct fs) v (e :: es) 0=none:=by unfold Instr.findNow;simp[Instr.sameNow]
   simp only[Instr.findKey,A0n,A0G hu,A0h,hn,hf]
theorem tY {S:Sets}{t:TypeId}{kd:Kd}{v:Value}{d:D}{es:List MapEntry}{bU:List D}{r:Option (Nat×D)}(h:uN P t=some kd)(hr:bA w S v d)(he:kH w S es bU)(hf:D.jU kd d bU=some r) :
  D.Ft kd d=true∧((r=none∧(Instr.findKey t v es).run P w=.ok none w)∨∃j dv e dk,r=some (j,dv)∧(Instr.findKey t v es).run P w=.ok (some (j,e.val)) w∧es[j]? = some e∧bA w S e.val dv∧bA w S e.key dk∧D.s6 kd d dk=some true):=by
 unfold D.jU at hf;split at hf
 ·rename_i eE;refine⟨eE,?_⟩;rcases Vj h hr es bU 0 r he hf with⟨g1,g2⟩ | ⟨j,dv,e,dk,g1,g2,_,g3,g4⟩
  ·exact .inl ⟨g1,BX h g2⟩
  ·exact .inr ⟨j,dv,e,dk,g1,BX h g2,g3,g4⟩
 ·cases hf
theorem zQ {S:Sets}{t:TypeId}{kd:Kd}{v u:Value}{d dk:D}(h:uN P t=some kd)(hr:bA w S v d)(UW:bA w S u dk)(hb:D.s6 kd d dk=some true):Instr.sameBits 10000 u v=true:=by
 have hb:=CR hb;obtain⟨hk,hc⟩:=lV h;rcases hc with rfl | rfl | ⟨ks,rfl⟩
 ·obtain⟨k,m,n,rfl,rfl,RE⟩:=AE hb;rw[hr.v_eq,UW.v_eq];have:m=n:=by simpa using RE.symm
  simp[Instr.sameBits,this]
 ·obtain⟨m,n,rfl,rfl,RE⟩:=AD hb;rw[hr.v_eq,UW.v_eq];rw[←HL] at RE;have:m=n:=(bytes_beq m n).1 RE.symm;subst this;have hh:(m==m)=true:=(bytes_beq m m).2 rfl;simp[Instr.sameBits,hh]
 ·obtain⟨dx,dy,rfl,rfl,fI⟩:=AF hb;obtain⟨xs,rfl,p4,_,EB⟩:=hr.kq;obtain⟨ys,rfl,vB,_,hyr⟩:=UW.kq;have cells:∀(ks:List Nat) (dx dy:List D),D.eqs ks dx dy=some true→dx.length=dy.length∧∀(i:Nat) (x y:D),dx[i]? = some x→dy[i]? = some y→∀u v:Value,bA w S v x→bA w S u y→Instr.sameBits 9999 u v=true:=by
   intro ks
   induction ks with
   | nil=>
    intro dx dy he;cases dx <;> cases dy <;> simp[D.eqs] at he ⊢
   | cons k ks ih=>
    intro dx dy he;unfold D.eqs at he;split at he <;> (try contradiction)
    ·rename_i ks1 k1 a r k2 b s e1 ;split at he
     ·rename_i RF;subst RF;obtain⟨b',h1,h2⟩:=A0a.1 he;simp only[A0f,B0K] at h2;obtain⟨rfl,rfl⟩:=h2;have e2:ks=ks1:=by simp only[C0a] at e1;exact e1.2
      subst e2;obtain⟨g1,g2⟩:=ih r s h1;refine⟨by simp[g1],fun i x y hx hy u v hv hu=>?_⟩;cases i with
      | zero=>
       simp only[A0L,A0x] at hx hy;subst hx hy;rw[hv.v_eq,hu.v_eq];simp[Instr.sameBits]
      | succ i=>exact g2 i x y (by simpa using hx) (by simpa using hy) u v hv hu
     ·cases he
    ·rename_i ks1 a r b s e1;obtain⟨b',h1,h2⟩:=A0a.1 he;simp only[A0f,B0K] at h2;obtain⟨rfl,rfl⟩:=h2;have e2:ks=ks1:=by simp only[C0a] at e1;exact e1.2
     subst e2;obtain⟨g1,g2⟩:=ih r s h1;refine⟨by simp[g1],fun i x y hx hy u v hv hu=>?_⟩;cases i with
     | zero=>
      simp only[A0L,A0x] at hx hy;subst hx hy;rw[hv.v_eq,hu.v_eq];simp[Instr.sameBits]
     | succ i=>exact g2 i x y (by simpa using hx) (by simpa using hy) u v hv hu
    ·rename_i ks1 a r b s e1;obtain⟨b',h1,h2⟩:=A0a.1 he;simp only[A0f] at h2;obtain⟨RO,rfl⟩:=h2;rw[←HL] at RO;have RO:=(bytes_beq a b).1 RO;subst RO;have hh:(a==a)=true:=(bytes_beq a a).2 rfl;have e2:ks=ks1:=by simp only[C0a] at e1;exact e1.2
     subst e2;obtain⟨g1,g2⟩:=ih r s h1;refine⟨by simp[g1],fun i x y hx hy u v hv hu=>?_⟩;cases i with
     | zero=>
      simp only[A0L,A0x] at hx hy;subst hx hy;rw[hv.v_eq,hu.v_eq];simp[Instr.sameBits,hh]
     | succ i=>exact g2 i x y (by simpa using hx) (by simpa using hy) u v hv hu
  obtain⟨g1,g2⟩:=cells ks dx dy fI;unfold Instr.sameBits;simp only[A0f,B0K,A0C];refine⟨by omega,fun p hp=>?_⟩;obtain⟨i,hi,vD⟩:=B0y.1 hp;simp only[List.length_zip,A0W] at hi;simp only[List.getElem_zip] at vD;subst vD;refine g2 i (dx[i]'(by omega)) (dy[i]'(by omega)) (by simp) (by simp) _ _ (EB i _ _ ?_ ?_) (hyr i _ _ ?_ ?_) <;> simp
theorem u7.push {es:Array MapEntry}{clock n:Nat}(h:u7 es clock n)(v x:Value):u7 (es.push { key:=v,val:=x,born:=clock }) (clock+1) (es.push { key:=v,val:=x,born:=clock }).size where
 len:=rfl
 clk:=by simp[h.clk,h.len]
 born:=fun j e he=>by
  rw[Array.getElem?_push] at he;split at he
  ·cases he;rename_i hj;simp[hj,h.clk,h.len]
  ·exact h.born j e he
theorem u7.modify {es:Array MapEntry}{clock n:Nat}(h:u7 es clock n)(j:Nat)(f:MapEntry→MapEntry)(hf:∀e,(f e).born=e.born):u7 (es.modify j f) clock (es.modify j f).size where
 len:=rfl
 clk:=by simp[h.clk,h.len]
 born:=fun k e he=>by
  simp only[C0r] at he;split at he
  ·obtain⟨e0,h0,rfl⟩:=A0a.1 he;rw[hf];exact h.born k e0 h0
  ·exact h.born k e he
theorem xa {bU:List D}{k u:D}(h:D.lost bU=false):D.lost (bU++[.a_ [k,u]])=false:=by
 unfold D.lost at h ⊢;cases bU with
 | nil=>rfl
 | cons x r=>
  simp only[A0i];split at h
  ·cases h
  ·rename_i hx;split
   ·rename_i e;simp only[C0a] at e;exact(hx r (by rw[e.1])).elim
   ·rfl
theorem qd {bU:List D}{j:Nat}{k u:D}(h:D.lost bU=false):D.lost (bU.set j (.a_ [k,u]))=false:=by
 unfold D.lost at h ⊢;cases bU with
 | nil=>rfl
 | cons x r=>
  cases j with
  | zero=>rfl
  | succ j=>
   simp only[D0q];split at h
   ·cases h
   ·rename_i hx;split
    ·rename_i e;simp only[C0a] at e;exact(hx r (by rw[e.1])).elim
    ·rfl
theorem yH {w':World}{bs:List D}{i:Nat}{bU qg:List D}{vN:Array MapEntry}{gF:Nat}(hst:cI w ρ.S ρ.az bs)(hK:bM ρ.S w w')(jc:bs[i]? = some (.cg bU))(hh:w'.heap[ρ.S.loc i]? = some (.map vN gF))(k8:∀b,b≠ρ.S.loc i→w'.heap[b]? = w.heap[b]?)(he:kH w ρ.S vN.toList (D.kept qg))(bV:gG vN gF qg) :
  cI w' ρ.S ρ.az (bs.set i (.cg qg)):=by
 refine hst.set hK jc rfl (fun j x _ _ bQ=>k8 _ bQ) (fun e sz cs hz=>by cases hz) (fun avW hz=>?_) fun hz=>by cases hz
 cases hz;refine⟨vN,gF,hh,bV,fun j e kv hj iM=>?_⟩;obtain⟨dk,dv,h1,h2,h3⟩:=he.2 j e kv (by simpa using hj) iM;exact⟨dk,dv,h1,h2.keep hK (Sets.le_refl _),h3.keep hK (Sets.le_refl _)⟩
theorem ou {bs bU:List D}{m:Value}{dm:D}(hst:cI w ρ.S ρ.az bs)(hm:bA w ρ.S m dm)(he:D.entries (.st bs) dm=some bU) :
  (m=.map none∧bU=[])∨∃(i:Nat) (es:Array MapEntry) (clock:Nat) (MB:List D),dm=.mp i∧bs[i]? = some (.cg MB)∧bU=D.kept MB∧m=.map (some (ρ.S.loc i))∧w.heap[ρ.S.loc i]? = some (.map es clock)∧kH w ρ.S es.toList bU∧gG es clock MB:=by
 unfold D.entries at he;split at he
 ·cases he;exact .inl ⟨hm.v_eq,rfl⟩
 ·rename_i i;simp only at he;split at he
  ·rename_i qg jc;cases he;obtain⟨hf,es,clock,hh,bV,jP,hr⟩:=hst.maps i _ jc;refine .inr ⟨i,es,clock,_,rfl,jc,rfl,?_,hh,⟨by simpa using bV.size,fun j e kv h1 h2=>hr j e kv (by simpa using h1) h2⟩,bV⟩;cases hm;rfl
  ·cases he
 ·cases he
theorem nX {t k e:TypeId}{kd:Kd}(h:sW P t=some (k,e,kd)):P.underlying t=some (.map k e)∧uN P k=some kd:=by
 unfold sW at h;split at h
 ·rename_i k' e' hu;obtain⟨kd',hk,h⟩:=A0a.1 h;cases h;exact⟨hu,hk⟩
 ·cases h
theorem CD {t k e:TypeId}{kd:Kd}{bs bU:List D}{m v z:Value}{dm d:D}{ok:Bool}{r:Option (Nat×D)}(hst:cI w ρ.S ρ.az bs)(ht:sW P t=some (k,e,kd))(hm:bA w ρ.S m dm)(hv:bA w ρ.S v d)(he:D.entries (.st bs) dm=some bU)(hf:D.jU kd d bU=some r)(hz:(P.info? e).bind (·.zero)=some z) :
  ∃x:Value,(Instr.lookup t m v ok).run P w=.ok (if ok then .tuple #[x,.bool r.isSome] else x) w∧((r=none∧x=z)∨∃j dv,r=some (j,dv)∧bA w ρ.S x dv):=by
 obtain⟨hu,hk⟩:=nX ht;rcases ou hst hm he with⟨rfl,rfl⟩ | ⟨i,es,clock,_,rfl,jc,_,rfl,hh,kS,_⟩
 ·obtain⟨eE,hr⟩:=tY (es:=[]) hk hv ⟨rfl,by simp⟩ hf;rcases hr with⟨rfl,bt⟩ | ⟨j,dv,e',dk,_,_,h3,_⟩
  ·refine⟨z,?_,.inl ⟨rfl,rfl⟩⟩;have RL:(Instr.checkKey (#[]:Array MapEntry).isEmpty 10000 k v).run P w=.ok () w:=oV hk hv eE;simp only[Instr.lookup,A0n,A0G hu,A0h,A0r,RL,bt,ig hz,Option.isSome_none]
  ·simp at h3
 ·obtain⟨eE,hr⟩:=tY hk hv kS hf;have RL:(Instr.checkKey es.isEmpty 10000 k v).run P w=.ok () w:=oV hk hv eE;rcases hr with⟨rfl,bt⟩ | ⟨j,dv,e',dk,rfl,bt,h3,h4,_⟩
  ·refine⟨z,?_,.inl ⟨rfl,rfl⟩⟩;simp only[Instr.lookup,A0n,A0G hu,A0h,A0r,B0t hh,RL,bt,ig hz,Option.isSome_none]
  ·refine⟨e'.val,?_,.inr ⟨j,dv,rfl,h4⟩⟩;simp only[Instr.lookup,A0n,A0G hu,A0h,A0r,B0t hh,RL,bt,Option.isSome_some]
theorem Ly {t k e:TypeId}{kd:Kd}{bs:List D}{i:Nat}{v x:Value}{d dx:D}{m:Value}{d':D}(hst:cI w ρ.S ρ.az bs)(ht:sW P t=some (k,e,kd))(hm:bA w ρ.S m (.mp i))(hv:bA w ρ.S v d)(hx:bA w ρ.S x dx)(gZ:D.I2 kd (.st bs) (.mp i) d dx=some d') :
  ∃(qg:List D) (vN:Array MapEntry) (gF:Nat),(∃bU,bs[i]? = some (.cg bU))∧d'=.st (bs.set i (.cg qg))∧(Instr.mapUpdate t m v x).run P w=.ok () { w with heap:=w.heap.setIfInBounds (ρ.S.loc i) (.map vN gF) }∧kH w ρ.S vN.toList (D.kept qg)∧gG vN gF qg:=by
 obtain⟨hu,hk⟩:=nX ht;unfold D.I2 at gZ;simp only at gZ;split at gZ
 ·rename_i bU jc;obtain⟨r,hf,gZ⟩:=A0a.1 gZ;have su:=D.vq hf;have he:D.entries (.st bs) (.mp i)=some bU:=by simp[D.entries,jc,D.rz su]
  rcases ou hst hm he with⟨rfl,_⟩ | ⟨i',es,clock,MB,e1,J4,_,rfl,hh,kS,vF⟩
  ·cases hm
  cases e1;rw[jc] at J4;cases J4;replace vF:=vF.sz su;obtain⟨eE,hr⟩:=tY hk hv kS hf;have RL:(Instr.checkKey false 10000 k v).run P w=.ok () w:=oV hk hv eE;rcases hr with⟨rfl,bt⟩ | ⟨j,dv,e',dk,rfl,bt,h3,h4,h5,h6⟩
  ·simp only at gZ;subst gZ;refine⟨_,es.push { key:=v,val:=x,born:=clock },clock+1,⟨_,jc⟩,rfl,?_,.CS (xa su) ⟨?_,?_⟩,gG.of (by have:=vF.push v x;rwa [Array.size_push,vF.len,show bU.length+1=(bU++[D.a_ [d,dx]]).length from by simp] at this) (xa su)⟩
   ·simp only[Instr.mapUpdate,A0n,A0G hu,A0h,B0t hh,RL,bt,C0n _ hh]
   ·simp[kS.1]
   ·intro j e2 kv hj iM;simp only[D0C] at hj;rw[B0J] at hj iM;rw[kS.1] at hj;split at hj
    ·rename_i hlt;rw[A0z hlt] at iM;exact kS.2 j e2 kv hj iM
    ·rename_i hlt;rw[A0B hlt] at iM;have h0:j-bU.length=0:=by have:=(A0c.1 hj).1;simp at this;omega
     rw[h0] at hj iM;simp only[A0L,A0x] at hj iM;subst hj iM;exact⟨_,_,rfl,hv,hx⟩
  ·simp only at gZ;subst gZ;have pT:j<es.size:=by simpa using(A0c.1 h3).1
   have aci:((es[j]?).map (·.key)).getD v=e'.key:=by
    have:es[j]? = some e':=by simpa using h3
    simp[this]
   have Uf:(Instr.keyThatStays e'.key v).run P w=.ok v w:=by simp[Instr.keyThatStays,zQ hk hv h5 h6]
   refine⟨_,es.modify j fun e=>{ e with key:=v,val:=x },clock,⟨_,jc⟩,rfl,?_,.CS (qd su) ⟨?_,?_⟩,gG.of (by have:=vF.modify j (fun e=>{ e with key:=v,val:=x }) fun _=>rfl;rwa [E0i,vF.len,←B0L (as:=bU) (i:=j) (a:=D.a_ [d,dx])] at this) (qd su)⟩
   ·simp only[Instr.mapUpdate,A0n,A0G hu,A0h,B0t hh,RL,bt,aci,Uf,C0n _ hh]
   ·simpa using kS.1
   ·intro q e2 kv hq iM;simp only[B0c,C0r] at hq;rw[A0N] at iM
    by_cases hjq:j=q
    ·subst hjq;rw[A0z rfl] at hq iM;rw[A0z (by rw[←kS.1];simpa using pT)] at iM;obtain⟨e0,he0,rfl⟩:=A0a.1 hq;cases iM;exact⟨_,_,rfl,hv,hx⟩
    ·rw[A0B hjq] at hq iM;exact kS.2 q e2 kv (by simpa using hq) iM
 ·cases gZ
theorem L9 {t k e:TypeId}{kd:Kd}{bs:List D}{m v zv:Value}{dm d z d':D}(hst:cI w ρ.S ρ.az bs)(ht:sW P t=some (k,e,kd))(hm:bA w ρ.S m dm)(hv:bA w ρ.S v d)(XX:(P.info? e).bind (·.zero)=some zv)(hz:D.uI zv=some z)(gZ:D.Ol kd (.st bs) dm d z=some d') :
  ∃(i:Nat) (bU qg:List D) (vN:Array MapEntry) (gF:Nat) (u:Value) (j:Nat) (du:D),dm=.mp i∧bs[i]? = some (.cg bU)∧d'=.st (bs.set i (.cg qg))∧D.I8 kd (.st bs) dm d z=some (.a_ [du,.int j])∧(Instr.mapEntry t m v).run P w=.ok (.tuple #[u,.int .i64 j]) { w with heap:=w.heap.setIfInBounds (ρ.S.loc i) (.map vN gF) }∧kH w ρ.S vN.toList (D.kept qg)∧gG vN gF qg∧bA w ρ.S u du:=by
 obtain⟨hu,hk⟩:=nX ht;unfold D.Ol at gZ;split at gZ
 ·rename_i i bs' e1;cases e1;split at gZ
  ·rename_i bU jc;obtain⟨r,hf,gZ⟩:=A0a.1 gZ;have su:=D.vq hf;have he:D.entries (.st bs) (.mp i)=some bU:=by simp[D.entries,jc,D.rz su]
   rcases ou hst hm he with⟨rfl,_⟩ | ⟨i',es,clock,MB,e1,J4,_,rfl,hh,kS,vF⟩
   ·cases hm
   cases e1;rw[jc] at J4;cases J4;replace vF:=vF.sz su;obtain⟨eE,hr⟩:=tY (w:=w) hk hv kS hf;have RL:=oV (w:=w) (em:=false) hk hv eE;rcases hr with⟨rfl,bt⟩ | ⟨j,dv,e',dk,rfl,bt,h3,h4,h5,h6⟩
   ·simp only at gZ;subst gZ;refine⟨i,bU,_,es.push { key:=v,val:=zv,born:=clock },clock+1,zv,clock,z,rfl,jc,rfl,?_,?_,.CS (xa su) ⟨?_,?_⟩,gG.of (by have:=vF.push v zv;rwa [Array.size_push,vF.len,show bU.length+1=(bU++[D.a_ [d,z]]).length from by simp] at this) (xa su),D.jT hz⟩
    ·unfold D.I8;rw[he,A0d,hf,vF.clk];rfl
    ·simp only[Instr.mapEntry,A0n,A0G hu,A0h,B0t hh,RL,bt,ig XX,C0n _ hh,A0r];rfl
    ·simp[←kS.1]
    ·intro q e2 kv hq iM;rw[D0C] at hq;rw[B0J] at hq iM;rw[kS.1] at hq;split at hq
     ·rename_i hlt;rw[A0z hlt] at iM;exact kS.2 q e2 kv hq iM
     ·rename_i hge;rw[A0B hge] at iM;have h0:q-bU.length=0:=by have:=(A0c.1 hq).1;simp at this;omega
      rw[h0] at hq iM;simp only[A0L,A0x] at hq iM;subst hq iM;exact⟨_,_,rfl,hv,D.jT hz⟩
   ·simp only at gZ;subst gZ;have pT:j<es.size:=by simpa using(A0c.1 h3).1
    have WH:es[j]? = some e':=by simpa using h3
    have aci:((es[j]?).map (·.key)).getD v=e'.key:=by simp[WH]
    have Dj:((es[j]?).map fun x=>(x.born:Int)).getD 0=(j:Int):=by simp[WH,vF.born j e' WH]
    have Uf:(Instr.keyThatStays e'.key v).run P w=.ok v w:=by simp[Instr.keyThatStays,zQ hk hv h5 h6]
    refine⟨i,bU,_,es.modify j fun e=>{ e with key:=v },clock,e'.val,j,dv,rfl,jc,rfl,?_,?_,.CS (qd su) ⟨?_,?_⟩,gG.of (by have:=vF.modify j (fun e=>{ e with key:=v }) fun _=>rfl;rwa [E0i,vF.len,←B0L (as:=bU) (i:=j) (a:=D.a_ [d,dv])] at this) (qd su),h4⟩
    ·unfold D.I8;rw[he,A0d,hf];rfl
    ·simp only[Instr.mapEntry,A0n,A0G hu,A0h,B0t hh,RL,bt,aci,Uf,C0n _ hh,Dj,A0r];rfl
    ·simpa using kS.1
    ·intro q e2 kv hq iM;simp only[B0c,C0r] at hq;rw[A0N] at iM
     by_cases hjq:j=q
     ·subst hjq;rw[A0z rfl] at hq iM;rw[A0z (by rw[←kS.1];simpa using pT)] at iM;rw[WH] at hq;cases hq;cases iM;exact⟨_,_,rfl,hv,h4⟩
     ·rw[A0B hjq] at hq iM;exact kS.2 q e2 kv (by simpa using hq) iM
  ·cases gZ
 ·cases gZ
theorem P9 {t:TypeId}{bs:List D}{m s x:Value}{dm ds dx d':D}(hst:cI w ρ.S ρ.az bs)(hm:bA w ρ.S m dm)(hs:bA w ρ.S s ds)(hx:bA w ρ.S x dx)(gZ:D.Oj (.st bs) dm ds dx=some d') :
  ∃(i:Nat) (bU qg:List D) (vN:Array MapEntry) (gF:Nat),dm=.mp i∧bs[i]? = some (.cg bU)∧d'=.st (bs.set i (.cg qg))∧(Instr.entryStore t m s x).run P w=.ok () { w with heap:=w.heap.setIfInBounds (ρ.S.loc i) (.map vN gF) }∧kH w ρ.S vN.toList (D.kept qg)∧gG vN gF qg:=by
 unfold D.Oj at gZ;split at gZ
 ·rename_i i bs' n e1;cases e1;split at gZ
  ·rename_i bU jc;split at gZ
   ·rename_i Yb;obtain⟨Yb,su⟩:=Yb;obtain⟨⟨k,u⟩,WD,e0⟩:=A0a.1 gZ;subst e0;obtain⟨j,rfl⟩:∃j:Nat,n=j:=⟨n.toNat,by omega⟩;simp only[C0j] at WD ⊢;have he:D.entries (.st bs) (.mp i)=some bU:=by simp[D.entries,jc,D.rz su]
    rcases ou hst hm he with⟨rfl,_⟩ | ⟨i',es,clock,MB,e1,J4,_,rfl,hh,kS,vF⟩
    ·cases hm
    cases e1;rw[jc] at J4;cases J4;replace vF:=vF.sz su;obtain rfl:=hs.v_eq;unfold pQ at WD;split at WD
    ·rename_i k' u' hk;cases WD;have pT:j<es.size:=by have:=(A0c.1 hk).1;rw[vF.len];exact this
     have WH:es[j]? = some es[j]:=A0p pT;obtain⟨dk,dv,e1,e2,e3⟩:=kS.2 j es[j] _ (by simp[pT]) hk;cases e1;have OW:es.findIdx? (fun e=>(e.born:Int)==(j:Int))=some j:=by rw[Array.findIdx?_eq_some_iff_getElem];refine⟨pT,by simp[vF.born j _ WH],fun q hq=>?_⟩;have:=vF.born q es[q] (A0p (by omega));simp[this];omega
     refine⟨i,bU,_,es.modify j fun e=>{ e with val:=x },clock,rfl,jc,rfl,?_,.CS (qd su) ⟨?_,?_⟩,gG.of (by have:=vF.modify j (fun e=>{ e with val:=x }) fun _=>rfl;rwa [E0i,vF.len,←B0L (as:=bU) (i:=j) (a:=D.a_ [k,dx])] at this) (qd su)⟩
     ·simp only[Instr.entryStore,A0n,B0t hh,A0h,asInt,asIntOf,A0r,OW,C0n _ hh]
     ·simpa using kS.1
     ·intro q e2' kv hq iM;simp only[B0c,C0r] at hq;rw[A0N] at iM
      by_cases hjq:j=q
      ·subst hjq;rw[A0z rfl] at hq iM;rw[A0z (by rw[←kS.1];simpa using pT)] at iM;rw[WH] at hq;cases hq;cases iM;exact⟨_,_,rfl,e2,hx⟩
      ·rw[A0B hjq] at hq iM;exact kS.2 q e2' kv (by simpa using hq) iM
    ·cases WD
   ·cases gZ
  ·cases gZ
 ·cases gZ
theorem P8 {bs:List D}{dm d:D}(h:D.XA (.st bs) dm=some d):∃i bU,dm=.mp i∧bs[i]? = some (.cg bU)∧D.lost bU=false∧d=.st (bs++[.itb i bU.length []]):=by
 unfold D.XA at h;split at h
 ·rename_i i bs' e;cases e;split at h
  ·rename_i bU hi;split at h
   ·cases h
   rename_i su;cases h;exact⟨i,bU,rfl,hi,by simpa using su,rfl⟩
  ·cases h
 ·cases h
theorem IQ {bs:List D}{p:Value}{dp:D}{bs':List D}{i m n:Nat}{seen:List Nat}{bU:List D}(hst:cI w ρ.S ρ.az bs)(hp:bA w ρ.S p dp)(h:D.place (.st bs) dp=some (bs',i,m,n,seen,bU)) :
  bs'=bs∧bs[i]? = some (.itb m n seen)∧p=.pointer (some ⟨ρ.S.loc i,0,none⟩)∧m<ρ.S.n∧w.heap[ρ.S.loc i]? = some (.mapIter (some (ρ.S.loc m)) n seen.toArray n)∧∃es:Array MapEntry,w.heap[ρ.S.loc m]? = some (.map es n)∧u7 es n n∧kH w ρ.S es.toList bU∧bU.length=n:=by
 unfold D.place at h;split at h
 ·rename_i fN i1 e;cases e;split at h
  ·rename_i m1 n1 arX hi;split at h
   ·rename_i avX hm;split at h
    ·rename_i hn;obtain⟨hn,su⟩:=hn;cases h;obtain⟨_,⟨g1,g2⟩,_⟩:=hst.s7 _ _ hi rfl;obtain⟨_,es,clock,g3,g4,_,g5⟩:=hst.maps _ _ hm;replace g4:=g4.sz su;rw[D.rz su] at g5;have hc:clock=n:=g4.clk.trans hn;subst hc;cases hp;refine⟨rfl,hi,rfl,g1,g2,es,g3,by rw[hn] at g4;exact g4,⟨by simpa using g4.len,fun j e kv h1 h2=>g5 j e kv (by simpa using h1) h2⟩,hn⟩
    ·cases h
   ·cases h
  ·cases h
 ·cases h
theorem QW {bs:List D}{p:Value}{dp d:D}(hst:cI w ρ.S ρ.az bs)(hp:bA w ρ.S p dp)(h:D.GL (.st bs) dp=some d) :
  ∃v1 v2 d1 d2,(Instr.entry p).run P w=.ok (.tuple #[v1,v2]) w∧d=.a_ [d1,d2]∧bA w ρ.S v1 d1∧bA w ρ.S v2 d2:=by
 unfold D.GL at h;obtain⟨q,mR,hq⟩:=A0b.1 h;obtain⟨bs',i,m,n,seen,bU⟩:=q;simp only at hq;obtain⟨rfl,hi,rfl,hm,UG,es,kS,bV,bO,hn⟩:=IQ hst hp mR;obtain⟨j,hj,hq2⟩:=A0b.1 hq;obtain⟨⟨k,u⟩,WD,e0⟩:=A0a.1 hq2;simp only at e0;subst e0;unfold pQ at WD;split at WD
 ·rename_i k' u' hk;cases WD;have pT:j<es.size:=by have:=(A0c.1 hk).1;rw[bV.len,←hn];exact this
  obtain⟨dk,dv,e1,e2,e3⟩:=bO.2 j es[j] _ (by simp[pT]) hk;cases e1;obtain⟨s',rfl⟩:∃s',seen=s'++[j]:=by have:=List.getLast?_eq_some_iff.1 hj;exact this
  refine⟨es[j].key,es[j].val,_,_,?_,rfl,e2,e3⟩;have Dj:es[j].born=j:=bV.born j _ (by simp[pT]);have oJ:(es.toList.map (·.born)).Nodup:=by
   refine C0k.2 fun a b ha hb RO=>?_;have fI:b<es.size:=by simpa using hb
   have Yv:a<es.size:=by simpa using ha
   simp only[E0s,Array.getElem_toList];rw[bV.born a _ (A0p Yv),bV.born b _ (A0p fI)];omega
  have:=run_entry_at (P:=P) w (ρ.S.loc i) (ρ.S.loc m) n s'.toArray es n es[j] (by rw[UG,Dj];simp) kS (by simp) oJ;exact this
 ·cases WD
theorem Td {ty:TypeId}{bs:List D}{p:Value}{dp:D}{ys:List D}(hst:cI w ρ.S ρ.az bs)(hp:bA w ρ.S p dp)(h:D.Oh (.st bs) dp=some (.bk ys)) :
  ∃(v:Value) (w':World) (d:D) (bs':List D),.a_ [d,.st bs']∈ys∧(Instr.next p false ty).run P w=.ok v w'∧bA w' ρ.S v d∧cI w' ρ.S ρ.az bs'∧bM ρ.S w w'∧w'.os=w.os∧TL w' w∧w'.output=w.output∧w'.heap.size=w.heap.size∧∀b,¬ρ.az b→w'.heap[b]? = w.heap[b]?:=by
 unfold D.Oh at h;obtain⟨q,mR,hq⟩:=A0a.1 h;clear h;obtain⟨bs',i,m,n,seen,bU⟩:=q;simp only[D.bk.injEq] at hq;have h:=hq;clear hq;obtain⟨rfl,hi,rfl,hm,UG,es,kS,bV,bO,hn⟩:=IQ hst hp mR;have Dj:∀(j:Nat) (x:MapEntry),es[j]? = some x→x.born=j:=bV.born;have hold:∀x∈es.toList,x.born<n:=fun x hx=>by obtain⟨j,hj⟩:=B0Q hx;rw[Dj j x (by simpa using hj)];have:=(A0c.1 hj).1;rw[A0W,bV.len] at this;exact this
 have hf:=(hst.s7 i _ hi rfl).1;have jP:∀off,¬ρ.S (ρ.S.loc i) off:=fun off=>hst.v_ _ off hf;have jX:∀x∈es.toList,(x∈(leftOf es seen.toArray).toList↔x.born∈mQ n seen):=fun x hx=>by have:=hold x hx;simp only[leftOf,mQ,Array.toList_filter,B0T,List.contains_toArray,A0X,hx,this,E0m]
 rcases run_next_at (P:=P) w ty (ρ.S.loc i) (ρ.S.loc m) n n seen.toArray es n UG kS hold (A0m _) with⟨h0,bt⟩ | ⟨e,he,w1,hw1,bt⟩
 ·have aos:(mQ n seen).isEmpty=true:=by
   rw[E0r];refine List.eq_nil_iff_forall_not_mem.2 fun j hj=>?_;have hjn:j<n:=by simp only[mQ,B0T,A0X] at hj;exact hj.1
   have pT:j<es.size:=by rw[bV.len];exact hjn
   have hb:=Dj j es[j] (A0p pT);have:=(jX es[j] (by simp)).2 (by rw[hb];exact hj);rw[C0s h0] at this;simp at this
  rw[A0z aos] at h;subst h;exact⟨_,w,.a_ [.bool false],bs',by simp,bt,.a_ rfl fun j v d hv hd=>by
   match j with
   | 0=>simp at hv hd;subst hv hd;exact .v rfl
   | j+1=>simp at hv,hst,bM.refl _ _,rfl,.refl _,rfl,rfl,fun _ _=>rfl⟩
 ·have ah8:e∈es.toList:=by simp only[leftOf,Array.toList_filter,B0T] at he;exact he.1
  have hj:=(jX e ah8).1 he;obtain⟨j,hje⟩:=B0Q ah8;have WH:es[j]? = some e:=by simpa using hje
  have hb:=Dj j e WH;rw[hb] at hj;have bQ:¬(mQ n seen).isEmpty=true:=fun hh=>by rw[E0r] at hh;rw[hh] at hj;cases hj
  rw[A0B bQ] at h;have pT:j<bU.length:=by rw[hn,←bV.len];exact(A0l.1 WH).1
  obtain⟨dk,dv,e1,e2,e3⟩:=bO.2 j e bU[j] hje (by simp);have hw:w1.heap=w.heap∧w1.os=w.os∧TL w1 w∧w1.output=w.output:=by
   rcases hw1 with rfl | rfl
   ·exact⟨rfl,rfl,.refl _,rfl⟩
   ·exact⟨rfl,rfl,⟨rfl,E0K _⟩,rfl⟩
  have ug:ρ.S.loc i<w.heap.size:=(A0l.1 UG).1;have gT:∀b,b≠ρ.S.loc i→(ChangeMaps.setBlock w1 (ρ.S.loc i) (.mapIter (some (ρ.S.loc m)) n (seen.toArray.push e.born) n)).heap[b]? = w.heap[b]?:=fun b hb=>by simp only[ChangeMaps.setBlock,hw.1,B0D,B0O hb,B0n]
  have lE:(ChangeMaps.setBlock w1 (ρ.S.loc i) (.mapIter (some (ρ.S.loc m)) n (seen.toArray.push e.born) n)).heap[ρ.S.loc i]? = some (.mapIter (some (ρ.S.loc m)) n (seen++[j]).toArray n):=by simp only[ChangeMaps.setBlock,hw.1,B0D,B0d,ug,hb];simp
  have hK:bM ρ.S w (ChangeMaps.setBlock w1 (ρ.S.loc i) (.mapIter (some (ρ.S.loc m)) n (seen.toArray.push e.born) n)):=fun b o Aj=>A0V (a:=⟨b,o,none⟩) (gT b fun e=>jP o (e ▸ Aj));refine⟨_,_,.a_ [.bool true,dk,dv],bs'.set i (.itb m n (seen++[j])),?_,bt,?_,?_,hK,hw.2.1,⟨hw.2.2.1.tape,hw.2.2.1.dr⟩,hw.2.2.2,by simp[ChangeMaps.setBlock,hw.1],fun b hb=>gT b fun e=>hb (e ▸ hf)⟩
  ·rw[←h,D0W];refine⟨j,hj,?_⟩;unfold pQ;rw[A0e pT,e1];rfl
  ·refine .a_ rfl fun q v d hv hd=>?_
   match q with
   | 0=>simp at hv hd;subst hv hd;exact .v rfl
   | 1=>simp at hv hd;subst hv hd;exact e2.keep hK (Sets.le_refl _)
   | 2=>simp at hv hd;subst hv hd;exact e3.keep hK (Sets.le_refl _)
   | q+3=>simp at hv
  ·refine hst.set hK hi rfl (fun k x _ _ bQ=>gT _ bQ) (fun e sz cs hz=>by cases hz) (fun bU hz=>by cases hz) fun _=>⟨hm,lE⟩
theorem sH {w:World}{r:Nat}{s:ByteArray}{n:Nat}(h:w.heap[r]? = some (.stringIter s n)):(getObj r).run P w=.ok (.stringIter s n) w:=by simp[getObj,Sem.run,h]
theorem BW {w:World}{r:Nat}{s:ByteArray}{n:Nat}(o':Obj)(h:w.heap[r]? = some (.stringIter s n)):(setObj r o').run P w=.ok () { w with heap:=w.heap.setIfInBounds r o' }:=by simp[setObj,Sem.run,h]
theorem Mf {o:Oper}{bh:Operand→SV}{ix:Nat}{r:cK}(hv:∀x,cS w ρ env (a.eval x) (bh x))(hl:wZ P o bh (σ.obj br) ix=some r)(h:aF w0 X w a σ env ρ)(hd:∀d,o.dst=some d→d<σ.tmps.length)(hb:bD P env ix r.bind) :
  ∃z,r.cm=some (br,z)∧ea P o a w w0 X ((σ.setObj br (some z)).put o.dst r.val) env:=by
 unfold wZ at hl;split at hl
 case h_2=>cases hl
 rename_i cf hx cO;obtain⟨bs,gr,hst,_⟩:=h.cT _ _ cO;split at hl
 ·cases hl
 rename_i fQ;have fQ:cf.ro=false:=by simpa using fQ
 split at hl
 ·rename_i t m ho;split at hl
  ·rename_i m' xz xF;cases hl;obtain⟨dm,Dg,Li⟩:=SV.toE_rd xF (hv m);obtain⟨d,he,cA⟩:=hb;simp only[E.eval,gr,Dg,A0d,D.m4] at he;obtain⟨s,rfl,rfl⟩:∃s,dm=.v (.string s)∧d=.st (bs++[.E3 s 0]):=by
    unfold D.Iv at he;split at he
    ·rename_i e1;cases e1;cases he;exact⟨_,rfl,rfl⟩
    ·cases he
   have Z9:a.eval m=.string s:=by generalize a.eval m=v at Li;cases Li;rfl
   have bt:(execOp a.eval o).run P w=.ok (.value (.pointer (some ⟨w.heap.size,0,none⟩))) (w.alloc (.stringIter s 0)):=by unfold execOp;simp only[ho,Z9,Instr.range,A0n,A0G xz,A0h,A0r];rfl
   obtain⟨bg,hn⟩:=h.tX (k:=0) (z:=.E3 s 0) (ob:=.stringIter s 0) (x':=.sym ix) cO fQ gr (fun e sz cs hz=>by cases hz) (fun bU hz=>by cases hz) (by simp only[E.eval];exact cA) (fun _=>rfl);refine⟨_,rfl,bW bt (bg.put (by rw[ah.aP];exact hd) ?_)⟩;exact xO gr hn
  ·cases hl
 ·rename_i it ho;obtain⟨p,hp,rfl⟩:=A0a.1 hl;obtain⟨dp,hdp,RB⟩:=SV.toE_rd hp (hv it);obtain⟨d,he,cA⟩:=hb;simp only[E.eval,gr,hdp,A0d,D.m4] at he;obtain⟨q,hq,rfl⟩:=A0a.1 he;obtain⟨i,s,n,rfl,hi,rfl⟩:∃i s n,dp=.loc i 0∧bs[i]? = some (.E3 s n)∧q=(bs,i,s,n):=by
   unfold D.BO at hq;split at hq
   ·rename_i e1;cases e1;split at hq
    ·rename_i hi;cases hq;exact⟨_,_,_,rfl,hi,rfl⟩
    ·cases hq
   ·cases hq
  obtain⟨hf,lE,jP⟩:=hst.s7 i _ hi rfl;replace lE:w.heap[ρ.S.loc i]? = some (.stringIter s n):=lE;have hpe:a.eval it=.pointer (some ⟨ρ.S.loc i,0,none⟩):=by generalize a.eval it=v at RB;cases RB;rfl
  have hX:(E.m4 .La hx p .nil .nil).eval env=some (if n<s.size then .a_ [.bool true,.int n,.v (.int .i32 (Utf8.decode s n).1)] else .a_ [.bool false]):=by simp only[E.eval,gr,hdp,A0d,D.m4,D.La,hq,A0y]
  by_cases hlt:n<s.size
  ·rw[A0z hlt] at hX;simp only[A0z hlt] at cA;have ep:(execOp a.eval o).run P w=.ok (.value (.tuple #[.bool true,goInt n,.int .i32 (Utf8.decode s n).1])) { w with heap:=w.heap.setIfInBounds (ρ.S.loc i) (.stringIter s (n+(Utf8.decode s n).2)) }:=by unfold execOp;simp only[ho,hpe,Instr.next,A0n,sH lE,A0h,A0z hlt,BW _ lE,A0r]
   obtain⟨g1,g2⟩:=heap_set (o':=.stringIter s (n+(Utf8.decode s n).2)) lE;refine⟨_,rfl,bW ep ((h.setBlock (w':={ w with heap:=w.heap.setIfInBounds (ρ.S.loc i) (.stringIter s (n+(Utf8.decode s n).2)) }) (x':=.store cf (.sym ix)) (.inl rfl) cO (b0:=ρ.S.loc i) hf (by simpa[aY.ro] using fQ) (by intro _ hh;exact hh) jP (fun b fI=>g2 b fI) rfl ⟨rfl,A0m _⟩ rfl (by simp) fun hk=>?_).put (by rw[ah.aP];exact hd) ?_)⟩
   ·exact⟨_,by simp only[E.eval];exact cA,hst.set (z':=.E3 s (n+(Utf8.decode s n).2)) hk hi rfl (fun k x _ _ bQ=>g2 _ bQ) (fun e sz cs hz=>by cases hz) (fun bU hz=>by cases hz) fun _=>g1,rfl⟩
   ·refine .e hX (.a_ rfl fun q v d hv hd=>?_) (by simp)
    match q with
    | 0=>simp at hv hd;subst hv hd;exact .v rfl
    | 1=>simp at hv hd;subst hv hd;exact .v rfl
    | 2=>simp at hv hd;subst hv hd;exact .v rfl
    | q+3=>simp at hv
  ·rw[A0B hlt] at hX;simp only[A0B hlt] at cA;have ep:(execOp a.eval o).run P w=.ok (.value (.tuple #[.bool false])) w:=by unfold execOp;simp only[ho,hpe,Instr.next,A0n,sH lE,A0h,A0B hlt,A0r]
   refine⟨_,rfl,bW ep ((h.setBlock (w':=w) (x':=.store cf (.sym ix)) (.inl rfl) cO (b0:=ρ.S.loc i) hf (by simpa[aY.ro] using fQ) (by intro _ hh;exact hh) jP (fun b fI=>rfl) rfl (.refl _) rfl rfl fun hk=>?_).put (by rw[ah.aP];exact hd) ?_)⟩
   ·exact⟨_,by simp only[E.eval];exact cA,hst,rfl⟩
   ·refine .e hX (.a_ rfl fun q v d hv hd=>?_) (by simp)
    match q with
    | 0=>simp at hv hd;subst hv hd;exact .v rfl
    | q+1=>simp at hv
 ·cases hl
theorem Ml {o:Oper}{bh:Operand→SV}{ix:Nat}{r:cK}(hv:∀x,cS w ρ env (a.eval x) (bh x))(hl:lmap P o bh σ.obj ix=some r)(h:aF w0 X w a σ env ρ)(hd:∀d,o.dst=some d→d<σ.tmps.length)(hb:bD P env ix r.bind) :
  (r.cm=none∧ea P o a w w0 X (σ.put o.dst r.val) env)∨∃z,r.cm=some (br,z)∧ea P o a w w0 X ((σ.setObj br (some z)).put o.dst r.val) env:=by
 unfold lmap at hl;split at hl
 case isFalse=>cases hl
 split at hl
 case h_2=>
  split at hl
  case h_2=>
   exact Js hv hl h hd hb
  rename_i iH;cases hl;exact .inr (Mf hv iH h hd hb)
 rename_i iH;cases hl;have hl:=iH;clear iH;unfold mP at hl;split at hl
 case h_2=>cases hl
 rename_i cf hx cO;obtain⟨bs,gr,hst,_⟩:=h.cT _ _ cO;have cm:∀{t:TypeId} {m k x:Operand} {ty:TypeId×TypeId×Kd} {m' k' x':E},(execOp a.eval o).run P w=((Instr.mapUpdate t (a.eval m) (a.eval k) (a.eval x)).run P w).andThen (fun _ w'=>.ok .skip w')→sW P t=some ty→(bh m).toE=some m'→(bh k).toE=some k'→(bh x).toE=some x'→cf.ro=false →
   bD P env ix (some (.ev (.m4 (.put ty.2.2) hx m' k' x')))→ea P o a w w0 X ((σ.setObj br (some (.store cf (.sym ix)))).put o.dst .cz) env:=by
  rintro t m k x ⟨kt,e,kd⟩ m' k' x' ep xz xF Dc fm fQ hb
  obtain⟨dm,Dg,Li⟩:=SV.toE_rd xF (hv m);obtain⟨dk,RJ,xD⟩:=SV.toE_rd Dc (hv k);obtain⟨dx,iY,iG⟩:=SV.toE_rd fm (hv x);obtain⟨d,he,cA⟩:=hb;simp only[E.eval,gr,Dg,RJ,iY,A0d,D.m4] at he;have hmp:∃i,dm=.mp i:=by
   unfold D.I2 at he;split at he
   ·exact⟨_,rfl⟩
   ·cases he
  obtain⟨i,rfl⟩:=hmp;obtain⟨qg,vN,gF,⟨bU,jc⟩,rfl,bt,kS,vF⟩:=Ly hst xz Li xD iG he;rw[bt] at ep;obtain⟨hf,es0,VR,hh,_,jP,_⟩:=hst.maps i _ jc;obtain⟨g1,g2⟩:=heap_set (o':=.map vN gF) hh;refine p_ ep ((h.setBlock (w':={ w with heap:=w.heap.setIfInBounds (ρ.S.loc i) (.map vN gF) }) (.inl rfl) cO (b0:=ρ.S.loc i) hf (by simpa[aY.ro] using fQ) (by intro _ hh;exact hh) jP (fun b fI=>g2 b fI) rfl ⟨rfl,A0m _⟩ rfl (by simp) fun hk=>?_).put (by rw[ah.aP];exact hd) .cz);exact⟨_,by simp only[E.eval];exact cA,yH hst hk jc g1 g2 kS vF,rfl⟩
 split at hl
 ·rename_i t ho;split at hl
  ·cases hl
  rename_i fQ;have fQ:cf.ro=false:=by simpa using fQ
  cases hl;obtain⟨d,he,cA⟩:=hb;simp only[E.eval,gr,A0d,D.m4] at he;cases he;have bt:(execOp a.eval o).run P w=.ok (.value (.map (some w.heap.size))) (w.alloc (.map #[] 0)):=by unfold execOp;simp only[ho,C0b,A0n];rfl
  obtain⟨bg,hn⟩:=h.tX (k:=0) (z:=.cg []) (ob:=.map #[] 0) (x':=.sym ix) cO fQ gr (fun e sz cs hz=>by cases hz) (fun bU hz=>by cases hz;exact⟨#[],0,rfl,gG.of ⟨rfl,rfl,by simp⟩ rfl,by simp⟩) (by simp only[E.eval];exact cA);refine .inr ⟨_,rfl,bW bt (bg.put (by rw[ah.aP];exact hd) ?_)⟩;refine .e (d:=.mp bs.length) (by simp only[E.eval,gr];rfl) ?_ fun _=>rfl;have:=bA.mp (w:=w.alloc (.map #[] 0)) (S:=ρ.S.more w.heap.size 0) (i:=bs.length) (by simp[Sets.more,hn]);have hl:(ρ.S.more w.heap.size 0).loc bs.length=w.heap.size:=by simp[Sets.more,hn]
  rwa [hl] at this
 ·rename_i t m k x ho;split at hl
  ·cases hl
  rename_i fQ;split at hl
  ·rename_i ty m' k' x' xz xF Dc fm;cases hl;exact .inr ⟨_,rfl,cm (by unfold execOp;rw[ho];simp only[A0n,A0r]) xz xF Dc fm (by simpa using fQ) hb⟩
  ·cases hl
 ·rename_i t m k x ho;split at hl
  ·cases hl
  rename_i fQ;split at hl
  ·rename_i ty m' k' x' xz xF Dc fm;cases hl;exact .inr ⟨_,rfl,cm (by unfold execOp;rw[ho];simp only[A0n,A0r]) xz xF Dc fm (by simpa using fQ) hb⟩
  ·cases hl
 ·rename_i t m k ok ho;split at hl
  ·rename_i kt e kd m' k' xz xF Dc;split at hl
   ·rename_i z agg hz qp;obtain⟨zv,XX,hz⟩:=A0b.1 hz;obtain⟨dm,Dg,Li⟩:=SV.toE_rd xF (hv m);obtain⟨dk,RJ,xD⟩:=SV.toE_rd Dc (hv k);split at hl
    ·rename_i eE;subst eE;cases hl;obtain⟨d,he,cA⟩:=hb;simp only[E.eval,gr,Dg,RJ,A0d,D.m4,A0b,A0a] at he;obtain⟨bU,UD,rr,RA,he⟩:=he;obtain⟨x,bt,hx⟩:=CD (ok:=true) hst xz Li xD UD RA XX;have ep:(execOp a.eval o).run P w=.ok (.value (.tuple #[x,.bool rr.isSome])) w:=by unfold execOp;simp only[ho,A0n,bt,A0h,A0r,B0d]
     refine .inl ⟨rfl,bW ep (h.put hd ?_)⟩;obtain⟨dd,Ei,hxd⟩:∃dd,d=.a_ [dd,.bool rr.isSome]∧bA w ρ.S x dd:=by
      rcases hx with⟨rfl,rfl⟩ | ⟨j,dv,rfl,hdv⟩
      ·exact⟨_,he.symm,D.jT hz⟩
      ·exact⟨_,he.symm,hdv⟩
     subst Ei;refine .a_ rfl fun i v c gQ hc=>?_
     match i with
     | 0=>
      simp at gQ hc;subst gQ hc;exact .e (d:=dd) (by simp[E.eval,cA,D.av]) hxd (by simp)
     | 1=>
      simp at gQ hc;subst gQ hc;exact .e (d:=.bool rr.isSome) (by simp[E.eval,cA,D.av]) (.v rfl) (fun _=>rfl)
     | i+2=>simp at hc
    ·rename_i eE;have eE:ok=false:=by simpa using eE
     subst eE;cases hl;obtain⟨d,he,cA⟩:=hb;simp only[E.eval,gr,Dg,RJ,A0d,D.m4,A0b] at he;obtain⟨bU,UD,rr,RA,he⟩:=he;obtain⟨x,bt,hx⟩:=CD (ok:=false) hst xz Li xD UD RA XX;have ep:(execOp a.eval o).run P w=.ok (.value x) w:=by unfold execOp;simp only[ho,A0n,bt,A0h,A0r];rfl
     refine .inl ⟨rfl,bW ep (h.put hd ?_)⟩;rcases hx with⟨rfl,rfl⟩ | ⟨j,dv,rfl,hdv⟩
     ·simp only at he;split at he
      ·rename_i cV;cases he;exact .e cA (D.jT hz) fun Ak=>cV.resolve_left (by simpa using Ak)
      ·cases he
     ·simp only at he;split at he
      ·rename_i cV;cases he;exact .e cA hdv fun Ak=>cV.resolve_left (by simpa using Ak)
      ·cases he
   ·cases hl
  ·cases hl
 ·rename_i t m ho;split at hl
  ·cases hl
  rename_i fQ;have fQ:cf.ro=false:=by simpa using fQ
  split at hl
  ·rename_i ty m' xz xF;cases hl;obtain⟨kt,e,kd⟩:=ty;obtain⟨hu,_⟩:=nX xz;obtain⟨dm,Dg,Li⟩:=SV.toE_rd xF (hv m);obtain⟨d,he,cA⟩:=hb;simp only[E.eval,gr,Dg,A0d,D.m4] at he;obtain⟨i,bU,rfl,jc,su,rfl⟩:=P8 he;obtain⟨hf,es,clock,hh,bV,jP,hr⟩:=hst.maps i _ jc;replace bV:=bV.sz su;have hlt:i<ρ.S.n:=by rw[hst.n];exact(A0c.1 jc).1
   have Z9:a.eval m=.map (some (ρ.S.loc i)):=by generalize a.eval m=v at Li;cases Li;rfl
   have bt:(execOp a.eval o).run P w=.ok (.value (.pointer (some ⟨w.heap.size,0,none⟩))) (w.alloc (.mapIter (some (ρ.S.loc i)) bU.length [].toArray bU.length)):=by unfold execOp;simp only[ho,Z9,Instr.range,A0n,A0G hu,A0h,B0t hh,bV.clk,A0r];rfl
   obtain⟨bg,hn⟩:=h.tX (k:=0) (z:=.itb i bU.length []) (ob:=.mapIter (some (ρ.S.loc i)) bU.length [].toArray bU.length) (x':=.sym ix) cO fQ gr (fun e sz cs hz=>by cases hz) (fun bU hz=>by cases hz) (by simp only[E.eval];exact cA) (fun _=>⟨D0i hlt,by rw[(ρ.S.ua w.heap.size 0).loc _ hlt]⟩);refine .inr ⟨_,rfl,bW bt (bg.put (by rw[ah.aP];exact hd) ?_)⟩;exact xO gr hn
  ·cases hl
 ·rename_i t m k ho;split at hl
  ·cases hl
  rename_i fQ;have fQ:cf.ro=false:=by simpa using fQ
  split at hl
  ·rename_i kt e kd m' k' xz xF Dc;obtain⟨z,hz,rfl⟩:=A0a.1 hl;obtain⟨zv,XX,hz⟩:=A0b.1 hz;obtain⟨dm,Dg,Li⟩:=SV.toE_rd xF (hv m);obtain⟨dk,RJ,xD⟩:=SV.toE_rd Dc (hv k);obtain⟨d,he,cA⟩:=hb;simp only[E.eval,gr,Dg,RJ,A0d,D.m4] at he;obtain⟨i,bU,qg,vN,gF,u,j,du,rfl,jc,rfl,UU,bt,kS,vF,hu⟩:=L9 (P:=P) hst xz Li xD XX hz he;have ep:(execOp a.eval o).run P w=.ok (.value (.tuple #[u,.int .i64 j])) { w with heap:=w.heap.setIfInBounds (ρ.S.loc i) (.map vN gF) }:=by unfold execOp;simp only[ho,A0n,bt,A0h,A0r]
   obtain⟨hf,es0,VR,hh,_,jP,_⟩:=hst.maps i _ jc;obtain⟨g1,g2⟩:=heap_set (o':=.map vN gF) hh;have hK:bM ρ.S w { w with heap:=w.heap.setIfInBounds (ρ.S.loc i) (.map vN gF) }:=fun b o hs=>A0V (a:=⟨b,o,none⟩) (g2 b fun e=>jP o (e ▸ hs));have hX:(E.m4 (.QV kd) hx m' k' (.const z)).eval env=some (.a_ [du,.int j]):=by simp only[E.eval,gr,Dg,RJ,A0d,D.m4];exact UU
   refine .inr ⟨_,rfl,bW ep ((h.setBlock (w':={ w with heap:=w.heap.setIfInBounds (ρ.S.loc i) (.map vN gF) }) (.inl rfl) cO (b0:=ρ.S.loc i) hf (by simpa[aY.ro] using fQ) (by intro _ hh;exact hh) jP (fun b fI=>g2 b fI) rfl ⟨rfl,A0m _⟩ rfl (by simp) fun hk=>?_).put (by rw[ah.aP];exact hd) ?_)⟩
   ·exact⟨_,by simp only[E.eval];exact cA,yH hst hk jc g1 g2 kS vF,rfl⟩
   ·refine .a_ rfl fun q v c gQ hc=>?_
    match q with
    | 0=>
     simp at gQ hc;subst gQ hc;exact .e (d:=du) (by simp only[E.eval] at hX ⊢;rw[hX];rfl) (hu.keep hK (Sets.le_refl _)) (by simp)
    | 1=>
     simp at gQ hc;subst gQ hc;exact .e (d:=.int j) (by simp only[E.eval] at hX ⊢;rw[hX];rfl) (.v rfl) fun _=>rfl
    | q+2=>simp at hc
  ·cases hl
 ·rename_i t m s x ho;split at hl
  ·cases hl
  rename_i fQ;have fQ:cf.ro=false:=by simpa using fQ
  split at hl
  ·rename_i m' s' x' xF Ae fm;cases hl;obtain⟨dm,Dg,Li⟩:=SV.toE_rd xF (hv m);obtain⟨ds,kQ,kf⟩:=SV.toE_rd Ae (hv s);obtain⟨dx,iY,iG⟩:=SV.toE_rd fm (hv x);obtain⟨d,he,cA⟩:=hb;simp only[E.eval,gr,Dg,kQ,iY,A0d,D.m4] at he;obtain⟨i,bU,qg,vN,gF,rfl,jc,rfl,bt,kS,vF⟩:=P9 (P:=P) (t:=t) hst Li kf iG he;have ep:(execOp a.eval o).run P w=.ok .skip { w with heap:=w.heap.setIfInBounds (ρ.S.loc i) (.map vN gF) }:=by unfold execOp;simp only[ho,A0n,bt,A0h,A0r]
   obtain⟨hf,es0,VR,hh,_,jP,_⟩:=hst.maps i _ jc;obtain⟨g1,g2⟩:=heap_set (o':=.map vN gF) hh;refine .inr ⟨_,rfl,p_ ep ((h.setBlock (w':={ w with heap:=w.heap.setIfInBounds (ρ.S.loc i) (.map vN gF) }) (.inl rfl) cO (b0:=ρ.S.loc i) hf (by simpa[aY.ro] using fQ) (by intro _ hh;exact hh) jP (fun b fI=>g2 b fI) rfl ⟨rfl,A0m _⟩ rfl (by simp) fun hk=>?_).put (by rw[ah.aP];exact hd) .cz)⟩;exact⟨_,by simp only[E.eval];exact cA,yH hst hk jc g1 g2 kS vF,rfl⟩
  ·cases hl
 ·rename_i it ho;obtain⟨p,hp,rfl⟩:=A0a.1 hl;obtain⟨dp,hdp,RB⟩:=SV.toE_rd hp (hv it);obtain⟨d,he,cA⟩:=hb;simp only[E.eval,gr,hdp,A0d,D.m4] at he;obtain⟨v1,v2,d1,d2,bt,rfl,h1,h2⟩:=QW (P:=P) hst RB he;have ep:(execOp a.eval o).run P w=.ok (.value (.tuple #[v1,v2])) w:=by unfold execOp;simp only[ho,A0n,bt,A0h,A0r]
  refine .inl ⟨rfl,bW ep (h.put hd ?_)⟩;refine .a_ rfl fun i v c gQ hc=>?_
  match i with
  | 0=>
   simp at gQ hc;subst gQ hc;exact .e (d:=d1) (by simp[E.eval,cA,D.av]) h1 (by simp)
  | 1=>
   simp at gQ hc;subst gQ hc;exact .e (d:=d2) (by simp[E.eval,cA,D.av]) h2 (by simp)
  | i+2=>simp at hc
 ·rename_i c ho;split at hl
  ·rename_i jY;split at hl
   ·rename_i x t eF Uc;split at hl
    ·split at hl
     ·rename_i ty m' xz xF;cases hl;obtain⟨kt,e,kd⟩:=ty;obtain⟨hu,_⟩:=nX xz;obtain⟨dm,Dg,Li⟩:=SV.toE_rd xF (hv x);obtain⟨d,he,cA⟩:=hb;simp only[E.eval,gr,Dg,A0d,D.m4,A0a] at he;obtain⟨bU,UD,rfl⟩:=he;have C7:o.op=.call { callee:=.builtin .len,args:=#[x],argTypes:=#[t] }:=by
       rw[ho];obtain⟨c1,c2,c3⟩:=c;simp only at jY eF Uc;subst jY;congr 2
       ·exact Array.toList_inj.1 (by simpa using eF)
       ·exact Array.toList_inj.1 (by simpa using Uc)
      have ep:(execOp a.eval o).run P w=.ok (.value (.int .i64 bU.length)) w:=by
       refine Dw C7 ?_;rcases ou hst Li UD with⟨e1,rfl⟩ | ⟨i,es,clock,MB,rfl,jc,ek,e1,hh,kS,vF⟩
       ·rw[e1];simp only[Builtin.len_,A0R,A0L,A0n,A0G hu,A0h,A0r];rfl
       ·rw[e1];simp only[Builtin.len_,A0R,A0L,A0n,A0G hu,A0h,B0t hh,A0r,vF.size,ek];rfl
      exact .inl ⟨rfl,bW ep (h.put hd (.e cA (.v rfl) fun _=>rfl))⟩
     ·cases hl
    ·cases hl
   ·cases hl
  ·cases hl
 ·cases hl
end
end
end
section
noncomputable section
abbrev F5:=Nat×SV×Option SV
def ES (z:Value)(parts:List F5)(i off size:Nat)(agg:Bool):Option E:=
 match parts.find? (fun p=>p.1==i) with
 | some p=>(match p.2.1.toE with
  | some x=>if agg=true∨size=1 then some (Il agg size x) else none
  | none=>if size=1∧p.2.2.isSome=true then some (.const (.v (.bool false))) else none)
 | none=>(D.jy true ((z.cells.toList.drop off).take size)).bind fun ds=>if ds.length=size then some (.const (.agg ds)) else none
def DJ (z:Value)(parts:List F5):Nat→Nat→List ((Nat×Nat)×Bool)→Option E
 | _,off,[]=>if off=z.cells.size then some .nil else none
 | i,off,p :: r=>if p.1.1=off then(match ES z parts i off p.1.2 p.2,DJ z parts (i+1) (off+p.1.2) r with
   | some x,some y=>some (.cons x y)
   | _,_=>none) else none
def FR (pl:List (Nat×Nat))(parts:List F5)(ix k:Nat):SV:=
 match parts.find? (fun p=>p.2.1.toE.isNone&&decide (pl[p.1]? = some (k,1))) with
 | some p=>p.2.2.getD (.e (.const (.v (.bool false))) true)
 | none=>.e (.cell k (.sym ix)) true
def Ox (P:Program)(t:TypeId)(parts:List F5)(ix:Nat):Option cK:=
 match P.info? t,P.underlying t with
 | some it,some (.struct fields)=>match it.zero,py P fields with
  | some z,some pl=>match DJ z parts 0 0 (pl.zip (gU P fields)) with
   | some y=>if Vg P t z.cells.size=false∧(parts.map (·.1)).Nodup∧parts.all (fun p=>decide (p.1<pl.length))=true∧D5 pl=true then some { val:=.agg ((List.range z.cells.size).map fun k=>FR pl parts ix k),bind:=some (.ev y) } else none
   | none=>none
  | _,_=>none
 | _,_=>none
def pP (obj:Nat→Option aY)(bh:Operand→SV)(parts:List (Nat×Operand)):List F5:=parts.map fun p=>(p.1,bh p.2,rV obj (bh p.2))
def mA (P:Program)(o:Oper)(bh:Operand→SV)(obj:Nat→Option aY)(ix:Nat):Option cK:=
 match o.op with
 | .build t parts=>Ox P t (pP obj bh parts.toList) ix
 | _=>none
section
variable {P:Program} {w w0:World} {X:jN} {a:Act} {σ:ah} {env:List D} {ρ:dD}
theorem Ay {z:Value}{parts:List F5}(hlen:∀i off size agg x u,ES z parts i off size agg=some x→x.eval env=some u→u.cells.length=size):∀{l:List ((Nat×Nat)×Bool)} {i off:Nat} {y:E} {d:D},DJ z parts i off l=some y→y.eval env=some d →
  ∃cs,d=.agg cs∧off+cs.length=z.cells.size∧(∀(f:Nat) (q:(Nat×Nat)×Bool),l[f]? = some q→q.1.1+q.1.2≤z.cells.size∧∃x u,ES z parts (i+f) q.1.1 q.1.2 q.2=some x∧x.eval env=some u) ∧
  ∀k,off≤k→k<z.cells.size→∃f q x u,l[f]? = some q∧q.1.1≤k∧k<q.1.1+q.1.2∧ES z parts (i+f) q.1.1 q.1.2 q.2=some x∧x.eval env=some u∧cs[k-off]? = u.cells[k-q.1.1]?
 | [],i,off,y,d,h,hd=>by
  simp only[DJ] at h;split at h
  ·rename_i ho;cases h;simp only[E.eval,A0x] at hd;subst hd;exact⟨[],rfl,by simpa using ho,by simp,fun k h1 h2=>by omega⟩
  ·cases h
 | q :: r,i,off,y,d,h,hd=>by
  simp only[DJ] at h;split at h
  ·rename_i ho;split at h
   ·rename_i x y' hx hy;cases h;simp only[E.eval,A0b] at hd;obtain⟨u,hu,d',fo,hc⟩:=hd;obtain⟨cs,rfl,hl,h1,h2⟩:=Ay hlen hy fo;have Hj:=hlen _ _ _ _ _ _ hx hu;have zj:d=.agg (u.cells++cs):=by
     unfold D.cons at hc;split at hc <;> first | cases hc;done | (cases hc;rename_i e1 e2;cases e2;rfl) | skip
     all_goals first | (cases hc;rfl) | cases hc
    refine⟨u.cells++cs,zj,by simp[Hj];omega,fun f q' hq=>?_,fun k Ln Ef=>?_⟩
    ·cases f with
     | zero=>simp at hq;subst hq;rw[ho];exact⟨by omega,x,u,hx,hu⟩
     | succ f=>
      obtain⟨h5,x',u',h3,h4⟩:=h1 f q' (by simpa using hq);exact⟨h5,x',u',by rw[show i+(f+1)=i+1+f from by omega];exact h3,h4⟩
    ·by_cases hk:k<off+q.1.2
     ·refine⟨0,q,x,u,rfl,by omega,by omega,by rw[ho];exact hx,hu,?_⟩;rw[A0g (by omega),ho]
     ·obtain⟨f,q',x',u',h3,h4,h5,h6,h7,h8⟩:=h2 k (by omega) Ef;refine⟨f+1,q',x',u',by simpa using h3,h4,h5,by rw[show i+(f+1)=i+1+f from by omega];exact h6,h7,?_⟩;rw[A0o (by omega),Hj,show k-off-q.1.2=k-(off+q.1.2) from by omega];exact h8
   ·cases h
  ·cases h
theorem Et {o:Oper} {bh:Operand→SV} {ix:Nat} {r:cK} (hv:∀x,cS w ρ env (a.eval x) (bh x)) (hl:mA P o bh σ.obj ix=some r) (h:aF w0 X w a σ env ρ)
  (hd:∀d,o.dst=some d→d<σ.tmps.length) (hb:bD P env ix r.bind):r.cm=none∧ea P o a w w0 X (σ.put o.dst r.val) env:=by
 unfold mA at hl;split at hl
 case h_2=>cases hl
 rename_i t parts ho;unfold Ox at hl;split at hl
 ·rename_i it fields UG hu;split at hl
  ·rename_i z pl hz mR;split at hl
   ·rename_i y hy;split at hl
    ·rename_i hc;obtain⟨_,oJ,nh,hap⟩:=hc;have oJ:(parts.toList.map (·.1)).Nodup:=by
      have:(pP σ.obj bh parts.toList).map (·.1)=parts.toList.map (·.1):=by simp[pP,Function.comp_def]
      rw[this] at oJ;exact oJ
     have nh:∀p,p∈parts.toList→p.1<pl.length:=fun p hp=>by have:=A0C.1 nh _ (A0F.2 ⟨p,hp,rfl⟩);simpa using this
     cases hl;refine⟨rfl,?_⟩;obtain⟨dz,bX,cA⟩:=hb;have anX:pl.length=fields.toList.length:=mapM_length mR;have BD:∀i off size agg x u,ES z (pP σ.obj bh parts.toList) i off size agg=some x→x.eval env=some u→u.cells.length=size ∧
       ((∃p,p∈parts.toList∧p.1=i∧(bh p.2).toE.isNone=false∧bA w ρ.S (a.eval p.2) u∧u.yW=true)∨(∃p s,p∈parts.toList∧p.1=i∧(bh p.2).toE.isNone=true∧size=1∧rV σ.obj (bh p.2)=some s) ∨
        ((∀p,p∈parts.toList→p.1≠i)∧∃ds,u=.agg ds∧D.jy true ((z.cells.toList.drop off).take size)=some ds)):=by
      intro i off size agg x u hx kK;unfold ES at hx;split at hx
      ·rename_i p hp;have iK:=B0G hp;have vD:=D0h hp;simp only[B0K] at vD;obtain⟨p0,Uo,rfl⟩:=A0F.1 iK;split at hx
       ·rename_i x' fm;split at hx
        ·rename_i Ak;cases hx;obtain⟨d,iY,iG⟩:=SV.toE_rd fm (hv p0.2);obtain⟨h1,h2,h3⟩:=Ga Ak iY iG kK;exact⟨h2,.inl ⟨p0,Uo,vD,by simp only at fm;rw[fm];rfl,h1,h3⟩⟩
        ·cases hx
       ·rename_i fm;split at hx
        ·rename_i Ak;cases hx;simp only[E.eval,A0x] at kK;subst kK;obtain⟨s,hs⟩:=C0t.1 Ak.2;exact⟨by rw[Ak.1];rfl,.inr (.inl ⟨p0,s,Uo,vD,by simp only at fm;rw[fm];rfl,Ak.1,hs⟩)⟩
        ·cases hx
      ·rename_i Ah;obtain⟨ds,kQ,hx⟩:=A0b.1 hx;split at hx
       ·rename_i fR;cases hx;simp only[E.eval,A0x] at kK;subst kK;refine⟨fR,.inr (.inr ⟨fun p hp vD=>?_,ds,rfl,kQ⟩)⟩;have:=D0t.1 Ah _ (A0F.2 ⟨p,hp,rfl⟩);simp[vD] at this
       ·cases hx
     obtain⟨cs,rfl,dU,hf,QH⟩:=Ay (fun i off size agg x u h1 h2=>(BD i off size agg x u h1 h2).1) hy bX;rw[A0Q] at dU;have abI:∀(i:Nat) (q:Nat×Nat),pl[i]? = some q→∃b,(pl.zip (gU P fields))[i]? = some (q,b):=by
      intro i q hq;have hi:=(A0c.1 hq).1;have hi2:i<(gU P fields).length:=by simp only[gU,B0u];omega
      exact⟨(gU P fields)[i],by rw[C0M];exact⟨hq,A0e hi2⟩⟩
     have MJ:∀(i:Nat) (q:(Nat×Nat)×Bool),(pl.zip (gU P fields))[i]? = some q→pl[i]? = some q.1:=by intro i q hq;rw[C0M] at hq;exact hq.1
     have FC:∀{p:Nat×Operand} {s:SV},rV σ.obj (bh p.2)=some s→cS w ρ env (a.eval p.2) s∧(a.eval p.2).oneCell'=true:=fun hs=>IV hs (hv _) h.cT;have mc:∀{v:Value},v.oneCell'=true→v.cells=#[v]:=fun {v} h1=>by cases v <;> first | rfl | simp[Value.oneCell'] at h1
     have FA:∀p,p∈parts.toList→∃off,pl[p.1]? = some (off,(a.eval p.2).cells.size)∧off+(a.eval p.2).cells.size≤z.cells.size:=by
      intro p hp;have hlt:p.1<pl.length:=nh p hp;obtain⟨b,hb⟩:=abI p.1 pl[p.1] (A0e hlt);obtain⟨hle,x,u,h1,h2⟩:=hf p.1 _ hb;rw[A0Q] at h1;obtain⟨h3,h4⟩:=BD _ _ _ _ _ _ h1 h2;rcases h4 with⟨p',hp',vD,_,hr,Ll⟩ | ⟨p',s,hp',vD,_,sr,hs⟩ | ⟨uS,_⟩
      ·have:=iD oJ hp' hp vD;subst this;have bV:=(hr.cellAt Ll).1;rw[h3] at bV;exact⟨pl[p'.1].1,by rw[bV];exact A0e hlt,by rw[bV];exact hle⟩
      ·have:=iD oJ hp' hp vD;subst this;have bV:(a.eval p'.2).cells.size=pl[p'.1].2:=by rw[mc (FC hs).2];exact sr.symm
       exact⟨pl[p'.1].1,by rw[bV];exact A0e hlt,by rw[bV];exact hle⟩
      ·exact absurd rfl (uS p hp)
     obtain⟨r,hr,kf,xD⟩:=Bs (place:=fun i=>pl.toArray[i]?) (parts.toList.map fun p=>(p.1,a.eval p.2)) z.cells (fun p hp=>by
      obtain⟨q,hq,rfl⟩:=A0F.1 hp;obtain⟨off,h1,h2⟩:=FA q hq;exact⟨off,by simpa using h1,h2⟩)
     have Di:P.built t (parts.map fun(x:Nat×Operand)=>(x.1,a.eval x.2)).toList=some r:=by unfold Program.built;simp only[UG,hu,hz];unfold py at mR;simp only[mR,C0g];exact hr
     have jK:∀(k:Nat),k<z.cells.size→∃v,r[k]? = some v∧v.oneCell'=true∧cS w ρ env v (FR pl (pP σ.obj bh parts.toList) ix k):=by
      intro k OT;obtain⟨f,q,x,u,h1,h2,h3,h4,h5,h6⟩:=QH k (B0e _) OT;rw[C0y] at h6;rw[A0Q] at h4;have JN:=MJ f q h1;obtain⟨h7,h8⟩:=BD _ _ _ _ _ _ h4 h5;obtain⟨c,hk⟩:∃c,cs[k]? = some c:=⟨cs[k]'(by omega),A0e _⟩;have huc:u.cells[k-q.1.1]? = some c:=h6 ▸ hk;have hcE:(E.cell k (.sym ix)).eval env=some c:=by simp[E.eval,cA,D.cell,D.cells,hk]
      have zh:∀p,p∈parts.toList→p.1≠f→¬Ea (fun i=>pl.toArray[i]?) (p.1,a.eval p.2) k:=by
       rintro p hp bQ ⟨off,size,h9,zl,Lp⟩
       simp only[A0R] at h9;have:=pX hap h9 JN bQ;simp only at this;omega
      have OW:∀p,p∈parts.toList→pl[p.1]? = some (k,1)→p.1=f:=by
       intro p hp h9
       by_cases bQ:p.1=f
       ·exact bQ
       ·have:=pX hap h9 JN bQ;simp only at this;omega
      have Ah:(∀p,p∈parts.toList→p.1=f→(bh p.2).toE.isNone=false)→FR pl (pP σ.obj bh parts.toList) ix k=.e (.cell k (.sym ix)) true:=by intro bQ;unfold FR;rw[D0t.2];intro p hp;obtain⟨p0,Uo,rfl⟩:=A0F.1 hp;simp only[A0f,A0t,not_and];intro h9 zl;have:=bQ p0 Uo (OW p0 Uo zl);rw[h9] at this;cases this
      rcases h8 with⟨p,hp,vD,hE,bO,Ll⟩ | ⟨p,s,hp,vD,hE,sr,hs⟩ | ⟨uS,ds,rfl,kQ⟩
      ·obtain⟨h9,v,zl,Lp⟩:=(bO.cellAt Ll).2 _ c huc;have bV:=(bO.cellAt Ll).1;rw[h7] at bV;have mJ:r[k]? = some v:=by
        have:=(xD k OT).2 (p.1,a.eval p.2) q.1.1 (A0F.2 ⟨p,hp,rfl⟩) (by simp only[A0R,vD,JN,bV]) h2 (by simp only[bV];exact h3) fun q' HY bQ=>by obtain⟨p',hp',rfl⟩:=A0F.1 HY;refine zh p' hp' fun e=>bQ ?_;rw[iD oJ hp' hp (e.trans vD.symm)]
        rw[this];exact zl
       refine⟨v,mJ,Lp.one h9,?_⟩;rw[Ah fun p' hp' ab2=>by rw[iD oJ hp' hp (ab2.trans vD.symm)];exact hE];exact .e hcE Lp fun _=>h9
      ·have JI:=FC hs;have hkq:q.1.1=k:=by omega
       have mJ:r[k]? = some (a.eval p.2):=by
        have:=(xD k OT).2 (p.1,a.eval p.2) q.1.1 (A0F.2 ⟨p,hp,rfl⟩) (by
          simp only[A0R,vD,JN,mc JI.2];rw[show(q.1:Nat×Nat)=(q.1.1,q.1.2) from rfl,sr];rfl) h2 (by simp only[mc JI.2];simp;omega) fun q' HY bQ=>by
         obtain⟨p',hp',rfl⟩:=A0F.1 HY;refine zh p' hp' fun e=>bQ ?_;rw[iD oJ hp' hp (e.trans vD.symm)]
        rw[this,mc JI.2,hkq];simp
       refine⟨_,mJ,JI.2,?_⟩;have anW:pl[p.1]? = some (k,1):=by rw[vD,JN,show(q.1:Nat×Nat)=(q.1.1,q.1.2) from rfl,sr,hkq]
       have:FR pl (pP σ.obj bh parts.toList) ix k=s:=by
        unfold FR;obtain⟨x,hx⟩:∃x,(pP σ.obj bh parts.toList).find? (fun p=>p.2.1.toE.isNone&&decide (pl[p.1]? = some (k,1)))=some x:=by refine C0t.1 (List.find?_isSome.2 ⟨_,A0F.2 ⟨p,hp,rfl⟩,?_⟩);simp only[hE,anW,decide_true,E0L]
        have iK:=B0G hx;have hpx:=D0h hx;obtain⟨p',hp',rfl⟩:=A0F.1 iK;simp only[A0f,A0t] at hpx;have:=iD oJ hp' hp ((OW p' hp' hpx.2).trans vD.symm);subst this;rw[hx];simp only[hs,B0l]
       rw[this];exact JI.1
      ·have mJ:r[k]? = z.cells[k]?:=(xD k OT).1 fun q' HY=>by obtain⟨p',hp',rfl⟩:=A0F.1 HY;exact zh p' hp' (uS p' hp')
       obtain⟨_,bO⟩:=D.kz (w:=w) (S:=ρ.S) kQ;have jh:((z.cells.toList.drop q.1.1).take q.1.2)[k-q.1.1]? = some z.cells[k]:=by rw[A0H,A0z (by omega),A0Z,show q.1.1+(k-q.1.1)=k from by omega];simp[OT]
       obtain⟨h9,zl⟩:=bO _ _ c jh huc;refine⟨z.cells[k],by rw[mJ];exact A0p OT,h9.one zl,?_⟩;rw[Ah fun p' hp' ab2=>absurd ab2 (uS p' hp')];exact .e hcE h9 fun _=>zl
     refine bl h hd (v:=.agg r) ?_ (.agg (by rw[kf];simp) (fun k v gQ=>?_) fun k v c gQ hk=>?_)
     ·unfold execOp;simp only[ho,A0n,run_build w t _ r Di,A0h,A0r]
     ·obtain⟨v',h1,h2,_⟩:=jK k (by rw[←kf];exact(A0l.1 gQ).1);rw[gQ] at h1;cases h1;exact h2
     ·have OT:k<z.cells.size:=by rw[←kf];exact(A0l.1 gQ).1
      obtain⟨v',h1,_,h2⟩:=jK k OT;rw[gQ] at h1;cases h1;simp only[A0w,A0a] at hk;obtain⟨j,hj,rfl⟩:=hk;have:=A0c.1 hj;simp only[D0w] at this;obtain⟨_,rfl⟩:=this;exact h2
    ·cases hl
   ·cases hl
  ·cases hl
 ·cases hl
end
end
end
section
noncomputable section
structure jg where
 val:SV
 cm:Option (Nat×aY)
 del:Option Nat
 bind:Option Bind
 deriving Inhabited
def cK.dF (r:cK):jg:=⟨r.val,r.cm,none,r.bind⟩
def ah.iT (σ:ah):Option Nat→ah
 | none=>σ
 | some k=>σ.setObj k none
def ah.sets (σ:ah):Option (Nat×aY)→ah
 | none=>σ
 | some u=>σ.setObj u.1 (some u.2)
def ah.app (σ:ah)(dst:Option Tmp)(e:jg):ah:=((σ.iT e.del).sets e.cm).put dst e.val
def kA:Operand→Bool
 | .const (.slice none 0 0)=>true
 | _=>false
def ga (o:Oper):Bool:=
 match o.op with
 | .alloc _ | .box _ _ | .buildSlice _ _ _ | .makeSlice _ _ _=>true
 | .assign x=>kA x
 | .call c=>(match c.callee with | .builtin .append=>true | _=>false)
 | _=>false
def yM (o:Oper)(σ:ah)(e:jg):Bool:=
 !ga o||match e.cm with | some u=>decide (u.1=br)||(o.op.operands.all fun x=>(σ.bh [] x).aM u.1) | none=>true
def Xx (e:jg):Bool:=match e.cm with | some u=>decide (u.1≠br) | none=>true
theorem Fg {e:jg}(h:Xx e=true){u:Nat×aY}(hu:e.cm=some u):u.1≠br:=by unfold Xx at h;rw[hu] at h;simpa using h
def zn (σ:ah)(o:Oper)(e:jg):Prop:=ga o=true→∀u,e.cm=some u→u.1≠br→σ.obj u.1=none∧σ.aM u.1∧∀x,x∈o.op.operands→(σ.bh [] x).aM u.1=true
theorem IB {o:Oper}{σ:ah}{e:jg}(h:yM o σ e=true)(hn:ga o=true){u:Nat×aY}(hu:e.cm=some u)(bQ:u.1≠br):∀x,x∈o.op.operands→(σ.bh [] x).aM u.1=true:=by simp only[yM,hn,hu,D0N,D0r,B0v,A0t] at h;exact fun x hx=>C0W.1 (h.resolve_left bQ) x hx
def GU (P:Program)(t:TypeId)(dst:Option Tmp):Option jg:=
 match dst,P.underlying t with
 | some d,some (.slice e)=>(r8 P e).map fun n=>⟨.own (.const (.bk [])) d,some (d,.tok e n),none,none⟩
 | _,_=>none
def uc (P:Program)(t:TypeId)(s x:SV)(dst:Option Tmp)(obj:Nat→Option aY)(ix:Nat):Option jg:=
 match dst,P.underlying t,s with
 | some d,some (.slice e),.own y k=>match obj k,P.info? e,x.toE with
  | some (.tok e' size),some i,some x'=>match i.zero with
   | some z=>if e=e'∧i.size=size∧z.cells.size=size∧0<size then some ⟨.own (.sym ix) d,some (d,.tok e size),some k,some (.ev (.app size i.bytes y x'))⟩ else none
   | none=>none
  | _,_,_=>none
 | _,_,_=>none
def CO (P:Program)(t:TypeId)(x:SV)(dst:Option Tmp)(ix:Nat):Option jg:=
 match dst,P.underlying t with
 | some d,some (.slice e)=>match P.info? e,x.toE with
  | some i,some x'=>match i.zero with
   | some z=>if z.cells.size=i.size∧0<i.size then some ⟨.own (.sym ix) d,some (d,.tok e i.size),none,some (.ev (.app i.size i.bytes (.const (.bk [])) x'))⟩ else none
   | none=>none
  | _,_=>none
 | _,_=>none
def Cm (obj:Nat→Option aY):Bool:=match gC obj with | some cf=>cf.aS | none=>false
def CF (nz:Bool)(P:Program)(o:Oper)(bh:Operand→SV)(obj:Nat→Option aY)(ix:Nat):Option jg:=
 match o.op with
 | .assign x=>if kA x then GU P o.type o.dst else none
 | .makeSlice t n c=>(Fm nz P t (bh n) (bh c) o.dst ix).map cK.dF
 | .buildSlice t len parts=>(CG P t len parts.toList bh o.dst ix).map cK.dF
 | .call c=>match c.callee with
  | .builtin .append=>match c.args.toList,c.argTypes.toList with
   | [s,x],[t,t']=>if t=t' then(if kA s=true then CO P t (bh x) o.dst ix else uc P t (bh s) (bh x) o.dst obj ix) else none
   | _,_=>none
  | _=>none
 | _=>none
def yY (P:Program)(nz:Bool)(o:Oper)(bh:Operand→SV)(ix:Nat):Option cK:=
 match o.op with
 | .build t parts=>G4 nz P t parts.toList bh ix
 | _=>match Qh P o bh ix with
  | some r=>some r
  | none=>Fl P o bh ix
def tG (P:Program)(o:Oper)(bh:List (E×Bool)→Operand→SV)(act:List (E×Bool))(obj:Nat→Option aY)(ix:Nat):Option jg:=
 match Qi P o (bh act) act obj ix with
 | some r=>some r.dF
 | none=>match Jj P o (bh []) obj ix with
  | some r=>some r.dF
  | none=>match lmap P o (bh act) obj ix with
  | some r=>some r.dF
  | none=>match CF (Cm obj) P o (bh []) obj ix with
   | some e=>if Xx e then some e else none
   | none=>match yY P (Cm obj) o (bh act) ix with
    | some r=>some r.dF
    | none=>match mA P o (bh act) obj ix with
    | some r=>some r.dF
    | none=>(w8 P o bh act obj ix).bind fun r=>if !ga o||Xx r.dF then some r.dF else none
section
variable {P:Program} {w w0:World} {X:jN} {a:Act} {σ:ah} {env:List D} {ρ:dD}
theorem lq {k o:Nat}{y:aY}(hy:(σ.setObj k none).obj o=some y):o≠k∧σ.obj o=some y:=by
 rcases ah.AO hy with⟨_,h⟩ | h
 ·cases h
 ·exact h
theorem aF.VF (h:aF w0 X w a σ env ρ)(k:Nat):aF w0 X w a (σ.setObj k none) env ρ:=
 ⟨by rw[ah.aP];exact h.size,fun t=>by rw[ah.fz];exact h.tmps t,fun o y hy=>h.cT o y (lq hy).2,fun o o' y y' b h1 h2=>h.inj o o' y y' b (lq h1).2 (lq h2).2,fun o y b h1=>h.own o y b (lq h1).2,h.cells,h.os,h.tape,h.output,h.grown,h.old,h.sub,h.new,h.yo,h.hold⟩
theorem u6 {k d:Nat}(h:σ.aM d):(σ.setObj k none).aM d:=
 ⟨fun t=>by rw[ah.fz];exact h.1 t,fun o y hy=>h.2 o y (lq hy).2⟩
theorem Ep {o:Oper} {x:Operand} {e:jg} (ho:o.op=.assign x) (hx:kA x=true) (hl:GU P o.type o.dst=some e) (h:aF w0 X w a σ env ρ) (hd:∀d,o.dst=some d→d<σ.tmps.length) (hm:σ.mem.length=σ.tmps.length)
  (hf:∀u,e.cm=some u→σ.obj u.1=none∧σ.aM u.1):ea P o a w w0 X (σ.app o.dst e) env:=by
 unfold GU at hl;split at hl
 ·rename_i d el gB hu;obtain⟨n,hn,rfl⟩:=A0a.1 hl;obtain⟨iI,mU⟩:=hf _ rfl;have fR:=hd d gB;have Fw:a.eval x=.slice none 0 0:=by
   unfold kA at hx;split at hx
   ·rfl
   ·cases hx
  have bg:=h.D6 (w':=w) (k:=d) (by rw[hm];exact fR) iI mU (C0O w 0 el n) (bM.refl _ _) (fun _ _ _ _ _=>⟨rfl,by simp[Value.ownBlock]⟩) (fun _ hb=>by simp[Value.ownBlock] at hb) (fun _ hb=>by simp[Value.ownBlock] at hb) rfl ⟨rfl,A0m _⟩ rfl (A0m _) fun _ _ _=>rfl;refine bW (v:=.slice none 0 0) (by unfold execOp;simp[ho,Fw]) (bg.put (by rw[gB];intro d' e;cases e;rw[ah.aP];exact fR) ?_);exact .own (es:=[]) rfl .nil (by simp[dD.j9])
 ·cases hl
theorem Fb (h:aF w0 X w a σ env ρ){k:Nat}{e:TypeId}{size:Nat}(hk:σ.obj k=some (.tok e size)){b:Nat}(hb:(ρ.val k).ownBlock=some b):(w0.heap.size≤b∨X.may b)∧b<w.heap.size:=by have:=h.own k _ b hk hb;exact⟨this.1.resolve_left (by simp[aY.ro]),this.2⟩
theorem uM {o:Oper} {t:TypeId} {s x:Operand} {ss sx:SV} {ix:Nat} {e:jg} (ho:o.op=.call { callee:=.builtin .append,args:=#[s,x],argTypes:=#[t,t] }) (hl:uc P t ss sx o.dst σ.obj ix=some e) (hs:cS w ρ env (a.eval s) ss) (hx:cS w ρ env (a.eval x) sx)
  (h:aF w0 X w a σ env ρ) (hd:∀d,o.dst=some d→d<σ.tmps.length) (hm:σ.mem.length=σ.tmps.length) (hb:bD P env ix e.bind) (hf:∀u,e.cm=some u→σ.obj u.1=none∧σ.aM u.1):ea P o a w w0 X (σ.app o.dst e) env:=by
 unfold uc at hl;split at hl
 ·rename_i d el y k gB hu;split at hl
  ·rename_i e' size i x' hk hi fm;split at hl
   ·rename_i z hz;split at hl
    ·rename_i hc;obtain⟨rfl,pg,Hh,bV⟩:=hc;cases hl;obtain⟨iI,mU⟩:=hf _ rfl;have fR:=hd d gB;obtain⟨es,kS,bO,fB⟩:=hs.wO;obtain⟨dx,iY,iG⟩:=SV.toE_rd fm hx;obtain⟨dz,bX,cA⟩:=hb;simp only[E.eval,kS,iY,A0d] at bX;unfold D.app at bX;split at bX
     ·rename_i xs0 ys heq;cases heq;split at bX
      ·rename_i xJ;cases bX;obtain⟨RM,qD,HV,XY⟩:=xJ;obtain⟨n,xs,eB,MV⟩:=h.cT k _ hk;rw[←fB] at eB MV;obtain⟨hn,pS⟩:=Xp eB bO HV;have JV:d≠k:=fun e=>by rw[e,hk] at iI;cases iI
       have zi:=h.VF k;have acw:(σ.setObj k none).obj d=none:=by rw[ah.dM σ none JV];exact iI
       have k8:∀o' y' b,(σ.setObj k none).obj o'=some y'→bN ρ o' y' b→b<w.heap.size∧(a.eval s).ownBlock≠some b:=by intro o' y' b h1 h2;have wi:=lq h1;refine⟨(h.own o' y' b wi.2 h2).2,fun hg=>wi.1 ?_⟩;rw[fB] at hg;exact h.inj o' k y' _ b wi.2 hk h2 hg
       have fin:∀(v':Value) (w':World) (m:Nat) (news:List Value),(Builtin.append_ #[t,t] o.type #[a.eval s,a.eval x]).run P w=.ok v' w'→ys.length=m→j8 w ρ.S size news ys→w'.ownsRow 0 el size v' (n+m) (xs++news) →
         ((v'.ownBlock=(a.eval s).ownBlock∧RU w w' (a.eval s).ownBlock)∨(v'.ownBlock=some w.heap.size∧RU w w' none))→ea P o a w w0 X (σ.app o.dst ⟨.own (.sym ix) d,some (d,.tok el size),some k,some (.ev (.app size i.bytes y x'))⟩) env:=by
        intro v' w' m news bt Ry Qx mS gd;have mT:w'.os=w.os∧TL w' w∧w'.output=w.output∧w.heap.size≤w'.heap.size:=by rcases gd with⟨_,hg⟩ | ⟨_,hg⟩ <;> exact⟨hg.os,hg.tape,hg.output,hg.size⟩
        have rG:∀b,b<w.heap.size→(a.eval s).ownBlock≠some b→w'.heap[b]? = w.heap[b]?:=by
         intro b hb bQ;rcases gd with⟨_,hg⟩ | ⟨_,hg⟩
         ·exact hg.block b hb fun e=>bQ e.symm
         ·exact hg.block b hb (by simp)
        have hK:bM ρ.S w w':=by
         intro b i' hS
         by_cases hg:(a.eval s).ownBlock=some b
         ·rcases gd with⟨gQ,_⟩ | ⟨_,sA⟩
          ·have hlt:i'<n*size:=E0u fun hle=>MV b hg i' hle hS;have UE:i'<xs.length:=by rw[eB.1];exact hlt
           have h1:=eB.cells hg i' _ (A0e UE);have h2:=mS.cells (gQ.trans hg) i' xs[i'] (by rw[A0g UE];exact A0e UE);rw[gO] at h1 h2;rw[A0Q] at h1 h2;rw[h1,h2]
          ·exact A0V (a:=⟨b,i',none⟩) (sA.block b (h.cells b i' hS) (by simp))
         ·exact A0V (a:=⟨b,i',none⟩) (rG b (h.cells b i' hS) hg)
        have bg:=zi.D6 (w':=w') (k:=d) (e:=el) (size:=size) (v:=v') (n:=n+m) (xs:=xs++news) (by rw[ah.fE,hm];exact fR) acw (u6 mU) mS hK ?_ ?_ ?_ mT.1 mT.2.1 mT.2.2.1 mT.2.2.2 ?_
        ·have Ua:(ρ.j9 d v' ((n+m)*size)).val d=v':=by simp[dD.j9]
         refine bW (v:=v') ?_ (bg.put (by rw[gB];intro d' e;cases e;rw[ah.aP,ah.aP];exact fR) ?_)
         ·unfold execOp;simp only[ho,resolve,invoke,builtin,A0n,A0r,A0h,C0f,B0p,C0x,bt]
         ·refine .own (es:=es++ys) (by simp only[E.eval];exact cA) (Gz mS (by simp[hn,Ry]) ((pS.append Qx).keep hK (ρ.S.pe _)) fun b hb i' qn=>.inr ⟨hb,qn⟩) Ua.symm
        ·intro o' y' b h1 h2;obtain⟨h3,h4⟩:=k8 o' y' b h1 h2;refine⟨rG b h3 h4,?_⟩;rcases gd with⟨gQ,_⟩ | ⟨gQ,_⟩
         ·rw[gQ];exact h4
         ·rw[gQ];simp;omega
        ·intro b hb;rcases gd with⟨gQ,_⟩ | ⟨gQ,_⟩
         ·rw[gQ,fB] at hb;exact(Fb h hk hb).1
         ·rw[gQ] at hb;cases hb;exact .inl h.grown
        ·intro b hb off r_ hS;rcases gd with⟨gQ,_⟩ | ⟨gQ,_⟩
         ·rw[gQ] at hb;refine MV b hb off (A0J (B0k _ (Nat.le_add_right n m)) r_) hS
         ·rw[gQ] at hb;cases hb;have:=h.cells _ off hS;omega
        ·intro b hb OR;refine rG b (A0v hb h.grown) fun hg=>?_;rw[fB] at hg;rcases(Fb h hk hg).1 with h1 | h1
         ·omega
         ·exact OR h1
       rcases GF iG XY with⟨JH,rfl⟩ | ⟨ad,m,c,news,JH,Ry,Wz,tj,cV,uR⟩
       ·refine fin (a.eval s) w 0 [] ?_ rfl ⟨by simp,by simp,by simp⟩ (by simpa using eB) (.inl ⟨rfl,⟨rfl,.refl _,rfl,A0m _,fun _ _ _=>rfl⟩⟩);rw[JH];rcases eB.2 with⟨hv,Yb⟩ | ⟨g,cap,cur,hv,_,_,Lm,_⟩
        ·rw[hv];exact j_ w t o.type el i hu hi none 0 0 (A0m _)
        ·rw[hv];exact j_ w t o.type el i hu hi _ n cap Lm
       ·obtain⟨v',w',bt,mS,gd⟩:=lM (P:=P) w t o.type el i z size i.bytes hu hi hz pg rfl Hh bV (a.eval s) n xs eB ad m c news Wz tj cV (by rw[←hn,←Ry];exact qD) (by rw[←hn,←Ry];exact RM);rw[←JH] at bt;exact fin v' w' m news bt Ry uR mS gd
      ·cases bX
     ·cases bX
    ·cases hl
   ·cases hl
  ·cases hl
 ·cases hl
theorem s5 {o:Oper} {t:TypeId} {s x:Operand} {sx:SV} {ix:Nat} {e:jg} (ho:o.op=.call { callee:=.builtin .append,args:=#[s,x],argTypes:=#[t,t] }) (hn:kA s=true) (hl:CO P t sx o.dst ix=some e) (hx:cS w ρ env (a.eval x) sx)
  (h:aF w0 X w a σ env ρ) (hd:∀d,o.dst=some d→d<σ.tmps.length) (hm:σ.mem.length=σ.tmps.length) (hb:bD P env ix e.bind) (hf:∀u,e.cm=some u→σ.obj u.1=none∧σ.aM u.1):ea P o a w w0 X (σ.app o.dst e) env:=by
 have yq:a.eval s=.slice none 0 0:=by
  unfold kA at hn;split at hn
  ·rfl
  ·cases hn
 unfold CO at hl;split at hl
 ·rename_i d el gB hu;split at hl
  ·rename_i i x' hi fm;split at hl
   ·rename_i z hz;split at hl
    ·rename_i hc;obtain⟨Hh,bV⟩:=hc;cases hl;obtain⟨iI,mU⟩:=hf _ rfl;have fR:=hd d gB;obtain⟨dx,iY,iG⟩:=SV.toE_rd fm hx;obtain⟨dz,bX,cA⟩:=hb;simp only[E.eval,iY,A0d] at bX;unfold D.app at bX;split at bX
     ·rename_i xs0 ys heq;cases heq;split at bX
      ·rename_i xJ;cases bX;obtain⟨RM,qD,_,XY⟩:=xJ;have eB:=C0O w 0 el i.size;have cO:(Value.slice none 0 0).ownBlock=none:=rfl;have fin:∀(v':Value) (w':World) (m:Nat) (news:List Value),(Builtin.append_ #[t,t] o.type #[a.eval s,a.eval x]).run P w=.ok v' w'→ys.length=m→j8 w ρ.S i.size news ys→w'.ownsRow 0 el i.size v' (0+m) ([]++news) →
         ((v'.ownBlock=none∧RU w w' none)∨(v'.ownBlock=some w.heap.size∧RU w w' none))→ea P o a w w0 X (σ.app o.dst ⟨.own (.sym ix) d,some (d,.tok el i.size),none,some (.ev (.app i.size i.bytes (.const (.bk [])) x'))⟩) env:=by
        intro v' w' m news bt Ry Qx mS gd;have mT:w'.os=w.os∧TL w' w∧w'.output=w.output∧w.heap.size≤w'.heap.size:=by rcases gd with⟨_,hg⟩ | ⟨_,hg⟩ <;> exact⟨hg.os,hg.tape,hg.output,hg.size⟩
        have rG:∀b,b<w.heap.size→w'.heap[b]? = w.heap[b]?:=by intro b hb;rcases gd with⟨_,hg⟩ | ⟨_,hg⟩ <;> exact hg.block b hb (by simp)
        have hK:bM ρ.S w w':=fun b i' hS=>A0V (a:=⟨b,i',none⟩) (rG b (h.cells b i' hS));have bg:=h.D6 (w':=w') (k:=d) (e:=el) (size:=i.size) (v:=v') (n:=0+m) (xs:=[]++news) (by rw[hm];exact fR) iI mU mS hK ?_ ?_ ?_ mT.1 mT.2.1 mT.2.2.1 mT.2.2.2 ?_
        ·have Ua:(ρ.j9 d v' ((0+m)*i.size)).val d=v':=by simp[dD.j9]
         refine bW (v:=v') ?_ (bg.put (by rw[gB];intro d' e;cases e;rw[ah.aP];exact fR) ?_)
         ·unfold execOp;simp only[ho,resolve,invoke,builtin,A0n,A0r,A0h,C0f,B0p,C0x,bt]
         ·refine .own (es:=[]++ys) (by simp only[E.eval];exact cA) (Gz mS (by simp[Ry]) (j8.keep (by simpa using Qx) hK (ρ.S.pe _)) fun b hb i' qn=>.inr ⟨hb,qn⟩) Ua.symm
        ·intro o' y' b h1 h2;have h3:=(h.own o' y' b h1 h2).2;refine⟨rG b h3,?_⟩;rcases gd with⟨gQ,_⟩ | ⟨gQ,_⟩
         ·rw[gQ];simp
         ·rw[gQ];simp;omega
        ·intro b hb;rcases gd with⟨gQ,_⟩ | ⟨gQ,_⟩
         ·rw[gQ] at hb;cases hb
         ·rw[gQ] at hb;cases hb;exact .inl h.grown
        ·intro b hb off r_ hS;rcases gd with⟨gQ,_⟩ | ⟨gQ,_⟩
         ·rw[gQ] at hb;cases hb
         ·rw[gQ] at hb;cases hb;have:=h.cells _ off hS;omega
        ·intro b hb OR;exact rG b (A0v hb h.grown)
       rcases GF iG XY with⟨JH,rfl⟩ | ⟨ad,m,c,news,JH,Ry,Wz,tj,cV,uR⟩
       ·refine fin (.slice none 0 0) w 0 [] ?_ rfl ⟨by simp,by simp,by simp⟩ (by simpa using eB) (.inl ⟨rfl,⟨rfl,.refl _,rfl,A0m _,fun _ _ _=>rfl⟩⟩);rw[JH,yq];exact j_ w t o.type el i hu hi none 0 0 (A0m _)
       ·obtain⟨v',w',bt,mS,gd⟩:=lM (P:=P) w t o.type el i z i.size i.bytes hu hi hz rfl rfl Hh bV (.slice none 0 0) 0 [] eB ad m c news Wz tj cV (by rw[←Ry];simpa using qD) (by rw[←Ry];simpa using RM);rw[←JH,←yq] at bt;exact fin v' w' m news bt Ry uR mS (by rw[cO] at gd;exact gd)
      ·cases bX
     ·cases bX
    ·cases hl
   ·cases hl
  ·cases hl
 ·cases hl
theorem GS {nz:Bool}{o:Oper}{bh:Operand→SV}{ix:Nat}{r:cK}(hv:∀x,cS w ρ env (a.eval x) (bh x))(hl:yY P nz o bh ix=some r)(h:aF w0 X w a σ env ρ)(hd:∀d,o.dst=some d→d<σ.tmps.length)(hb:bD P env ix r.bind) :
  r.cm=none∧ea P o a w w0 X (σ.put o.dst r.val) env:=by
 unfold yY at hl;split at hl
 ·rename_i ho;exact G3 ho hv hl h hd hb
 ·split at hl
  ·rename_i iH;cases hl;exact Mr hv iH h hd hb
  ·exact Jf hv hl h hd hb
theorem tF {o:Oper} {act:List (E×Bool)} {ix:Nat} {e:jg} (h:aF w0 X w a σ env ρ) (ha:bq env act) (hl:tG P o σ.bh act σ.obj ix=some e) (hd:∀d,o.dst=some d→d<σ.tmps.length) (hm:σ.mem.length=σ.tmps.length)
  (hb:bD P env ix e.bind) (hf:zn σ o e) (jj:ga o=true→¬(e.cm=none∧e.del=none)→act=[]):ea P o a w w0 X (σ.app o.dst e) env:=by
 have hv:=fun x=>q5 (a:=a) h nG x;unfold tG at hl;split at hl
 ·rename_i r hr;cases hl;obtain⟨hu,eE⟩:=Mt (fun x=>q5 (a:=a) h ha x) hr h hd hb;have:σ.app o.dst r.dF=σ.put o.dst r.val:=by simp[ah.app,cK.dF,ah.iT,ah.sets,hu]
  rw[this];exact eE
 split at hl
 ·rename_i r hr;cases hl;rcases Mg hv hr h hd hb with⟨hu,eE⟩ | ⟨z,hu,eE⟩
  ·have:σ.app o.dst r.dF=σ.put o.dst r.val:=by simp[ah.app,cK.dF,ah.iT,ah.sets,hu]
   rw[this];exact eE
  ·have:σ.app o.dst r.dF=(σ.setObj br (some z)).put o.dst r.val:=by simp[ah.app,cK.dF,ah.iT,ah.sets,hu]
   rw[this];exact eE
 split at hl
 ·rename_i r hr;cases hl;rcases Ml (fun x=>q5 (a:=a) h ha x) hr h hd hb with⟨hu,eE⟩ | ⟨z,hu,eE⟩
  ·have:σ.app o.dst r.dF=σ.put o.dst r.val:=by simp[ah.app,cK.dF,ah.iT,ah.sets,hu]
   rw[this];exact eE
  ·have:σ.app o.dst r.dF=(σ.setObj br (some z)).put o.dst r.val:=by simp[ah.app,cK.dF,ah.iT,ah.sets,hu]
   rw[this];exact eE
 split at hl
 ·rename_i e' hn;split at hl
  case isFalse=>cases hl
  rename_i hnH;cases hl;have hf:ga o=true→∀u,e.cm=some u→σ.obj u.1=none∧σ.aM u.1∧∀x,x∈o.op.operands→(σ.bh [] x).aM u.1=true:=fun hn u hu=>hf hn u hu (Fg hnH hu);unfold CF at hn;split at hn
  ·rename_i x ho;split at hn
   ·rename_i hx;exact Ep ho hx hn h hd hm fun u hu=>by have:=hf (by simp[ga,ho,hx]) u hu;exact⟨this.1,this.2.1⟩
   ·cases hn
  ·rename_i t n c ho;obtain⟨r,hr,rfl⟩:=A0a.1 hn;obtain⟨ob,x,hu,eE⟩:=Jo ho hr (hv n) (hv c) h hd hm hb fun u hu=>by have:=hf (by simp[ga,ho]) u hu;exact⟨this.1,this.2.1⟩
   have:σ.app o.dst r.dF=(σ.setObj ob (some x)).put o.dst r.val:=by simp[ah.app,cK.dF,ah.iT,ah.sets,hu]
   rw[this];exact eE
  ·rename_i t len parts ho;obtain⟨r,hr,rfl⟩:=A0a.1 hn;obtain⟨ob,x,hu,eE⟩:=Mn ho hv hr h hd hm hb fun u hu=>by have:=hf (by simp[ga,ho]) u hu;exact⟨this.1,this.2.1⟩
   have:σ.app o.dst r.dF=(σ.setObj ob (some x)).put o.dst r.val:=by simp[ah.app,cK.dF,ah.iT,ah.sets,hu]
   rw[this];exact eE
  ·rename_i c ho;obtain⟨callee,args,ts⟩:=c;simp only at hn;split at hn
   ·split at hn
    ·rename_i s x t t' eF Uc;split at hn
     ·rename_i OO;subst OO;have e1:args=#[s,x]:=by rw[←B0b (xs:=args),eF]
      have e2:ts=#[t,t]:=by rw[←B0b (xs:=ts),Uc]
      subst e1 e2;split at hn
      ·rename_i ng;exact s5 ho ng hn (hv x) h hd hm hb fun u hu=>by have:=hf (by simp[ga,ho]) u hu;exact⟨this.1,this.2.1⟩
      ·exact uM ho hn (hv s) (hv x) h hd hm hb fun u hu=>by have:=hf (by simp[ga,ho]) u hu;exact⟨this.1,this.2.1⟩
     ·cases hn
    ·cases hn
   ·cases hn
  ·cases hn
 split at hl
 ·rename_i r hr;cases hl;obtain⟨hu,eE⟩:=GS (fun x=>q5 (a:=a) h ha x) hr h hd hb;have:σ.app o.dst r.dF=σ.put o.dst r.val:=by simp[ah.app,cK.dF,ah.iT,ah.sets,hu]
  rw[this];exact eE
 split at hl
 ·rename_i r hr;cases hl;obtain⟨hu,eE⟩:=Et (fun x=>q5 (a:=a) h ha x) hr h hd hb;have:σ.app o.dst r.dF=σ.put o.dst r.val:=by simp[ah.app,cK.dF,ah.iT,ah.sets,hu]
  rw[this];exact eE
 ·obtain⟨r,hr,hl⟩:=A0b.1 hl;split at hl
  case isFalse=>cases hl
  rename_i hnH;cases hl;have hf:ga o=true→∀u,r.cm=some u→σ.obj u.1=none∧σ.aM u.1∧∀x,x∈o.op.operands→(σ.bh [] x).aM u.1=true:=fun hn u hu=>hf hn u hu (Fg (by simpa[hn] using hnH) hu);have Yj:O7 σ o r.cm:=by
   intro ob x hu;split
   ·rename_i t ho;have:=hf (by simp[ga,ho]) (ob,x) hu;exact⟨this.1,this.2.1⟩
   ·rename_i t y ho;have:=hf (by simp[ga,ho]) (ob,x) hu;exact⟨this.1,this.2.1,this.2.2 y (by rw[ho];simp[Op.operands])⟩
   ·trivial
  rcases Jc h ha hr hd hm hb Yj (fun⟨t,x,ho⟩ hu=>jj (by simp[ga,ho]) fun hh=>hu hh.1) with⟨hu,eE⟩ | ⟨ob,x,hu,eE⟩
  ·have:σ.app o.dst r.dF=σ.put o.dst r.val:=by simp[ah.app,cK.dF,ah.iT,ah.sets,hu]
   rw[this];exact eE
  ·have:σ.app o.dst r.dF=(σ.setObj ob (some x)).put o.dst r.val:=by simp[ah.app,cK.dF,ah.iT,ah.sets,hu]
   rw[this];exact eE
end
end
end
section
noncomputable section
def SV.O6 (k:Nat)(x:E)(sv:SV):SV:=
 match sv with
 | .mE o=>if o=k then .e x true else .mE o
 | sv=>sv
def SV.aiE (k:Nat)(x:E)(sv:SV):SV:=
 match sv with
 | .addr o 0=>if o=k then .e x true else .addr o 0
 | sv=>sv
def ah.O6 (k:Nat)(σ:ah):ah:=
 match σ.obj k with
 | some (.row x _)=>{ (σ.setObj k none) with tmps:=σ.tmps.map (SV.O6 k x) }
 | some (.box cs)=>(match SV.toEs cs with
  | some y=>{ (σ.setObj k none) with tmps:=σ.tmps.map (SV.aiE k (.cw y)) }
  | none=>σ)
 | _=>σ
def aY.Th (f:SV→SV):aY→aY
 | .box cs=>.box (cs.map f)
 | x=>x
def SV.afM (k:Nat)(y:E)(sv:SV):SV:=
 match sv with
 | .mE o=>if o=k then .e y true else .mE o
 | sv=>sv
def SV.afO (k:Nat)(y:E)(sv:SV):SV:=
 match sv with
 | .addr o 0=>if o=k then .e y true else .addr o 0
 | sv=>sv
def ah.Ca (σ:ah)(k:Nat)(f:SV→SV)(y:aY):ah:={ tmps:=σ.tmps.map f,mem:=(σ.mem.map (Option.map (aY.Th f))).set k none,hs:=some y }
def ah.PY (k:Nat)(σ:ah):ah:=
 match σ.obj br with
 | some (.store cf h)=>if cf.ro=true then σ else(match σ.obj k with
  | some (.row x sz)=>if 0<sz then σ.Ca k (SV.afM k (.cR h x)) (.store cf (.cE K3 sz h x)) else σ
  | some (.box cs)=>(match SV.toEs cs with
   | some y=>σ.Ca k (SV.afO k (.aJ h)) (.store cf (.fO K3 cs.length h y))
   | none=>σ)
  | _=>σ)
 | _=>σ
def rK (k:Nat)(σ:ah):ah:=if 1000000<k then σ.PY (k-1000000) else σ.O6 k
def tu:List Nat→ah→ah
 | [],σ=>σ
 | k :: ks,σ=>tu ks (rK k σ)
def xP (id:Nat)(σ:ah):ah:=
 match σ.obj br with
 | some (.store cf _)=>tu ((cf.M3.filter fun p=>p.1==id).map (·.2)) σ
 | _=>σ
section
variable {w w0:World} {X:jN} {a:Act} {σ:ah} {env:List D} {ρ:dD}
theorem Xb {o:Nat}{x:E}{sz:Nat}(h:gP w ρ env o (.row x sz)):∃d,x.eval env=some d∧bA w (ρ.S.or fun b _=>b=ρ.blk o) (ρ.val o) d∧d.one=true:=by
 obtain⟨vs,ty,es,hh,hx,hz,bV,hr,fB,hm,_⟩:=h;refine⟨_,hx,?_,rfl⟩;rw[fB];have jh:∀(i:Nat) (e:D) (j:Nat) (d:D),es[i]? = some e→e.cells[j]? = some d→∃v,vs[i*sz+j]? = some v∧bA w ρ.S v d∧d.one=true:=by intro i e j d he hd;obtain⟨h1,v,h2,h3⟩:=hr i e j d he hd;exact⟨v,h2,h3,h1⟩
 refine .bk (size:=sz) (val:=fun i j=>vs.getD (i*sz+j) undef) rfl (A0m _) hm hz (fun i e j d he hd=>(jh i e j d he hd).choose_spec.2.2) (fun i e j d he hd=>.inr rfl) (fun i e j d he hd=>?_) fun i e j d he hd=>?_
 ·obtain⟨v,h2,_⟩:=jh i e j d he hd;rw[eM hh,A0Q,h2,A0s,h2];rfl
 ·obtain⟨v,h2,h3,_⟩:=jh i e j d he hd;rw[A0s,h2];exact h3.keep (bM.refl _ _) (ρ.S.pe _)
theorem aF.aiD (h:aF w0 X w a σ env ρ){k:Nat}{z:aY}(hk:σ.obj k=some z)(hz:bN ρ k z (ρ.blk k))(fQ:z.ro=false){f:SV→SV}(hf:∀v sv,cS w { ρ with S:=ρ.S.or fun b _=>b=ρ.blk k } env v sv→cS w { ρ with S:=ρ.S.or fun b _=>b=ρ.blk k } env v (f sv))(hj:f .cz=.cz) :
  aF w0 X w a { (σ.setObj k none) with tmps:=σ.tmps.map f } env { ρ with S:=ρ.S.or fun b _=>b=ρ.blk k }:=by
 have hle:ρ.S≤ρ.S.or fun b _=>b=ρ.blk k:=ρ.S.pe _;have hm:ρ.tO { ρ with S:=ρ.S.or fun b _=>b=ρ.blk k } (fun _=>False):=⟨⟨fun _ _=>rfl,fun _ _=>rfl,hle⟩,fun _=>rfl,fun _=>rfl⟩;have JO:=h.own k _ (ρ.blk k) hk hz;refine⟨by simpa using h.size,fun t=>?_,fun o y hy=>?_,fun o o' y y' b h1 h2=>h.inj o o' y y' b (lq h1).2 (lq h2).2,fun o y b h1=>h.own o y b (lq h1).2,fun b o hs=>?_,h.os,h.tape,h.output,h.grown,h.old,Sets.le_trans h.sub hle,fun b o hs=>?_,h.yo,h.hold⟩
 ·have hv:=(h.tmps t).keep (bM.refl _ _) hm (fun _ hf=>hf.elim);have EC:ah.tmp { (σ.setObj k none) with tmps:=σ.tmps.map f } t=f (σ.tmp t):=by
   simp only[ah.gD,A0k,A0w];cases σ.tmps[t]? with
   | none=>exact hj.symm
   | some _=>rfl
  rw[EC];exact hf _ _ hv
 ·obtain⟨bQ,yp⟩:=lq hy;refine(h.cT o y yp).keep (bM.refl _ _) hm (fun hf=>hf) (fun _ hf=>hf.elim) (fun _ _=>rfl) fun b off hb hs=>?_;rcases hs with hs | hs
  ·exact hs
  ·subst hs;exact absurd (h.inj o k y _ _ yp hk hb hz) bQ
 ·rcases hs with hs | rfl
  ·exact h.cells b o hs
  ·exact JO.2
 ·rcases hs with hs | rfl
  ·exact h.new b o hs
  ·rcases JO.1 with g | g | g
   ·exact absurd g.1 (by simp[fQ])
   ·exact .inr (.inl g)
   ·exact .inr (.inr g)
theorem aF.O6 (h:aF w0 X w a σ env ρ)(k:Nat):∃ρ',aF w0 X w a (σ.O6 k) env ρ':=by
 unfold ah.O6;split
 ·rename_i x sz hk;refine⟨_,h.aiD hk rfl rfl (fun v sv hv=>?_) rfl⟩;unfold SV.O6;split
  ·rename_i o;split
   ·rename_i e;subst e;obtain⟨d,h1,h2,h3⟩:=Xb (h.cT _ _ hk);rw[hv.qM];exact .e h1 h2 fun _=>h3
   ·exact hv
  ·exact hv
 ·rename_i cs hk;split
  ·rename_i y hy;refine⟨_,h.aiD hk rfl rfl (fun v sv hv=>?_) rfl⟩;unfold SV.aiE;split
   ·rename_i o;split
    ·rename_i e;subst e;obtain⟨vs,ty,hh,bV,ho,hr,_⟩:=h.cT _ _ hk;obtain⟨ds,he,hl,hd⟩:=SV.toEs_rd (vs:=vs.toList) hy (by simpa using bV) (fun i v hv=>ho i v (by simpa using hv)) (fun i v c hv hc=>hr i v c (by simpa using hv) hc);rw[hv.j6];refine .e (d:=.ptr ds) (by simp[E.eval,he,D.cw]) ?_ fun _=>rfl;have jK:∀(j:Nat) (c:D),ds[j]? = some c→∃u,vs[j]? = some u:=fun j c hj=>⟨_,A0p (by have:=(A0c.1 hj).1;simp at hl;omega)⟩;refine .ptr (val:=fun j=>vs.getD j undef) (fun j c hj=>?_) (fun j c hj=>.inr rfl) (fun j c hj=>?_) fun j c hj=>?_
     ·obtain⟨u,hu⟩:=jK j c hj;exact(hd j u c (by simpa using hu) hj).2
     ·obtain⟨u,hu⟩:=jK j c hj;rw[eM hh,A0Q,hu,A0s,hu];rfl
     ·obtain⟨u,hu⟩:=jK j c hj;rw[A0s,hu];exact(hd j u c (by simpa using hu) hj).1.keep (bM.refl _ _) (ρ.S.pe _)
    ·exact hv
   ·exact hv
  ·exact⟨ρ,h⟩
 ·exact⟨ρ,h⟩
theorem wN {k o:Nat}{f:SV→SV}{y z:aY}(hz:(σ.Ca k f y).obj o=some z):(o=br∧z=y)∨(o≠br∧o≠k∧∃x,σ.obj o=some x∧z=x.Th f):=by
 simp only[ah.Ca,ah.ey] at hz
 by_cases ho:o=br
 ·simp only[ho,B0d,A0x] at hz;exact .inl ⟨ho,hz.symm⟩
 ·simp only[ho,B0n,A0k,A0N,B0u] at hz
  by_cases hk:k=o
  ·simp only[hk,B0d] at hz;split at hz <;> cases hz
  ·simp only[hk,B0n,A0w] at hz;refine .inr ⟨ho,B0O hk,?_⟩;simp only[ah.ey];simp only[ho,B0n,A0k];cases hm:σ.mem[o]? with
   | none=>rw[hm] at hz;cases hz
   | some x=>
    rw[hm] at hz;cases x with
    | none=>cases hz
    | some x=>
     simp only[A0y,B0l,A0x] at hz;exact⟨x,rfl,hz.symm⟩
theorem kX {ρ:dD}{o:Nat}{x:aY}{f:SV→SV}:bN ρ o (x.Th f)=bN ρ o x:=by cases x <;> rfl
theorem aF.afN (h:aF w0 X w a σ env ρ) {k:Nat} {z:aY} (hk:σ.obj k=some z) (hz:bN ρ k z (ρ.blk k)) (fQ:z.ro=false) (jP:∀off,¬ρ.S (ρ.blk k) off) {cf:cF} {x x':E} (cO:σ.obj br=some (.store cf x)) (RG:k≠br) {bs:List D} (gr:x.eval env=some (.st bs)) {n sz:Nat} {cs:List D}
  (HV:∃vs:Array Value,nI w (ρ.blk k) vs K3∧vs.size=n*sz∧cs.length≤vs.size∧(∀(j:Nat) (d:D),cs[j]? = some d→d.one=true)∧∀(j:Nat) (v:Value) (d:D),vs[j]? = some v→cs[j]? = some d→bA w ρ.S v d)
  (fm:x'.eval env=some (.st (bs++[.blk K3 sz cs]))) {f:SV→SV} (hf:∀v sv,ρ.S.n=bs.length→cS w { ρ with S:=ρ.S.more (ρ.blk k) n,az:=fun c=>ρ.az c∨c=ρ.blk k } env v sv→cS w { ρ with S:=ρ.S.more (ρ.blk k) n,az:=fun c=>ρ.az c∨c=ρ.blk k } env v (f sv)) (hj:f .cz=.cz) :
  aF w0 X w a (σ.Ca k f (.store cf x')) env { ρ with S:=ρ.S.more (ρ.blk k) n,az:=fun c=>ρ.az c∨c=ρ.blk k }:=by
 have hle:=ρ.S.ua (ρ.blk k) n;have sj:ρ.Le { ρ with S:=ρ.S.more (ρ.blk k) n,az:=fun c=>ρ.az c∨c=ρ.blk k } (fun _=>False):=⟨fun _ _=>rfl,fun _ _=>rfl,hle⟩;obtain⟨oD,Bq,hst,_⟩:=h.cT _ _ cO;rw[gr] at Bq;cases Bq;have JO:=h.own k _ (ρ.blk k) hk hz;have xH:∀b,ρ.az b→b≠ρ.blk k:=fun b hb e=>RG (h.inj k br _ _ (ρ.blk k) hk cO hz (e ▸ hb));have hblk:∀o y,o≠br→bN { ρ with S:=ρ.S.more (ρ.blk k) n,az:=fun c=>ρ.az c∨c=ρ.blk k } o y=bN ρ o y∨∃cf x,y=.store cf x:=by
  intro o y ho;cases y with
  | store cf x=>exact .inr ⟨cf,x,rfl⟩
  | _=>exact .inl rfl
 have MP:∀o y,o≠br→σ.obj o=some y→bN { ρ with S:=ρ.S.more (ρ.blk k) n,az:=fun c=>ρ.az c∨c=ρ.blk k } o y=bN ρ o y:=by
  intro o y ho hy;rcases hblk o y ho with g | ⟨cf,x,rfl⟩
  ·exact g
  ·obtain⟨_,_,_,e⟩:=h.cT o _ hy;exact absurd e ho
 have bO:∀v sv,cS w ρ env v sv→cS w { ρ with S:=ρ.S.more (ρ.blk k) n,az:=fun c=>ρ.az c∨c=ρ.blk k } env v (f sv):=fun v sv hv=>hf v sv hst.n (hv.z_ (bM.refl _ _) sj fun _ hf=>hf.elim);refine⟨by simpa[ah.Ca] using h.size,fun t=>?_,fun o y hy=>?_,fun o o' y y' b h1 h2 sk wh=>?_,fun o y b hy hb=>?_,h.cells,h.os,h.tape,h.output,h.grown,h.old,Sets.le_trans h.sub hle,h.new,h.yo,h.hold⟩
 ·have EC:(σ.Ca k f (.store cf x')).tmp t=f (σ.tmp t):=by
   simp only[ah.Ca,ah.gD,A0k,A0w];cases σ.tmps[t]? with
   | none=>exact hj.symm
   | some _=>rfl
  rw[EC];exact bO _ _ (h.tmps t)
 ·rcases wN hy with⟨rfl,rfl⟩ | ⟨ho,eE,y1,OL,rfl⟩
  ·refine⟨_,fm,qK hst (bM.refl _ _) rfl (fun i x hi hx=>⟨hi,xH _ (hst.iE hi hx),rfl⟩) (fun _=>E0J) (fun e yG vR he=>?_) (fun bU he=>by cases he) jP,rfl⟩;cases he;exact HV
  ·have:=(h.cT o y1 OL).z_ (bM.refl _ _) sj (fun e=>absurd e ho) (fun hf=>hf) (fun _ hf=>hf.elim) (fun _ _=>rfl) (fun b off _ hs=>hs);cases y1 with
   | box cs=>
    obtain⟨vs,ty,g1,g2,g3,g4,g5⟩:=this;refine⟨vs,ty,g1,by simpa using g2,g3,fun i v c hv hc=>?_,g5⟩;simp only[A0w,A0a] at hc;obtain⟨c',rY,rfl⟩:=hc;exact hf _ _ hst.n (g4 i v c' hv rY)
   | _=>exact this
 ·rcases wN h1 with⟨rfl,rfl⟩ | ⟨ho,eE,y1,OL,rfl⟩ <;> rcases wN h2 with⟨rfl,rfl⟩ | ⟨C7,Us,y2,hy2,rfl⟩
  ·rfl
  ·rw[kX,MP o' y2 C7 hy2] at wh;rcases sk with sk | rfl
   ·exact h.inj br o' _ _ b cO hy2 sk wh
   ·exact absurd (h.inj o' k _ _ _ hy2 hk wh hz) Us
  ·rw[kX,MP o y1 ho OL] at sk;rcases wh with wh | rfl
   ·exact h.inj o br _ _ b OL cO sk wh
   ·exact absurd (h.inj o k _ _ _ OL hk sk hz) eE
  ·rw[kX,MP o y1 ho OL] at sk;rw[kX,MP o' y2 C7 hy2] at wh;exact h.inj o o' _ _ b OL hy2 sk wh
 ·rcases wN hy with⟨rfl,rfl⟩ | ⟨ho,eE,y1,OL,rfl⟩
  ·rcases hb with hb | rfl
   ·have:=h.own br (.store cf x) b cO hb;exact this
   ·refine⟨.inr (JO.1.resolve_left ?_),JO.2⟩
    rintro⟨e,_⟩
    rw[fQ] at e;cases e
  ·rw[kX,MP o y1 ho OL] at hb;have:=h.own o y1 b OL hb;refine⟨?_,this.2⟩;cases y1 <;> exact this.1
theorem aF.PY (h:aF w0 X w a σ env ρ)(k:Nat):∃ρ',aF w0 X w a (σ.PY k) env ρ':=by
 unfold ah.PY;split
 ·rename_i cf hx cO;split
  ·exact⟨ρ,h⟩
  obtain⟨bs,gr,hst,_⟩:=h.cT _ _ cO;split
  ·rename_i x sz hk;split
   ·rename_i bV;have RG:k≠br:=fun e=>by rw[e,cO] at hk;cases hk
    obtain⟨vs,ty,es,hh,Fw,hz,C2,hr,fB,hm,jP⟩:=h.cT _ _ hk;have pS:j8 w ρ.S sz vs.toList es:=⟨by simpa using C2,hz,fun i e j d he hd=>by
     obtain⟨g1,v,g2,g3⟩:=hr i e j d he hd;exact⟨g1,v,by simpa using g2,g3⟩⟩
    obtain⟨ji,fG,hfr⟩:=pS.flat bV;have cV:(cH es).all (·.one)=true:=A0C.2 fun d hd=>by obtain⟨j,hj⟩:=B0Q hd;have pT:=(A0c.1 hj).1;exact(hfr j vs.toList[j] d (by rw[A0e (by rw[←fG];exact pT)]) hj).2
    refine⟨_,h.afN (n:=es.length) (cs:=cH es) hk rfl rfl jP cO RG gr ⟨vs,⟨ty,hh,.inl rfl⟩,C2,by rw[fG];simp,fun j d hj=>A0C.1 cV d (A0I hj),fun j v d hv hd=>(hfr j v d (by simpa using hv) hd).1⟩ (by simp only[E.eval,gr,Fw,A0d,D.cE];rw[A0z ⟨ji,cV⟩]) (fun v sv hn hv=>?_) rfl⟩;unfold SV.afM;split
    ·rename_i o;split
     ·rename_i e;subst e;rw[hv.qM];refine .e (d:=.sl bs.length 0 es.length) (by simp only[E.eval,gr,Fw];rfl) ?_ fun _=>rfl;show bA w _ (ρ.val o) _;rw[fB];have:=bA.sl (w:=w) (S:=ρ.S.more (ρ.blk o) es.length) (i:=bs.length) (off:=0) (len:=es.length) (c:=es.length) (by simp[Sets.more,hn]) (A0m _) hm (fun _=>by simp[Sets.more,hn]);have hl:(ρ.S.more (ρ.blk o) es.length).loc bs.length=ρ.blk o:=by simp[Sets.more,hn]
      rwa [hl] at this
     ·exact hv
    ·exact hv
   ·exact⟨ρ,h⟩
  ·rename_i cs hk;split
   ·rename_i y hy;have RG:k≠br:=fun e=>by rw[e,cO] at hk;cases hk
    obtain⟨vs,ty,hh,bV,ho,hr,jP⟩:=h.cT _ _ hk;obtain⟨ds,he,hl,hd⟩:=SV.toEs_rd (vs:=vs.toList) hy (by simpa using bV) (fun i v hv=>ho i v (by simpa using hv)) (fun i v c hv hc=>hr i v c (by simpa using hv) hc);have iH:ds.length=vs.size:=by simpa using hl.symm
    have cV:ds.all (·.one)=true:=A0C.2 fun d Dg=>by obtain⟨j,hj⟩:=B0Q Dg;have pT:=(A0c.1 hj).1;exact(hd j vs.toList[j] d (by rw[A0e (by simp;omega)]) hj).2
    refine⟨_,h.afN (n:=1) (cs:=ds) hk rfl rfl jP cO RG gr ⟨vs,⟨ty,hh,.inl rfl⟩,by rw[bV,C0S],by omega,fun j d hj=>A0C.1 cV d (A0I hj),fun j v d hv Ei=>(hd j v d (by simpa using hv) Ei).1⟩ (by simp only[E.eval,gr,he,A0d,D.fO];rw[A0z cV]) (fun v sv hn hv=>?_) rfl⟩;unfold SV.afO;split
    ·rename_i o;split
     ·rename_i e;subst e;rw[hv.j6];refine .e (d:=.loc bs.length 0) (by simp only[E.eval,gr];rfl) ?_ fun _=>rfl;have:=bA.loc (w:=w) (S:=ρ.S.more (ρ.blk o) 1) (i:=bs.length) (off:=0) (by simp[Sets.more,hn]);have hl:(ρ.S.more (ρ.blk o) 1).loc bs.length=ρ.blk o:=by simp[Sets.more,hn]
      rwa [hl] at this
     ·exact hv
    ·exact hv
   ·exact⟨ρ,h⟩
  ·exact⟨ρ,h⟩
 ·exact⟨ρ,h⟩
theorem aF.rK (h:aF w0 X w a σ env ρ)(k:Nat):∃ρ',aF w0 X w a (rK k σ) env ρ':=by
 unfold Go.Am.rK;split
 ·exact h.PY _
 ·exact h.O6 k
theorem aF.tu:∀(ks:List Nat) {σ:ah} {ρ:dD},aF w0 X w a σ env ρ→∃ρ',aF w0 X w a (tu ks σ) env ρ'
 | [],_,ρ,h=>⟨ρ,h⟩
 | k :: ks,_,_,h=>by obtain⟨_,h'⟩:=h.rK k;exact aF.tu ks h'
theorem aF.xP (h:aF w0 X w a σ env ρ)(id:Nat):∃ρ',aF w0 X w a (xP id σ) env ρ':=by
 unfold Go.Am.xP;split
 ·exact h.tu _
 ·exact⟨ρ,h⟩
theorem YD (k:Nat)(σ:ah):(σ.O6 k).tmps.length=σ.tmps.length∧(σ.O6 k).mem.length=σ.mem.length:=by
 unfold ah.O6;split
 ·refine⟨by simp,?_⟩;show(σ.setObj k none).mem.length=_;exact ah.fE _ _ _
 ·split
  ·refine⟨by simp,?_⟩;show(σ.setObj k none).mem.length=_;exact ah.fE _ _ _
  ·exact⟨rfl,rfl⟩
 ·exact⟨rfl,rfl⟩
theorem IP (k:Nat)(f:SV→SV)(y:aY)(σ:ah):(σ.Ca k f y).tmps.length=σ.tmps.length∧(σ.Ca k f y).mem.length=σ.mem.length:=by simp[ah.Ca]
theorem M4 (k:Nat)(σ:ah):(rK k σ).tmps.length=σ.tmps.length∧(rK k σ).mem.length=σ.mem.length:=by
 unfold rK;split
 ·unfold ah.PY;split
  ·split
   ·exact⟨rfl,rfl⟩
   split
   ·split
    ·exact IP _ _ _ _
    ·exact⟨rfl,rfl⟩
   ·split
    ·exact IP _ _ _ _
    ·exact⟨rfl,rfl⟩
   ·exact⟨rfl,rfl⟩
  ·exact⟨rfl,rfl⟩
 ·exact YD k σ
theorem Dq:∀(ks:List Nat) (σ:ah),(tu ks σ).tmps.length=σ.tmps.length∧(tu ks σ).mem.length=σ.mem.length
 | [],_=>⟨rfl,rfl⟩
 | k :: ks,σ=>by have h1:=Dq ks (rK k σ);have h2:=M4 k σ;exact⟨h1.1.trans h2.1,h1.2.trans h2.2⟩
theorem QN (id:Nat)(σ:ah):(xP id σ).tmps.length=σ.tmps.length∧(xP id σ).mem.length=σ.mem.length:=by
 unfold xP;split
 ·exact Dq _ _
 ·exact⟨rfl,rfl⟩
end
end
end
section
noncomputable section
def FY (act:List (E×Bool))(ix:Nat)(e:jg):SV×Option Bind:=
 match act,e.bind,e.val with
 | _ :: _,none,.e x s=>if isAtom ix x then(e.val,none) else(.e (.sym ix) s,some (.ev x))
 | _,b,v=>(v,b)
def Bm (o:Oper):Bool:=match o.op with | .call c=>(match c.callee with | .value _=>true | _=>false) | _=>false
def Tq (o:Oper)(cf:Option cF):Bool:=match o.op with | .call c=>Bj cf c.callee | _=>false
def l7 (o:Oper)(hO:Option aY)(ix:Nat)(e:jg):Bool:=
 !Tq o (uq hO)&&(Bm o&&e.del.isNone&&match hO,e.cm with
  | some (.store cf h),some (k,.store zF (.av 1 (.sym j)))=>!cf.ro&&decide (k=br)&&decide (cf=zF)&&decide (j=ix)&&(match e.bind with
   | some (.bw [] _ h' _ _)=>h'.same h
   | some (.dG [] _ h' _ _)=>h'.same h
   | _=>false)
  | _,_=>false)
def MZ (P:Program)(o:Oper)(σ:ah)(act:List (E×Bool))(ix:Nat):Option jg:=
 match act with
 | []=>none
 | act=>match o.op with
  | .call c=>(match c.callee with
   | .builtin .append=>(match CF false P o (σ.bh act) σ.obj ix with
    | some e=>(match e.cm with
     | some (d,.tok _ _)=>if d≠br∧o.dst=some d then some ⟨.cond act e.val,e.cm,e.del,qq act e.bind⟩ else none
     | _=>none)
    | none=>none)
   | _=>none)
  | _=>none
def lN (P:Program)(ops:Array Oper)(o:Oper)(σ:ah)(ix:Nat):Option jg:=
 match AH ops σ ix o.guard with
 | none=>none
 | some act=>match MZ P o σ act ix with
  | some e=>some e
  | none=>match tG P o σ.bh act σ.obj ix with
  | none=>none
  | some e=>if e.cm.isNone&&e.del.isNone then some ⟨RY act (FY act ix e).1,none,none,qq act (FY act ix e).2⟩ else match act with
   | []=>if yM o σ e then some e else none
   | act=>if l7 o (σ.obj br) ix e then some ⟨.cond act e.val,e.cm,none,qq act e.bind⟩ else none
def nr (σ:ah)(ob:Nat):Prop:=(σ.obj ob).isNone=true∧σ.jF ob=true
def qt (σ:ah)(o:Oper)(e:jg):Bool:=!ga o||match e.cm with | some u=>decide (u.1=br)||((σ.obj u.1).isNone&&σ.jF u.1) | none=>true
def mr (P:Program)(ops:Array Oper)(o:Oper)(σ:ah)(ix:Nat):Option (ah×Option Bind):=
 match lN P ops o σ ix with
 | some e=>if pF σ o&&qt σ o e then some (σ.app o.dst e,e.bind) else none
 | none=>none
theorem uG {P:Program}{ops:Array Oper}{o:Oper}{σ:ah}{ix:Nat}{e:jg}(h:lN P ops o σ ix=some e)(hd:pF σ o=true)(hf:ga o=true→∀u,e.cm=some u→u.1=br∨nr σ u.1) :
  mr P ops o σ ix=some (σ.app o.dst e,e.bind):=by
 have:qt σ o e=true:=by
  unfold qt;cases hn:ga o with
  | false=>rfl
  | true=>
   cases hu:e.cm with
   | none=>rfl
   | some u=>
    rcases hf hn u hu with h1 | h1
    ·simp[h1]
    ·simp[h1.1,h1.2]
 unfold mr;rw[h];simp[hd,this]
section
variable {P:Program} {w w0:World} {X:jN} {a:Act} {σ:ah} {env:List D} {ρ:dD}
theorem V7 {act:List (E×Bool)}{ix:Nat}{e:jg}(h:bD P env ix (FY act ix e).2):bD P env ix e.bind∧∀(w:World) (ρ:dD) (v:Value),cS w ρ env v e.val→cS w ρ env v (FY act ix e).1:=by
 unfold FY at h ⊢;split at h
 ·rename_i hb hv;split at h
  ·rename_i lE;rw[A0z lE];exact⟨by rw[hb];trivial,fun _ _ _ h=>h⟩
  ·rename_i lE;rw[A0B lE];refine⟨by rw[hb];trivial,fun w ρ v hs=>?_⟩;rw[hv] at hs;obtain⟨d,hx,cA⟩:=h;obtain⟨d',fm,hr,h1⟩:=hs.jL;rw[hx] at fm;cases fm;exact .e (by simp only[E.eval];exact cA) hr h1
 ·exact⟨h,fun _ _ _ h=>h⟩
theorem MY {o:Oper}{act:List (E×Bool)}{ix:Nat}{e:jg}(h:aF w0 X w a σ env ρ)(hm:σ.mem.length=σ.tmps.length)(hd:∀d,o.dst=some d→d<σ.tmps.length)(hg:MZ P o σ act ix=some e)(hf:qt σ o e=true)(hb:bD P env ix e.bind)(pV:∀p,p∈act→∃d,p.1.eval env=some d) :
  (bq env act→ea P o a w w0 X (σ.app o.dst e) env)∧(¬bq env act→∃ρ',aF w0 X w (a.put o.dst undef) (σ.app o.dst e) env ρ'):=by
 unfold MZ at hg;split at hg
 ·cases hg
 rename_i jj;split at hg
 ·rename_i c ho;split at hg
  ·rename_i jY;split at hg
   ·rename_i e0 hl;split at hg
    ·rename_i d ty sz abO;split at hg
     ·rename_i hc;obtain⟨bQ,gB⟩:=hc;cases hg;have fR:=hd d gB;have kP:ga o=true:=by simp[ga,ho,jY]
      simp only[qt,kP,abO,D0N,D0r,B0v,A0t,A0f,B0i] at hf;obtain⟨iI,mU⟩:=hf.resolve_left bQ;have mU:=x9 mU;refine⟨fun ha=>?_,fun ha=>?_⟩
      ·have hv:=fun x=>q5 (a:=a) h ha x;have pU:∀u,e0.cm=some u→σ.obj u.1=none∧σ.aM u.1:=fun u hu=>by rw[abO] at hu;cases hu;exact⟨iI,mU⟩
       have Bq:=rH ha hb;have eE:ea P o a w w0 X (σ.app o.dst e0) env:=by
        unfold CF at hl;rw[ho] at hl;obtain⟨callee,args,ts⟩:=c;simp only at jY;subst jY;simp only at hl;split at hl
        ·rename_i s x t t' eF Uc;split at hl
         ·rename_i OO;subst OO;have e1:args=#[s,x]:=by rw[←B0b (xs:=args),eF]
          have e2:ts=#[t,t]:=by rw[←B0b (xs:=ts),Uc]
          subst e1 e2;split at hl
          ·rename_i ng;exact s5 ho ng hl (hv x) h hd hm Bq pU
          ·exact uM ho hl (hv s) (hv x) h hd hm Bq pU
         ·cases hl
        ·cases hl
       intro Q;refine yy (eE Q) ?_
       rintro a' w' ⟨ρ',bg⟩
       refine⟨ρ',?_⟩;unfold ah.app at bg ⊢;rw[gB] at bg ⊢;simp only at bg ⊢;generalize hσ:(σ.iT e0.del).sets e0.cm=σ1 at bg ⊢;have WC:d<σ1.tmps.length:=by rw[←hσ];unfold ah.iT ah.sets;cases e0.del <;> cases e0.cm <;> simpa[ah.aP] using fR
       refine⟨by simpa[ah.ff] using bg.size,fun t=>?_,bg.cT,bg.inj,bg.own,bg.cells,bg.os,bg.tape,bg.output,bg.grown,bg.old,bg.sub,bg.new,bg.yo,bg.hold⟩;have:=bg.tmps t;rw[ah.wz WC] at this ⊢;split
       ·rename_i e;rw[A0z e] at this;exact .cond pV (fun _=>this) fun hn=>absurd ha hn
       ·rename_i e;rw[A0B e] at this;exact this
      ·have zi:aF w0 X w a (σ.iT e0.del) env ρ∧(σ.iT e0.del).obj d=none∧(σ.iT e0.del).aM d∧(σ.iT e0.del).tmps.length=σ.tmps.length∧(σ.iT e0.del).mem.length=σ.mem.length:=by
        cases e0.del with
        | none=>exact⟨h,iI,mU,rfl,rfl⟩
        | some k=>
         refine⟨h.VF k,?_,u6 mU,by rw[ah.iT,ah.aP],by rw[ah.iT,ah.fE]⟩;cases hx:(σ.setObj k none).obj d with
         | none=>exact hx
         | some y=>
          have:=(lq hx).2;rw[iI] at this;cases this
       obtain⟨d1,d2,d3,d4,d5⟩:=zi;have bg:=d1.D6 (w':=w) (k:=d) (by rw[d5,hm];exact fR) d2 d3 (C0O w 0 ty sz) (bM.refl _ _) (fun _ _ _ _ _=>⟨rfl,by simp[Value.ownBlock]⟩) (fun _ hb=>by simp[Value.ownBlock] at hb) (fun _ hb=>by simp[Value.ownBlock] at hb) rfl ⟨rfl,A0m _⟩ rfl (A0m _) fun _ _ _=>rfl;refine⟨ρ.j9 d (.slice none 0 0) (0*sz),?_⟩;unfold ah.app;rw[abO];exact bg.put (by intro d' e;rw[ah.aP,d4];exact hd d' e) (.cond pV (fun hh=>absurd hh ha) fun _=>rfl)
     ·cases hg
    ·cases hg
   ·cases hg
  ·cases hg
 ·cases hg
theorem zR {ops:Array Oper} {o:Oper} {ix:Nat} {σ':ah} {b:Option Bind} (h:aF w0 X w a σ env ρ) (hm:σ.mem.length=σ.tmps.length) (cA:ix≤env.length) (bV:∀(j d:Nat),(ops[j]?).bind (fun(o:Oper)=>o.dst)=some d→d<σ.tmps.length)
  (hs:mr P ops o σ ix=some (σ',b)) (hb:bD P env ix b):(Region.wanted o (yielded ops a.tmps)=true∧ea P o a w w0 X σ' env)∨(Region.wanted o (yielded ops a.tmps)=false∧∃ρ',aF w0 X w (a.put o.dst undef) σ' env ρ'):=by
 unfold mr at hs;split at hs
 ·rename_i e he;split at hs
  ·rename_i hc;simp only[A0f] at hc;cases hs;have hd:=vO hc.1;unfold lN at he;split at he
   ·cases he
   ·rename_i act jj;obtain⟨pV,xy⟩:=Lw h cA bV jj;split at he
    ·rename_i eg hg;cases he;obtain⟨k1,k2⟩:=MY h hm hd hg hc.2 hb pV
     by_cases ha:bq env act
     ·exact .inl ⟨xy.2 ha,k1 ha⟩
     ·exact .inr ⟨by rw[←A0P,xy];exact ha,k2 ha⟩
    split at he
    ·cases he
    ·rename_i e0 hl;split at he
     ·rename_i hn;simp only[A0f,B0i] at hn;cases he;have vK:∀sv,σ.app o.dst ⟨sv,none,none,qq act (FY act ix e0).2⟩=σ.put o.dst sv:=fun _=>rfl;rw[vK]
      by_cases ha:bq env act
      ·refine .inl ⟨xy.2 ha,?_⟩;obtain⟨Lo,ail⟩:=V7 (rH ha hb);have eE:=tF h ha hl hd hm Lo (by simp[zn,hn.1]) (fun _=>by simp[hn.1,hn.2]);have U3:σ.app o.dst e0=σ.put o.dst e0.val:=by simp[ah.app,ah.iT,ah.sets,hn.1,hn.2]
       rw[U3] at eE;intro Q;refine yy (eE Q) ?_
       rintro a' w' ⟨ρ',bg⟩
       refine⟨ρ',?_⟩;cases H7:o.dst with
       | none=>rw[H7] at bg;exact bg
       | some d=>
        rw[H7] at bg;have fR:=hd d H7;refine⟨by simpa[ah.ff] using bg.size,fun t=>?_,bg.cT,bg.inj,bg.own,bg.cells,bg.os,bg.tape,bg.output,bg.grown,bg.old,bg.sub,bg.new,bg.yo,bg.hold⟩;have:=bg.tmps t;rw[ah.wz fR] at this ⊢;split
        ·rename_i e;rw[A0z e] at this;exact WN pV ha (ail _ _ _ this)
        ·rename_i e;rw[A0B e] at this;exact this
      ·refine .inr ⟨by rw[←A0P,xy];exact ha,ρ,h.put hd ?_⟩;cases act with
       | nil=>exact absurd nG ha
       | cons p r=>exact .cond pV (fun hh=>absurd hh ha) fun _=>rfl
     ·split at he
      ·split at he
       ·rename_i Ui;cases he;have ha:bq env []:=nG;refine .inl ⟨xy.2 ha,tF h ha hl hd hm hb ?_ fun _ _=>rfl⟩;intro kP u hu bQ;have hf:=hc.2;simp only[qt,kP,hu,D0N,D0r,B0v,A0t,A0f,B0i] at hf;have hf:=hf.resolve_left bQ;exact⟨hf.1,x9 hf.2,IB Ui kP hu bQ⟩
       ·cases he
      ·rename_i bQ;split at he
       ·rename_i RK;cases he;unfold l7 at RK;simp only[A0f] at RK;obtain⟨_,⟨Ej,zi⟩,RK⟩:=RK;split at RK
        ·rename_i cf hE k zF j cO ON;simp only[A0f,B0j,A0t] at RK;obtain⟨⟨⟨⟨fQ,rfl⟩,rfl⟩,rfl⟩,hbm⟩:=RK;have zi:e0.del=none:=by simpa using zi
         have vK:∀sv b,σ.app o.dst ⟨sv,e0.cm,none,b⟩=(σ.setObj br (some (.store cf (.av 1 (.sym j))))).put o.dst sv:=fun sv b=>by simp[ah.app,ah.iT,ah.sets,ON]
         rw[vK];have kP:ga o=false:=by
          unfold Bm at Ej;unfold ga;split at Ej
          ·rename_i c oI;rw[oI];split at Ej
           ·rename_i g hc;simp[hc]
           ·cases Ej
          ·cases Ej
         by_cases ha:bq env act
         ·refine .inl ⟨xy.2 ha,?_⟩;have eE:=tF h ha hl hd hm (rH ha hb) (by simp[zn,kP]) (fun hn=>by rw[kP] at hn;cases hn);have U3:σ.app o.dst e0=(σ.setObj br (some (.store cf (.av 1 (.sym j))))).put o.dst e0.val:=by rw[←vK e0.val e0.bind,←zi]
          rw[U3] at eE;intro Q;refine yy (eE Q) ?_
          rintro a' w' ⟨ρ',bg⟩
          refine⟨ρ',?_⟩;cases H7:o.dst with
          | none=>rw[H7] at bg;exact bg
          | some d=>
           rw[H7] at bg;have fR:d<(σ.setObj br (some (.store cf (.av 1 (.sym j))))).tmps.length:=by rw[ah.aP];exact hd d H7
           refine⟨by simpa[ah.ff] using bg.size,fun t=>?_,bg.cT,bg.inj,bg.own,bg.cells,bg.os,bg.tape,bg.output,bg.grown,bg.old,bg.sub,bg.new,bg.yo,bg.hold⟩;have:=bg.tmps t;rw[ah.wz fR] at this ⊢;split
           ·rename_i e;rw[A0z e] at this;exact .cond pV (fun _=>this) fun hn=>absurd ha hn
           ·rename_i e;rw[A0B e] at this;exact this
         ·refine .inr ⟨by rw[←A0P,xy];exact ha,?_⟩;obtain⟨bs,gr,hst,_⟩:=h.cT _ _ cO;have hna:¬bq env (act++[]):=by rw[B0F];exact ha
          have cA:(E.av 1 (.sym j)).eval env=some (.st bs):=by
           split at hbm
           ·rename_i g h' args rs acJ;rw[acJ] at hb;obtain⟨st,d,h2,g0,g1,_,g3⟩:=hb;have:=E.cL hbm;subst this;rw[gr] at g0;cases g0;simp only[E.eval,g1,A0d,D.av,g3 hna];rfl
           ·rename_i x h' args rs acJ;rw[acJ] at hb;obtain⟨st,d,h2,g0,g1,_,g3⟩:=hb;have:=E.cL hbm;subst this;rw[gr] at g0;cases g0;simp only[E.eval,g1,A0d,D.av,g3 hna];rfl
           ·cases hbm
          have bg:=h.gJ (x':=.av 1 (.sym j)) cO fQ cA hst (bM.refl _ _) (Sets.le_refl _) rfl ⟨rfl,A0m _⟩ rfl (A0m _) (fun _ _ _=>rfl) (fun b hb=>⟨.inl hb,gj h cO b hb⟩) (fun b o hs=>.inl hs) h.cells;exact⟨_,bg.put (by rw[ah.aP];exact hd) (.cond pV (fun hh=>absurd hh ha) fun _=>rfl)⟩
        ·cases RK
       ·cases he
  ·cases hs
 ·cases hs
theorem zS {ops:Array Oper}{o:Oper}{ix:Nat}{x:ah×Option Bind}(hs:mr P ops o σ ix=some x):tV o=true:=by
 unfold mr at hs;split at hs
 ·split at hs
  ·rename_i hc;simp only[A0f] at hc;exact tH hc.1
  ·cases hs
 ·cases hs
theorem HP (σ:ah)(dst:Option Tmp)(e:jg):(σ.app dst e).tmps.length=σ.tmps.length∧(σ.app dst e).mem.length=σ.mem.length:=by unfold ah.app ah.iT ah.sets;cases e.del <;> cases e.cm <;> cases dst <;> simp[ah.ff,ah.aP,ah.fE]
theorem PN {ops:Array Oper}{o:Oper}{ix:Nat}{σ':ah}{b:Option Bind}(hs:mr P ops o σ ix=some (σ',b)):σ'.tmps.length=σ.tmps.length∧σ'.mem.length=σ.mem.length:=by
 unfold mr at hs;split at hs
 ·split at hs
  ·cases hs;exact HP _ _ _
  ·cases hs
 ·cases hs
def uz (P:Program)(env:List D)(ix:Nat)(bs:List Bind):Prop:=∀i b,bs[i]? = some b→bD P env (ix+i) (some b)
end
end
end
end Go.Am
