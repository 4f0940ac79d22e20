/-
 Maps of the store.
-/
import Derived.Test.YtcofohnmkmknbaaGreatDoorAmPuretoAmClo
import Derived.MapKept
import Derived.Maps.RangeRun
set_option linter.unusedSimpArgs false
set_option linter.unusedVariables false
namespace Go.Am
noncomputable section
open Go.MapKept (bytes_beq run_findKey heap_set)

def wL (P:Program)(t:TypeId):Option Kd:=
 match kindOf P t with
 | some .int=>some .int
 | some .str=>some .str
 | some (.agg ks)=>some (.agg ks)
 | _=>none

def uH (P:Program)(t:TypeId):Option (TypeId×TypeId×Kd):=
 match P.underlying t with
 | some (.map k e)=>(wL P k).map fun kd=>(k,e,kd)
 | _=>none

def qv (P:Program)(o:Oper)(ct:Operand→SV)(hO:Option bl)(ix:Nat):Option eV:=
 match hO with
 | some (.store cf h)=>
  match o.op with
  | .makeMap _ none=>if cf.ro then none else some { val:=.e (.m4 .abR h .nil .nil .nil) true,eM:=some (bN,.store cf (.sym ix)),bind:=some (.ev (.m4 .aaA h .nil .nil .nil)) }
  | .mapUpdate t m k x | .insert t m k x=>if cf.ro then none else(match uH P t,(ct m).jx,(ct k).jx,(ct x).jx with
   | some (_,_,kd),some m',some k',some x'=>some { val:=.cE,eM:=some (bN,.store cf (.sym ix)),bind:=some (.ev (.m4 (.put kd) h m' k' x')) }
   | _,_,_,_=>none)
  | .lookup t m k ok=>(match uH P t,(ct m).jx,(ct k).jx with
   | some (_,e,kd),some m',some k'=>(match((P.info? e).bind (·.zero)).bind D.wI,lN P e with
    | some z,some agg=>if ok then some { val:=.bh [.e (.Qrx 0 (.sym ix)) false,.e (.Qrx 1 (.sym ix)) true],bind:=some (.ev (.m4 (.VO kd) h m' k' (.const z))) }
      else some { val:=.e (.sym ix) (!agg),bind:=some (.ev (.m4 (.get kd agg) h m' k' (.const z))) }
    | _,_=>none)
   | _,_,_=>none)
  | .range t m=>if cf.ro then none else(match uH P t,(ct m).jx with
   | some _,some m'=>some { val:=.e (.aU h) true,eM:=some (bN,.store cf (.sym ix)),bind:=some (.ev (.m4 .rng h m' .nil .nil)) }
   | _,_=>none)
  | .mapEntry t m k=>if cf.ro then none else(match uH P t,(ct m).jx,(ct k).jx with
   | some (_,e,kd),some m',some k'=>(((P.info? e).bind (·.zero)).bind D.wI).map fun z=>
     { val:=.bh [.e (.Qrx 0 (.m4 (.V2 kd) h m' k' (.const z))) false,.e (.Qrx 1 (.m4 (.V2 kd) h m' k' (.const z))) true],eM:=some (bN,.store cf (.sym ix)),bind:=some (.ev (.m4 (.ab0 kd) h m' k' (.const z))) }
   | _,_,_=>none)
  | .entryStore _ m s x=>if cf.ro then none else(match(ct m).jx,(ct s).jx,(ct x).jx with
   | some m',some s',some x'=>some { val:=.cE,eM:=some (bN,.store cf (.sym ix)),bind:=some (.ev (.m4 .om h m' s' x')) }
   | _,_,_=>none)
  | .entry it=>(ct it).jx.map fun p=>{ val:=.bh [.e (.Qrx 0 (.sym ix)) false,.e (.Qrx 1 (.sym ix)) false],bind:=some (.ev (.m4 .entry h p .nil .nil)) }
  | .call c=>(match c.callee with
   | .builtin .len=>(match c.args.toList,c.argTypes.toList with
    | [x],[t]=>if cf.maps.contains t then(match uH P t,(ct x).jx with
     | some _,some m'=>some { val:=.e (.sym ix) true,bind:=some (.ev (.m4 .aaC h m' .nil .nil)) }
     | _,_=>none) else none
    | _,_=>none)
   | .builtin .delete=>if cf.ro then none else(match c.args.toList,c.argTypes.toList with
    | [x,k],t :: _=>(match uH P t,(ct x).jx,(ct k).jx with
     | some (_,_,kd),some m',some k'=>some { val:=.cE,eM:=some (bN,.store cf (.sym ix)),bind:=some (.ev (.m4 (.del kd) h m' k' .nil)) }
     | _,_,_=>none)
    | _,_=>none)
   | _=>none)
  | _=>none
 | _=>none

def Qmk (P:Program)(o:Oper)(ct:Operand→SV)(hO:Option bl)(ix:Nat):Option eV:=
 match hO with
 | some (.store cf h)=>if cf.ro=true then none else(match o.op with
  | .range t m=>(match P.underlying t,(ct m).jx with
   | some .string,some m'=>some { val:=.e (.aU h) true,eM:=some (bN,.store cf (.sym ix)),bind:=some (.ev (.m4 .anH h m' .nil .nil)) }
   | _,_=>none)
  | .next it true=>(ct it).jx.map fun p=>{ val:=.e (.m4 .snv h p .nil .nil) false,eM:=some (bN,.store cf (.sym ix)),bind:=some (.ev (.m4 .snh h p .nil .nil)) }
  | _=>none)
 | _=>none

def lmap (P:Program)(o:Oper)(ct:Operand→SV)(obj:Nat→Option bl)(ix:Nat):Option eV:=
 if YZ o=true then(match qv P o ct (obj bN) ix with
  | some r=>some r
  | none=>(match Qmk P o ct (obj bN) ix with
   | some r=>some r
   | none=>(match Qkw P o ct (obj bN) ix with
    | some r=>some r
    | none=>Qqj P o ct (obj bN) ix))) else none

section
variable {P:Program} {w w0:World} {X:kG} {a:Act} {σ:af} {env:List D} {ρ:dJ}

theorem BT {cs:Array Value}{n:Nat}{em:Bool}(hn:0<n):∀(fs:List Field) (i:Nat) (ks:List Nat),gP P i fs=some ks→i+ks.length=cs.size →
  (forIn fs PUnit.unit (fun (f : Field) (_ : PUnit) => (if f.name ≠ "_" then do
   let x ←part f.type cs f.offset
   Instr.checkKey em n f.type x
   pure (ForInStep.yield PUnit.unit)
   else pure (ForInStep.yield PUnit.unit):Sem (ForInStep PUnit)))).run P w=.ok PUnit.unit w
 | [],i,ks,hf,hl=>by simp
 | f :: fs,i,ks,hf,hl=>by
  obtain⟨m,rfl⟩:∃m,n=m+1:=⟨n-1,by omega⟩
  simp only[gP] at hf
  split at hf
  ·rename_i hc
   obtain⟨hoff,hname⟩:=hc
   have key:∀{ks':List Nat} {k:TypeDesc},gP P (i+1) fs=some ks'→ks.length=ks'.length+1→P.underlying f.type=some k→lN P f.type=some false→(∀v:Value,(Instr.checkKey em (m+1) f.type v).run P w=.ok () w) →
     (forIn (f :: fs) PUnit.unit (fun (f : Field) (_ : PUnit) => (if f.name ≠ "_" then do
      let x ←part f.type cs f.offset
      Instr.checkKey em (m+1) f.type x
      pure (ForInStep.yield PUnit.unit)
      else pure (ForInStep.yield PUnit.unit):Sem (ForInStep PUnit)))).run P w=.ok PUnit.unit w:=by
    intro ks' k hks k9 hu ic Td
    have mU:i<cs.size:=by omega
    have hp:(part f.type cs f.offset).run P w=.ok cs[i] w:=sJ ic (by rw[hoff];simp[mU])
    have ih:=BT (cs:=cs) (em:=em) (Nat.succ_pos m) fs (i+1) ks' hks (by omega)
    simp only[List.forIn_cons,Sem.run_bind,hname,ne_eq,not_false_eq_true,if_true,Result.andThen_ok,hp,Td,Sem.run_pure]
    exact ih
   split at hf
   ·rename_i q hu
    obtain⟨ks',hks,rfl⟩:=Option.map_eq_some_iff.1 hf
    exact key hks rfl hu (by unfold lN;rw[hu];rfl) fun v=>by
     unfold Instr.checkKey
     simp[run_underlying hu,Result.andThen]
   ·rename_i hu
    obtain⟨ks',hks,rfl⟩:=Option.map_eq_some_iff.1 hf
    exact key hks rfl hu (by unfold lN;rw[hu];rfl) fun v=>by
     unfold Instr.checkKey
     simp[run_underlying hu,Result.andThen]
   ·rename_i hu
    obtain⟨ks',hks,rfl⟩:=Option.map_eq_some_iff.1 hf
    exact key hks rfl hu (by unfold lN;rw[hu];rfl) fun v=>by
     unfold Instr.checkKey
     simp[run_underlying hu,Result.andThen]
   ·cases hf
  ·cases hf

theorem nA {t:TypeId}{kd:Kd}(h:wL P t=some kd):kindOf P t=some kd∧(kd=.int∨kd=.str∨∃ks,kd=.agg ks):=by
 unfold wL at h
 split at h <;> cases h <;> exact⟨by assumption,by simp⟩

theorem xy {t:TypeId}{ks:List Nat}(h:kindOf P t=some (.agg ks)):∃fs:Array Field,P.underlying t=some (.struct fs)∧P.stoodInHeld t=false∧gP P 0 fs.toList=some ks:=by
 unfold kindOf at h
 split at h <;> simp at h
 rename_i fs hu
 unfold tf at h
 rw[hu] at h
 simp only at h
 split at h
 ·rename_i hc
  exact⟨fs,hu,hc.1,h⟩
 ·cases h

theorem xx {t:TypeId}(h:kindOf P t=some .int):∃q,P.underlying t=some (.int q):=by
 unfold kindOf at h
 split at h <;> simp at h
 exact⟨_,by assumption⟩

theorem xw {t:TypeId}(h:kindOf P t=some .str):P.underlying t=some .string:=by
 unfold kindOf at h
 split at h <;> simp at h
 assumption

theorem qo {t:TypeId}{kd:Kd}{v:Value}{d:D}{em:Bool}{S:Sets}(h:wL P t=some kd)(hr:bU w S v d)(hd:D.P9 kd d=true):(Instr.checkKey em 10000 t v).run P w=.ok () w:=by
 obtain⟨hk,hc⟩:=nA h
 rcases hc with rfl | rfl | ⟨ks,rfl⟩
 ·obtain⟨q,hu⟩:=xx hk
  unfold Instr.checkKey
  simp[run_underlying hu,Result.andThen]
 ·have hu:=xw hk
  unfold Instr.checkKey
  simp[run_underlying hu,Result.andThen]
 ·obtain⟨fs,hu,_,hfl⟩:=xy hk
  cases d <;> simp[D.P9] at hd
  rename_i ds
  obtain⟨vs,rfl,hl,_⟩:=hr.lV
  unfold Instr.checkKey
  simp only[Sem.run_bind,run_underlying hu,Result.andThen_ok]
  rw[←Array.forIn_toList]
  rw[BT (cs:=vs) (by omega) fs.toList 0 ks hfl (by omega)]
  rfl

theorem Sb {t:TypeId}{ks:List Nat}{v u:Value}{dx dy:List D}{b:Bool}{S:Sets}(hk:kindOf P t=some (.agg ks))(hx:bU w S v (.agg dx))(hy:bU w S u (.agg dy))(hb:D.eqs ks dx dy=some b):(Op.equal t v u).run P w=.ok b w:=by
 obtain⟨fs,hu,hst,hfl⟩:=xy hk
 obtain⟨xs,rfl,hxl,_,Qg⟩:=hx.lV
 obtain⟨ys,rfl,xW,_,hyr⟩:=hy.lV
 have hfo:P.fieldsOf t=fs:=by simp[Program.fieldsOf,hu]
 show(Op.equalIn 10000 t (.agg xs) (.agg ys)).run P w=.ok b w
 rw[run_equalIn_agg w 9999 t xs ys (by rw[hfo];exact hu) hst,hfo]
 exact sM (d:=9998) hxl xW Qg hyr fs.toList 0 ks b hfl (by simpa using hb)

theorem D_ {kd:Kd}{x y:D}{b:Bool}(h:D.Ea kd x y=some b):D.bin .eql kd x y=some (.v (.bool b)):=by
 unfold D.Ea at h
 split at h
 ·rename_i e;cases h;exact e
 ·cases h

theorem B0 {x y:D}{b:Bool}(h:D.bin .eql .int x y=some (.v (.bool b))):∃k m n,x=.v (.int k m)∧y=.v (.int k n)∧b=(m==n):=by
 unfold D.bin at h
 split at h <;> (try contradiction)
 ·rename_i k m k' n
  simp only[mq] at h
  split at h
  ·rename_i hk
   subst hk
   cases h
   exact⟨_,_,_,rfl,rfl,rfl⟩
  ·cases h

theorem BZ {x y:D}{b:Bool}(h:D.bin .eql .str x y=some (.v (.bool b))):∃m n,x=.v (.string m)∧y=.v (.string n)∧b=(m.toList==n.toList):=by
 unfold D.bin at h
 split at h <;> (try contradiction)
 ·cases h
  exact⟨_,_,rfl,rfl,rfl⟩

theorem B3 {ks:List Nat}{x y:D}{b:Bool}(h:D.bin .eql (.agg ks) x y=some (.v (.bool b))):∃dx dy,x=.agg dx∧y=.agg dy∧D.eqs ks dx dy=some b:=by
 unfold D.bin at h
 split at h <;> (try contradiction)
 ·rename_i hh
  cases hh
  obtain⟨b',hb',hb⟩:=Option.map_eq_some_iff.1 h
  cases hb
  exact⟨_,_,rfl,rfl,hb'⟩

theorem Jq (m n:ByteArray):(m==n)=(m.toList==n.toList):=by
 apply Bool.eq_iff_iff.2
 rw[bytes_beq]
 constructor
 ·rintro rfl;simp
 ·intro h
  have:=eq_of_beq h
  have hd:m.data=n.data:=by simpa[ByteArray.toList_eq] using this
  cases m
  cases n
  simp only at hd
  rw[hd]

def ahz (P:Program)(w:World)(t:TypeId)(v u:Value)(b:Bool):Kd→Prop
 | .agg _=>(Op.equal t v u).run P w=.ok b w
 | _=>∃k,P.underlying t=some k∧Instr.sameNow k v u=some b

def vC (P:Program)(w:World)(t:TypeId)(v:Value)(es:List MapEntry)(i:Nat)(r:Option (Nat×Value)):Kd→Prop
 | .agg _=>(Instr.findAsking t v es i).run P w=.ok r w
 | _=>∃k,P.underlying t=some k∧Instr.findNow k v es i=some r

theorem Y_ {S:Sets}{t:TypeId}{kd:Kd}{v u:Value}{d dk:D}{b:Bool}(h:wL P t=some kd)(hr:bU w S v d)(Oe:bU w S u dk)(hb:D.Ea kd d dk=some b):ahz P w t v u b kd:=by
 have hb:=D_ hb
 obtain⟨hk,hc⟩:=nA h
 rcases hc with rfl | rfl | ⟨ks,rfl⟩
 ·obtain⟨q,hu⟩:=xx hk
  obtain⟨k,m,n,rfl,rfl,rfl⟩:=B0 hb
  rw[hr.v_eq,Oe.v_eq]
  exact⟨_,hu,by simp[Instr.sameNow]⟩
 ·have hu:=xw hk
  obtain⟨m,n,rfl,rfl,rfl⟩:=BZ hb
  rw[hr.v_eq,Oe.v_eq]
  exact⟨_,hu,by simp only[Instr.sameNow,Option.some.injEq];exact Jq m n⟩
 ·obtain⟨dx,dy,rfl,rfl,hb'⟩:=B3 hb
  exact Sb hk hr Oe hb'

def oq (w:World)(S:Sets)(es:List MapEntry)(dL:List D):Prop:=
 es.length=dL.length∧∀(j:Nat) (e:MapEntry) (kv:D),es[j]? = some e→dL[j]? = some kv→∃dk dv,kv=.bh [dk,dv]∧bU w S e.key dk∧bU w S e.val dv

theorem oq.tail {S:Sets}{e:MapEntry}{es:List MapEntry}{kv:D}{dL:List D}(h:oq w S (e :: es) (kv :: dL)):oq w S es dL:=
 ⟨by simpa using h.1,fun j e kv h1 h2=>h.2 (j+1) e kv (by simpa using h1) (by simpa using h2)⟩

theorem adw (l:List D):D.kept (.bh [] :: l)=l:=rfl
theorem aic (l:List D):D.lost (.bh [] :: l)=true:=rfl

theorem oq.afq {S:Sets}{es:List MapEntry}{dL:List D}(hl:D.lost dL=false)(h:oq w S es dL):oq w S es (D.kept dL):=by
 rwa [D.acF hl]

theorem VU {S:Sets}{t:TypeId}{kd:Kd}{v:Value}{d:D}(h:wL P t=some kd)(hr:bU w S v d):∀(es:List MapEntry) (dL:List D) (i:Nat) (r:Option (Nat×D)),oq w S es dL→D.Kx kd d dL i=some r →
  (r=none∧vC P w t v es i none kd)∨∃j dv e dk,r=some (j,dv)∧vC P w t v es i (some (j,e.val)) kd∧i≤j∧es[j-i]? = some e∧bU w S e.val dv∧bU w S e.key dk∧D.Ea kd d dk=some true
 | [],[],i,r,_,hf=>by
  simp only[D.Kx] at hf
  cases hf
  obtain⟨hk,hc⟩:=nA h
  rcases hc with rfl | rfl | ⟨ks,rfl⟩
  ·obtain⟨q,hu⟩:=xx hk
   exact .inl ⟨rfl,_,hu,rfl⟩
  ·exact .inl ⟨rfl,_,xw hk,rfl⟩
  ·exact .inl ⟨rfl,by simp[vC,Instr.findAsking]⟩
 | e :: es,kv :: dL,i,r,he,hf=>by
  obtain⟨dk,dv,rfl,Oe,cV⟩:=he.2 0 e kv rfl rfl
  simp only[D.Kx] at hf
  obtain⟨hk,hc⟩:=nA h
  split at hf
  ·rename_i hb
   cases hf
   have hn:=Y_ h hr Oe hb
   refine .inr ⟨i,dv,e,dk,rfl,?_,Nat.le_refl _,by simp,cV,Oe,hb⟩
   rcases hc with rfl | rfl | ⟨ks,rfl⟩
   ·obtain⟨k,hu,hs⟩:=hn
    exact⟨k,hu,by simp[Instr.findNow,hs]⟩
   ·obtain⟨k,hu,hs⟩:=hn
    exact⟨k,hu,by simp[Instr.findNow,hs]⟩
   ·have hn:(Op.equal t v e.key).run P w=.ok true w:=hn
    simp[vC,Instr.findAsking,hn]
  ·rename_i hb
   have hn:=Y_ h hr Oe hb
   have step:∀r',vC P w t v es (i+1) r' kd→vC P w t v (e :: es) i r' kd:=by
    intro r' h1
    rcases hc with rfl | rfl | ⟨ks,rfl⟩
    ·obtain⟨k,hu,hs⟩:=hn
     obtain⟨k',qc,h1⟩:=h1
     rw[hu] at qc
     cases qc
     exact⟨k,hu,by simp[Instr.findNow,hs,h1]⟩
    ·obtain⟨k,hu,hs⟩:=hn
     obtain⟨k',qc,h1⟩:=h1
     rw[hu] at qc
     cases qc
     exact⟨k,hu,by simp[Instr.findNow,hs,h1]⟩
    ·have hn:(Op.equal t v e.key).run P w=.ok false w:=hn
     have h1:(Instr.findAsking t v es (i+1)).run P w=.ok r' w:=h1
     simp[vC,Instr.findAsking,hn,h1]
   rcases VU h hr es dL (i+1) r he.tail hf with⟨g1,g2⟩ | ⟨j,dv',e',dk',g1,g2,g3,g4,g5⟩
   ·exact .inl ⟨g1,step _ g2⟩
   ·refine .inr ⟨j,dv',e',dk',g1,step _ g2,by omega,?_,g5⟩
    rw[show j-i=(j-(i+1))+1 from by omega]
    simpa using g4
  ·cases hf
 | [],_ :: _,_,_,he,_ | _ :: _,[],_,_,he,_=>by simp[oq] at he

theorem Dj {t:TypeId}{kd:Kd}{v:Value}{es:List MapEntry}{r:Option (Nat×Value)}(h:wL P t=some kd)(hf:vC P w t v es 0 r kd):(Instr.findKey t v es).run P w=.ok r w:=by
 obtain⟨hk,hc⟩:=nA h
 rcases hc with rfl | rfl | ⟨ks,rfl⟩
 ·obtain⟨k,hu,hs⟩:=hf
  exact run_findKey hu hs
 ·obtain⟨k,hu,hs⟩:=hf
  exact run_findKey hu hs
 ·obtain⟨fs,hu,_⟩:=xy hk
  cases es with
  | nil=>
   have:r=none:=by
    have hf:(Instr.findAsking t v [] 0).run P w=.ok r w:=hf
    simp[Instr.findAsking] at hf
    exact hf.symm
   subst this
   exact run_findKey hu rfl
  | cons e es=>
   have hf:(Instr.findAsking t v (e :: es) 0).run P w=.ok r w:=hf
   have hn:Instr.findNow (.struct fs) v (e :: es) 0=none:=by
    unfold Instr.findNow
    simp[Instr.sameNow]
   simp only[Instr.findKey,Sem.run_bind,run_underlying hu,Result.andThen_ok,hn,hf]

theorem vR {S:Sets}{t:TypeId}{kd:Kd}{v:Value}{d:D}{es:List MapEntry}{dL:List D}{r:Option (Nat×D)}(h:wL P t=some kd)(hr:bU w S v d)(he:oq w S es dL)(hf:D.uD kd d dL=some r) :
  D.P9 kd d=true∧((r=none∧(Instr.findKey t v es).run P w=.ok none w)∨∃j dv e dk,r=some (j,dv)∧(Instr.findKey t v es).run P w=.ok (some (j,e.val)) w∧es[j]? = some e∧bU w S e.val dv∧bU w S e.key dk∧D.Ea kd d dk=some true):=by
 unfold D.uD at hf
 split at hf
 ·rename_i hok
  refine⟨hok,?_⟩
  rcases VU h hr es dL 0 r he hf with⟨g1,g2⟩ | ⟨j,dv,e,dk,g1,g2,_,g3,g4⟩
  ·exact .inl ⟨g1,Dj h g2⟩
  ·exact .inr ⟨j,dv,e,dk,g1,Dj h g2,g3,g4⟩
 ·cases hf

theorem Bi {S:Sets}{t:TypeId}{kd:Kd}{v u:Value}{d dk:D}(h:wL P t=some kd)(hr:bU w S v d)(Oe:bU w S u dk)(hb:D.Ea kd d dk=some true):Instr.sameBits 10000 u v=true:=by
 have hb:=D_ hb
 obtain⟨hk,hc⟩:=nA h
 rcases hc with rfl | rfl | ⟨ks,rfl⟩
 ·obtain⟨k,m,n,rfl,rfl,hmn⟩:=B0 hb
  rw[hr.v_eq,Oe.v_eq]
  have:m=n:=by simpa using hmn.symm
  simp[Instr.sameBits,this]
 ·obtain⟨m,n,rfl,rfl,hmn⟩:=BZ hb
  rw[hr.v_eq,Oe.v_eq]
  rw[←Jq] at hmn
  have:m=n:=(bytes_beq m n).1 hmn.symm
  subst this
  have hh:(m==m)=true:=(bytes_beq m m).2 rfl
  simp[Instr.sameBits,hh]
 ·obtain⟨dx,dy,rfl,rfl,hb'⟩:=B3 hb
  obtain⟨xs,rfl,hxl,_,Qg⟩:=hr.lV
  obtain⟨ys,rfl,xW,_,hyr⟩:=Oe.lV
  have cells:∀(ks:List Nat) (dx dy:List D),D.eqs ks dx dy=some true→dx.length=dy.length∧∀(i:Nat) (x y:D),dx[i]? = some x→dy[i]? = some y→∀u v:Value,bU w S v x→bU w S u y→Instr.sameBits 9999 u v=true:=by
   intro ks
   induction ks with
   | nil=>
    intro dx dy he
    cases dx <;> cases dy <;> simp[D.eqs] at he ⊢
   | cons k ks ih=>
    intro dx dy he
    unfold D.eqs at he
    split at he <;> (try contradiction)
    ·rename_i ks1 k1 a r k2 b s e1 
     split at he
     ·rename_i hkk
      subst hkk
      obtain⟨b',h1,h2⟩:=Option.map_eq_some_iff.1 he
      simp only[Bool.and_eq_true,beq_iff_eq] at h2
      obtain⟨rfl,rfl⟩:=h2
      have e2:ks=ks1:=by simp only[List.cons.injEq] at e1;exact e1.2
      subst e2
      obtain⟨g1,g2⟩:=ih r s h1
      refine⟨by simp[g1],fun i x y hx hy u v hv hu=>?_⟩
      cases i with
      | zero=>
       simp only[List.getElem?_cons_zero,Option.some.injEq] at hx hy
       subst hx hy
       rw[hv.v_eq,hu.v_eq]
       simp[Instr.sameBits]
      | succ i=>exact g2 i x y (by simpa using hx) (by simpa using hy) u v hv hu
     ·cases he
    ·rename_i ks1 a r b s e1
     obtain⟨b',h1,h2⟩:=Option.map_eq_some_iff.1 he
     simp only[Bool.and_eq_true,beq_iff_eq] at h2
     obtain⟨rfl,rfl⟩:=h2
     have e2:ks=ks1:=by simp only[List.cons.injEq] at e1;exact e1.2
     subst e2
     obtain⟨g1,g2⟩:=ih r s h1
     refine⟨by simp[g1],fun i x y hx hy u v hv hu=>?_⟩
     cases i with
     | zero=>
      simp only[List.getElem?_cons_zero,Option.some.injEq] at hx hy
      subst hx hy
      rw[hv.v_eq,hu.v_eq]
      simp[Instr.sameBits]
     | succ i=>exact g2 i x y (by simpa using hx) (by simpa using hy) u v hv hu
    ·rename_i ks1 a r b s e1
     obtain⟨b',h1,h2⟩:=Option.map_eq_some_iff.1 he
     simp only[Bool.and_eq_true] at h2
     obtain⟨hab,rfl⟩:=h2
     rw[←Jq] at hab
     have hab:=(bytes_beq a b).1 hab
     subst hab
     have hh:(a==a)=true:=(bytes_beq a a).2 rfl
     have e2:ks=ks1:=by simp only[List.cons.injEq] at e1;exact e1.2
     subst e2
     obtain⟨g1,g2⟩:=ih r s h1
     refine⟨by simp[g1],fun i x y hx hy u v hv hu=>?_⟩
     cases i with
     | zero=>
      simp only[List.getElem?_cons_zero,Option.some.injEq] at hx hy
      subst hx hy
      rw[hv.v_eq,hu.v_eq]
      simp[Instr.sameBits,hh]
     | succ i=>exact g2 i x y (by simpa using hx) (by simpa using hy) u v hv hu
  obtain⟨g1,g2⟩:=cells ks dx dy hb'
  unfold Instr.sameBits
  simp only[Bool.and_eq_true,beq_iff_eq,List.all_eq_true]
  refine⟨by omega,fun p hp=>?_⟩
  obtain⟨i,hi,hpi⟩:=List.mem_iff_getElem.1 hp
  simp only[List.length_zip,Array.length_toList] at hi
  simp only[List.getElem_zip] at hpi
  subst hpi
  refine g2 i (dx[i]'(by omega)) (dy[i]'(by omega)) (by simp) (by simp) _ _ (Qg i _ _ ?_ ?_) (hyr i _ _ ?_ ?_) <;> simp

theorem oA.push {es:Array MapEntry}{clock n:Nat}(h:oA es clock n)(v x:Value):oA (es.push { key:=v,val:=x,born:=clock }) (clock+1) (es.push { key:=v,val:=x,born:=clock }).size where
 len:=rfl
 YQ:=by simp[h.YQ,h.len]
 born:=fun j e he=>by
  rw[Array.getElem?_push] at he
  split at he
  ·cases he
   rename_i hj
   simp[hj,h.YQ,h.len]
  ·exact h.born j e he

theorem oA.modify {es:Array MapEntry}{clock n:Nat}(h:oA es clock n)(j:Nat)(f:MapEntry→MapEntry)(hf:∀e,(f e).born=e.born):oA (es.modify j f) clock (es.modify j f).size where
 len:=rfl
 YQ:=by simp[h.YQ,h.len]
 born:=fun k e he=>by
  simp only[Array.getElem?_modify] at he
  split at he
  ·obtain⟨e0,h0,rfl⟩:=Option.map_eq_some_iff.1 he
   rw[hf]
   exact h.born k e0 h0
  ·exact h.born k e he

theorem ac0 {dL:List D}{k u:D}(h:D.lost dL=false):D.lost (dL++[.bh [k,u]])=false:=by
 unfold D.lost at h ⊢
 cases dL with
 | nil=>rfl
 | cons x r=>
  simp only[List.cons_append]
  split at h
  ·cases h
  ·rename_i hx
   split
   ·rename_i e
    simp only[List.cons.injEq] at e
    exact(hx r (by rw[e.1])).elim
   ·rfl

theorem acu {dL:List D}{j:Nat}{k u:D}(h:D.lost dL=false):D.lost (dL.set j (.bh [k,u]))=false:=by
 unfold D.lost at h ⊢
 cases dL with
 | nil=>rfl
 | cons x r=>
  cases j with
  | zero=>rfl
  | succ j=>
   simp only[List.set_cons_succ]
   split at h
   ·cases h
   ·rename_i hx
    split
    ·rename_i e
     simp only[List.cons.injEq] at e
     exact(hx r (by rw[e.1])).elim
    ·rfl

theorem Aa {w':World}{bs:List D}{i:Nat}{dL wk:List D}{es':Array MapEntry}{clock':Nat}(hst:dF w ρ.S ρ.aJ bs)(hK:bW ρ.S w w')(oh:bs[i]? = some (.iE dL))(hh:w'.heap[ρ.S.loc i]? = some (.map es' clock'))(mJ:∀b,b≠ρ.S.loc i→w'.heap[b]? = w.heap[b]?)(he:oq w ρ.S es'.toList (D.kept wk))(hsz:aaZ es' clock' wk) :
  dF w' ρ.S ρ.aJ (bs.set i (.iE wk)):=by
 refine hst.set hK oh rfl (fun j x _ _ hne=>mJ _ hne) (fun e sz cs hz=>by cases hz) (fun aqE hz=>?_) fun hz=>by cases hz
 cases hz
 refine⟨es',clock',hh,hsz,fun j e kv hj hkv=>?_⟩
 obtain⟨dk,dv,h1,h2,h3⟩:=he.2 j e kv (by simpa using hj) hkv
 exact⟨dk,dv,h1,h2.keep hK (Sets.le_refl _),h3.keep hK (Sets.le_refl _)⟩

theorem p6 {bs dL:List D}{m:Value}{dm:D}(hst:dF w ρ.S ρ.aJ bs)(hm:bU w ρ.S m dm)(he:D.entries (.st bs) dm=some dL) :
  (m=.map none∧dL=[])∨∃(i:Nat) (es:Array MapEntry) (clock:Nat) (agh:List D),dm=.mp i∧bs[i]? = some (.iE agh)∧dL=D.kept agh∧m=.map (some (ρ.S.loc i))∧w.heap[ρ.S.loc i]? = some (.map es clock)∧oq w ρ.S es.toList dL∧aaZ es clock agh:=by
 unfold D.entries at he
 split at he
 ·cases he
  exact .inl ⟨hm.v_eq,rfl⟩
 ·rename_i i
  simp only at he
  split at he
  ·rename_i wk oh
   cases he
   obtain⟨hf,es,clock,hh,hsz,oa,hr⟩:=hst.maps i _ oh
   refine .inr ⟨i,es,clock,_,rfl,oh,rfl,?_,hh,⟨by simpa using hsz.size,fun j e kv h1 h2=>hr j e kv (by simpa using h1) h2⟩,hsz⟩
   cases hm
   rfl
  ·cases he
 ·cases he

theorem pV {t k e:TypeId}{kd:Kd}(h:uH P t=some (k,e,kd)):P.underlying t=some (.map k e)∧wL P k=some kd:=by
 unfold uH at h
 split at h
 ·rename_i k' e' hu
  obtain⟨kd',hk,h⟩:=Option.map_eq_some_iff.1 h
  cases h
  exact⟨hu,hk⟩
 ·cases h

theorem D2 {t k e:TypeId}{kd:Kd}{bs dL:List D}{m v z:Value}{dm d:D}{ok:Bool}{r:Option (Nat×D)}(hst:dF w ρ.S ρ.aJ bs)(ht:uH P t=some (k,e,kd))(hm:bU w ρ.S m dm)(hv:bU w ρ.S v d)(he:D.entries (.st bs) dm=some dL)(hf:D.uD kd d dL=some r)(hz:(P.info? e).bind (·.zero)=some z) :
  ∃x:Value,(Instr.lookup t m v ok).run P w=.ok (if ok then .tuple #[x,.bool r.isSome] else x) w∧((r=none∧x=z)∨∃j dv,r=some (j,dv)∧bU w ρ.S x dv):=by
 obtain⟨hu,hk⟩:=pV ht
 rcases p6 hst hm he with⟨rfl,rfl⟩ | ⟨i,es,clock,_,rfl,oh,_,rfl,hh,nL,_⟩
 ·obtain⟨hok,hr⟩:=vR (es:=[]) hk hv ⟨rfl,by simp⟩ hf
  rcases hr with⟨rfl,hrun⟩ | ⟨j,dv,e',dk,_,_,h3,_⟩
  ·refine⟨z,?_,.inl ⟨rfl,rfl⟩⟩
   have Td:(Instr.checkKey (#[]:Array MapEntry).isEmpty 10000 k v).run P w=.ok () w:=qo hk hv hok
   simp only[Instr.lookup,Sem.run_bind,run_underlying hu,Result.andThen_ok,Sem.run_pure,Td,hrun,iU hz,Option.isSome_none]
  ·simp at h3
 ·obtain⟨hok,hr⟩:=vR hk hv nL hf
  have Td:(Instr.checkKey es.isEmpty 10000 k v).run P w=.ok () w:=qo hk hv hok
  rcases hr with⟨rfl,hrun⟩ | ⟨j,dv,e',dk,rfl,hrun,h3,h4,_⟩
  ·refine⟨z,?_,.inl ⟨rfl,rfl⟩⟩
   simp only[Instr.lookup,Sem.run_bind,run_underlying hu,Result.andThen_ok,Sem.run_pure,Go.MapKept.run_getObj_map hh,Td,hrun,iU hz,Option.isSome_none]
  ·refine⟨e'.val,?_,.inr ⟨j,dv,rfl,h4⟩⟩
   simp only[Instr.lookup,Sem.run_bind,run_underlying hu,Result.andThen_ok,Sem.run_pure,Go.MapKept.run_getObj_map hh,Td,hrun,Option.isSome_some]

theorem MM {t k e:TypeId}{kd:Kd}{bs:List D}{i:Nat}{v x:Value}{d dx:D}{m:Value}{d':D}(hst:dF w ρ.S ρ.aJ bs)(ht:uH P t=some (k,e,kd))(hm:bU w ρ.S m (.mp i))(hv:bU w ρ.S v d)(hx:bU w ρ.S x dx)(hput:D.Ul kd (.st bs) (.mp i) d dx=some d') :
  ∃(wk:List D) (es':Array MapEntry) (clock':Nat),(∃dL,bs[i]? = some (.iE dL))∧d'=.st (bs.set i (.iE wk))∧(Instr.mapUpdate t m v x).run P w=.ok () { w with heap:=w.heap.setIfInBounds (ρ.S.loc i) (.map es' clock') }∧oq w ρ.S es'.toList (D.kept wk)∧aaZ es' clock' wk:=by
 obtain⟨hu,hk⟩:=pV ht
 unfold D.Ul at hput
 simp only at hput
 split at hput
 ·rename_i dL oh
  obtain⟨r,hf,hput⟩:=Option.map_eq_some_iff.1 hput
  have hlo:=D.acT hf
  have he:D.entries (.st bs) (.mp i)=some dL:=by simp[D.entries,oh,D.acF hlo]
  rcases p6 hst hm he with⟨rfl,_⟩ | ⟨i',es,clock,agh,e1,af4,_,rfl,hh,nL,GL⟩
  ·cases hm
  cases e1
  rw[oh] at af4
  cases af4
  replace GL:=GL.sz hlo
  obtain⟨hok,hr⟩:=vR hk hv nL hf
  have Td:(Instr.checkKey false 10000 k v).run P w=.ok () w:=qo hk hv hok
  rcases hr with⟨rfl,hrun⟩ | ⟨j,dv,e',dk,rfl,hrun,h3,h4,h5,h6⟩
  ·simp only at hput
   subst hput
   refine⟨_,es.push { key:=v,val:=x,born:=clock },clock+1,⟨_,oh⟩,rfl,?_,.afq (ac0 hlo) ⟨?_,?_⟩,aaZ.of (by have:=GL.push v x;rwa [Array.size_push,GL.len,show dL.length+1=(dL++[D.bh [d,dx]]).length from by simp] at this) (ac0 hlo)⟩
   ·simp only[Instr.mapUpdate,Sem.run_bind,run_underlying hu,Result.andThen_ok,Go.MapKept.run_getObj_map hh,Td,hrun,Go.MapKept.run_setObj_map _ hh]
   ·simp[nL.1]
   ·intro j e2 kv hj hkv
    simp only[Array.toList_push] at hj
    rw[List.getElem?_append] at hj hkv
    rw[nL.1] at hj
    split at hj
    ·rename_i hlt
     rw[if_pos hlt] at hkv
     exact nL.2 j e2 kv hj hkv
    ·rename_i hlt
     rw[if_neg hlt] at hkv
     have h0:j-dL.length=0:=by
      have:=(List.getElem?_eq_some_iff.1 hj).1
      simp at this
      omega
     rw[h0] at hj hkv
     simp only[List.getElem?_cons_zero,Option.some.injEq] at hj hkv
     subst hj hkv
     exact⟨_,_,rfl,hv,hx⟩
  ·simp only at hput
   subst hput
   have hjl:j<es.size:=by simpa using(List.getElem?_eq_some_iff.1 h3).1
   have hkey:((es[j]?).map (·.key)).getD v=e'.key:=by
    have:es[j]? = some e':=by simpa using h3
    simp[this]
   have UW:(Instr.keyThatStays e'.key v).run P w=.ok v w:=by
    simp[Instr.keyThatStays,Bi hk hv h5 h6]
   refine⟨_,es.modify j fun e=>{ e with key:=v,val:=x },clock,⟨_,oh⟩,rfl,?_,.afq (acu hlo) ⟨?_,?_⟩,aaZ.of (by have:=GL.modify j (fun e=>{ e with key:=v,val:=x }) fun _=>rfl;rwa [Array.size_modify,GL.len,←List.length_set (as:=dL) (i:=j) (a:=D.bh [d,dx])] at this) (acu hlo)⟩
   ·simp only[Instr.mapUpdate,Sem.run_bind,run_underlying hu,Result.andThen_ok,Go.MapKept.run_getObj_map hh,Td,hrun,hkey,UW,Go.MapKept.run_setObj_map _ hh]
   ·simpa using nL.1
   ·intro q e2 kv hq hkv
    simp only[Array.getElem?_toList,Array.getElem?_modify] at hq
    rw[List.getElem?_set] at hkv
    by_cases hjq:j=q
    ·subst hjq
     rw[if_pos rfl] at hq hkv
     rw[if_pos (by rw[←nL.1];simpa using hjl)] at hkv
     obtain⟨e0,he0,rfl⟩:=Option.map_eq_some_iff.1 hq
     cases hkv
     exact⟨_,_,rfl,hv,hx⟩
    ·rw[if_neg hjq] at hq hkv
     exact nL.2 q e2 kv (by simpa using hq) hkv
 ·cases hput

theorem Np {t k e:TypeId}{kd:Kd}{bs:List D}{m v zv:Value}{dm d z d':D}(hst:dF w ρ.S ρ.aJ bs)(ht:uH P t=some (k,e,kd))(hm:bU w ρ.S m dm)(hv:bU w ρ.S v d)(X9:(P.info? e).bind (·.zero)=some zv)(hz:D.wI zv=some z)(hput:D.Up kd (.st bs) dm d z=some d') :
  ∃(i:Nat) (dL wk:List D) (es':Array MapEntry) (clock':Nat) (u:Value) (j:Nat) (du:D),dm=.mp i∧bs[i]? = some (.iE dL)∧d'=.st (bs.set i (.iE wk))∧D.P3 kd (.st bs) dm d z=some (.bh [du,.int j])∧(Instr.mapEntry t m v).run P w=.ok (.tuple #[u,.int .i64 j]) { w with heap:=w.heap.setIfInBounds (ρ.S.loc i) (.map es' clock') }∧oq w ρ.S es'.toList (D.kept wk)∧aaZ es' clock' wk∧bU w ρ.S u du:=by
 obtain⟨hu,hk⟩:=pV ht
 unfold D.Up at hput
 split at hput
 ·rename_i i bs' e1
  cases e1
  split at hput
  ·rename_i dL oh
   obtain⟨r,hf,hput⟩:=Option.map_eq_some_iff.1 hput
   have hlo:=D.acT hf
   have he:D.entries (.st bs) (.mp i)=some dL:=by simp[D.entries,oh,D.acF hlo]
   rcases p6 hst hm he with⟨rfl,_⟩ | ⟨i',es,clock,agh,e1,af4,_,rfl,hh,nL,GL⟩
   ·cases hm
   cases e1
   rw[oh] at af4
   cases af4
   replace GL:=GL.sz hlo
   obtain⟨hok,hr⟩:=vR (w:=w) hk hv nL hf
   have Td:=qo (w:=w) (em:=false) hk hv hok
   rcases hr with⟨rfl,hrun⟩ | ⟨j,dv,e',dk,rfl,hrun,h3,h4,h5,h6⟩
   ·simp only at hput
    subst hput
    refine⟨i,dL,_,es.push { key:=v,val:=zv,born:=clock },clock+1,zv,clock,z,rfl,oh,rfl,?_,?_,.afq (ac0 hlo) ⟨?_,?_⟩,aaZ.of (by have:=GL.push v zv;rwa [Array.size_push,GL.len,show dL.length+1=(dL++[D.bh [d,z]]).length from by simp] at this) (ac0 hlo),D.lE hz⟩
    ·unfold D.P3
     rw[he,Option.bind_some,hf,GL.YQ]
     rfl
    ·simp only[Instr.mapEntry,Sem.run_bind,run_underlying hu,Result.andThen_ok,Go.MapKept.run_getObj_map hh,Td,hrun,iU X9,Go.MapKept.run_setObj_map _ hh,Sem.run_pure]
     rfl
    ·simp[←nL.1]
    ·intro q e2 kv hq hkv
     rw[Array.toList_push] at hq
     rw[List.getElem?_append] at hq hkv
     rw[nL.1] at hq
     split at hq
     ·rename_i hlt
      rw[if_pos hlt] at hkv
      exact nL.2 q e2 kv hq hkv
     ·rename_i hge
      rw[if_neg hge] at hkv
      have h0:q-dL.length=0:=by
       have:=(List.getElem?_eq_some_iff.1 hq).1
       simp at this
       omega
      rw[h0] at hq hkv
      simp only[List.getElem?_cons_zero,Option.some.injEq] at hq hkv
      subst hq hkv
      exact⟨_,_,rfl,hv,D.lE hz⟩
   ·simp only at hput
    subst hput
    have hjl:j<es.size:=by simpa using(List.getElem?_eq_some_iff.1 h3).1
    have Tc:es[j]? = some e':=by simpa using h3
    have hkey:((es[j]?).map (·.key)).getD v=e'.key:=by simp[Tc]
    have Er:((es[j]?).map fun x=>(x.born:Int)).getD 0=(j:Int):=by simp[Tc,GL.born j e' Tc]
    have UW:(Instr.keyThatStays e'.key v).run P w=.ok v w:=by
     simp[Instr.keyThatStays,Bi hk hv h5 h6]
    refine⟨i,dL,_,es.modify j fun e=>{ e with key:=v },clock,e'.val,j,dv,rfl,oh,rfl,?_,?_,.afq (acu hlo) ⟨?_,?_⟩,aaZ.of (by have:=GL.modify j (fun e=>{ e with key:=v }) fun _=>rfl;rwa [Array.size_modify,GL.len,←List.length_set (as:=dL) (i:=j) (a:=D.bh [d,dv])] at this) (acu hlo),h4⟩
    ·unfold D.P3
     rw[he,Option.bind_some,hf]
     rfl
    ·simp only[Instr.mapEntry,Sem.run_bind,run_underlying hu,Result.andThen_ok,Go.MapKept.run_getObj_map hh,Td,hrun,hkey,UW,Go.MapKept.run_setObj_map _ hh,Er,Sem.run_pure]
     rfl
    ·simpa using nL.1
    ·intro q e2 kv hq hkv
     simp only[Array.getElem?_toList,Array.getElem?_modify] at hq
     rw[List.getElem?_set] at hkv
     by_cases hjq:j=q
     ·subst hjq
      rw[if_pos rfl] at hq hkv
      rw[if_pos (by rw[←nL.1];simpa using hjl)] at hkv
      rw[Tc] at hq
      cases hq
      cases hkv
      exact⟨_,_,rfl,hv,h4⟩
     ·rw[if_neg hjq] at hq hkv
      exact nL.2 q e2 kv (by simpa using hq) hkv
  ·cases hput
 ·cases hput

theorem Rq {t:TypeId}{bs:List D}{m s x:Value}{dm ds dx d':D}(hst:dF w ρ.S ρ.aJ bs)(hm:bU w ρ.S m dm)(hs:bU w ρ.S s ds)(hx:bU w ρ.S x dx)(hput:D.Uo (.st bs) dm ds dx=some d') :
  ∃(i:Nat) (dL wk:List D) (es':Array MapEntry) (clock':Nat),dm=.mp i∧bs[i]? = some (.iE dL)∧d'=.st (bs.set i (.iE wk))∧(Instr.entryStore t m s x).run P w=.ok () { w with heap:=w.heap.setIfInBounds (ρ.S.loc i) (.map es' clock') }∧oq w ρ.S es'.toList (D.kept wk)∧aaZ es' clock' wk:=by
 unfold D.Uo at hput
 split at hput
 ·rename_i i bs' n e1
  cases e1
  split at hput
  ·rename_i dL oh
   split at hput
   ·rename_i hn0
    obtain⟨hn0,hlo⟩:=hn0
    obtain⟨⟨k,u⟩,W4,e0⟩:=Option.map_eq_some_iff.1 hput
    subst e0
    obtain⟨j,rfl⟩:∃j:Nat,n=j:=⟨n.toNat,by omega⟩
    simp only[Int.toNat_natCast] at W4 ⊢
    have he:D.entries (.st bs) (.mp i)=some dL:=by simp[D.entries,oh,D.acF hlo]
    rcases p6 hst hm he with⟨rfl,_⟩ | ⟨i',es,clock,agh,e1,af4,_,rfl,hh,nL,GL⟩
    ·cases hm
    cases e1
    rw[oh] at af4
    cases af4
    replace GL:=GL.sz hlo
    obtain rfl:=hs.v_eq
    unfold An at W4
    split at W4
    ·rename_i k' u' hk
     cases W4
     have hjl:j<es.size:=by
      have:=(List.getElem?_eq_some_iff.1 hk).1
      rw[GL.len]
      exact this
     have Tc:es[j]? = some es[j]:=Array.getElem?_eq_getElem hjl
     obtain⟨dk,dv,e1,e2,e3⟩:=nL.2 j es[j] _ (by simp[hjl]) hk
     cases e1
     have hfind:es.findIdx? (fun e=>(e.born:Int)==(j:Int))=some j:=by
      rw[Array.findIdx?_eq_some_iff_getElem]
      refine⟨hjl,by simp[GL.born j _ Tc],fun q hq=>?_⟩
      have:=GL.born q es[q] (Array.getElem?_eq_getElem (by omega))
      simp[this]
      omega
     refine⟨i,dL,_,es.modify j fun e=>{ e with val:=x },clock,rfl,oh,rfl,?_,.afq (acu hlo) ⟨?_,?_⟩,aaZ.of (by have:=GL.modify j (fun e=>{ e with val:=x }) fun _=>rfl;rwa [Array.size_modify,GL.len,←List.length_set (as:=dL) (i:=j) (a:=D.bh [k,dx])] at this) (acu hlo)⟩
     ·simp only[Instr.entryStore,Sem.run_bind,Go.MapKept.run_getObj_map hh,Result.andThen_ok,asInt,asIntOf,Sem.run_pure,hfind,Go.MapKept.run_setObj_map _ hh]
     ·simpa using nL.1
     ·intro q e2' kv hq hkv
      simp only[Array.getElem?_toList,Array.getElem?_modify] at hq
      rw[List.getElem?_set] at hkv
      by_cases hjq:j=q
      ·subst hjq
       rw[if_pos rfl] at hq hkv
       rw[if_pos (by rw[←nL.1];simpa using hjl)] at hkv
       rw[Tc] at hq
       cases hq
       cases hkv
       exact⟨_,_,rfl,e2,hx⟩
      ·rw[if_neg hjq] at hq hkv
       exact nL.2 q e2' kv (by simpa using hq) hkv
    ·cases W4
   ·cases hput
  ·cases hput
 ·cases hput

theorem ahM {t k e ty:TypeId}{ts:List TypeId}{kd:Kd}{bs:List D}{v:Value}{d:D}{m:Value}{dm d':D}(hst:dF w ρ.S ρ.aJ bs)(ht:uH P t=some (k,e,kd))(hm:bU w ρ.S m dm)(hv:bU w ρ.S v d)(AR:D.aj1 kd (.st bs) dm d=some d') :
  ∃(i:Nat) (dL wk:List D) (es':Array MapEntry) (clock':Nat),dm=.mp i∧bs[i]? = some (.iE dL)∧d'=.st (bs.set i (.iE wk))∧(Builtin.delete_ (t :: ts).toArray ty #[m,v]).run P w=.ok (.tuple #[]) { w with heap:=w.heap.setIfInBounds (ρ.S.loc i) (.map es' clock') }∧oq w ρ.S es'.toList (D.kept wk)∧aaZ es' clock' wk:=by
 obtain⟨hu,hk⟩:=pV ht
 unfold D.aj1 at AR
 split at AR
 ·rename_i i bs' e1
  cases e1
  split at AR
  ·rename_i dL oh
   obtain⟨r,hf,AR⟩:=Option.map_eq_some_iff.1 AR
   have he:D.entries (.st bs) (.mp i)=some (D.kept dL):=by simp[D.entries,oh]
   rcases p6 hst hm he with⟨rfl,_⟩ | ⟨i',es,clock,agh,e1,af4,_,rfl,hh,nL,GL⟩
   ·cases hm
   cases e1
   rw[oh] at af4
   cases af4
   obtain⟨hok,hr⟩:=vR hk hv nL hf
   have Td:(Instr.checkKey es.isEmpty 10000 k v).run P w=.ok () w:=qo hk hv hok
   rcases hr with⟨rfl,hrun⟩ | ⟨j,dv,e',dk,rfl,hrun,h3,h4,h5,h6⟩
   ·simp only at AR
    subst AR
    refine⟨i,dL,dL,es,clock,rfl,oh,rfl,?_,nL,GL⟩
    simp only[Builtin.delete_,List.getElem?_toArray,List.getElem?_cons_zero,Sem.run_bind,run_underlying hu,Result.andThen_ok,Go.MapKept.run_getObj_map hh,Td,hrun,Go.MapKept.run_setObj_map _ hh,Sem.run_pure]
    simp[Go.MapKept.run_getObj_map hh,Td,hrun,Go.MapKept.run_setObj_map _ hh,Sem.run_pure,run_underlying hu,Result.andThen_ok]
   ·simp only at AR
    subst AR
    refine⟨i,dL,_,es.eraseIdxIfInBounds j,clock,rfl,oh,rfl,?_,⟨?_,?_⟩,?_⟩
    ·simp[Builtin.delete_,Go.MapKept.run_getObj_map hh,Td,hrun,Go.MapKept.run_setObj_map _ hh,Sem.run_pure,run_underlying hu,Result.andThen_ok]
    ·have hjl:j<es.size:=by simpa using(List.getElem?_eq_some_iff.1 h3).1
     have h1:=nL.1
     simp only[adw,List.length_eraseIdx,Array.length_toList,Array.eraseIdxIfInBounds,hjl,dif_pos,Array.size_eraseIdx]
     simp only[Array.length_toList] at h1
     rw[h1,if_pos (by omega)]
    ·have hjl:j<es.size:=by simpa using(List.getElem?_eq_some_iff.1 h3).1
     intro q e2 kv hq hkv
     simp only[Array.eraseIdxIfInBounds,hjl,dif_pos,Array.toList_eraseIdx,adw,List.getElem?_eraseIdx] at hq hkv
     split at hq
     ·rename_i hl
      rw[if_pos hl] at hkv
      exact nL.2 q e2 kv hq hkv
     ·rename_i hl
      rw[if_neg hl] at hkv
      exact nL.2 (q+1) e2 kv hq hkv
    ·have hjl:j<es.size:=by simpa using(List.getElem?_eq_some_iff.1 h3).1
     have h1:=GL.size
     unfold aaZ
     rw[if_pos (aic _)]
     simp only[adw,List.length_eraseIdx,Array.eraseIdxIfInBounds,hjl,dif_pos,Array.size_eraseIdx]
     rw[if_pos (by have:=nL.1;simp only[Array.length_toList] at this;omega),h1]
  ·cases AR
 ·cases AR

theorem ahk {o:Oper}{t:TypeId}{ts:List TypeId}{m k:Operand}{v:Value}{w':World}(ho:o.op=.call { callee:=.builtin .delete,args:=#[m,k],argTypes:=(t :: ts).toArray })(hr:(Builtin.delete_ (t :: ts).toArray o.type #[a.eval m,a.eval k]).run P w=.ok v w'):(execOp a.eval o).run P w=.ok (.value v) w':=by
 unfold execOp
 simp only[ho,resolve,invoke,builtin,Sem.run_bind,Sem.run_pure,Result.andThen_ok,List.map_toArray,List.map_cons,List.map_nil,hr]

/-! ## loops over a map -/

theorem Rp {bs:List D}{dm d:D}(h:D.aaB (.st bs) dm=some d):∃i dL,dm=.mp i∧bs[i]? = some (.iE dL)∧D.lost dL=false∧d=.st (bs++[.itb i dL.length []]):=by
 unfold D.aaB at h
 split at h
 ·rename_i i bs' e
  cases e
  split at h
  ·rename_i dL hi
   split at h
   ·cases h
   rename_i hlo
   cases h
   exact⟨i,dL,rfl,hi,by simpa using hlo,rfl⟩
  ·cases h
 ·cases h

theorem Ks {bs:List D}{p:Value}{dp:D}{bs':List D}{i m n:Nat}{seen:List Nat}{dL:List D}(hst:dF w ρ.S ρ.aJ bs)(hp:bU w ρ.S p dp)(h:D.place (.st bs) dp=some (bs',i,m,n,seen,dL)) :
  bs'=bs∧bs[i]? = some (.itb m n seen)∧p=.pointer (some ⟨ρ.S.loc i,0,none⟩)∧m<ρ.S.n∧w.heap[ρ.S.loc i]? = some (.mapIter (some (ρ.S.loc m)) n seen.toArray n)∧∃es:Array MapEntry,w.heap[ρ.S.loc m]? = some (.map es n)∧oA es n n∧oq w ρ.S es.toList dL∧dL.length=n:=by
 unfold D.place at h
 split at h
 ·rename_i ia i1 e
  cases e
  split at h
  ·rename_i m1 n1 aop hi
   split at h
   ·rename_i aqF hm
    split at h
    ·rename_i hn
     obtain⟨hn,hlo⟩:=hn
     cases h
     obtain⟨_,⟨g1,g2⟩,_⟩:=hst.FJ _ _ hi rfl
     obtain⟨_,es,clock,g3,g4,_,g5⟩:=hst.maps _ _ hm
     replace g4:=g4.sz hlo
     rw[D.acF hlo] at g5
     have hc:clock=n:=g4.YQ.trans hn
     subst hc
     cases hp
     refine⟨rfl,hi,rfl,g1,g2,es,g3,by rw[hn] at g4;exact g4,⟨by simpa using g4.len,fun j e kv h1 h2=>g5 j e kv (by simpa using h1) h2⟩,hn⟩
    ·cases h
   ·cases h
  ·cases h
 ·cases h

theorem Sd {bs:List D}{p:Value}{dp d:D}(hst:dF w ρ.S ρ.aJ bs)(hp:bU w ρ.S p dp)(h:D.Nq (.st bs) dp=some d) :
  ∃v1 v2 d1 d2,(Instr.entry p).run P w=.ok (.tuple #[v1,v2]) w∧d=.bh [d1,d2]∧bU w ρ.S v1 d1∧bU w ρ.S v2 d2:=by
 unfold D.Nq at h
 obtain⟨q,BF,hq⟩:=Option.bind_eq_some_iff.1 h
 obtain⟨bs',i,m,n,seen,dL⟩:=q
 simp only at hq
 obtain⟨rfl,hi,rfl,hm,hit,es,nL,hsz,hrd,hn⟩:=Ks hst hp BF
 obtain⟨j,hj,hq2⟩:=Option.bind_eq_some_iff.1 hq
 obtain⟨⟨k,u⟩,W4,e0⟩:=Option.map_eq_some_iff.1 hq2
 simp only at e0
 subst e0
 unfold An at W4
 split at W4
 ·rename_i k' u' hk
  cases W4
  have hjl:j<es.size:=by
   have:=(List.getElem?_eq_some_iff.1 hk).1
   rw[hsz.len,←hn]
   exact this
  obtain⟨dk,dv,e1,e2,e3⟩:=hrd.2 j es[j] _ (by simp[hjl]) hk
  cases e1
  obtain⟨s',rfl⟩:∃s',seen=s'++[j]:=by
   have:=List.getLast?_eq_some_iff.1 hj
   exact this
  refine⟨es[j].key,es[j].val,_,_,?_,rfl,e2,e3⟩
  have Er:es[j].born=j:=hsz.born j _ (by simp[hjl])
  have hnd:(es.toList.map (·.born)).Nodup:=by
   refine List.pairwise_iff_getElem.2 fun a b ha hb hab=>?_
   have hb':b<es.size:=by simpa using hb
   have ha':a<es.size:=by simpa using ha
   simp only[List.getElem_map,Array.getElem_toList]
   rw[hsz.born a _ (Array.getElem?_eq_getElem ha'),hsz.born b _ (Array.getElem?_eq_getElem hb')]
   omega
  have:=run_entry_at (P:=P) w (ρ.S.loc i) (ρ.S.loc m) n s'.toArray es n es[j] (by rw[hit,Er];simp) nL (by simp) hnd
  exact this
 ·cases W4

theorem Ui {ty:TypeId}{bs:List D}{p:Value}{dp:D}{ys:List D}(hst:dF w ρ.S ρ.aJ bs)(hp:bU w ρ.S p dp)(h:D.Um (.st bs) dp=some (.bq ys)) :
  ∃(v:Value) (w':World) (d:D) (bs':List D),.bh [d,.st bs']∈ys∧(Instr.next p false ty).run P w=.ok v w'∧bU w' ρ.S v d∧dF w' ρ.S ρ.aJ bs'∧bW ρ.S w w'∧w'.os=w.os∧TL w' w∧w'.output=w.output∧w'.heap.size=w.heap.size∧∀b,¬ρ.aJ b→w'.heap[b]? = w.heap[b]?:=by
 unfold D.Um at h
 obtain⟨q,BF,hq⟩:=Option.map_eq_some_iff.1 h
 clear h
 obtain⟨bs',i,m,n,seen,dL⟩:=q
 simp only[D.bq.injEq] at hq
 have h:=hq
 clear hq
 obtain⟨rfl,hi,rfl,hm,hit,es,nL,hsz,hrd,hn⟩:=Ks hst hp BF
 have Er:∀(j:Nat) (x:MapEntry),es[j]? = some x→x.born=j:=hsz.born
 have hold:∀x∈es.toList,x.born<n:=fun x hx=>by
  obtain⟨j,hj⟩:=List.getElem?_of_mem hx
  rw[Er j x (by simpa using hj)]
  have:=(List.getElem?_eq_some_iff.1 hj).1
  rw[Array.length_toList,hsz.len] at this
  exact this
 have hf:=(hst.FJ i _ hi rfl).1
 have oa:∀off,¬ρ.S (ρ.S.loc i) off:=fun off=>hst.Cw _ off hf
 have hleft:∀x∈es.toList,(x∈(leftOf es seen.toArray).toList↔x.born∈D8 n seen):=fun x hx=>by
  have:=hold x hx
  simp only[leftOf,D8,Array.toList_filter,List.mem_filter,List.contains_toArray,List.mem_range,hx,this,true_and]
 rcases run_next_at (P:=P) w ty (ρ.S.loc i) (ρ.S.loc m) n n seen.toArray es n hit nL hold (Nat.le_refl _) with⟨h0,hrun⟩ | ⟨e,he,w1,hw1,hrun⟩
 ·have alL:(D8 n seen).isEmpty=true:=by
   rw[List.isEmpty_iff]
   refine List.eq_nil_iff_forall_not_mem.2 fun j hj=>?_
   have hjn:j<n:=by simp only[D8,List.mem_filter,List.mem_range] at hj;exact hj.1
   have hjl:j<es.size:=by rw[hsz.len];exact hjn
   have hb:=Er j es[j] (Array.getElem?_eq_getElem hjl)
   have:=(hleft es[j] (by simp)).2 (by rw[hb];exact hj)
   rw[Array.eq_empty_of_size_eq_zero h0] at this
   simp at this
  rw[if_pos alL] at h
  subst h
  exact⟨_,w,.bh [.bool false],bs',by simp,hrun,.bh rfl fun j v d hv hd=>by
   match j with
   | 0=>simp at hv hd;subst hv hd;exact .v rfl
   | j+1=>simp at hv,hst,bW.refl _ _,rfl,.refl _,rfl,rfl,fun _ _=>rfl⟩
 ·have afX:e∈es.toList:=by
   simp only[leftOf,Array.toList_filter,List.mem_filter] at he
   exact he.1
  have hj:=(hleft e afX).1 he
  obtain⟨j,Vi⟩:=List.getElem?_of_mem afX
  have Tc:es[j]? = some e:=by simpa using Vi
  have hb:=Er j e Tc
  rw[hb] at hj
  have hne:¬(D8 n seen).isEmpty=true:=fun hh=>by
   rw[List.isEmpty_iff] at hh
   rw[hh] at hj
   cases hj
  rw[if_neg hne] at h
  have hjl:j<dL.length:=by rw[hn,←hsz.len];exact(Array.getElem?_eq_some_iff.1 Tc).1
  obtain⟨dk,dv,e1,e2,e3⟩:=hrd.2 j e dL[j] Vi (by simp)
  have hw:w1.heap=w.heap∧w1.os=w.os∧TL w1 w∧w1.output=w.output:=by
   rcases hw1 with rfl | rfl
   ·exact⟨rfl,rfl,.refl _,rfl⟩
   ·exact⟨rfl,rfl,⟨rfl,Nat.le_succ _⟩,rfl⟩
  have mU:ρ.S.loc i<w.heap.size:=(Array.getElem?_eq_some_iff.1 hit).1
  have kY:∀b,b≠ρ.S.loc i→(ChangeMaps.setBlock w1 (ρ.S.loc i) (.mapIter (some (ρ.S.loc m)) n (seen.toArray.push e.born) n)).heap[b]? = w.heap[b]?:=fun b hb=>by
   simp only[ChangeMaps.setBlock,hw.1,Array.getElem?_setIfInBounds,Ne.symm hb,if_false]
  have xF:(ChangeMaps.setBlock w1 (ρ.S.loc i) (.mapIter (some (ρ.S.loc m)) n (seen.toArray.push e.born) n)).heap[ρ.S.loc i]? = some (.mapIter (some (ρ.S.loc m)) n (seen++[j]).toArray n):=by
   simp only[ChangeMaps.setBlock,hw.1,Array.getElem?_setIfInBounds,if_true,mU,hb]
   simp
  have hK:bW ρ.S w (ChangeMaps.setBlock w1 (ρ.S.loc i) (.mapIter (some (ρ.S.loc m)) n (seen.toArray.push e.born) n)):=fun b o GS=>World.cell?_of_block (a:=⟨b,o,none⟩) (kY b fun e=>oa o (e ▸ GS))
  refine⟨_,_,.bh [.bool true,dk,dv],bs'.set i (.itb m n (seen++[j])),?_,hrun,?_,?_,hK,hw.2.1,⟨hw.2.2.1.tape,hw.2.2.1.dr⟩,hw.2.2.2,by simp[ChangeMaps.setBlock,hw.1],fun b hb=>kY b fun e=>hb (e ▸ hf)⟩
  ·rw[←h,List.mem_filterMap]
   refine⟨j,hj,?_⟩
   unfold An
   rw[List.getElem?_eq_getElem hjl,e1]
   rfl
  ·refine .bh rfl fun q v d hv hd=>?_
   match q with
   | 0=>simp at hv hd;subst hv hd;exact .v rfl
   | 1=>simp at hv hd;subst hv hd;exact e2.keep hK (Sets.le_refl _)
   | 2=>simp at hv hd;subst hv hd;exact e3.keep hK (Sets.le_refl _)
   | q+3=>simp at hv
  ·refine hst.set hK hi rfl (fun k x _ _ hne=>kY _ hne) (fun e sz cs hz=>by cases hz) (fun dL hz=>by cases hz) fun _=>⟨hm,xF⟩

theorem Qkq {w:World}{r:Nat}{s:ByteArray}{n:Nat}(h:w.heap[r]? = some (.stringIter s n)):(getObj r).run P w=.ok (.stringIter s n) w:=by simp[getObj,Sem.run,h]

theorem Nm {w:World}{r:Nat}{s:ByteArray}{n:Nat}(o':Obj)(h:w.heap[r]? = some (.stringIter s n)):(setObj r o').run P w=.ok () { w with heap:=w.heap.setIfInBounds r o' }:=by
 simp[setObj,Sem.run,h]

theorem anY {o:Oper}{ct:Operand→SV}{ix:Nat}{r:eV}(hv:∀x,ef w ρ env (a.eval x) (ct x))(hl:Qmk P o ct (σ.obj bN) ix=some r)(h:cu w0 X w a σ env ρ)(hd:∀d,o.dst=some d→d<σ.tmps.length)(hb:cn P env ix r.bind) :
  ∃z,r.eM=some (bN,z)∧gq P o a w w0 X ((σ.setObj bN (some z)).put o.dst r.val) env:=by
 unfold Qmk at hl
 split at hl
 case h_2=>cases hl
 rename_i cf hx dN
 obtain⟨bs,jC,hst,_⟩:=h.dO _ _ dN
 split at hl
 ·cases hl
 rename_i hro
 have hro:cf.ro=false:=by simpa using hro
 split at hl
 ·rename_i t m ho
  split at hl
  ·rename_i m' hty hm'
   cases hl
   obtain⟨dm,FO,hrm⟩:=SV.ck hm' (hv m)
   obtain⟨d,he,cW⟩:=hb
   simp only[E.eval,jC,FO,Option.bind_some,D.m4] at he
   obtain⟨s,rfl,rfl⟩:∃s,dm=.v (.string s)∧d=.st (bs++[.cY s 0]):=by
    unfold D.anH at he
    split at he
    ·rename_i e1
     cases e1
     cases he
     exact⟨_,rfl,rfl⟩
    ·cases he
   have hme:a.eval m=.string s:=by
    generalize a.eval m=v at hrm
    cases hrm
    rfl
   have hrun:(execOp a.eval o).run P w=.ok (.value (.pointer (some ⟨w.heap.size,0,none⟩))) (w.alloc (.stringIter s 0)):=by
    unfold execOp
    simp only[ho,hme,Instr.range,Sem.run_bind,run_underlying hty,Result.andThen_ok,Sem.run_pure]
    rfl
   obtain⟨bn,hn⟩:=h.Aw (k:=0) (z:=.cY s 0) (ob:=.stringIter s 0) (x':=.sym ix) dN hro jC (fun e sz cs hz=>by cases hz) (fun dL hz=>by cases hz) (by simp only[E.eval];exact cW) (fun _=>rfl)
   refine⟨_,rfl,c_ hrun (bn.put (by rw[af.aZ];exact hd) ?_)⟩
   exact EA jC hn
  ·cases hl
 ·rename_i it ho
  obtain⟨p,hp,rfl⟩:=Option.map_eq_some_iff.1 hl
  obtain⟨dp,hdp,Ye⟩:=SV.ck hp (hv it)
  obtain⟨d,he,cW⟩:=hb
  simp only[E.eval,jC,hdp,Option.bind_some,D.m4] at he
  obtain⟨q,hq,rfl⟩:=Option.map_eq_some_iff.1 he
  obtain⟨i,s,n,rfl,hi,rfl⟩:∃i s n,dp=.loc i 0∧bs[i]? = some (.cY s n)∧q=(bs,i,s,n):=by
   unfold D.anM at hq
   split at hq
   ·rename_i e1
    cases e1
    split at hq
    ·rename_i hi
     cases hq
     exact⟨_,_,_,rfl,hi,rfl⟩
    ·cases hq
   ·cases hq
  obtain⟨hf,xF,oa⟩:=hst.FJ i _ hi rfl
  replace xF:w.heap[ρ.S.loc i]? = some (.stringIter s n):=xF
  have hpe:a.eval it=.pointer (some ⟨ρ.S.loc i,0,none⟩):=by
   generalize a.eval it=v at Ye
   cases Ye
   rfl
  have hX:(E.m4 .snv hx p .nil .nil).eval env=some (if n<s.size then .bh [.bool true,.int n,.v (.int .i32 (Utf8.decode s n).1)] else .bh [.bool false]):=by
   simp only[E.eval,jC,hdp,Option.bind_some,D.m4,D.snv,hq,Option.map_some]
  by_cases hlt:n<s.size
  ·rw[if_pos hlt] at hX
   simp only[if_pos hlt] at cW
   have fH:(execOp a.eval o).run P w=.ok (.value (.tuple #[.bool true,goInt n,.int .i32 (Utf8.decode s n).1])) { w with heap:=w.heap.setIfInBounds (ρ.S.loc i) (.stringIter s (n+(Utf8.decode s n).2)) }:=by
    unfold execOp
    simp only[ho,hpe,Instr.next,Sem.run_bind,Qkq xF,Result.andThen_ok,if_pos hlt,Nm _ xF,Sem.run_pure]
   obtain⟨g1,g2⟩:=heap_set (o':=.stringIter s (n+(Utf8.decode s n).2)) xF
   refine⟨_,rfl,c_ fH ((h.setBlock (w':={ w with heap:=w.heap.setIfInBounds (ρ.S.loc i) (.stringIter s (n+(Utf8.decode s n).2)) }) (x':=.store cf (.sym ix)) (.inl rfl) dN (b0:=ρ.S.loc i) hf (by simpa[bl.ro] using hro) (by intro _ hh;exact hh) oa (fun b hb'=>g2 b hb') rfl ⟨rfl,Nat.le_refl _⟩ rfl (by simp) fun hk=>?_).put (by rw[af.aZ];exact hd) ?_)⟩
   ·exact⟨_,by simp only[E.eval];exact cW,hst.set (z':=.cY s (n+(Utf8.decode s n).2)) hk hi rfl (fun k x _ _ hne=>g2 _ hne) (fun e sz cs hz=>by cases hz) (fun dL hz=>by cases hz) fun _=>g1,rfl⟩
   ·refine .e hX (.bh rfl fun q v d hv hd=>?_) (by simp)
    match q with
    | 0=>simp at hv hd;subst hv hd;exact .v rfl
    | 1=>simp at hv hd;subst hv hd;exact .v rfl
    | 2=>simp at hv hd;subst hv hd;exact .v rfl
    | q+3=>simp at hv
  ·rw[if_neg hlt] at hX
   simp only[if_neg hlt] at cW
   have fH:(execOp a.eval o).run P w=.ok (.value (.tuple #[.bool false])) w:=by
    unfold execOp
    simp only[ho,hpe,Instr.next,Sem.run_bind,Qkq xF,Result.andThen_ok,if_neg hlt,Sem.run_pure]
   refine⟨_,rfl,c_ fH ((h.setBlock (w':=w) (x':=.store cf (.sym ix)) (.inl rfl) dN (b0:=ρ.S.loc i) hf (by simpa[bl.ro] using hro) (by intro _ hh;exact hh) oa (fun b hb'=>rfl) rfl (.refl _) rfl rfl fun hk=>?_).put (by rw[af.aZ];exact hd) ?_)⟩
   ·exact⟨_,by simp only[E.eval];exact cW,hst,rfl⟩
   ·refine .e hX (.bh rfl fun q v d hv hd=>?_) (by simp)
    match q with
    | 0=>simp at hv hd;subst hv hd;exact .v rfl
    | q+1=>simp at hv
 ·cases hl

theorem NC {o:Oper}{ct:Operand→SV}{ix:Nat}{r:eV}(hv:∀x,ef w ρ env (a.eval x) (ct x))(hl:lmap P o ct σ.obj ix=some r)(h:cu w0 X w a σ env ρ)(hd:∀d,o.dst=some d→d<σ.tmps.length)(hb:cn P env ix r.bind) :
  (r.eM=none∧gq P o a w w0 X (σ.put o.dst r.val) env)∨∃z,r.eM=some (bN,z)∧gq P o a w w0 X ((σ.setObj bN (some z)).put o.dst r.val) env:=by
 unfold lmap at hl
 split at hl
 case isFalse=>cases hl
 split at hl
 case h_2=>
  split at hl
  case h_2=>
   split at hl
   case h_2=>exact .inr (an2 hv hl h hd hb)
   rename_i hl'
   cases hl
   exact alR hv hl' h hd hb
  rename_i hl'
  cases hl
  exact .inr (anY hv hl' h hd hb)
 rename_i hl'
 cases hl
 have hl:=hl'
 clear hl'
 unfold qv at hl
 split at hl
 case h_2=>cases hl
 rename_i cf hx dN
 obtain⟨bs,jC,hst,_⟩:=h.dO _ _ dN
 have eM:∀{t:TypeId} {m k x:Operand} {ty:TypeId×TypeId×Kd} {m' k' x':E},(execOp a.eval o).run P w=((Instr.mapUpdate t (a.eval m) (a.eval k) (a.eval x)).run P w).andThen (fun _ w'=>.ok .skip w')→uH P t=some ty→(ct m).jx=some m'→(ct k).jx=some k'→(ct x).jx=some x'→cf.ro=false →
   cn P env ix (some (.ev (.m4 (.put ty.2.2) hx m' k' x')))→gq P o a w w0 X ((σ.setObj bN (some (.store cf (.sym ix)))).put o.dst .cE) env:=by
  rintro t m k x ⟨kt,e,kd⟩ m' k' x' fH hty hm' hk' hx' hro hb
  obtain⟨dm,FO,hrm⟩:=SV.ck hm' (hv m)
  obtain⟨dk,hdk,Fs⟩:=SV.ck hk' (hv k)
  obtain⟨dx,pY,mT⟩:=SV.ck hx' (hv x)
  obtain⟨d,he,cW⟩:=hb
  simp only[E.eval,jC,FO,hdk,pY,Option.bind_some,D.m4] at he
  have hmp:∃i,dm=.mp i:=by
   unfold D.Ul at he
   split at he
   ·exact⟨_,rfl⟩
   ·cases he
  obtain⟨i,rfl⟩:=hmp
  obtain⟨wk,es',clock',⟨dL,oh⟩,rfl,hrun,nL,GL⟩:=MM hst hty hrm Fs mT he
  rw[hrun] at fH
  obtain⟨hf,es0,Wp,hh,_,oa,_⟩:=hst.maps i _ oh
  obtain⟨g1,g2⟩:=heap_set (o':=.map es' clock') hh
  refine Qdx fH ((h.setBlock (w':={ w with heap:=w.heap.setIfInBounds (ρ.S.loc i) (.map es' clock') }) (.inl rfl) dN (b0:=ρ.S.loc i) hf (by simpa[bl.ro] using hro) (by intro _ hh;exact hh) oa (fun b hb'=>g2 b hb') rfl ⟨rfl,Nat.le_refl _⟩ rfl (by simp) fun hk=>?_).put (by rw[af.aZ];exact hd) .cE)
  exact⟨_,by simp only[E.eval];exact cW,Aa hst hk oh g1 g2 nL GL,rfl⟩
 split at hl
 ·rename_i t ho
  split at hl
  ·cases hl
  rename_i hro
  have hro:cf.ro=false:=by simpa using hro
  cases hl
  obtain⟨d,he,cW⟩:=hb
  simp only[E.eval,jC,Option.bind_some,D.m4] at he
  cases he
  have hrun:(execOp a.eval o).run P w=.ok (.value (.map (some w.heap.size))) (w.alloc (.map #[] 0)):=by
   unfold execOp
   simp only[ho,Option.map_none,Sem.run_bind]
   rfl
  obtain⟨bn,hn⟩:=h.Aw (k:=0) (z:=.iE []) (ob:=.map #[] 0) (x':=.sym ix) dN hro jC (fun e sz cs hz=>by cases hz) (fun dL hz=>by cases hz;exact⟨#[],0,rfl,aaZ.of ⟨rfl,rfl,by simp⟩ rfl,by simp⟩) (by simp only[E.eval];exact cW)
  refine .inr ⟨_,rfl,c_ hrun (bn.put (by rw[af.aZ];exact hd) ?_)⟩
  refine .e (d:=.mp bs.length) (by simp only[E.eval,jC];rfl) ?_ fun _=>rfl
  have:=bU.mp (w:=w.alloc (.map #[] 0)) (S:=ρ.S.more w.heap.size 0) (i:=bs.length) (by simp[Sets.more,hn])
  have hl:(ρ.S.more w.heap.size 0).loc bs.length=w.heap.size:=by simp[Sets.more,hn]
  rwa [hl] at this
 ·rename_i t m k x ho
  split at hl
  ·cases hl
  rename_i hro
  split at hl
  ·rename_i ty m' k' x' hty hm' hk' hx'
   cases hl
   exact .inr ⟨_,rfl,eM (by unfold execOp;rw[ho];simp only[Sem.run_bind,Sem.run_pure]) hty hm' hk' hx' (by simpa using hro) hb⟩
  ·cases hl
 ·rename_i t m k x ho
  split at hl
  ·cases hl
  rename_i hro
  split at hl
  ·rename_i ty m' k' x' hty hm' hk' hx'
   cases hl
   exact .inr ⟨_,rfl,eM (by unfold execOp;rw[ho];simp only[Sem.run_bind,Sem.run_pure]) hty hm' hk' hx' (by simpa using hro) hb⟩
  ·cases hl
 ·rename_i t m k ok ho
  split at hl
  ·rename_i kt e kd m' k' hty hm' hk'
   split at hl
   ·rename_i z agg hz ic
    obtain⟨zv,X9,hz⟩:=Option.bind_eq_some_iff.1 hz
    obtain⟨dm,FO,hrm⟩:=SV.ck hm' (hv m)
    obtain⟨dk,hdk,Fs⟩:=SV.ck hk' (hv k)
    split at hl
    ·rename_i hok
     subst hok
     cases hl
     obtain⟨d,he,cW⟩:=hb
     simp only[E.eval,jC,FO,hdk,Option.bind_some,D.m4,Option.bind_eq_some_iff,Option.map_eq_some_iff] at he
     obtain⟨dL,Vg,rr,hrr,he⟩:=he
     obtain⟨x,hrun,hx⟩:=D2 (ok:=true) hst hty hrm Fs Vg hrr X9
     have fH:(execOp a.eval o).run P w=.ok (.value (.tuple #[x,.bool rr.isSome])) w:=by
      unfold execOp
      simp only[ho,Sem.run_bind,hrun,Result.andThen_ok,Sem.run_pure,if_true]
     refine .inl ⟨rfl,c_ fH (h.put hd ?_)⟩
     obtain⟨dd,JJ,hxd⟩:∃dd,d=.bh [dd,.bool rr.isSome]∧bU w ρ.S x dd:=by
      rcases hx with⟨rfl,rfl⟩ | ⟨j,dv,rfl,hdv⟩
      ·exact⟨_,he.symm,D.lE hz⟩
      ·exact⟨_,he.symm,hdv⟩
     subst JJ
     refine .bh rfl fun i v c Qcz hc=>?_
     match i with
     | 0=>
      simp at Qcz hc
      subst Qcz hc
      exact .e (d:=dd) (by simp[E.eval,cW,D.Qrx]) hxd (by simp)
     | 1=>
      simp at Qcz hc
      subst Qcz hc
      exact .e (d:=.bool rr.isSome) (by simp[E.eval,cW,D.Qrx]) (.v rfl) (fun _=>rfl)
     | i+2=>simp at hc
    ·rename_i hok
     have hok:ok=false:=by simpa using hok
     subst hok
     cases hl
     obtain⟨d,he,cW⟩:=hb
     simp only[E.eval,jC,FO,hdk,Option.bind_some,D.m4,Option.bind_eq_some_iff] at he
     obtain⟨dL,Vg,rr,hrr,he⟩:=he
     obtain⟨x,hrun,hx⟩:=D2 (ok:=false) hst hty hrm Fs Vg hrr X9
     have fH:(execOp a.eval o).run P w=.ok (.value x) w:=by
      unfold execOp
      simp only[ho,Sem.run_bind,hrun,Result.andThen_ok,Sem.run_pure]
      rfl
     refine .inl ⟨rfl,c_ fH (h.put hd ?_)⟩
     rcases hx with⟨rfl,rfl⟩ | ⟨j,dv,rfl,hdv⟩
     ·simp only at he
      split at he
      ·rename_i hone
       cases he
       exact .e cW (D.lE hz) fun hag=>hone.resolve_left (by simpa using hag)
      ·cases he
     ·simp only at he
      split at he
      ·rename_i hone
       cases he
       exact .e cW hdv fun hag=>hone.resolve_left (by simpa using hag)
      ·cases he
   ·cases hl
  ·cases hl
 ·rename_i t m ho
  split at hl
  ·cases hl
  rename_i hro
  have hro:cf.ro=false:=by simpa using hro
  split at hl
  ·rename_i ty m' hty hm'
   cases hl
   obtain⟨kt,e,kd⟩:=ty
   obtain⟨hu,_⟩:=pV hty
   obtain⟨dm,FO,hrm⟩:=SV.ck hm' (hv m)
   obtain⟨d,he,cW⟩:=hb
   simp only[E.eval,jC,FO,Option.bind_some,D.m4] at he
   obtain⟨i,dL,rfl,oh,hlo,rfl⟩:=Rp he
   obtain⟨hf,es,clock,hh,hsz,oa,hr⟩:=hst.maps i _ oh
   replace hsz:=hsz.sz hlo
   have hlt:i<ρ.S.n:=by rw[hst.n];exact(List.getElem?_eq_some_iff.1 oh).1
   have hme:a.eval m=.map (some (ρ.S.loc i)):=by
    generalize a.eval m=v at hrm
    cases hrm
    rfl
   have hrun:(execOp a.eval o).run P w=.ok (.value (.pointer (some ⟨w.heap.size,0,none⟩))) (w.alloc (.mapIter (some (ρ.S.loc i)) dL.length [].toArray dL.length)):=by
    unfold execOp
    simp only[ho,hme,Instr.range,Sem.run_bind,run_underlying hu,Result.andThen_ok,Go.MapKept.run_getObj_map hh,hsz.YQ,Sem.run_pure]
    rfl
   obtain⟨bn,hn⟩:=h.Aw (k:=0) (z:=.itb i dL.length []) (ob:=.mapIter (some (ρ.S.loc i)) dL.length [].toArray dL.length) (x':=.sym ix) dN hro jC (fun e sz cs hz=>by cases hz) (fun dL hz=>by cases hz) (by simp only[E.eval];exact cW) (fun _=>⟨Nat.lt_succ_of_lt hlt,by rw[(ρ.S.qw w.heap.size 0).loc _ hlt]⟩)
   refine .inr ⟨_,rfl,c_ hrun (bn.put (by rw[af.aZ];exact hd) ?_)⟩
   exact EA jC hn
  ·cases hl
 ·rename_i t m k ho
  split at hl
  ·cases hl
  rename_i hro
  have hro:cf.ro=false:=by simpa using hro
  split at hl
  ·rename_i kt e kd m' k' hty hm' hk'
   obtain⟨z,hz,rfl⟩:=Option.map_eq_some_iff.1 hl
   obtain⟨zv,X9,hz⟩:=Option.bind_eq_some_iff.1 hz
   obtain⟨dm,FO,hrm⟩:=SV.ck hm' (hv m)
   obtain⟨dk,hdk,Fs⟩:=SV.ck hk' (hv k)
   obtain⟨d,he,cW⟩:=hb
   simp only[E.eval,jC,FO,hdk,Option.bind_some,D.m4] at he
   obtain⟨i,dL,wk,es',clock',u,j,du,rfl,oh,rfl,hent,hrun,nL,GL,hu⟩:=Np (P:=P) hst hty hrm Fs X9 hz he
   have fH:(execOp a.eval o).run P w=.ok (.value (.tuple #[u,.int .i64 j])) { w with heap:=w.heap.setIfInBounds (ρ.S.loc i) (.map es' clock') }:=by
    unfold execOp
    simp only[ho,Sem.run_bind,hrun,Result.andThen_ok,Sem.run_pure]
   obtain⟨hf,es0,Wp,hh,_,oa,_⟩:=hst.maps i _ oh
   obtain⟨g1,g2⟩:=heap_set (o':=.map es' clock') hh
   have hK:bW ρ.S w { w with heap:=w.heap.setIfInBounds (ρ.S.loc i) (.map es' clock') }:=fun b o hs=>World.cell?_of_block (a:=⟨b,o,none⟩) (g2 b fun e=>oa o (e ▸ hs))
   have hX:(E.m4 (.V2 kd) hx m' k' (.const z)).eval env=some (.bh [du,.int j]):=by
    simp only[E.eval,jC,FO,hdk,Option.bind_some,D.m4]
    exact hent
   refine .inr ⟨_,rfl,c_ fH ((h.setBlock (w':={ w with heap:=w.heap.setIfInBounds (ρ.S.loc i) (.map es' clock') }) (.inl rfl) dN (b0:=ρ.S.loc i) hf (by simpa[bl.ro] using hro) (by intro _ hh;exact hh) oa (fun b hb'=>g2 b hb') rfl ⟨rfl,Nat.le_refl _⟩ rfl (by simp) fun hk=>?_).put (by rw[af.aZ];exact hd) ?_)⟩
   ·exact⟨_,by simp only[E.eval];exact cW,Aa hst hk oh g1 g2 nL GL,rfl⟩
   ·refine .bh rfl fun q v c Qcz hc=>?_
    match q with
    | 0=>
     simp at Qcz hc
     subst Qcz hc
     exact .e (d:=du) (by simp only[E.eval] at hX ⊢;rw[hX];rfl) (hu.keep hK (Sets.le_refl _)) (by simp)
    | 1=>
     simp at Qcz hc
     subst Qcz hc
     exact .e (d:=.int j) (by simp only[E.eval] at hX ⊢;rw[hX];rfl) (.v rfl) fun _=>rfl
    | q+2=>simp at hc
  ·cases hl
 ·rename_i t m s x ho
  split at hl
  ·cases hl
  rename_i hro
  have hro:cf.ro=false:=by simpa using hro
  split at hl
  ·rename_i m' s' x' hm' hs' hx'
   cases hl
   obtain⟨dm,FO,hrm⟩:=SV.ck hm' (hv m)
   obtain⟨ds,hds,tI⟩:=SV.ck hs' (hv s)
   obtain⟨dx,pY,mT⟩:=SV.ck hx' (hv x)
   obtain⟨d,he,cW⟩:=hb
   simp only[E.eval,jC,FO,hds,pY,Option.bind_some,D.m4] at he
   obtain⟨i,dL,wk,es',clock',rfl,oh,rfl,hrun,nL,GL⟩:=Rq (P:=P) (t:=t) hst hrm tI mT he
   have fH:(execOp a.eval o).run P w=.ok .skip { w with heap:=w.heap.setIfInBounds (ρ.S.loc i) (.map es' clock') }:=by
    unfold execOp
    simp only[ho,Sem.run_bind,hrun,Result.andThen_ok,Sem.run_pure]
   obtain⟨hf,es0,Wp,hh,_,oa,_⟩:=hst.maps i _ oh
   obtain⟨g1,g2⟩:=heap_set (o':=.map es' clock') hh
   refine .inr ⟨_,rfl,Qdx fH ((h.setBlock (w':={ w with heap:=w.heap.setIfInBounds (ρ.S.loc i) (.map es' clock') }) (.inl rfl) dN (b0:=ρ.S.loc i) hf (by simpa[bl.ro] using hro) (by intro _ hh;exact hh) oa (fun b hb'=>g2 b hb') rfl ⟨rfl,Nat.le_refl _⟩ rfl (by simp) fun hk=>?_).put (by rw[af.aZ];exact hd) .cE)⟩
   exact⟨_,by simp only[E.eval];exact cW,Aa hst hk oh g1 g2 nL GL,rfl⟩
  ·cases hl
 ·rename_i it ho
  obtain⟨p,hp,rfl⟩:=Option.map_eq_some_iff.1 hl
  obtain⟨dp,hdp,Ye⟩:=SV.ck hp (hv it)
  obtain⟨d,he,cW⟩:=hb
  simp only[E.eval,jC,hdp,Option.bind_some,D.m4] at he
  obtain⟨v1,v2,d1,d2,hrun,rfl,h1,h2⟩:=Sd (P:=P) hst Ye he
  have fH:(execOp a.eval o).run P w=.ok (.value (.tuple #[v1,v2])) w:=by
   unfold execOp
   simp only[ho,Sem.run_bind,hrun,Result.andThen_ok,Sem.run_pure]
  refine .inl ⟨rfl,c_ fH (h.put hd ?_)⟩
  refine .bh rfl fun i v c Qcz hc=>?_
  match i with
  | 0=>
   simp at Qcz hc
   subst Qcz hc
   exact .e (d:=d1) (by simp[E.eval,cW,D.Qrx]) h1 (by simp)
  | 1=>
   simp at Qcz hc
   subst Qcz hc
   exact .e (d:=d2) (by simp[E.eval,cW,D.Qrx]) h2 (by simp)
  | i+2=>simp at hc
 ·rename_i c ho
  split at hl
  ·rename_i ku
   split at hl
   ·rename_i x t hargs hts
    split at hl
    ·split at hl
     ·rename_i ty m' hty hm'
      cases hl
      obtain⟨kt,e,kd⟩:=ty
      obtain⟨hu,_⟩:=pV hty
      obtain⟨dm,FO,hrm⟩:=SV.ck hm' (hv x)
      obtain⟨d,he,cW⟩:=hb
      simp only[E.eval,jC,FO,Option.bind_some,D.m4,Option.map_eq_some_iff] at he
      obtain⟨dL,Vg,rfl⟩:=he
      have ho':o.op=.call { callee:=.builtin .len,args:=#[x],argTypes:=#[t] }:=by
       rw[ho]
       obtain⟨c1,c2,c3⟩:=c
       simp only at ku hargs hts
       subst ku
       congr 2
       ·exact Array.toList_inj.1 (by simpa using hargs)
       ·exact Array.toList_inj.1 (by simpa using hts)
      have fH:(execOp a.eval o).run P w=.ok (.value (.int .i64 dL.length)) w:=by
       refine EK ho' ?_
       rcases p6 hst hrm Vg with⟨e1,rfl⟩ | ⟨i,es,clock,agh,rfl,oh,ek,e1,hh,nL,GL⟩
       ·rw[e1]
        simp only[Builtin.len_,List.getElem?_toArray,List.getElem?_cons_zero,Sem.run_bind,run_underlying hu,Result.andThen_ok,Sem.run_pure]
        rfl
       ·rw[e1]
        simp only[Builtin.len_,List.getElem?_toArray,List.getElem?_cons_zero,Sem.run_bind,run_underlying hu,Result.andThen_ok,Go.MapKept.run_getObj_map hh,Sem.run_pure,GL.size,ek]
        rfl
      exact .inl ⟨rfl,c_ fH (h.put hd (.e cW (.v rfl) fun _=>rfl))⟩
     ·cases hl
    ·cases hl
   ·cases hl
  ·rename_i ku
   split at hl
   ·cases hl
   rename_i hro
   have hro:cf.ro=false:=by simpa using hro
   split at hl
   ·rename_i x y t ts hargs hts
    split at hl
    ·rename_i kt e kd m' k' hty hm' hk'
     cases hl
     obtain⟨dm,FO,hrm⟩:=SV.ck hm' (hv x)
     obtain⟨dk,hdk,Fs⟩:=SV.ck hk' (hv y)
     obtain⟨d,he,cW⟩:=hb
     simp only[E.eval,jC,FO,hdk,Option.bind_some,D.m4] at he
     have ho':o.op=.call { callee:=.builtin .delete,args:=#[x,y],argTypes:=(t :: ts).toArray }:=by
      rw[ho]
      obtain⟨c1,c2,c3⟩:=c
      simp only at ku hargs hts
      subst ku
      congr 2
      ·exact Array.toList_inj.1 (by simpa using hargs)
      ·exact Array.toList_inj.1 (by simpa using hts)
     obtain⟨i,dL,wk,es',clock',rfl,oh,rfl,hrun,nL,GL⟩:=ahM (P:=P) (ty:=o.type) (ts:=ts) hst hty hrm Fs he
     have fH:=ahk (P:=P) (a:=a) ho' hrun
     obtain⟨hf,es0,Wp,hh,_,oa,_⟩:=hst.maps i _ oh
     obtain⟨g1,g2⟩:=heap_set (o':=.map es' clock') hh
     refine .inr ⟨_,rfl,c_ fH ((h.setBlock (w':={ w with heap:=w.heap.setIfInBounds (ρ.S.loc i) (.map es' clock') }) (.inl rfl) dN (b0:=ρ.S.loc i) hf (by simpa[bl.ro] using hro) (by intro _ hh;exact hh) oa (fun b hb'=>g2 b hb') rfl ⟨rfl,Nat.le_refl _⟩ rfl (by simp) fun hk=>?_).put (by rw[af.aZ];exact hd) .cE)⟩
     exact⟨_,by simp only[E.eval];exact cW,Aa hst hk oh g1 g2 nL GL,rfl⟩
    ·cases hl
   ·cases hl
  ·cases hl
 ·cases hl

end
end
end Go.Am
