/-
 Maps of the store.
-/
import Derived.Test.YtjnipnanfjglpaaGreatDoorAmPuretoAmClo
import Derived.MapKept
import Derived.Maps.RangeRun
set_option linter.unusedSimpArgs false
set_option linter.unusedVariables false
namespace Go.Am
noncomputable section
open Go.MapKept (bytes_beq run_findKey heap_set)

def qW (P:Program)(t:TypeId):Option Kd:=
 match kindOf P t with
 | some .int=>some .int
 | some .str=>some .str
 | some (.agg ks)=>some (.agg ks)
 | _=>none

def m7 (P:Program)(t:TypeId):Option (TypeId×TypeId×Kd):=
 match P.underlying t with
 | some (.map k e)=>(qW P k).map fun kd=>(k,e,kd)
 | _=>none

def kM (P:Program)(o:Oper)(aH:Operand→SV)(hO:Option aE)(ix:Nat):Option bZ:=
 match hO with
 | some (.store cf h)=>
  match o.op with
  | .makeMap _ none=>if cf.ro then none else some { val:=.e (.m4 .gu h .nil .nil .nil) true,cA:=some (aO,.store cf (.sym ix)),bind:=some (.ev (.m4 .JN h .nil .nil .nil)) }
  | .mapUpdate t m k x | .insert t m k x=>if cf.ro then none else(match m7 P t,(aH m).toE,(aH k).toE,(aH x).toE with
   | some (_,_,kd),some m',some k',some x'=>some { val:=.bS,cA:=some (aO,.store cf (.sym ix)),bind:=some (.ev (.m4 (.put kd) h m' k' x')) }
   | _,_,_,_=>none)
  | .lookup t m k ok=>(match m7 P t,(aH m).toE,(aH k).toE with
   | some (_,e,kd),some m',some k'=>(match((P.info? e).bind (·.zero)).bind D.qS,iy P e with
    | some z,some agg=>if ok then some { val:=.aM [.e (.au 0 (.sym ix)) false,.e (.au 1 (.sym ix)) true],bind:=some (.ev (.m4 (.NF kd) h m' k' (.const z))) }
      else some { val:=.e (.sym ix) (!agg),bind:=some (.ev (.m4 (.get kd agg) h m' k' (.const z))) }
    | _,_=>none)
   | _,_,_=>none)
  | .range t m=>if cf.ro then none else(match m7 P t,(aH m).toE with
   | some _,some m'=>some { val:=.e (.aC h) true,cA:=some (aO,.store cf (.sym ix)),bind:=some (.ev (.m4 .rng h m' .nil .nil)) }
   | _,_=>none)
  | .mapEntry t m k=>if cf.ro then none else(match m7 P t,(aH m).toE,(aH k).toE with
   | some (_,e,kd),some m',some k'=>(((P.info? e).bind (·.zero)).bind D.qS).map fun z=>
     { val:=.aM [.e (.au 0 (.m4 (.Qm kd) h m' k' (.const z))) false,.e (.au 1 (.m4 (.Qm kd) h m' k' (.const z))) true],cA:=some (aO,.store cf (.sym ix)),bind:=some (.ev (.m4 (.YT kd) h m' k' (.const z))) }
   | _,_,_=>none)
  | .entryStore _ m s x=>if cf.ro then none else(match(aH m).toE,(aH s).toE,(aH x).toE with
   | some m',some s',some x'=>some { val:=.bS,cA:=some (aO,.store cf (.sym ix)),bind:=some (.ev (.m4 .k7 h m' s' x')) }
   | _,_,_=>none)
  | .entry it=>(aH it).toE.map fun p=>{ val:=.aM [.e (.au 0 (.sym ix)) false,.e (.au 1 (.sym ix)) false],bind:=some (.ev (.m4 .entry h p .nil .nil)) }
  | .call c=>(match c.callee with
   | .builtin .len=>(match c.args.toList,c.argTypes.toList with
    | [x],[t]=>if cf.maps.contains t then(match m7 P t,(aH x).toE with
     | some _,some m'=>some { val:=.e (.sym ix) true,bind:=some (.ev (.m4 .W0 h m' .nil .nil)) }
     | _,_=>none) else none
    | _,_=>none)
   | .builtin .delete=>if cf.ro then none else(match c.args.toList,c.argTypes.toList with
    | [x,k],t :: _=>(match m7 P t,(aH x).toE,(aH k).toE with
     | some (_,_,kd),some m',some k'=>some { val:=.bS,cA:=some (aO,.store cf (.sym ix)),bind:=some (.ev (.m4 (.del kd) h m' k' .nil)) }
     | _,_,_=>none)
    | _,_=>none)
   | _=>none)
  | _=>none
 | _=>none

def sY (P:Program)(o:Oper)(aH:Operand→SV)(hO:Option aE)(ix:Nat):Option bZ:=
 match hO with
 | some (.store cf h)=>if cf.ro=true then none else(match o.op with
  | .range t m=>(match P.underlying t,(aH m).toE with
   | some .string,some m'=>some { val:=.e (.aC h) true,cA:=some (aO,.store cf (.sym ix)),bind:=some (.ev (.m4 .Jv h m' .nil .nil)) }
   | _,_=>none)
  | .next it true=>(aH it).toE.map fun p=>{ val:=.e (.m4 .O7 h p .nil .nil) false,cA:=some (aO,.store cf (.sym ix)),bind:=some (.ev (.m4 .VN h p .nil .nil)) }
  | _=>none)
 | _=>none

def lmap (P:Program)(o:Oper)(aH:Operand→SV)(obj:Nat→Option aE)(ix:Nat):Option bZ:=
 if Im o=true then(match kM P o aH (obj aO) ix with
  | some r=>some r
  | none=>(match sY P o aH (obj aO) ix with
   | some r=>some r
   | none=>(match pT P o aH (obj aO) ix with
    | some r=>some r
    | none=>AB P o aH (obj aO) ix))) else none

section
variable {P:Program} {w w0:World} {X:gB} {a:Act} {σ:af} {env:List D} {ρ:cr}

theorem vT {cs:Array Value}{n:Nat}{em:Bool}(hn:0<n):∀(fs:List Field) (i:Nat) (ks:List Nat),fp P i fs=some ks→i+ks.length=cs.size →
  (forIn fs PUnit.unit (fun (f : Field) (_ : PUnit) => (if f.name ≠ "_" then do
   let x ←part f.type cs f.offset
   Instr.checkKey em n f.type x
   pure (ForInStep.yield PUnit.unit)
   else pure (ForInStep.yield PUnit.unit):Sem (ForInStep PUnit)))).run P w=.ok PUnit.unit w
 | [],i,ks,hf,hl=>by simp
 | f :: fs,i,ks,hf,hl=>by
  obtain⟨m,rfl⟩:∃m,n=m+1:=⟨n-1,by omega⟩
  simp only[fp] at hf
  split at hf
  ·rename_i hc
   obtain⟨hoff,hname⟩:=hc
   have key:∀{ks':List Nat} {k:TypeDesc},fp P (i+1) fs=some ks'→ks.length=ks'.length+1→P.underlying f.type=some k→iy P f.type=some false→(∀v:Value,(Instr.checkKey em (m+1) f.type v).run P w=.ok () w) →
     (forIn (f :: fs) PUnit.unit (fun (f : Field) (_ : PUnit) => (if f.name ≠ "_" then do
      let x ←part f.type cs f.offset
      Instr.checkKey em (m+1) f.type x
      pure (ForInStep.yield PUnit.unit)
      else pure (ForInStep.yield PUnit.unit):Sem (ForInStep PUnit)))).run P w=.ok PUnit.unit w:=by
    intro ks' k hks I5 hu p7 FH
    have uX:i<cs.size:=by omega
    have hp:(part f.type cs f.offset).run P w=.ok cs[i] w:=nV p7 (by rw[hoff];simp[uX])
    have ih:=vT (cs:=cs) (em:=em) (Nat.succ_pos m) fs (i+1) ks' hks (by omega)
    simp only[List.forIn_cons,A0k,hname,ne_eq,not_false_eq_true,if_true,A0e,hp,FH,A0n]
    exact ih
   split at hf
   ·rename_i q hu
    obtain⟨ks',hks,rfl⟩:=A0b.1 hf
    exact key hks rfl hu (by unfold iy;rw[hu];rfl) fun v=>by
     unfold Instr.checkKey
     simp[run_underlying hu,Result.andThen]
   ·rename_i hu
    obtain⟨ks',hks,rfl⟩:=A0b.1 hf
    exact key hks rfl hu (by unfold iy;rw[hu];rfl) fun v=>by
     unfold Instr.checkKey
     simp[run_underlying hu,Result.andThen]
   ·rename_i hu
    obtain⟨ks',hks,rfl⟩:=A0b.1 hf
    exact key hks rfl hu (by unfold iy;rw[hu];rfl) fun v=>by
     unfold Instr.checkKey
     simp[run_underlying hu,Result.andThen]
   ·cases hf
  ·cases hf

theorem jW {t:TypeId}{kd:Kd}(h:qW P t=some kd):kindOf P t=some kd∧(kd=.int∨kd=.str∨∃ks,kd=.agg ks):=by
 unfold qW at h
 split at h <;> cases h <;> exact⟨by assumption,by simp⟩

theorem rN {t:TypeId}{ks:List Nat}(h:kindOf P t=some (.agg ks)):∃fs:Array Field,P.underlying t=some (.struct fs)∧P.stoodInHeld t=false∧fp P 0 fs.toList=some ks:=by
 unfold kindOf at h
 split at h <;> simp at h
 rename_i fs hu
 unfold oO at h
 rw[hu] at h
 simp only at h
 split at h
 ·rename_i hc
  exact⟨fs,hu,hc.1,h⟩
 ·cases h

theorem rM {t:TypeId}(h:kindOf P t=some .int):∃q,P.underlying t=some (.int q):=by
 unfold kindOf at h
 split at h <;> simp at h
 exact⟨_,by assumption⟩

theorem rL {t:TypeId}(h:kindOf P t=some .str):P.underlying t=some .string:=by
 unfold kindOf at h
 split at h <;> simp at h
 assumption

theorem kr {t:TypeId}{kd:Kd}{v:Value}{d:D}{em:Bool}{S:Sets}(h:qW P t=some kd)(hr:aZ w S v d)(hd:D.IP kd d=true):(Instr.checkKey em 10000 t v).run P w=.ok () w:=by
 obtain⟨hk,hc⟩:=jW h
 rcases hc with rfl | rfl | ⟨ks,rfl⟩
 ·obtain⟨q,hu⟩:=rM hk
  unfold Instr.checkKey
  simp[run_underlying hu,Result.andThen]
 ·have hu:=rL hk
  unfold Instr.checkKey
  simp[run_underlying hu,Result.andThen]
 ·obtain⟨fs,hu,_,hfl⟩:=rN hk
  cases d <;> simp[D.IP] at hd
  rename_i ds
  obtain⟨vs,rfl,hl,_⟩:=hr.iT
  unfold Instr.checkKey
  simp only[A0k,run_underlying hu,A0e]
  rw[←Array.forIn_toList]
  rw[vT (cs:=vs) (by omega) fs.toList 0 ks hfl (by omega)]
  rfl

theorem Ky {t:TypeId}{ks:List Nat}{v u:Value}{dx dy:List D}{b:Bool}{S:Sets}(hk:kindOf P t=some (.agg ks))(hx:aZ w S v (.agg dx))(hy:aZ w S u (.agg dy))(hb:D.eqs ks dx dy=some b):(Op.equal t v u).run P w=.ok b w:=by
 obtain⟨fs,hu,hst,hfl⟩:=rN hk
 obtain⟨xs,rfl,hxl,_,De⟩:=hx.iT
 obtain⟨ys,rfl,rO,_,XC⟩:=hy.iT
 have hfo:P.fieldsOf t=fs:=by simp[Program.fieldsOf,hu]
 show(Op.equalIn 10000 t (.agg xs) (.agg ys)).run P w=.ok b w
 rw[run_equalIn_agg w 9999 t xs ys (by rw[hfo];exact hu) hst,hfo]
 exact nY (d:=9998) hxl rO De XC fs.toList 0 ks b hfl (by simpa using hb)

theorem yO {kd:Kd}{x y:D}{b:Bool}(h:D.yP kd x y=some b):D.bin .eql kd x y=some (.v (.bool b)):=by
 unfold D.yP at h
 split at h
 ·rename_i e;cases h;exact e
 ·cases h

theorem v7 {x y:D}{b:Bool}(h:D.bin .eql .int x y=some (.v (.bool b))):∃k m n,x=.v (.int k m)∧y=.v (.int k n)∧b=(m==n):=by
 unfold D.bin at h
 split at h <;> (try contradiction)
 ·rename_i k m k' n
  simp only[zP] at h
  split at h
  ·rename_i hk
   subst hk
   cases h
   exact⟨_,_,_,rfl,rfl,rfl⟩
  ·cases h

theorem v5 {x y:D}{b:Bool}(h:D.bin .eql .str x y=some (.v (.bool b))):∃m n,x=.v (.string m)∧y=.v (.string n)∧b=(m.toList==n.toList):=by
 unfold D.bin at h
 split at h <;> (try contradiction)
 ·cases h
  exact⟨_,_,rfl,rfl,rfl⟩

theorem v8 {ks:List Nat}{x y:D}{b:Bool}(h:D.bin .eql (.agg ks) x y=some (.v (.bool b))):∃dx dy,x=.agg dx∧y=.agg dy∧D.eqs ks dx dy=some b:=by
 unfold D.bin at h
 split at h <;> (try contradiction)
 ·rename_i hh
  cases hh
  obtain⟨b',hb',hb⟩:=A0b.1 h
  cases hb
  exact⟨_,_,rfl,rfl,hb'⟩

theorem C3 (m n:ByteArray):(m==n)=(m.toList==n.toList):=by
 apply Bool.eq_iff_iff.2
 rw[bytes_beq]
 constructor
 ·rintro rfl;simp
 ·intro h
  have:=eq_of_beq h
  have hd:m.data=n.data:=by simpa[ByteArray.toList_eq] using this
  cases m
  cases n
  simp only at hd
  rw[hd]

def Z2 (P:Program)(w:World)(t:TypeId)(v u:Value)(b:Bool):Kd→Prop
 | .agg _=>(Op.equal t v u).run P w=.ok b w
 | _=>∃k,P.underlying t=some k∧Instr.sameNow k v u=some b

def qn (P:Program)(w:World)(t:TypeId)(v:Value)(es:List MapEntry)(i:Nat)(r:Option (Nat×Value)):Kd→Prop
 | .agg _=>(Instr.findAsking t v es i).run P w=.ok r w
 | _=>∃k,P.underlying t=some k∧Instr.findNow k v es i=some r

theorem Q8 {S:Sets}{t:TypeId}{kd:Kd}{v u:Value}{d dk:D}{b:Bool}(h:qW P t=some kd)(hr:aZ w S v d)(Nl:aZ w S u dk)(hb:D.yP kd d dk=some b):Z2 P w t v u b kd:=by
 have hb:=yO hb
 obtain⟨hk,hc⟩:=jW h
 rcases hc with rfl | rfl | ⟨ks,rfl⟩
 ·obtain⟨q,hu⟩:=rM hk
  obtain⟨k,m,n,rfl,rfl,rfl⟩:=v7 hb
  rw[hr.v_eq,Nl.v_eq]
  exact⟨_,hu,by simp[Instr.sameNow]⟩
 ·have hu:=rL hk
  obtain⟨m,n,rfl,rfl,rfl⟩:=v5 hb
  rw[hr.v_eq,Nl.v_eq]
  exact⟨_,hu,by simp only[Instr.sameNow,A0u];exact C3 m n⟩
 ·obtain⟨dx,dy,rfl,rfl,hb'⟩:=v8 hb
  exact Ky hk hr Nl hb'

def iC (w:World)(S:Sets)(es:List MapEntry)(bH:List D):Prop:=
 es.length=bH.length∧∀(j:Nat) (e:MapEntry) (kv:D),es[j]? = some e→bH[j]? = some kv→∃dk dv,kv=.aM [dk,dv]∧aZ w S e.key dk∧aZ w S e.val dv

theorem iC.tail {S:Sets}{e:MapEntry}{es:List MapEntry}{kv:D}{bH:List D}(h:iC w S (e :: es) (kv :: bH)):iC w S es bH:=
 ⟨by simpa using h.1,fun j e kv h1 h2=>h.2 (j+1) e kv (by simpa using h1) (by simpa using h2)⟩

theorem uP (l:List D):D.kept (.aM [] :: l)=l:=rfl
theorem JS (l:List D):D.lost (.aM [] :: l)=true:=rfl

theorem iC.yQ {S:Sets}{es:List MapEntry}{bH:List D}(hl:D.lost bH=false)(h:iC w S es bH):iC w S es (D.kept bH):=by
 rwa [D.oF hl]

theorem NN {S:Sets}{t:TypeId}{kd:Kd}{v:Value}{d:D}(h:qW P t=some kd)(hr:aZ w S v d):∀(es:List MapEntry) (bH:List D) (i:Nat) (r:Option (Nat×D)),iC w S es bH→D.Bg kd d bH i=some r →
  (r=none∧qn P w t v es i none kd)∨∃j dv e dk,r=some (j,dv)∧qn P w t v es i (some (j,e.val)) kd∧i≤j∧es[j-i]? = some e∧aZ w S e.val dv∧aZ w S e.key dk∧D.yP kd d dk=some true
 | [],[],i,r,_,hf=>by
  simp only[D.Bg] at hf
  cases hf
  obtain⟨hk,hc⟩:=jW h
  rcases hc with rfl | rfl | ⟨ks,rfl⟩
  ·obtain⟨q,hu⟩:=rM hk
   exact .inl ⟨rfl,_,hu,rfl⟩
  ·exact .inl ⟨rfl,_,rL hk,rfl⟩
  ·exact .inl ⟨rfl,by simp[qn,Instr.findAsking]⟩
 | e :: es,kv :: bH,i,r,he,hf=>by
  obtain⟨dk,dv,rfl,Nl,bz⟩:=he.2 0 e kv rfl rfl
  simp only[D.Bg] at hf
  obtain⟨hk,hc⟩:=jW h
  split at hf
  ·rename_i hb
   cases hf
   have hn:=Q8 h hr Nl hb
   refine .inr ⟨i,dv,e,dk,rfl,?_,A0m _,by simp,bz,Nl,hb⟩
   rcases hc with rfl | rfl | ⟨ks,rfl⟩
   ·obtain⟨k,hu,hs⟩:=hn
    exact⟨k,hu,by simp[Instr.findNow,hs]⟩
   ·obtain⟨k,hu,hs⟩:=hn
    exact⟨k,hu,by simp[Instr.findNow,hs]⟩
   ·have hn:(Op.equal t v e.key).run P w=.ok true w:=hn
    simp[qn,Instr.findAsking,hn]
  ·rename_i hb
   have hn:=Q8 h hr Nl hb
   have step:∀r',qn P w t v es (i+1) r' kd→qn P w t v (e :: es) i r' kd:=by
    intro r' h1
    rcases hc with rfl | rfl | ⟨ks,rfl⟩
    ·obtain⟨k,hu,hs⟩:=hn
     obtain⟨k',jf,h1⟩:=h1
     rw[hu] at jf
     cases jf
     exact⟨k,hu,by simp[Instr.findNow,hs,h1]⟩
    ·obtain⟨k,hu,hs⟩:=hn
     obtain⟨k',jf,h1⟩:=h1
     rw[hu] at jf
     cases jf
     exact⟨k,hu,by simp[Instr.findNow,hs,h1]⟩
    ·have hn:(Op.equal t v e.key).run P w=.ok false w:=hn
     have h1:(Instr.findAsking t v es (i+1)).run P w=.ok r' w:=h1
     simp[qn,Instr.findAsking,hn,h1]
   rcases NN h hr es bH (i+1) r he.tail hf with⟨g1,g2⟩ | ⟨j,dv',e',dk',g1,g2,g3,g4,g5⟩
   ·exact .inl ⟨g1,step _ g2⟩
   ·refine .inr ⟨j,dv',e',dk',g1,step _ g2,by omega,?_,g5⟩
    rw[show j-i=(j-(i+1))+1 from by omega]
    simpa using g4
  ·cases hf
 | [],_ :: _,_,_,he,_ | _ :: _,[],_,_,he,_=>by simp[iC] at he

theorem xJ {t:TypeId}{kd:Kd}{v:Value}{es:List MapEntry}{r:Option (Nat×Value)}(h:qW P t=some kd)(hf:qn P w t v es 0 r kd):(Instr.findKey t v es).run P w=.ok r w:=by
 obtain⟨hk,hc⟩:=jW h
 rcases hc with rfl | rfl | ⟨ks,rfl⟩
 ·obtain⟨k,hu,hs⟩:=hf
  exact run_findKey hu hs
 ·obtain⟨k,hu,hs⟩:=hf
  exact run_findKey hu hs
 ·obtain⟨fs,hu,_⟩:=rN hk
  cases es with
  | nil=>
   have:r=none:=by
    have hf:(Instr.findAsking t v [] 0).run P w=.ok r w:=hf
    simp[Instr.findAsking] at hf
    exact hf.symm
   subst this
   exact run_findKey hu rfl
  | cons e es=>
   have hf:(Instr.findAsking t v (e :: es) 0).run P w=.ok r w:=hf
   have hn:Instr.findNow (.struct fs) v (e :: es) 0=none:=by
    unfold Instr.findNow
    simp[Instr.sameNow]
   simp only[Instr.findKey,A0k,run_underlying hu,A0e,hn,hf]

theorem m3 {S:Sets}{t:TypeId}{kd:Kd}{v:Value}{d:D}{es:List MapEntry}{bH:List D}{r:Option (Nat×D)}(h:qW P t=some kd)(hr:aZ w S v d)(he:iC w S es bH)(hf:D.m5 kd d bH=some r) :
  D.IP kd d=true∧((r=none∧(Instr.findKey t v es).run P w=.ok none w)∨∃j dv e dk,r=some (j,dv)∧(Instr.findKey t v es).run P w=.ok (some (j,e.val)) w∧es[j]? = some e∧aZ w S e.val dv∧aZ w S e.key dk∧D.yP kd d dk=some true):=by
 unfold D.m5 at hf
 split at hf
 ·rename_i hok
  refine⟨hok,?_⟩
  rcases NN h hr es bH 0 r he hf with⟨g1,g2⟩ | ⟨j,dv,e,dk,g1,g2,_,g3,g4⟩
  ·exact .inl ⟨g1,xJ h g2⟩
  ·exact .inr ⟨j,dv,e,dk,g1,xJ h g2,g3,g4⟩
 ·cases hf

theorem vu {S:Sets}{t:TypeId}{kd:Kd}{v u:Value}{d dk:D}(h:qW P t=some kd)(hr:aZ w S v d)(Nl:aZ w S u dk)(hb:D.yP kd d dk=some true):Instr.sameBits 10000 u v=true:=by
 have hb:=yO hb
 obtain⟨hk,hc⟩:=jW h
 rcases hc with rfl | rfl | ⟨ks,rfl⟩
 ·obtain⟨k,m,n,rfl,rfl,hmn⟩:=v7 hb
  rw[hr.v_eq,Nl.v_eq]
  have:m=n:=by simpa using hmn.symm
  simp[Instr.sameBits,this]
 ·obtain⟨m,n,rfl,rfl,hmn⟩:=v5 hb
  rw[hr.v_eq,Nl.v_eq]
  rw[←C3] at hmn
  have:m=n:=(bytes_beq m n).1 hmn.symm
  subst this
  have hh:(m==m)=true:=(bytes_beq m m).2 rfl
  simp[Instr.sameBits,hh]
 ·obtain⟨dx,dy,rfl,rfl,hb'⟩:=v8 hb
  obtain⟨xs,rfl,hxl,_,De⟩:=hr.iT
  obtain⟨ys,rfl,rO,_,XC⟩:=Nl.iT
  have cells:∀(ks:List Nat) (dx dy:List D),D.eqs ks dx dy=some true→dx.length=dy.length∧∀(i:Nat) (x y:D),dx[i]? = some x→dy[i]? = some y→∀u v:Value,aZ w S v x→aZ w S u y→Instr.sameBits 9999 u v=true:=by
   intro ks
   induction ks with
   | nil=>
    intro dx dy he
    cases dx <;> cases dy <;> simp[D.eqs] at he ⊢
   | cons k ks ih=>
    intro dx dy he
    unfold D.eqs at he
    split at he <;> (try contradiction)
    ·rename_i Xt k1 a r k2 b s e1 
     split at he
     ·rename_i hkk
      subst hkk
      obtain⟨b',h1,h2⟩:=A0b.1 he
      simp only[A0g,beq_iff_eq] at h2
      obtain⟨rfl,rfl⟩:=h2
      have e2:ks=Xt:=by simp only[List.cons.injEq] at e1;exact e1.2
      subst e2
      obtain⟨g1,g2⟩:=ih r s h1
      refine⟨by simp[g1],fun i x y hx hy u v hv hu=>?_⟩
      cases i with
      | zero=>
       simp only[B0d,A0u] at hx hy
       subst hx hy
       rw[hv.v_eq,hu.v_eq]
       simp[Instr.sameBits]
      | succ i=>exact g2 i x y (by simpa using hx) (by simpa using hy) u v hv hu
     ·cases he
    ·rename_i Xt a r b s e1
     obtain⟨b',h1,h2⟩:=A0b.1 he
     simp only[A0g,beq_iff_eq] at h2
     obtain⟨rfl,rfl⟩:=h2
     have e2:ks=Xt:=by simp only[List.cons.injEq] at e1;exact e1.2
     subst e2
     obtain⟨g1,g2⟩:=ih r s h1
     refine⟨by simp[g1],fun i x y hx hy u v hv hu=>?_⟩
     cases i with
     | zero=>
      simp only[B0d,A0u] at hx hy
      subst hx hy
      rw[hv.v_eq,hu.v_eq]
      simp[Instr.sameBits]
     | succ i=>exact g2 i x y (by simpa using hx) (by simpa using hy) u v hv hu
    ·rename_i Xt a r b s e1
     obtain⟨b',h1,h2⟩:=A0b.1 he
     simp only[A0g] at h2
     obtain⟨hab,rfl⟩:=h2
     rw[←C3] at hab
     have hab:=(bytes_beq a b).1 hab
     subst hab
     have hh:(a==a)=true:=(bytes_beq a a).2 rfl
     have e2:ks=Xt:=by simp only[List.cons.injEq] at e1;exact e1.2
     subst e2
     obtain⟨g1,g2⟩:=ih r s h1
     refine⟨by simp[g1],fun i x y hx hy u v hv hu=>?_⟩
     cases i with
     | zero=>
      simp only[B0d,A0u] at hx hy
      subst hx hy
      rw[hv.v_eq,hu.v_eq]
      simp[Instr.sameBits,hh]
     | succ i=>exact g2 i x y (by simpa using hx) (by simpa using hy) u v hv hu
  obtain⟨g1,g2⟩:=cells ks dx dy hb'
  unfold Instr.sameBits
  simp only[A0g,beq_iff_eq,A0z]
  refine⟨by omega,fun p hp=>?_⟩
  obtain⟨i,hi,hpi⟩:=List.mem_iff_getElem.1 hp
  simp only[List.length_zip,B0j] at hi
  simp only[List.getElem_zip] at hpi
  subst hpi
  refine g2 i (dx[i]'(by omega)) (dy[i]'(by omega)) (by simp) (by simp) _ _ (De i _ _ ?_ ?_) (XC i _ _ ?_ ?_) <;> simp

theorem rA.push {es:Array MapEntry}{clock n:Nat}(h:rA es clock n)(v x:Value):rA (es.push { key:=v,val:=x,born:=clock }) (clock+1) (es.push { key:=v,val:=x,born:=clock }).size where
 len:=rfl
 RP:=by simp[h.RP,h.len]
 born:=fun j e he=>by
  rw[Array.getElem?_push] at he
  split at he
  ·cases he
   rename_i hj
   simp[hj,h.RP,h.len]
  ·exact h.born j e he

theorem rA.modify {es:Array MapEntry}{clock n:Nat}(h:rA es clock n)(j:Nat)(f:MapEntry→MapEntry)(hf:∀e,(f e).born=e.born):rA (es.modify j f) clock (es.modify j f).size where
 len:=rfl
 RP:=by simp[h.RP,h.len]
 born:=fun k e he=>by
  simp only[Array.getElem?_modify] at he
  split at he
  ·obtain⟨e0,h0,rfl⟩:=A0b.1 he
   rw[hf]
   exact h.born k e0 h0
  ·exact h.born k e he

theorem s5 {bH:List D}{k u:D}(h:D.lost bH=false):D.lost (bH++[.aM [k,u]])=false:=by
 unfold D.lost at h ⊢
 cases bH with
 | nil=>rfl
 | cons x r=>
  simp only[A0q]
  split at h
  ·cases h
  ·rename_i hx
   split
   ·rename_i e
    simp only[List.cons.injEq] at e
    exact(hx r (by rw[e.1])).elim
   ·rfl

theorem m8 {bH:List D}{j:Nat}{k u:D}(h:D.lost bH=false):D.lost (bH.set j (.aM [k,u]))=false:=by
 unfold D.lost at h ⊢
 cases bH with
 | nil=>rfl
 | cons x r=>
  cases j with
  | zero=>rfl
  | succ j=>
   simp only[List.set_cons_succ]
   split at h
   ·cases h
   ·rename_i hx
    split
    ·rename_i e
     simp only[List.cons.injEq] at e
     exact(hx r (by rw[e.1])).elim
    ·rfl

theorem qt {w':World}{bs:List D}{i:Nat}{bH kH:List D}{es':Array MapEntry}{clock':Nat}(hst:ck w ρ.S ρ.an bs)(hK:bp ρ.S w w')(fX:bs[i]? = some (.fm bH))(hh:w'.heap[ρ.S.loc i]? = some (.map es' clock'))(mI:∀b,b≠ρ.S.loc i→w'.heap[b]? = w.heap[b]?)(he:iC w ρ.S es'.toList (D.kept kH))(hsz:eX es' clock' kH) :
  ck w' ρ.S ρ.an (bs.set i (.fm kH)):=by
 refine hst.set hK fX rfl (fun j x _ _ hne=>mI _ hne) (fun e sz cs hz=>by cases hz) (fun aiR hz=>?_) fun hz=>by cases hz
 cases hz
 refine⟨es',clock',hh,hsz,fun j e kv hj hkv=>?_⟩
 obtain⟨dk,dv,h1,h2,h3⟩:=he.2 j e kv (by simpa using hj) hkv
 exact⟨dk,dv,h1,h2.keep hK (Sets.le_refl _),h3.keep hK (Sets.le_refl _)⟩

theorem jZ {bs bH:List D}{m:Value}{dm:D}(hst:ck w ρ.S ρ.an bs)(hm:aZ w ρ.S m dm)(he:D.entries (.st bs) dm=some bH) :
  (m=.map none∧bH=[])∨∃(i:Nat) (es:Array MapEntry) (clock:Nat) (Eo:List D),dm=.mp i∧bs[i]? = some (.fm Eo)∧bH=D.kept Eo∧m=.map (some (ρ.S.loc i))∧w.heap[ρ.S.loc i]? = some (.map es clock)∧iC w ρ.S es.toList bH∧eX es clock Eo:=by
 unfold D.entries at he
 split at he
 ·cases he
  exact .inl ⟨hm.v_eq,rfl⟩
 ·rename_i i
  simp only at he
  split at he
  ·rename_i kH fX
   cases he
   obtain⟨hf,es,clock,hh,hsz,jk,hr⟩:=hst.maps i _ fX
   refine .inr ⟨i,es,clock,_,rfl,fX,rfl,?_,hh,⟨by simpa using hsz.size,fun j e kv h1 h2=>hr j e kv (by simpa using h1) h2⟩,hsz⟩
   cases hm
   rfl
  ·cases he
 ·cases he

theorem jS {t k e:TypeId}{kd:Kd}(h:m7 P t=some (k,e,kd)):P.underlying t=some (.map k e)∧qW P k=some kd:=by
 unfold m7 at h
 split at h
 ·rename_i k' e' hu
  obtain⟨kd',hk,h⟩:=A0b.1 h
  cases h
  exact⟨hu,hk⟩
 ·cases h

theorem yx {t k e:TypeId}{kd:Kd}{bs bH:List D}{m v z:Value}{dm d:D}{ok:Bool}{r:Option (Nat×D)}(hst:ck w ρ.S ρ.an bs)(ht:m7 P t=some (k,e,kd))(hm:aZ w ρ.S m dm)(hv:aZ w ρ.S v d)(he:D.entries (.st bs) dm=some bH)(hf:D.m5 kd d bH=some r)(hz:(P.info? e).bind (·.zero)=some z) :
  ∃x:Value,(Instr.lookup t m v ok).run P w=.ok (if ok then .tuple #[x,.bool r.isSome] else x) w∧((r=none∧x=z)∨∃j dv,r=some (j,dv)∧aZ w ρ.S x dv):=by
 obtain⟨hu,hk⟩:=jS ht
 rcases jZ hst hm he with⟨rfl,rfl⟩ | ⟨i,es,clock,_,rfl,fX,_,rfl,hh,iJ,_⟩
 ·obtain⟨hok,hr⟩:=m3 (es:=[]) hk hv ⟨rfl,by simp⟩ hf
  rcases hr with⟨rfl,hrun⟩ | ⟨j,dv,e',dk,_,_,h3,_⟩
  ·refine⟨z,?_,.inl ⟨rfl,rfl⟩⟩
   have FH:(Instr.checkKey (#[]:Array MapEntry).isEmpty 10000 k v).run P w=.ok () w:=kr hk hv hok
   simp only[Instr.lookup,A0k,run_underlying hu,A0e,A0n,FH,hrun,fS hz,Option.isSome_none]
  ·simp at h3
 ·obtain⟨hok,hr⟩:=m3 hk hv iJ hf
  have FH:(Instr.checkKey es.isEmpty 10000 k v).run P w=.ok () w:=kr hk hv hok
  rcases hr with⟨rfl,hrun⟩ | ⟨j,dv,e',dk,rfl,hrun,h3,h4,_⟩
  ·refine⟨z,?_,.inl ⟨rfl,rfl⟩⟩
   simp only[Instr.lookup,A0k,run_underlying hu,A0e,A0n,Go.MapKept.run_getObj_map hh,FH,hrun,fS hz,Option.isSome_none]
  ·refine⟨e'.val,?_,.inr ⟨j,dv,rfl,h4⟩⟩
   simp only[Instr.lookup,A0k,run_underlying hu,A0e,A0n,Go.MapKept.run_getObj_map hh,FH,hrun,Option.isSome_some]

theorem FQ {t k e:TypeId}{kd:Kd}{bs:List D}{i:Nat}{v x:Value}{d dx:D}{m:Value}{d':D}(hst:ck w ρ.S ρ.an bs)(ht:m7 P t=some (k,e,kd))(hm:aZ w ρ.S m (.mp i))(hv:aZ w ρ.S v d)(hx:aZ w ρ.S x dx)(hput:D.Ma kd (.st bs) (.mp i) d dx=some d') :
  ∃(kH:List D) (es':Array MapEntry) (clock':Nat),(∃bH,bs[i]? = some (.fm bH))∧d'=.st (bs.set i (.fm kH))∧(Instr.mapUpdate t m v x).run P w=.ok () { w with heap:=w.heap.setIfInBounds (ρ.S.loc i) (.map es' clock') }∧iC w ρ.S es'.toList (D.kept kH)∧eX es' clock' kH:=by
 obtain⟨hu,hk⟩:=jS ht
 unfold D.Ma at hput
 simp only at hput
 split at hput
 ·rename_i bH fX
  obtain⟨r,hf,hput⟩:=A0b.1 hput
  have hlo:=D.rI hf
  have he:D.entries (.st bs) (.mp i)=some bH:=by simp[D.entries,fX,D.oF hlo]
  rcases jZ hst hm he with⟨rfl,_⟩ | ⟨i',es,clock,Eo,e1,zf,_,rfl,hh,iJ,pe⟩
  ·cases hm
  cases e1
  rw[fX] at zf
  cases zf
  replace pe:=pe.sz hlo
  obtain⟨hok,hr⟩:=m3 hk hv iJ hf
  have FH:(Instr.checkKey false 10000 k v).run P w=.ok () w:=kr hk hv hok
  rcases hr with⟨rfl,hrun⟩ | ⟨j,dv,e',dk,rfl,hrun,h3,h4,h5,h6⟩
  ·simp only at hput
   subst hput
   refine⟨_,es.push { key:=v,val:=x,born:=clock },clock+1,⟨_,fX⟩,rfl,?_,.yQ (s5 hlo) ⟨?_,?_⟩,eX.of (by have:=pe.push v x;rwa [Array.size_push,pe.len,show bH.length+1=(bH++[D.aM [d,dx]]).length from by simp] at this) (s5 hlo)⟩
   ·simp only[Instr.mapUpdate,A0k,run_underlying hu,A0e,Go.MapKept.run_getObj_map hh,FH,hrun,Go.MapKept.run_setObj_map _ hh]
   ·simp[iJ.1]
   ·intro j e2 kv hj hkv
    simp only[Array.toList_push] at hj
    rw[List.getElem?_append] at hj hkv
    rw[iJ.1] at hj
    split at hj
    ·rename_i hlt
     rw[if_pos hlt] at hkv
     exact iJ.2 j e2 kv hj hkv
    ·rename_i hlt
     rw[if_neg hlt] at hkv
     have h0:j-bH.length=0:=by
      have:=(A0a.1 hj).1
      simp at this
      omega
     rw[h0] at hj hkv
     simp only[B0d,A0u] at hj hkv
     subst hj hkv
     exact⟨_,_,rfl,hv,hx⟩
  ·simp only at hput
   subst hput
   have hjl:j<es.size:=by simpa using(A0a.1 h3).1
   have hkey:((es[j]?).map (·.key)).getD v=e'.key:=by
    have:es[j]? = some e':=by simpa using h3
    simp[this]
   have MR:(Instr.keyThatStays e'.key v).run P w=.ok v w:=by
    simp[Instr.keyThatStays,vu hk hv h5 h6]
   refine⟨_,es.modify j fun e=>{ e with key:=v,val:=x },clock,⟨_,fX⟩,rfl,?_,.yQ (m8 hlo) ⟨?_,?_⟩,eX.of (by have:=pe.modify j (fun e=>{ e with key:=v,val:=x }) fun _=>rfl;rwa [Array.size_modify,pe.len,←List.length_set (as:=bH) (i:=j) (a:=D.aM [d,dx])] at this) (m8 hlo)⟩
   ·simp only[Instr.mapUpdate,A0k,run_underlying hu,A0e,Go.MapKept.run_getObj_map hh,FH,hrun,hkey,MR,Go.MapKept.run_setObj_map _ hh]
   ·simpa using iJ.1
   ·intro q e2 kv hq hkv
    simp only[Array.getElem?_toList,Array.getElem?_modify] at hq
    rw[A0x] at hkv
    by_cases Rz:j=q
    ·subst Rz
     rw[if_pos rfl] at hq hkv
     rw[if_pos (by rw[←iJ.1];simpa using hjl)] at hkv
     obtain⟨e0,he0,rfl⟩:=A0b.1 hq
     cases hkv
     exact⟨_,_,rfl,hv,hx⟩
    ·rw[if_neg Rz] at hq hkv
     exact iJ.2 q e2 kv (by simpa using hq) hkv
 ·cases hput

theorem Gs {t k e:TypeId}{kd:Kd}{bs:List D}{m v zv:Value}{dm d z d':D}(hst:ck w ρ.S ρ.an bs)(ht:m7 P t=some (k,e,kd))(hm:aZ w ρ.S m dm)(hv:aZ w ρ.S v d)(PE:(P.info? e).bind (·.zero)=some zv)(hz:D.qS zv=some z)(hput:D.Me kd (.st bs) dm d z=some d') :
  ∃(i:Nat) (bH kH:List D) (es':Array MapEntry) (clock':Nat) (u:Value) (j:Nat) (du:D),dm=.mp i∧bs[i]? = some (.fm bH)∧d'=.st (bs.set i (.fm kH))∧D.IJ kd (.st bs) dm d z=some (.aM [du,.int j])∧(Instr.mapEntry t m v).run P w=.ok (.tuple #[u,.int .i64 j]) { w with heap:=w.heap.setIfInBounds (ρ.S.loc i) (.map es' clock') }∧iC w ρ.S es'.toList (D.kept kH)∧eX es' clock' kH∧aZ w ρ.S u du:=by
 obtain⟨hu,hk⟩:=jS ht
 unfold D.Me at hput
 split at hput
 ·rename_i i bs' e1
  cases e1
  split at hput
  ·rename_i bH fX
   obtain⟨r,hf,hput⟩:=A0b.1 hput
   have hlo:=D.rI hf
   have he:D.entries (.st bs) (.mp i)=some bH:=by simp[D.entries,fX,D.oF hlo]
   rcases jZ hst hm he with⟨rfl,_⟩ | ⟨i',es,clock,Eo,e1,zf,_,rfl,hh,iJ,pe⟩
   ·cases hm
   cases e1
   rw[fX] at zf
   cases zf
   replace pe:=pe.sz hlo
   obtain⟨hok,hr⟩:=m3 (w:=w) hk hv iJ hf
   have FH:=kr (w:=w) (em:=false) hk hv hok
   rcases hr with⟨rfl,hrun⟩ | ⟨j,dv,e',dk,rfl,hrun,h3,h4,h5,h6⟩
   ·simp only at hput
    subst hput
    refine⟨i,bH,_,es.push { key:=v,val:=zv,born:=clock },clock+1,zv,clock,z,rfl,fX,rfl,?_,?_,.yQ (s5 hlo) ⟨?_,?_⟩,eX.of (by have:=pe.push v zv;rwa [Array.size_push,pe.len,show bH.length+1=(bH++[D.aM [d,z]]).length from by simp] at this) (s5 hlo),D.iG hz⟩
    ·unfold D.IJ
     rw[he,A0d,hf,pe.RP]
     rfl
    ·simp only[Instr.mapEntry,A0k,run_underlying hu,A0e,Go.MapKept.run_getObj_map hh,FH,hrun,fS PE,Go.MapKept.run_setObj_map _ hh,A0n]
     rfl
    ·simp[←iJ.1]
    ·intro q e2 kv hq hkv
     rw[Array.toList_push] at hq
     rw[List.getElem?_append] at hq hkv
     rw[iJ.1] at hq
     split at hq
     ·rename_i hlt
      rw[if_pos hlt] at hkv
      exact iJ.2 q e2 kv hq hkv
     ·rename_i hge
      rw[if_neg hge] at hkv
      have h0:q-bH.length=0:=by
       have:=(A0a.1 hq).1
       simp at this
       omega
      rw[h0] at hq hkv
      simp only[B0d,A0u] at hq hkv
      subst hq hkv
      exact⟨_,_,rfl,hv,D.iG hz⟩
   ·simp only at hput
    subst hput
    have hjl:j<es.size:=by simpa using(A0a.1 h3).1
    have OQ:es[j]? = some e':=by simpa using h3
    have hkey:((es[j]?).map (·.key)).getD v=e'.key:=by simp[OQ]
    have zg:((es[j]?).map fun x=>(x.born:Int)).getD 0=(j:Int):=by simp[OQ,pe.born j e' OQ]
    have MR:(Instr.keyThatStays e'.key v).run P w=.ok v w:=by
     simp[Instr.keyThatStays,vu hk hv h5 h6]
    refine⟨i,bH,_,es.modify j fun e=>{ e with key:=v },clock,e'.val,j,dv,rfl,fX,rfl,?_,?_,.yQ (m8 hlo) ⟨?_,?_⟩,eX.of (by have:=pe.modify j (fun e=>{ e with key:=v }) fun _=>rfl;rwa [Array.size_modify,pe.len,←List.length_set (as:=bH) (i:=j) (a:=D.aM [d,dv])] at this) (m8 hlo),h4⟩
    ·unfold D.IJ
     rw[he,A0d,hf]
     rfl
    ·simp only[Instr.mapEntry,A0k,run_underlying hu,A0e,Go.MapKept.run_getObj_map hh,FH,hrun,hkey,MR,Go.MapKept.run_setObj_map _ hh,zg,A0n]
     rfl
    ·simpa using iJ.1
    ·intro q e2 kv hq hkv
     simp only[Array.getElem?_toList,Array.getElem?_modify] at hq
     rw[A0x] at hkv
     by_cases Rz:j=q
     ·subst Rz
      rw[if_pos rfl] at hq hkv
      rw[if_pos (by rw[←iJ.1];simpa using hjl)] at hkv
      rw[OQ] at hq
      cases hq
      cases hkv
      exact⟨_,_,rfl,hv,h4⟩
     ·rw[if_neg Rz] at hq hkv
      exact iJ.2 q e2 kv (by simpa using hq) hkv
  ·cases hput
 ·cases hput

theorem JP {t:TypeId}{bs:List D}{m s x:Value}{dm ds dx d':D}(hst:ck w ρ.S ρ.an bs)(hm:aZ w ρ.S m dm)(hs:aZ w ρ.S s ds)(hx:aZ w ρ.S x dx)(hput:D.Md (.st bs) dm ds dx=some d') :
  ∃(i:Nat) (bH kH:List D) (es':Array MapEntry) (clock':Nat),dm=.mp i∧bs[i]? = some (.fm bH)∧d'=.st (bs.set i (.fm kH))∧(Instr.entryStore t m s x).run P w=.ok () { w with heap:=w.heap.setIfInBounds (ρ.S.loc i) (.map es' clock') }∧iC w ρ.S es'.toList (D.kept kH)∧eX es' clock' kH:=by
 unfold D.Md at hput
 split at hput
 ·rename_i i bs' n e1
  cases e1
  split at hput
  ·rename_i bH fX
   split at hput
   ·rename_i hn0
    obtain⟨hn0,hlo⟩:=hn0
    obtain⟨⟨k,u⟩,OM,e0⟩:=A0b.1 hput
    subst e0
    obtain⟨j,rfl⟩:∃j:Nat,n=j:=⟨n.toNat,by omega⟩
    simp only[Int.toNat_natCast] at OM ⊢
    have he:D.entries (.st bs) (.mp i)=some bH:=by simp[D.entries,fX,D.oF hlo]
    rcases jZ hst hm he with⟨rfl,_⟩ | ⟨i',es,clock,Eo,e1,zf,_,rfl,hh,iJ,pe⟩
    ·cases hm
    cases e1
    rw[fX] at zf
    cases zf
    replace pe:=pe.sz hlo
    obtain rfl:=hs.v_eq
    unfold uD at OM
    split at OM
    ·rename_i k' u' hk
     cases OM
     have hjl:j<es.size:=by
      have:=(A0a.1 hk).1
      rw[pe.len]
      exact this
     have OQ:es[j]? = some es[j]:=A0o hjl
     obtain⟨dk,dv,e1,e2,e3⟩:=iJ.2 j es[j] _ (by simp[hjl]) hk
     cases e1
     have hfind:es.findIdx? (fun e=>(e.born:Int)==(j:Int))=some j:=by
      rw[Array.findIdx?_eq_some_iff_getElem]
      refine⟨hjl,by simp[pe.born j _ OQ],fun q hq=>?_⟩
      have:=pe.born q es[q] (A0o (by omega))
      simp[this]
      omega
     refine⟨i,bH,_,es.modify j fun e=>{ e with val:=x },clock,rfl,fX,rfl,?_,.yQ (m8 hlo) ⟨?_,?_⟩,eX.of (by have:=pe.modify j (fun e=>{ e with val:=x }) fun _=>rfl;rwa [Array.size_modify,pe.len,←List.length_set (as:=bH) (i:=j) (a:=D.aM [k,dx])] at this) (m8 hlo)⟩
     ·simp only[Instr.entryStore,A0k,Go.MapKept.run_getObj_map hh,A0e,asInt,asIntOf,A0n,hfind,Go.MapKept.run_setObj_map _ hh]
     ·simpa using iJ.1
     ·intro q e2' kv hq hkv
      simp only[Array.getElem?_toList,Array.getElem?_modify] at hq
      rw[A0x] at hkv
      by_cases Rz:j=q
      ·subst Rz
       rw[if_pos rfl] at hq hkv
       rw[if_pos (by rw[←iJ.1];simpa using hjl)] at hkv
       rw[OQ] at hq
       cases hq
       cases hkv
       exact⟨_,_,rfl,e2,hx⟩
      ·rw[if_neg Rz] at hq hkv
       exact iJ.2 q e2' kv (by simpa using hq) hkv
    ·cases OM
   ·cases hput
  ·cases hput
 ·cases hput

theorem HC {t k e ty:TypeId}{ts:List TypeId}{kd:Kd}{bs:List D}{v:Value}{d:D}{m:Value}{dm d':D}(hst:ck w ρ.S ρ.an bs)(ht:m7 P t=some (k,e,kd))(hm:aZ w ρ.S m dm)(hv:aZ w ρ.S v d)(kI:D.SG kd (.st bs) dm d=some d') :
  ∃(i:Nat) (bH kH:List D) (es':Array MapEntry) (clock':Nat),dm=.mp i∧bs[i]? = some (.fm bH)∧d'=.st (bs.set i (.fm kH))∧(Builtin.delete_ (t :: ts).toArray ty #[m,v]).run P w=.ok (.tuple #[]) { w with heap:=w.heap.setIfInBounds (ρ.S.loc i) (.map es' clock') }∧iC w ρ.S es'.toList (D.kept kH)∧eX es' clock' kH:=by
 obtain⟨hu,hk⟩:=jS ht
 unfold D.SG at kI
 split at kI
 ·rename_i i bs' e1
  cases e1
  split at kI
  ·rename_i bH fX
   obtain⟨r,hf,kI⟩:=A0b.1 kI
   have he:D.entries (.st bs) (.mp i)=some (D.kept bH):=by simp[D.entries,fX]
   rcases jZ hst hm he with⟨rfl,_⟩ | ⟨i',es,clock,Eo,e1,zf,_,rfl,hh,iJ,pe⟩
   ·cases hm
   cases e1
   rw[fX] at zf
   cases zf
   obtain⟨hok,hr⟩:=m3 hk hv iJ hf
   have FH:(Instr.checkKey es.isEmpty 10000 k v).run P w=.ok () w:=kr hk hv hok
   rcases hr with⟨rfl,hrun⟩ | ⟨j,dv,e',dk,rfl,hrun,h3,h4,h5,h6⟩
   ·simp only at kI
    subst kI
    refine⟨i,bH,bH,es,clock,rfl,fX,rfl,?_,iJ,pe⟩
    simp only[Builtin.delete_,B0n,B0d,A0k,run_underlying hu,A0e,Go.MapKept.run_getObj_map hh,FH,hrun,Go.MapKept.run_setObj_map _ hh,A0n]
    simp[Go.MapKept.run_getObj_map hh,FH,hrun,Go.MapKept.run_setObj_map _ hh,A0n,run_underlying hu,A0e]
   ·simp only at kI
    subst kI
    refine⟨i,bH,_,es.eraseIdxIfInBounds j,clock,rfl,fX,rfl,?_,⟨?_,?_⟩,?_⟩
    ·simp[Builtin.delete_,Go.MapKept.run_getObj_map hh,FH,hrun,Go.MapKept.run_setObj_map _ hh,A0n,run_underlying hu,A0e]
    ·have hjl:j<es.size:=by simpa using(A0a.1 h3).1
     have h1:=iJ.1
     simp only[uP,List.length_eraseIdx,B0j,Array.eraseIdxIfInBounds,hjl,dif_pos,Array.size_eraseIdx]
     simp only[B0j] at h1
     rw[h1,if_pos (by omega)]
    ·have hjl:j<es.size:=by simpa using(A0a.1 h3).1
     intro q e2 kv hq hkv
     simp only[Array.eraseIdxIfInBounds,hjl,dif_pos,Array.toList_eraseIdx,uP,List.getElem?_eraseIdx] at hq hkv
     split at hq
     ·rename_i hl
      rw[if_pos hl] at hkv
      exact iJ.2 q e2 kv hq hkv
     ·rename_i hl
      rw[if_neg hl] at hkv
      exact iJ.2 (q+1) e2 kv hq hkv
    ·have hjl:j<es.size:=by simpa using(A0a.1 h3).1
     have h1:=pe.size
     unfold eX
     rw[if_pos (JS _)]
     simp only[uP,List.length_eraseIdx,Array.eraseIdxIfInBounds,hjl,dif_pos,Array.size_eraseIdx]
     rw[if_pos (by have:=iJ.1;simp only[B0j] at this;omega),h1]
  ·cases kI
 ·cases kI

theorem EX {o:Oper}{t:TypeId}{ts:List TypeId}{m k:Operand}{v:Value}{w':World}(ho:o.op=.call { callee:=.builtin .delete,args:=#[m,k],argTypes:=(t :: ts).toArray })(hr:(Builtin.delete_ (t :: ts).toArray o.type #[a.eval m,a.eval k]).run P w=.ok v w'):(execOp a.eval o).run P w=.ok (.value v) w':=by
 unfold execOp
 simp only[ho,resolve,invoke,builtin,A0k,A0n,A0e,List.map_toArray,List.map_cons,List.map_nil,hr]

/-! ## loops over a map -/

theorem JO {bs:List D}{dm d:D}(h:D.SD (.st bs) dm=some d):∃i bH,dm=.mp i∧bs[i]? = some (.fm bH)∧D.lost bH=false∧d=.st (bs++[.itb i bH.length []]):=by
 unfold D.SD at h
 split at h
 ·rename_i i bs' e
  cases e
  split at h
  ·rename_i bH hi
   split at h
   ·cases h
   rename_i hlo
   cases h
   exact⟨i,bH,rfl,hi,by simpa using hlo,rfl⟩
  ·cases h
 ·cases h

theorem DM {bs:List D}{p:Value}{dp:D}{bs':List D}{i m n:Nat}{seen:List Nat}{bH:List D}(hst:ck w ρ.S ρ.an bs)(hp:aZ w ρ.S p dp)(h:D.place (.st bs) dp=some (bs',i,m,n,seen,bH)) :
  bs'=bs∧bs[i]? = some (.itb m n seen)∧p=.pointer (some ⟨ρ.S.loc i,0,none⟩)∧m<ρ.S.n∧w.heap[ρ.S.loc i]? = some (.mapIter (some (ρ.S.loc m)) n seen.toArray n)∧∃es:Array MapEntry,w.heap[ρ.S.loc m]? = some (.map es n)∧rA es n n∧iC w ρ.S es.toList bH∧bH.length=n:=by
 unfold D.place at h
 split at h
 ·rename_i ew i1 e
  cases e
  split at h
  ·rename_i m1 n1 agh hi
   split at h
   ·rename_i aiS hm
    split at h
    ·rename_i hn
     obtain⟨hn,hlo⟩:=hn
     cases h
     obtain⟨_,⟨g1,g2⟩,_⟩:=hst.pV _ _ hi rfl
     obtain⟨_,es,clock,g3,g4,_,g5⟩:=hst.maps _ _ hm
     replace g4:=g4.sz hlo
     rw[D.oF hlo] at g5
     have hc:clock=n:=g4.RP.trans hn
     subst hc
     cases hp
     refine⟨rfl,hi,rfl,g1,g2,es,g3,by rw[hn] at g4;exact g4,⟨by simpa using g4.len,fun j e kv h1 h2=>g5 j e kv (by simpa using h1) h2⟩,hn⟩
    ·cases h
   ·cases h
  ·cases h
 ·cases h

theorem Kz {bs:List D}{p:Value}{dp d:D}(hst:ck w ρ.S ρ.an bs)(hp:aZ w ρ.S p dp)(h:D.Gt (.st bs) dp=some d) :
  ∃v1 v2 d1 d2,(Instr.entry p).run P w=.ok (.tuple #[v1,v2]) w∧d=.aM [d1,d2]∧aZ w ρ.S v1 d1∧aZ w ρ.S v2 d2:=by
 unfold D.Gt at h
 obtain⟨q,qA,hq⟩:=A0c.1 h
 obtain⟨bs',i,m,n,seen,bH⟩:=q
 simp only at hq
 obtain⟨rfl,hi,rfl,hm,hit,es,iJ,hsz,hrd,hn⟩:=DM hst hp qA
 obtain⟨j,hj,hq2⟩:=A0c.1 hq
 obtain⟨⟨k,u⟩,OM,e0⟩:=A0b.1 hq2
 simp only at e0
 subst e0
 unfold uD at OM
 split at OM
 ·rename_i k' u' hk
  cases OM
  have hjl:j<es.size:=by
   have:=(A0a.1 hk).1
   rw[hsz.len,←hn]
   exact this
  obtain⟨dk,dv,e1,e2,e3⟩:=hrd.2 j es[j] _ (by simp[hjl]) hk
  cases e1
  obtain⟨s',rfl⟩:∃s',seen=s'++[j]:=by
   have:=List.getLast?_eq_some_iff.1 hj
   exact this
  refine⟨es[j].key,es[j].val,_,_,?_,rfl,e2,e3⟩
  have zg:es[j].born=j:=hsz.born j _ (by simp[hjl])
  have hnd:(es.toList.map (·.born)).Nodup:=by
   refine List.pairwise_iff_getElem.2 fun a b ha hb hab=>?_
   have hb':b<es.size:=by simpa using hb
   have ha':a<es.size:=by simpa using ha
   simp only[List.getElem_map,Array.getElem_toList]
   rw[hsz.born a _ (A0o ha'),hsz.born b _ (A0o hb')]
   omega
  have:=run_entry_at (P:=P) w (ρ.S.loc i) (ρ.S.loc m) n s'.toArray es n es[j] (by rw[hit,zg];simp) iJ (by simp) hnd
  exact this
 ·cases OM

theorem L9 {ty:TypeId}{bs:List D}{p:Value}{dp:D}{ys:List D}(hst:ck w ρ.S ρ.an bs)(hp:aZ w ρ.S p dp)(h:D.Mc (.st bs) dp=some (.a_ ys)) :
  ∃(v:Value) (w':World) (d:D) (bs':List D),.aM [d,.st bs']∈ys∧(Instr.next p false ty).run P w=.ok v w'∧aZ w' ρ.S v d∧ck w' ρ.S ρ.an bs'∧bp ρ.S w w'∧w'.os=w.os∧TL w' w∧w'.output=w.output∧w'.heap.size=w.heap.size∧∀b,¬ρ.an b→w'.heap[b]? = w.heap[b]?:=by
 unfold D.Mc at h
 obtain⟨q,qA,hq⟩:=A0b.1 h
 clear h
 obtain⟨bs',i,m,n,seen,bH⟩:=q
 simp only[D.a_.injEq] at hq
 have h:=hq
 clear hq
 obtain⟨rfl,hi,rfl,hm,hit,es,iJ,hsz,hrd,hn⟩:=DM hst hp qA
 have zg:∀(j:Nat) (x:MapEntry),es[j]? = some x→x.born=j:=hsz.born
 have hold:∀x∈es.toList,x.born<n:=fun x hx=>by
  obtain⟨j,hj⟩:=List.getElem?_of_mem hx
  rw[zg j x (by simpa using hj)]
  have:=(A0a.1 hj).1
  rw[B0j,hsz.len] at this
  exact this
 have hf:=(hst.pV i _ hi rfl).1
 have jk:∀off,¬ρ.S (ρ.S.loc i) off:=fun off=>hst.rH _ off hf
 have hleft:∀x∈es.toList,(x∈(leftOf es seen.toArray).toList↔x.born∈yI n seen):=fun x hx=>by
  have:=hold x hx
  simp only[leftOf,yI,Array.toList_filter,List.mem_filter,List.contains_toArray,List.mem_range,hx,this,true_and]
 rcases run_next_at (P:=P) w ty (ρ.S.loc i) (ρ.S.loc m) n n seen.toArray es n hit iJ hold (A0m _) with⟨h0,hrun⟩ | ⟨e,he,w1,hw1,hrun⟩
 ·have aec:(yI n seen).isEmpty=true:=by
   rw[List.isEmpty_iff]
   refine List.eq_nil_iff_forall_not_mem.2 fun j hj=>?_
   have hjn:j<n:=by simp only[yI,List.mem_filter,List.mem_range] at hj;exact hj.1
   have hjl:j<es.size:=by rw[hsz.len];exact hjn
   have hb:=zg j es[j] (A0o hjl)
   have:=(hleft es[j] (by simp)).2 (by rw[hb];exact hj)
   rw[Array.eq_empty_of_size_eq_zero h0] at this
   simp at this
  rw[if_pos aec] at h
  subst h
  exact⟨_,w,.aM [.bool false],bs',by simp,hrun,.aM rfl fun j v d hv hd=>by
   match j with
   | 0=>simp at hv hd;subst hv hd;exact .v rfl
   | j+1=>simp at hv,hst,bp.refl _ _,rfl,.refl _,rfl,rfl,fun _ _=>rfl⟩
 ·have Yf:e∈es.toList:=by
   simp only[leftOf,Array.toList_filter,List.mem_filter] at he
   exact he.1
  have hj:=(hleft e Yf).1 he
  obtain⟨j,hje⟩:=List.getElem?_of_mem Yf
  have OQ:es[j]? = some e:=by simpa using hje
  have hb:=zg j e OQ
  rw[hb] at hj
  have hne:¬(yI n seen).isEmpty=true:=fun hh=>by
   rw[List.isEmpty_iff] at hh
   rw[hh] at hj
   cases hj
  rw[if_neg hne] at h
  have hjl:j<bH.length:=by rw[hn,←hsz.len];exact(A0h.1 OQ).1
  obtain⟨dk,dv,e1,e2,e3⟩:=hrd.2 j e bH[j] hje (by simp)
  have hw:w1.heap=w.heap∧w1.os=w.os∧TL w1 w∧w1.output=w.output:=by
   rcases hw1 with rfl | rfl
   ·exact⟨rfl,rfl,.refl _,rfl⟩
   ·exact⟨rfl,rfl,⟨rfl,Nat.le_succ _⟩,rfl⟩
  have uX:ρ.S.loc i<w.heap.size:=(A0h.1 hit).1
  have iX:∀b,b≠ρ.S.loc i→(ChangeMaps.setBlock w1 (ρ.S.loc i) (.mapIter (some (ρ.S.loc m)) n (seen.toArray.push e.born) n)).heap[b]? = w.heap[b]?:=fun b hb=>by
   simp only[ChangeMaps.setBlock,hw.1,Array.getElem?_setIfInBounds,Ne.symm hb,if_false]
  have nr:(ChangeMaps.setBlock w1 (ρ.S.loc i) (.mapIter (some (ρ.S.loc m)) n (seen.toArray.push e.born) n)).heap[ρ.S.loc i]? = some (.mapIter (some (ρ.S.loc m)) n (seen++[j]).toArray n):=by
   simp only[ChangeMaps.setBlock,hw.1,Array.getElem?_setIfInBounds,if_true,uX,hb]
   simp
  have hK:bp ρ.S w (ChangeMaps.setBlock w1 (ρ.S.loc i) (.mapIter (some (ρ.S.loc m)) n (seen.toArray.push e.born) n)):=fun b o vL=>World.cell?_of_block (a:=⟨b,o,none⟩) (iX b fun e=>jk o (e ▸ vL))
  refine⟨_,_,.aM [.bool true,dk,dv],bs'.set i (.itb m n (seen++[j])),?_,hrun,?_,?_,hK,hw.2.1,⟨hw.2.2.1.tape,hw.2.2.1.dr⟩,hw.2.2.2,by simp[ChangeMaps.setBlock,hw.1],fun b hb=>iX b fun e=>hb (e ▸ hf)⟩
  ·rw[←h,List.mem_filterMap]
   refine⟨j,hj,?_⟩
   unfold uD
   rw[A0f hjl,e1]
   rfl
  ·refine .aM rfl fun q v d hv hd=>?_
   match q with
   | 0=>simp at hv hd;subst hv hd;exact .v rfl
   | 1=>simp at hv hd;subst hv hd;exact e2.keep hK (Sets.le_refl _)
   | 2=>simp at hv hd;subst hv hd;exact e3.keep hK (Sets.le_refl _)
   | q+3=>simp at hv
  ·refine hst.set hK hi rfl (fun k x _ _ hne=>iX _ hne) (fun e sz cs hz=>by cases hz) (fun bH hz=>by cases hz) fun _=>⟨hm,nr⟩

theorem pI {w:World}{r:Nat}{s:ByteArray}{n:Nat}(h:w.heap[r]? = some (.stringIter s n)):(getObj r).run P w=.ok (.stringIter s n) w:=by simp[getObj,Sem.run,h]

theorem xI {w:World}{r:Nat}{s:ByteArray}{n:Nat}(o':Obj)(h:w.heap[r]? = some (.stringIter s n)):(setObj r o').run P w=.ok () { w with heap:=w.heap.setIfInBounds r o' }:=by
 simp[setObj,Sem.run,h]

theorem Gy {o:Oper}{aH:Operand→SV}{ix:Nat}{r:bZ}(hv:∀x,cu w ρ env (a.eval x) (aH x))(hl:sY P o aH (σ.obj aO) ix=some r)(h:bE w0 X w a σ env ρ)(hd:∀d,o.dst=some d→d<σ.tmps.length)(hb:aY P env ix r.bind) :
  ∃z,r.cA=some (aO,z)∧cX P o a w w0 X ((σ.setObj aO (some z)).put o.dst r.val) env:=by
 unfold sY at hl
 split at hl
 case h_2=>cases hl
 rename_i cf hx bW
 obtain⟨bs,eO,hst,_⟩:=h.cn _ _ bW
 split at hl
 ·cases hl
 rename_i hro
 have hro:cf.ro=false:=by simpa using hro
 split at hl
 ·rename_i t m ho
  split at hl
  ·rename_i m' hty hm'
   cases hl
   obtain⟨dm,wo,AI⟩:=SV.toE_rd hm' (hv m)
   obtain⟨d,he,bQ⟩:=hb
   simp only[E.eval,eO,wo,A0d,D.m4] at he
   obtain⟨s,rfl,rfl⟩:∃s,dm=.v (.string s)∧d=.st (bs++[.BV s 0]):=by
    unfold D.Jv at he
    split at he
    ·rename_i e1
     cases e1
     cases he
     exact⟨_,rfl,rfl⟩
    ·cases he
   have hme:a.eval m=.string s:=by
    generalize a.eval m=v at AI
    cases AI
    rfl
   have hrun:(execOp a.eval o).run P w=.ok (.value (.pointer (some ⟨w.heap.size,0,none⟩))) (w.alloc (.stringIter s 0)):=by
    unfold execOp
    simp only[ho,hme,Instr.range,A0k,run_underlying hty,A0e,A0n]
    rfl
   obtain⟨aG,hn⟩:=h.mZ (k:=0) (z:=.BV s 0) (ob:=.stringIter s 0) (x':=.sym ix) bW hro eO (fun e sz cs hz=>by cases hz) (fun bH hz=>by cases hz) (by simp only[E.eval];exact bQ) (fun _=>rfl)
   refine⟨_,rfl,bq hrun (aG.put (by rw[af.aA];exact hd) ?_)⟩
   exact tF eO hn
  ·cases hl
 ·rename_i it ho
  obtain⟨p,hp,rfl⟩:=A0b.1 hl
  obtain⟨dp,Nm,FF⟩:=SV.toE_rd hp (hv it)
  obtain⟨d,he,bQ⟩:=hb
  simp only[E.eval,eO,Nm,A0d,D.m4] at he
  obtain⟨q,hq,rfl⟩:=A0b.1 he
  obtain⟨i,s,n,rfl,hi,rfl⟩:∃i s n,dp=.loc i 0∧bs[i]? = some (.BV s n)∧q=(bs,i,s,n):=by
   unfold D.F6 at hq
   split at hq
   ·rename_i e1
    cases e1
    split at hq
    ·rename_i hi
     cases hq
     exact⟨_,_,_,rfl,hi,rfl⟩
    ·cases hq
   ·cases hq
  obtain⟨hf,nr,jk⟩:=hst.pV i _ hi rfl
  replace nr:w.heap[ρ.S.loc i]? = some (.stringIter s n):=nr
  have Rs:a.eval it=.pointer (some ⟨ρ.S.loc i,0,none⟩):=by
   generalize a.eval it=v at FF
   cases FF
   rfl
  have hX:(E.m4 .O7 hx p .nil .nil).eval env=some (if n<s.size then .aM [.bool true,.int n,.v (.int .i32 (Utf8.decode s n).1)] else .aM [.bool false]):=by
   simp only[E.eval,eO,Nm,A0d,D.m4,D.O7,hq,A0y]
  by_cases hlt:n<s.size
  ·rw[if_pos hlt] at hX
   simp only[if_pos hlt] at bQ
   have c8:(execOp a.eval o).run P w=.ok (.value (.tuple #[.bool true,goInt n,.int .i32 (Utf8.decode s n).1])) { w with heap:=w.heap.setIfInBounds (ρ.S.loc i) (.stringIter s (n+(Utf8.decode s n).2)) }:=by
    unfold execOp
    simp only[ho,Rs,Instr.next,A0k,pI nr,A0e,if_pos hlt,xI _ nr,A0n]
   obtain⟨g1,g2⟩:=heap_set (o':=.stringIter s (n+(Utf8.decode s n).2)) nr
   refine⟨_,rfl,bq c8 ((h.setBlock (w':={ w with heap:=w.heap.setIfInBounds (ρ.S.loc i) (.stringIter s (n+(Utf8.decode s n).2)) }) (x':=.store cf (.sym ix)) (.inl rfl) bW (b0:=ρ.S.loc i) hf (by simpa[aE.ro] using hro) (by intro _ hh;exact hh) jk (fun b hb'=>g2 b hb') rfl ⟨rfl,A0m _⟩ rfl (by simp) fun hk=>?_).put (by rw[af.aA];exact hd) ?_)⟩
   ·exact⟨_,by simp only[E.eval];exact bQ,hst.set (z':=.BV s (n+(Utf8.decode s n).2)) hk hi rfl (fun k x _ _ hne=>g2 _ hne) (fun e sz cs hz=>by cases hz) (fun bH hz=>by cases hz) fun _=>g1,rfl⟩
   ·refine .e hX (.aM rfl fun q v d hv hd=>?_) (by simp)
    match q with
    | 0=>simp at hv hd;subst hv hd;exact .v rfl
    | 1=>simp at hv hd;subst hv hd;exact .v rfl
    | 2=>simp at hv hd;subst hv hd;exact .v rfl
    | q+3=>simp at hv
  ·rw[if_neg hlt] at hX
   simp only[if_neg hlt] at bQ
   have c8:(execOp a.eval o).run P w=.ok (.value (.tuple #[.bool false])) w:=by
    unfold execOp
    simp only[ho,Rs,Instr.next,A0k,pI nr,A0e,if_neg hlt,A0n]
   refine⟨_,rfl,bq c8 ((h.setBlock (w':=w) (x':=.store cf (.sym ix)) (.inl rfl) bW (b0:=ρ.S.loc i) hf (by simpa[aE.ro] using hro) (by intro _ hh;exact hh) jk (fun b hb'=>rfl) rfl (.refl _) rfl rfl fun hk=>?_).put (by rw[af.aA];exact hd) ?_)⟩
   ·exact⟨_,by simp only[E.eval];exact bQ,hst,rfl⟩
   ·refine .e hX (.aM rfl fun q v d hv hd=>?_) (by simp)
    match q with
    | 0=>simp at hv hd;subst hv hd;exact .v rfl
    | q+1=>simp at hv
 ·cases hl

theorem GD {o:Oper}{aH:Operand→SV}{ix:Nat}{r:bZ}(hv:∀x,cu w ρ env (a.eval x) (aH x))(hl:lmap P o aH σ.obj ix=some r)(h:bE w0 X w a σ env ρ)(hd:∀d,o.dst=some d→d<σ.tmps.length)(hb:aY P env ix r.bind) :
  (r.cA=none∧cX P o a w w0 X (σ.put o.dst r.val) env)∨∃z,r.cA=some (aO,z)∧cX P o a w w0 X ((σ.setObj aO (some z)).put o.dst r.val) env:=by
 unfold lmap at hl
 split at hl
 case isFalse=>cases hl
 split at hl
 case h_2=>
  split at hl
  case h_2=>
   split at hl
   case h_2=>exact .inr (GO hv hl h hd hb)
   rename_i hl'
   cases hl
   exact Ef hv hl' h hd hb
  rename_i hl'
  cases hl
  exact .inr (Gy hv hl' h hd hb)
 rename_i hl'
 cases hl
 have hl:=hl'
 clear hl'
 unfold kM at hl
 split at hl
 case h_2=>cases hl
 rename_i cf hx bW
 obtain⟨bs,eO,hst,_⟩:=h.cn _ _ bW
 have cA:∀{t:TypeId} {m k x:Operand} {ty:TypeId×TypeId×Kd} {m' k' x':E},(execOp a.eval o).run P w=((Instr.mapUpdate t (a.eval m) (a.eval k) (a.eval x)).run P w).andThen (fun _ w'=>.ok .skip w')→m7 P t=some ty→(aH m).toE=some m'→(aH k).toE=some k'→(aH x).toE=some x'→cf.ro=false →
   aY P env ix (some (.ev (.m4 (.put ty.2.2) hx m' k' x')))→cX P o a w w0 X ((σ.setObj aO (some (.store cf (.sym ix)))).put o.dst .bS) env:=by
  rintro t m k x ⟨kt,e,kd⟩ m' k' x' c8 hty hm' hk' hx' hro hb
  obtain⟨dm,wo,AI⟩:=SV.toE_rd hm' (hv m)
  obtain⟨dk,K8,ue⟩:=SV.toE_rd hk' (hv k)
  obtain⟨dx,fW,fF⟩:=SV.toE_rd hx' (hv x)
  obtain⟨d,he,bQ⟩:=hb
  simp only[E.eval,eO,wo,K8,fW,A0d,D.m4] at he
  have hmp:∃i,dm=.mp i:=by
   unfold D.Ma at he
   split at he
   ·exact⟨_,rfl⟩
   ·cases he
  obtain⟨i,rfl⟩:=hmp
  obtain⟨kH,es',clock',⟨bH,fX⟩,rfl,hrun,iJ,pe⟩:=FQ hst hty AI ue fF he
  rw[hrun] at c8
  obtain⟨hf,es0,HW,hh,_,jk,_⟩:=hst.maps i _ fX
  obtain⟨g1,g2⟩:=heap_set (o':=.map es' clock') hh
  refine mX c8 ((h.setBlock (w':={ w with heap:=w.heap.setIfInBounds (ρ.S.loc i) (.map es' clock') }) (.inl rfl) bW (b0:=ρ.S.loc i) hf (by simpa[aE.ro] using hro) (by intro _ hh;exact hh) jk (fun b hb'=>g2 b hb') rfl ⟨rfl,A0m _⟩ rfl (by simp) fun hk=>?_).put (by rw[af.aA];exact hd) .bS)
  exact⟨_,by simp only[E.eval];exact bQ,qt hst hk fX g1 g2 iJ pe,rfl⟩
 split at hl
 ·rename_i t ho
  split at hl
  ·cases hl
  rename_i hro
  have hro:cf.ro=false:=by simpa using hro
  cases hl
  obtain⟨d,he,bQ⟩:=hb
  simp only[E.eval,eO,A0d,D.m4] at he
  cases he
  have hrun:(execOp a.eval o).run P w=.ok (.value (.map (some w.heap.size))) (w.alloc (.map #[] 0)):=by
   unfold execOp
   simp only[ho,Option.map_none,A0k]
   rfl
  obtain⟨aG,hn⟩:=h.mZ (k:=0) (z:=.fm []) (ob:=.map #[] 0) (x':=.sym ix) bW hro eO (fun e sz cs hz=>by cases hz) (fun bH hz=>by cases hz;exact⟨#[],0,rfl,eX.of ⟨rfl,rfl,by simp⟩ rfl,by simp⟩) (by simp only[E.eval];exact bQ)
  refine .inr ⟨_,rfl,bq hrun (aG.put (by rw[af.aA];exact hd) ?_)⟩
  refine .e (d:=.mp bs.length) (by simp only[E.eval,eO];rfl) ?_ fun _=>rfl
  have:=aZ.mp (w:=w.alloc (.map #[] 0)) (S:=ρ.S.more w.heap.size 0) (i:=bs.length) (by simp[Sets.more,hn])
  have hl:(ρ.S.more w.heap.size 0).loc bs.length=w.heap.size:=by simp[Sets.more,hn]
  rwa [hl] at this
 ·rename_i t m k x ho
  split at hl
  ·cases hl
  rename_i hro
  split at hl
  ·rename_i ty m' k' x' hty hm' hk' hx'
   cases hl
   exact .inr ⟨_,rfl,cA (by unfold execOp;rw[ho];simp only[A0k,A0n]) hty hm' hk' hx' (by simpa using hro) hb⟩
  ·cases hl
 ·rename_i t m k x ho
  split at hl
  ·cases hl
  rename_i hro
  split at hl
  ·rename_i ty m' k' x' hty hm' hk' hx'
   cases hl
   exact .inr ⟨_,rfl,cA (by unfold execOp;rw[ho];simp only[A0k,A0n]) hty hm' hk' hx' (by simpa using hro) hb⟩
  ·cases hl
 ·rename_i t m k ok ho
  split at hl
  ·rename_i kt e kd m' k' hty hm' hk'
   split at hl
   ·rename_i z agg hz p7
    obtain⟨zv,PE,hz⟩:=A0c.1 hz
    obtain⟨dm,wo,AI⟩:=SV.toE_rd hm' (hv m)
    obtain⟨dk,K8,ue⟩:=SV.toE_rd hk' (hv k)
    split at hl
    ·rename_i hok
     subst hok
     cases hl
     obtain⟨d,he,bQ⟩:=hb
     simp only[E.eval,eO,wo,K8,A0d,D.m4,A0c,A0b] at he
     obtain⟨bH,Na,rr,Rm,he⟩:=he
     obtain⟨x,hrun,hx⟩:=yx (ok:=true) hst hty AI ue Na Rm PE
     have c8:(execOp a.eval o).run P w=.ok (.value (.tuple #[x,.bool rr.isSome])) w:=by
      unfold execOp
      simp only[ho,A0k,hrun,A0e,A0n,if_true]
     refine .inl ⟨rfl,bq c8 (h.put hd ?_)⟩
     obtain⟨dd,Ar,hxd⟩:∃dd,d=.aM [dd,.bool rr.isSome]∧aZ w ρ.S x dd:=by
      rcases hx with⟨rfl,rfl⟩ | ⟨j,dv,rfl,hdv⟩
      ·exact⟨_,he.symm,D.iG hz⟩
      ·exact⟨_,he.symm,hdv⟩
     subst Ar
     refine .aM rfl fun i v c fQ hc=>?_
     match i with
     | 0=>
      simp at fQ hc
      subst fQ hc
      exact .e (d:=dd) (by simp[E.eval,bQ,D.au]) hxd (by simp)
     | 1=>
      simp at fQ hc
      subst fQ hc
      exact .e (d:=.bool rr.isSome) (by simp[E.eval,bQ,D.au]) (.v rfl) (fun _=>rfl)
     | i+2=>simp at hc
    ·rename_i hok
     have hok:ok=false:=by simpa using hok
     subst hok
     cases hl
     obtain⟨d,he,bQ⟩:=hb
     simp only[E.eval,eO,wo,K8,A0d,D.m4,A0c] at he
     obtain⟨bH,Na,rr,Rm,he⟩:=he
     obtain⟨x,hrun,hx⟩:=yx (ok:=false) hst hty AI ue Na Rm PE
     have c8:(execOp a.eval o).run P w=.ok (.value x) w:=by
      unfold execOp
      simp only[ho,A0k,hrun,A0e,A0n]
      rfl
     refine .inl ⟨rfl,bq c8 (h.put hd ?_)⟩
     rcases hx with⟨rfl,rfl⟩ | ⟨j,dv,rfl,hdv⟩
     ·simp only at he
      split at he
      ·rename_i hone
       cases he
       exact .e bQ (D.iG hz) fun hag=>hone.resolve_left (by simpa using hag)
      ·cases he
     ·simp only at he
      split at he
      ·rename_i hone
       cases he
       exact .e bQ hdv fun hag=>hone.resolve_left (by simpa using hag)
      ·cases he
   ·cases hl
  ·cases hl
 ·rename_i t m ho
  split at hl
  ·cases hl
  rename_i hro
  have hro:cf.ro=false:=by simpa using hro
  split at hl
  ·rename_i ty m' hty hm'
   cases hl
   obtain⟨kt,e,kd⟩:=ty
   obtain⟨hu,_⟩:=jS hty
   obtain⟨dm,wo,AI⟩:=SV.toE_rd hm' (hv m)
   obtain⟨d,he,bQ⟩:=hb
   simp only[E.eval,eO,wo,A0d,D.m4] at he
   obtain⟨i,bH,rfl,fX,hlo,rfl⟩:=JO he
   obtain⟨hf,es,clock,hh,hsz,jk,hr⟩:=hst.maps i _ fX
   replace hsz:=hsz.sz hlo
   have hlt:i<ρ.S.n:=by rw[hst.n];exact(A0a.1 fX).1
   have hme:a.eval m=.map (some (ρ.S.loc i)):=by
    generalize a.eval m=v at AI
    cases AI
    rfl
   have hrun:(execOp a.eval o).run P w=.ok (.value (.pointer (some ⟨w.heap.size,0,none⟩))) (w.alloc (.mapIter (some (ρ.S.loc i)) bH.length [].toArray bH.length)):=by
    unfold execOp
    simp only[ho,hme,Instr.range,A0k,run_underlying hu,A0e,Go.MapKept.run_getObj_map hh,hsz.RP,A0n]
    rfl
   obtain⟨aG,hn⟩:=h.mZ (k:=0) (z:=.itb i bH.length []) (ob:=.mapIter (some (ρ.S.loc i)) bH.length [].toArray bH.length) (x':=.sym ix) bW hro eO (fun e sz cs hz=>by cases hz) (fun bH hz=>by cases hz) (by simp only[E.eval];exact bQ) (fun _=>⟨Nat.lt_succ_of_lt hlt,by rw[(ρ.S.qx w.heap.size 0).loc _ hlt]⟩)
   refine .inr ⟨_,rfl,bq hrun (aG.put (by rw[af.aA];exact hd) ?_)⟩
   exact tF eO hn
  ·cases hl
 ·rename_i t m k ho
  split at hl
  ·cases hl
  rename_i hro
  have hro:cf.ro=false:=by simpa using hro
  split at hl
  ·rename_i kt e kd m' k' hty hm' hk'
   obtain⟨z,hz,rfl⟩:=A0b.1 hl
   obtain⟨zv,PE,hz⟩:=A0c.1 hz
   obtain⟨dm,wo,AI⟩:=SV.toE_rd hm' (hv m)
   obtain⟨dk,K8,ue⟩:=SV.toE_rd hk' (hv k)
   obtain⟨d,he,bQ⟩:=hb
   simp only[E.eval,eO,wo,K8,A0d,D.m4] at he
   obtain⟨i,bH,kH,es',clock',u,j,du,rfl,fX,rfl,hent,hrun,iJ,pe,hu⟩:=Gs (P:=P) hst hty AI ue PE hz he
   have c8:(execOp a.eval o).run P w=.ok (.value (.tuple #[u,.int .i64 j])) { w with heap:=w.heap.setIfInBounds (ρ.S.loc i) (.map es' clock') }:=by
    unfold execOp
    simp only[ho,A0k,hrun,A0e,A0n]
   obtain⟨hf,es0,HW,hh,_,jk,_⟩:=hst.maps i _ fX
   obtain⟨g1,g2⟩:=heap_set (o':=.map es' clock') hh
   have hK:bp ρ.S w { w with heap:=w.heap.setIfInBounds (ρ.S.loc i) (.map es' clock') }:=fun b o hs=>World.cell?_of_block (a:=⟨b,o,none⟩) (g2 b fun e=>jk o (e ▸ hs))
   have hX:(E.m4 (.Qm kd) hx m' k' (.const z)).eval env=some (.aM [du,.int j]):=by
    simp only[E.eval,eO,wo,K8,A0d,D.m4]
    exact hent
   refine .inr ⟨_,rfl,bq c8 ((h.setBlock (w':={ w with heap:=w.heap.setIfInBounds (ρ.S.loc i) (.map es' clock') }) (.inl rfl) bW (b0:=ρ.S.loc i) hf (by simpa[aE.ro] using hro) (by intro _ hh;exact hh) jk (fun b hb'=>g2 b hb') rfl ⟨rfl,A0m _⟩ rfl (by simp) fun hk=>?_).put (by rw[af.aA];exact hd) ?_)⟩
   ·exact⟨_,by simp only[E.eval];exact bQ,qt hst hk fX g1 g2 iJ pe,rfl⟩
   ·refine .aM rfl fun q v c fQ hc=>?_
    match q with
    | 0=>
     simp at fQ hc
     subst fQ hc
     exact .e (d:=du) (by simp only[E.eval] at hX ⊢;rw[hX];rfl) (hu.keep hK (Sets.le_refl _)) (by simp)
    | 1=>
     simp at fQ hc
     subst fQ hc
     exact .e (d:=.int j) (by simp only[E.eval] at hX ⊢;rw[hX];rfl) (.v rfl) fun _=>rfl
    | q+2=>simp at hc
  ·cases hl
 ·rename_i t m s x ho
  split at hl
  ·cases hl
  rename_i hro
  have hro:cf.ro=false:=by simpa using hro
  split at hl
  ·rename_i m' s' x' hm' hs' hx'
   cases hl
   obtain⟨dm,wo,AI⟩:=SV.toE_rd hm' (hv m)
   obtain⟨ds,hds,jE⟩:=SV.toE_rd hs' (hv s)
   obtain⟨dx,fW,fF⟩:=SV.toE_rd hx' (hv x)
   obtain⟨d,he,bQ⟩:=hb
   simp only[E.eval,eO,wo,hds,fW,A0d,D.m4] at he
   obtain⟨i,bH,kH,es',clock',rfl,fX,rfl,hrun,iJ,pe⟩:=JP (P:=P) (t:=t) hst AI jE fF he
   have c8:(execOp a.eval o).run P w=.ok .skip { w with heap:=w.heap.setIfInBounds (ρ.S.loc i) (.map es' clock') }:=by
    unfold execOp
    simp only[ho,A0k,hrun,A0e,A0n]
   obtain⟨hf,es0,HW,hh,_,jk,_⟩:=hst.maps i _ fX
   obtain⟨g1,g2⟩:=heap_set (o':=.map es' clock') hh
   refine .inr ⟨_,rfl,mX c8 ((h.setBlock (w':={ w with heap:=w.heap.setIfInBounds (ρ.S.loc i) (.map es' clock') }) (.inl rfl) bW (b0:=ρ.S.loc i) hf (by simpa[aE.ro] using hro) (by intro _ hh;exact hh) jk (fun b hb'=>g2 b hb') rfl ⟨rfl,A0m _⟩ rfl (by simp) fun hk=>?_).put (by rw[af.aA];exact hd) .bS)⟩
   exact⟨_,by simp only[E.eval];exact bQ,qt hst hk fX g1 g2 iJ pe,rfl⟩
  ·cases hl
 ·rename_i it ho
  obtain⟨p,hp,rfl⟩:=A0b.1 hl
  obtain⟨dp,Nm,FF⟩:=SV.toE_rd hp (hv it)
  obtain⟨d,he,bQ⟩:=hb
  simp only[E.eval,eO,Nm,A0d,D.m4] at he
  obtain⟨v1,v2,d1,d2,hrun,rfl,h1,h2⟩:=Kz (P:=P) hst FF he
  have c8:(execOp a.eval o).run P w=.ok (.value (.tuple #[v1,v2])) w:=by
   unfold execOp
   simp only[ho,A0k,hrun,A0e,A0n]
  refine .inl ⟨rfl,bq c8 (h.put hd ?_)⟩
  refine .aM rfl fun i v c fQ hc=>?_
  match i with
  | 0=>
   simp at fQ hc
   subst fQ hc
   exact .e (d:=d1) (by simp[E.eval,bQ,D.au]) h1 (by simp)
  | 1=>
   simp at fQ hc
   subst fQ hc
   exact .e (d:=d2) (by simp[E.eval,bQ,D.au]) h2 (by simp)
  | i+2=>simp at hc
 ·rename_i c ho
  split at hl
  ·rename_i iB
   split at hl
   ·rename_i x t hargs hts
    split at hl
    ·split at hl
     ·rename_i ty m' hty hm'
      cases hl
      obtain⟨kt,e,kd⟩:=ty
      obtain⟨hu,_⟩:=jS hty
      obtain⟨dm,wo,AI⟩:=SV.toE_rd hm' (hv x)
      obtain⟨d,he,bQ⟩:=hb
      simp only[E.eval,eO,wo,A0d,D.m4,A0b] at he
      obtain⟨bH,Na,rfl⟩:=he
      have ho':o.op=.call { callee:=.builtin .len,args:=#[x],argTypes:=#[t] }:=by
       rw[ho]
       obtain⟨c1,c2,c3⟩:=c
       simp only at iB hargs hts
       subst iB
       congr 2
       ·exact Array.toList_inj.1 (by simpa using hargs)
       ·exact Array.toList_inj.1 (by simpa using hts)
      have c8:(execOp a.eval o).run P w=.ok (.value (.int .i64 bH.length)) w:=by
       refine zA ho' ?_
       rcases jZ hst AI Na with⟨e1,rfl⟩ | ⟨i,es,clock,Eo,rfl,fX,ek,e1,hh,iJ,pe⟩
       ·rw[e1]
        simp only[Builtin.len_,B0n,B0d,A0k,run_underlying hu,A0e,A0n]
        rfl
       ·rw[e1]
        simp only[Builtin.len_,B0n,B0d,A0k,run_underlying hu,A0e,Go.MapKept.run_getObj_map hh,A0n,pe.size,ek]
        rfl
      exact .inl ⟨rfl,bq c8 (h.put hd (.e bQ (.v rfl) fun _=>rfl))⟩
     ·cases hl
    ·cases hl
   ·cases hl
  ·rename_i iB
   split at hl
   ·cases hl
   rename_i hro
   have hro:cf.ro=false:=by simpa using hro
   split at hl
   ·rename_i x y t ts hargs hts
    split at hl
    ·rename_i kt e kd m' k' hty hm' hk'
     cases hl
     obtain⟨dm,wo,AI⟩:=SV.toE_rd hm' (hv x)
     obtain⟨dk,K8,ue⟩:=SV.toE_rd hk' (hv y)
     obtain⟨d,he,bQ⟩:=hb
     simp only[E.eval,eO,wo,K8,A0d,D.m4] at he
     have ho':o.op=.call { callee:=.builtin .delete,args:=#[x,y],argTypes:=(t :: ts).toArray }:=by
      rw[ho]
      obtain⟨c1,c2,c3⟩:=c
      simp only at iB hargs hts
      subst iB
      congr 2
      ·exact Array.toList_inj.1 (by simpa using hargs)
      ·exact Array.toList_inj.1 (by simpa using hts)
     obtain⟨i,bH,kH,es',clock',rfl,fX,rfl,hrun,iJ,pe⟩:=HC (P:=P) (ty:=o.type) (ts:=ts) hst hty AI ue he
     have c8:=EX (P:=P) (a:=a) ho' hrun
     obtain⟨hf,es0,HW,hh,_,jk,_⟩:=hst.maps i _ fX
     obtain⟨g1,g2⟩:=heap_set (o':=.map es' clock') hh
     refine .inr ⟨_,rfl,bq c8 ((h.setBlock (w':={ w with heap:=w.heap.setIfInBounds (ρ.S.loc i) (.map es' clock') }) (.inl rfl) bW (b0:=ρ.S.loc i) hf (by simpa[aE.ro] using hro) (by intro _ hh;exact hh) jk (fun b hb'=>g2 b hb') rfl ⟨rfl,A0m _⟩ rfl (by simp) fun hk=>?_).put (by rw[af.aA];exact hd) .bS)⟩
     exact⟨_,by simp only[E.eval];exact bQ,qt hst hk fX g1 g2 iJ pe,rfl⟩
    ·cases hl
   ·cases hl
  ·cases hl
 ·cases hl

end
end
end Go.Am
