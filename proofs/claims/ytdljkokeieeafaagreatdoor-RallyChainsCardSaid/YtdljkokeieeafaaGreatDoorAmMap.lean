/-
 Maps of the store.
-/
import Derived.Test.YtdljkokeieeafaaGreatDoorAmPuretoAmClo
import Derived.MapKept
import Derived.Maps.RangeRun
set_option linter.unusedSimpArgs false
set_option linter.unusedVariables false
namespace Go.Am
noncomputable section
open Go.MapKept (bytes_beq run_findKey heap_set)

def keyKd (P:Program)(t:TypeId):Option Kd:=
 match kindOf P t with
 | some .int=>some .int
 | some .str=>some .str
 | some (.agg ks)=>some (.agg ks)
 | _=>none

def mapTy (P:Program)(t:TypeId):Option (TypeId×TypeId×Kd):=
 match P.underlying t with
 | some (.map k e)=>(keyKd P k).map fun kd=>(k,e,kd)
 | _=>none

def lmapC (P:Program)(o:Oper)(opv:Operand→SV)(hO:Option SObj)(ix:Nat):Option LRes:=
 match hO with
 | some (.store cf h)=>
  match o.op with
  | .makeMap _ none=>if cf.ro then none else some { val:=.e (.m4 .fstm h .nil .nil .nil) true,upd:=some (HID,.store cf (.sym ix)),bind:=some (.ev (.m4 .newm h .nil .nil .nil)) }
  | .mapUpdate t m k x | .insert t m k x=>if cf.ro then none else(match mapTy P t,(opv m).toE,(opv k).toE,(opv x).toE with
   | some (_,_,kd),some m',some k',some x'=>some { val:=.junk,upd:=some (HID,.store cf (.sym ix)),bind:=some (.ev (.m4 (.put kd) h m' k' x')) }
   | _,_,_,_=>none)
  | .lookup t m k ok=>(match mapTy P t,(opv m).toE,(opv k).toE with
   | some (_,e,kd),some m',some k'=>(match((P.info? e).bind (·.zero)).bind D.ofVal,aggT P e with
    | some z,some agg=>if ok then some { val:=.tup [.e (.tget 0 (.sym ix)) false,.e (.tget 1 (.sym ix)) true],bind:=some (.ev (.m4 (.getok kd) h m' k' (.const z))) }
      else some { val:=.e (.sym ix) (!agg),bind:=some (.ev (.m4 (.get kd agg) h m' k' (.const z))) }
    | _,_=>none)
   | _,_,_=>none)
  | .range t m=>if cf.ro then none else(match mapTy P t,(opv m).toE with
   | some _,some m'=>some { val:=.e (.fstid h) true,upd:=some (HID,.store cf (.sym ix)),bind:=some (.ev (.m4 .rng h m' .nil .nil)) }
   | _,_=>none)
  | .mapEntry t m k=>if cf.ro then none else(match mapTy P t,(opv m).toE,(opv k).toE with
   | some (_,e,kd),some m',some k'=>(((P.info? e).bind (·.zero)).bind D.ofVal).map fun z=>
     { val:=.tup [.e (.tget 0 (.m4 (.entv kd) h m' k' (.const z))) false,.e (.tget 1 (.m4 (.entv kd) h m' k' (.const z))) true],upd:=some (HID,.store cf (.sym ix)),bind:=some (.ev (.m4 (.entm kd) h m' k' (.const z))) }
   | _,_,_=>none)
  | .entryStore _ m s x=>if cf.ro then none else(match(opv m).toE,(opv s).toE,(opv x).toE with
   | some m',some s',some x'=>some { val:=.junk,upd:=some (HID,.store cf (.sym ix)),bind:=some (.ev (.m4 .ents h m' s' x')) }
   | _,_,_=>none)
  | .entry it=>(opv it).toE.map fun p=>{ val:=.tup [.e (.tget 0 (.sym ix)) false,.e (.tget 1 (.sym ix)) false],bind:=some (.ev (.m4 .entry h p .nil .nil)) }
  | .call c=>(match c.callee with
   | .builtin .len=>(match c.args.toList,c.argTypes.toList with
    | [x],[t]=>if cf.maps.contains t then(match mapTy P t,(opv x).toE with
     | some _,some m'=>some { val:=.e (.sym ix) true,bind:=some (.ev (.m4 .mlen h m' .nil .nil)) }
     | _,_=>none) else none
    | _,_=>none)
   | .builtin .delete=>if cf.ro then none else(match c.args.toList,c.argTypes.toList with
    | [x,k],t :: _=>(match mapTy P t,(opv x).toE,(opv k).toE with
     | some (_,_,kd),some m',some k'=>some { val:=.junk,upd:=some (HID,.store cf (.sym ix)),bind:=some (.ev (.m4 (.del kd) h m' k' .nil)) }
     | _,_,_=>none)
    | _,_=>none)
   | _=>none)
  | _=>none
 | _=>none

def lstrC (P:Program)(o:Oper)(opv:Operand→SV)(hO:Option SObj)(ix:Nat):Option LRes:=
 match hO with
 | some (.store cf h)=>if cf.ro=true then none else(match o.op with
  | .range t m=>(match P.underlying t,(opv m).toE with
   | some .string,some m'=>some { val:=.e (.fstid h) true,upd:=some (HID,.store cf (.sym ix)),bind:=some (.ev (.m4 .srng h m' .nil .nil)) }
   | _,_=>none)
  | .next it true=>(opv it).toE.map fun p=>{ val:=.e (.m4 .snv h p .nil .nil) false,upd:=some (HID,.store cf (.sym ix)),bind:=some (.ev (.m4 .snh h p .nil .nil)) }
  | _=>none)
 | _=>none

def lmap (P:Program)(o:Oper)(opv:Operand→SV)(obj:Nat→Option SObj)(ix:Nat):Option LRes:=
 if usesH o=true then(match lmapC P o opv (obj HID) ix with
  | some r=>some r
  | none=>(match lstrC P o opv (obj HID) ix with
   | some r=>some r
   | none=>(match lextC P o opv (obj HID) ix with
    | some r=>some r
    | none=>lclo P o opv (obj HID) ix))) else none

section
variable {P:Program} {w w0:World} {X:Ent} {a:Act} {σ:SState} {env:List D} {ρ:Rho}

theorem checkFields {cs:Array Value}{n:Nat}{em:Bool}(hn:0<n):∀(fs:List Field) (i:Nat) (ks:List Nat),flatFields P i fs=some ks→i+ks.length=cs.size →
  (forIn fs PUnit.unit (fun (f : Field) (_ : PUnit) => (if f.name ≠ "_" then do
   let x ←part f.type cs f.offset
   Instr.checkKey em n f.type x
   pure (ForInStep.yield PUnit.unit)
   else pure (ForInStep.yield PUnit.unit):Sem (ForInStep PUnit)))).run P w=.ok PUnit.unit w
 | [],i,ks,hf,hl=>by simp
 | f :: fs,i,ks,hf,hl=>by
  obtain⟨m,rfl⟩:∃m,n=m+1:=⟨n-1,by omega⟩
  simp only[flatFields] at hf
  split at hf
  ·rename_i hc
   obtain⟨hoff,hname⟩:=hc
   have key:∀{ks':List Nat} {k:TypeDesc},flatFields P (i+1) fs=some ks'→ks.length=ks'.length+1→P.underlying f.type=some k→aggT P f.type=some false→(∀v:Value,(Instr.checkKey em (m+1) f.type v).run P w=.ok () w) →
     (forIn (f :: fs) PUnit.unit (fun (f : Field) (_ : PUnit) => (if f.name ≠ "_" then do
      let x ←part f.type cs f.offset
      Instr.checkKey em (m+1) f.type x
      pure (ForInStep.yield PUnit.unit)
      else pure (ForInStep.yield PUnit.unit):Sem (ForInStep PUnit)))).run P w=.ok PUnit.unit w:=by
    intro ks' k hks hkl hu hagg hck
    have hil:i<cs.size:=by omega
    have hp:(part f.type cs f.offset).run P w=.ok cs[i] w:=run_part_one hagg (by rw[hoff];simp[hil])
    have ih:=checkFields (cs:=cs) (em:=em) (Nat.succ_pos m) fs (i+1) ks' hks (by omega)
    simp only[List.forIn_cons,Sem.run_bind,hname,ne_eq,not_false_eq_true,if_true,Result.andThen_ok,hp,hck,Sem.run_pure]
    exact ih
   split at hf
   ·rename_i q hu
    obtain⟨ks',hks,rfl⟩:=Option.map_eq_some_iff.1 hf
    exact key hks rfl hu (by unfold aggT;rw[hu];rfl) fun v=>by
     unfold Instr.checkKey
     simp[run_underlying hu,Result.andThen]
   ·rename_i hu
    obtain⟨ks',hks,rfl⟩:=Option.map_eq_some_iff.1 hf
    exact key hks rfl hu (by unfold aggT;rw[hu];rfl) fun v=>by
     unfold Instr.checkKey
     simp[run_underlying hu,Result.andThen]
   ·rename_i hu
    obtain⟨ks',hks,rfl⟩:=Option.map_eq_some_iff.1 hf
    exact key hks rfl hu (by unfold aggT;rw[hu];rfl) fun v=>by
     unfold Instr.checkKey
     simp[run_underlying hu,Result.andThen]
   ·cases hf
  ·cases hf

theorem keyKd_kind {t:TypeId}{kd:Kd}(h:keyKd P t=some kd):kindOf P t=some kd∧(kd=.int∨kd=.str∨∃ks,kd=.agg ks):=by
 unfold keyKd at h
 split at h <;> cases h <;> exact⟨by assumption,by simp⟩

theorem kindOf_agg {t:TypeId}{ks:List Nat}(h:kindOf P t=some (.agg ks)):∃fs:Array Field,P.underlying t=some (.struct fs)∧P.stoodInHeld t=false∧flatFields P 0 fs.toList=some ks:=by
 unfold kindOf at h
 split at h <;> simp at h
 rename_i fs hu
 unfold flatStruct at h
 rw[hu] at h
 simp only at h
 split at h
 ·rename_i hc
  exact⟨fs,hu,hc.1,h⟩
 ·cases h

theorem kindOf_int {t:TypeId}(h:kindOf P t=some .int):∃q,P.underlying t=some (.int q):=by
 unfold kindOf at h
 split at h <;> simp at h
 exact⟨_,by assumption⟩

theorem kindOf_str {t:TypeId}(h:kindOf P t=some .str):P.underlying t=some .string:=by
 unfold kindOf at h
 split at h <;> simp at h
 assumption

theorem run_checkKd {t:TypeId}{kd:Kd}{v:Value}{d:D}{em:Bool}{S:Sets}(h:keyKd P t=some kd)(hr:RdD w S v d)(hd:D.keyOk kd d=true):(Instr.checkKey em 10000 t v).run P w=.ok () w:=by
 obtain⟨hk,hc⟩:=keyKd_kind h
 rcases hc with rfl | rfl | ⟨ks,rfl⟩
 ·obtain⟨q,hu⟩:=kindOf_int hk
  unfold Instr.checkKey
  simp[run_underlying hu,Result.andThen]
 ·have hu:=kindOf_str hk
  unfold Instr.checkKey
  simp[run_underlying hu,Result.andThen]
 ·obtain⟨fs,hu,_,hfl⟩:=kindOf_agg hk
  cases d <;> simp[D.keyOk] at hd
  rename_i ds
  obtain⟨vs,rfl,hl,_⟩:=hr.agg_inv
  unfold Instr.checkKey
  simp only[Sem.run_bind,run_underlying hu,Result.andThen_ok]
  rw[←Array.forIn_toList]
  rw[checkFields (cs:=vs) (by omega) fs.toList 0 ks hfl (by omega)]
  rfl

theorem equal_agg {t:TypeId}{ks:List Nat}{v u:Value}{dx dy:List D}{b:Bool}{S:Sets}(hk:kindOf P t=some (.agg ks))(hx:RdD w S v (.agg dx))(hy:RdD w S u (.agg dy))(hb:D.eqs ks dx dy=some b):(Op.equal t v u).run P w=.ok b w:=by
 obtain⟨fs,hu,hst,hfl⟩:=kindOf_agg hk
 obtain⟨xs,rfl,hxl,_,hxr⟩:=hx.agg_inv
 obtain⟨ys,rfl,hyl,_,hyr⟩:=hy.agg_inv
 have hfo:P.fieldsOf t=fs:=by simp[Program.fieldsOf,hu]
 show(Op.equalIn 10000 t (.agg xs) (.agg ys)).run P w=.ok b w
 rw[run_equalIn_agg w 9999 t xs ys (by rw[hfo];exact hu) hst,hfo]
 exact run_eqFields (d:=9998) hxl hyl hxr hyr fs.toList 0 ks b hfl (by simpa using hb)

theorem keyEq_some {kd:Kd}{x y:D}{b:Bool}(h:D.keyEq kd x y=some b):D.bin .eql kd x y=some (.v (.bool b)):=by
 unfold D.keyEq at h
 split at h
 ·rename_i e;cases h;exact e
 ·cases h

theorem bin_eql_int {x y:D}{b:Bool}(h:D.bin .eql .int x y=some (.v (.bool b))):∃k m n,x=.v (.int k m)∧y=.v (.int k n)∧b=(m==n):=by
 unfold D.bin at h
 split at h <;> (try contradiction)
 ·rename_i k m k' n
  simp only[cmpI] at h
  split at h
  ·rename_i hk
   subst hk
   cases h
   exact⟨_,_,_,rfl,rfl,rfl⟩
  ·cases h

theorem bin_eql_str {x y:D}{b:Bool}(h:D.bin .eql .str x y=some (.v (.bool b))):∃m n,x=.v (.string m)∧y=.v (.string n)∧b=(m.toList==n.toList):=by
 unfold D.bin at h
 split at h <;> (try contradiction)
 ·cases h
  exact⟨_,_,rfl,rfl,rfl⟩

theorem bin_eql_agg {ks:List Nat}{x y:D}{b:Bool}(h:D.bin .eql (.agg ks) x y=some (.v (.bool b))):∃dx dy,x=.agg dx∧y=.agg dy∧D.eqs ks dx dy=some b:=by
 unfold D.bin at h
 split at h <;> (try contradiction)
 ·rename_i hh
  cases hh
  obtain⟨b',hb',hb⟩:=Option.map_eq_some_iff.1 h
  cases hb
  exact⟨_,_,rfl,rfl,hb'⟩

theorem bytesEq (m n:ByteArray):(m==n)=(m.toList==n.toList):=by
 apply Bool.eq_iff_iff.2
 rw[bytes_beq]
 constructor
 ·rintro rfl;simp
 ·intro h
  have:=eq_of_beq h
  have hd:m.data=n.data:=by simpa[ByteArray.toList_eq] using this
  cases m
  cases n
  simp only at hd
  rw[hd]

def NowKd (P:Program)(w:World)(t:TypeId)(v u:Value)(b:Bool):Kd→Prop
 | .agg _=>(Op.equal t v u).run P w=.ok b w
 | _=>∃k,P.underlying t=some k∧Instr.sameNow k v u=some b

def FindKd (P:Program)(w:World)(t:TypeId)(v:Value)(es:List MapEntry)(i:Nat)(r:Option (Nat×Value)):Kd→Prop
 | .agg _=>(Instr.findAsking t v es i).run P w=.ok r w
 | _=>∃k,P.underlying t=some k∧Instr.findNow k v es i=some r

theorem nowKd {S:Sets}{t:TypeId}{kd:Kd}{v u:Value}{d dk:D}{b:Bool}(h:keyKd P t=some kd)(hr:RdD w S v d)(hek:RdD w S u dk)(hb:D.keyEq kd d dk=some b):NowKd P w t v u b kd:=by
 have hb:=keyEq_some hb
 obtain⟨hk,hc⟩:=keyKd_kind h
 rcases hc with rfl | rfl | ⟨ks,rfl⟩
 ·obtain⟨q,hu⟩:=kindOf_int hk
  obtain⟨k,m,n,rfl,rfl,rfl⟩:=bin_eql_int hb
  rw[hr.v_eq,hek.v_eq]
  exact⟨_,hu,by simp[Instr.sameNow]⟩
 ·have hu:=kindOf_str hk
  obtain⟨m,n,rfl,rfl,rfl⟩:=bin_eql_str hb
  rw[hr.v_eq,hek.v_eq]
  exact⟨_,hu,by simp only[Instr.sameNow,Option.some.injEq];exact bytesEq m n⟩
 ·obtain⟨dx,dy,rfl,rfl,hb'⟩:=bin_eql_agg hb
  exact equal_agg hk hr hek hb'

def EntsRd (w:World)(S:Sets)(es:List MapEntry)(kvs:List D):Prop:=
 es.length=kvs.length∧∀(j:Nat) (e:MapEntry) (kv:D),es[j]? = some e→kvs[j]? = some kv→∃dk dv,kv=.tup [dk,dv]∧RdD w S e.key dk∧RdD w S e.val dv

theorem EntsRd.tail {S:Sets}{e:MapEntry}{es:List MapEntry}{kv:D}{kvs:List D}(h:EntsRd w S (e :: es) (kv :: kvs)):EntsRd w S es kvs:=
 ⟨by simpa using h.1,fun j e kv h1 h2=>h.2 (j+1) e kv (by simpa using h1) (by simpa using h2)⟩

theorem kept_mark (l:List D):D.kept (.tup [] :: l)=l:=rfl
theorem lost_mark (l:List D):D.lost (.tup [] :: l)=true:=rfl

theorem EntsRd.keptOf {S:Sets}{es:List MapEntry}{kvs:List D}(hl:D.lost kvs=false)(h:EntsRd w S es kvs):EntsRd w S es (D.kept kvs):=by
 rwa [D.kept_of hl]

theorem findKd {S:Sets}{t:TypeId}{kd:Kd}{v:Value}{d:D}(h:keyKd P t=some kd)(hr:RdD w S v d):∀(es:List MapEntry) (kvs:List D) (i:Nat) (r:Option (Nat×D)),EntsRd w S es kvs→D.mfind kd d kvs i=some r →
  (r=none∧FindKd P w t v es i none kd)∨∃j dv e dk,r=some (j,dv)∧FindKd P w t v es i (some (j,e.val)) kd∧i≤j∧es[j-i]? = some e∧RdD w S e.val dv∧RdD w S e.key dk∧D.keyEq kd d dk=some true
 | [],[],i,r,_,hf=>by
  simp only[D.mfind] at hf
  cases hf
  obtain⟨hk,hc⟩:=keyKd_kind h
  rcases hc with rfl | rfl | ⟨ks,rfl⟩
  ·obtain⟨q,hu⟩:=kindOf_int hk
   exact .inl ⟨rfl,_,hu,rfl⟩
  ·exact .inl ⟨rfl,_,kindOf_str hk,rfl⟩
  ·exact .inl ⟨rfl,by simp[FindKd,Instr.findAsking]⟩
 | e :: es,kv :: kvs,i,r,he,hf=>by
  obtain⟨dk,dv,rfl,hek,hev⟩:=he.2 0 e kv rfl rfl
  simp only[D.mfind] at hf
  obtain⟨hk,hc⟩:=keyKd_kind h
  split at hf
  ·rename_i hb
   cases hf
   have hn:=nowKd h hr hek hb
   refine .inr ⟨i,dv,e,dk,rfl,?_,Nat.le_refl _,by simp,hev,hek,hb⟩
   rcases hc with rfl | rfl | ⟨ks,rfl⟩
   ·obtain⟨k,hu,hs⟩:=hn
    exact⟨k,hu,by simp[Instr.findNow,hs]⟩
   ·obtain⟨k,hu,hs⟩:=hn
    exact⟨k,hu,by simp[Instr.findNow,hs]⟩
   ·have hn:(Op.equal t v e.key).run P w=.ok true w:=hn
    simp[FindKd,Instr.findAsking,hn]
  ·rename_i hb
   have hn:=nowKd h hr hek hb
   have step:∀r',FindKd P w t v es (i+1) r' kd→FindKd P w t v (e :: es) i r' kd:=by
    intro r' h1
    rcases hc with rfl | rfl | ⟨ks,rfl⟩
    ·obtain⟨k,hu,hs⟩:=hn
     obtain⟨k',hu',h1⟩:=h1
     rw[hu] at hu'
     cases hu'
     exact⟨k,hu,by simp[Instr.findNow,hs,h1]⟩
    ·obtain⟨k,hu,hs⟩:=hn
     obtain⟨k',hu',h1⟩:=h1
     rw[hu] at hu'
     cases hu'
     exact⟨k,hu,by simp[Instr.findNow,hs,h1]⟩
    ·have hn:(Op.equal t v e.key).run P w=.ok false w:=hn
     have h1:(Instr.findAsking t v es (i+1)).run P w=.ok r' w:=h1
     simp[FindKd,Instr.findAsking,hn,h1]
   rcases findKd h hr es kvs (i+1) r he.tail hf with⟨g1,g2⟩ | ⟨j,dv',e',dk',g1,g2,g3,g4,g5⟩
   ·exact .inl ⟨g1,step _ g2⟩
   ·refine .inr ⟨j,dv',e',dk',g1,step _ g2,by omega,?_,g5⟩
    rw[show j-i=(j-(i+1))+1 from by omega]
    simpa using g4
  ·cases hf
 | [],_ :: _,_,_,he,_ | _ :: _,[],_,_,he,_=>by simp[EntsRd] at he

theorem run_findKd {t:TypeId}{kd:Kd}{v:Value}{es:List MapEntry}{r:Option (Nat×Value)}(h:keyKd P t=some kd)(hf:FindKd P w t v es 0 r kd):(Instr.findKey t v es).run P w=.ok r w:=by
 obtain⟨hk,hc⟩:=keyKd_kind h
 rcases hc with rfl | rfl | ⟨ks,rfl⟩
 ·obtain⟨k,hu,hs⟩:=hf
  exact run_findKey hu hs
 ·obtain⟨k,hu,hs⟩:=hf
  exact run_findKey hu hs
 ·obtain⟨fs,hu,_⟩:=kindOf_agg hk
  cases es with
  | nil=>
   have:r=none:=by
    have hf:(Instr.findAsking t v [] 0).run P w=.ok r w:=hf
    simp[Instr.findAsking] at hf
    exact hf.symm
   subst this
   exact run_findKey hu rfl
  | cons e es=>
   have hf:(Instr.findAsking t v (e :: es) 0).run P w=.ok r w:=hf
   have hn:Instr.findNow (.struct fs) v (e :: es) 0=none:=by
    unfold Instr.findNow
    simp[Instr.sameNow]
   simp only[Instr.findKey,Sem.run_bind,run_underlying hu,Result.andThen_ok,hn,hf]

theorem mlook_run {S:Sets}{t:TypeId}{kd:Kd}{v:Value}{d:D}{es:List MapEntry}{kvs:List D}{r:Option (Nat×D)}(h:keyKd P t=some kd)(hr:RdD w S v d)(he:EntsRd w S es kvs)(hf:D.mlook kd d kvs=some r) :
  D.keyOk kd d=true∧((r=none∧(Instr.findKey t v es).run P w=.ok none w)∨∃j dv e dk,r=some (j,dv)∧(Instr.findKey t v es).run P w=.ok (some (j,e.val)) w∧es[j]? = some e∧RdD w S e.val dv∧RdD w S e.key dk∧D.keyEq kd d dk=some true):=by
 unfold D.mlook at hf
 split at hf
 ·rename_i hok
  refine⟨hok,?_⟩
  rcases findKd h hr es kvs 0 r he hf with⟨g1,g2⟩ | ⟨j,dv,e,dk,g1,g2,_,g3,g4⟩
  ·exact .inl ⟨g1,run_findKd h g2⟩
  ·exact .inr ⟨j,dv,e,dk,g1,run_findKd h g2,g3,g4⟩
 ·cases hf

theorem sameBits_eq {S:Sets}{t:TypeId}{kd:Kd}{v u:Value}{d dk:D}(h:keyKd P t=some kd)(hr:RdD w S v d)(hek:RdD w S u dk)(hb:D.keyEq kd d dk=some true):Instr.sameBits 10000 u v=true:=by
 have hb:=keyEq_some hb
 obtain⟨hk,hc⟩:=keyKd_kind h
 rcases hc with rfl | rfl | ⟨ks,rfl⟩
 ·obtain⟨k,m,n,rfl,rfl,hmn⟩:=bin_eql_int hb
  rw[hr.v_eq,hek.v_eq]
  have:m=n:=by simpa using hmn.symm
  simp[Instr.sameBits,this]
 ·obtain⟨m,n,rfl,rfl,hmn⟩:=bin_eql_str hb
  rw[hr.v_eq,hek.v_eq]
  rw[←bytesEq] at hmn
  have:m=n:=(bytes_beq m n).1 hmn.symm
  subst this
  have hh:(m==m)=true:=(bytes_beq m m).2 rfl
  simp[Instr.sameBits,hh]
 ·obtain⟨dx,dy,rfl,rfl,hb'⟩:=bin_eql_agg hb
  obtain⟨xs,rfl,hxl,_,hxr⟩:=hr.agg_inv
  obtain⟨ys,rfl,hyl,_,hyr⟩:=hek.agg_inv
  have cells:∀(ks:List Nat) (dx dy:List D),D.eqs ks dx dy=some true→dx.length=dy.length∧∀(i:Nat) (x y:D),dx[i]? = some x→dy[i]? = some y→∀u v:Value,RdD w S v x→RdD w S u y→Instr.sameBits 9999 u v=true:=by
   intro ks
   induction ks with
   | nil=>
    intro dx dy he
    cases dx <;> cases dy <;> simp[D.eqs] at he ⊢
   | cons k ks ih=>
    intro dx dy he
    unfold D.eqs at he
    split at he <;> (try contradiction)
    ·rename_i ks1 k1 a r k2 b s e1 
     split at he
     ·rename_i hkk
      subst hkk
      obtain⟨b',h1,h2⟩:=Option.map_eq_some_iff.1 he
      simp only[Bool.and_eq_true,beq_iff_eq] at h2
      obtain⟨rfl,rfl⟩:=h2
      have e2:ks=ks1:=by simp only[List.cons.injEq] at e1;exact e1.2
      subst e2
      obtain⟨g1,g2⟩:=ih r s h1
      refine⟨by simp[g1],fun i x y hx hy u v hv hu=>?_⟩
      cases i with
      | zero=>
       simp only[List.getElem?_cons_zero,Option.some.injEq] at hx hy
       subst hx hy
       rw[hv.v_eq,hu.v_eq]
       simp[Instr.sameBits]
      | succ i=>exact g2 i x y (by simpa using hx) (by simpa using hy) u v hv hu
     ·cases he
    ·rename_i ks1 a r b s e1
     obtain⟨b',h1,h2⟩:=Option.map_eq_some_iff.1 he
     simp only[Bool.and_eq_true,beq_iff_eq] at h2
     obtain⟨rfl,rfl⟩:=h2
     have e2:ks=ks1:=by simp only[List.cons.injEq] at e1;exact e1.2
     subst e2
     obtain⟨g1,g2⟩:=ih r s h1
     refine⟨by simp[g1],fun i x y hx hy u v hv hu=>?_⟩
     cases i with
     | zero=>
      simp only[List.getElem?_cons_zero,Option.some.injEq] at hx hy
      subst hx hy
      rw[hv.v_eq,hu.v_eq]
      simp[Instr.sameBits]
     | succ i=>exact g2 i x y (by simpa using hx) (by simpa using hy) u v hv hu
    ·rename_i ks1 a r b s e1
     obtain⟨b',h1,h2⟩:=Option.map_eq_some_iff.1 he
     simp only[Bool.and_eq_true] at h2
     obtain⟨hab,rfl⟩:=h2
     rw[←bytesEq] at hab
     have hab:=(bytes_beq a b).1 hab
     subst hab
     have hh:(a==a)=true:=(bytes_beq a a).2 rfl
     have e2:ks=ks1:=by simp only[List.cons.injEq] at e1;exact e1.2
     subst e2
     obtain⟨g1,g2⟩:=ih r s h1
     refine⟨by simp[g1],fun i x y hx hy u v hv hu=>?_⟩
     cases i with
     | zero=>
      simp only[List.getElem?_cons_zero,Option.some.injEq] at hx hy
      subst hx hy
      rw[hv.v_eq,hu.v_eq]
      simp[Instr.sameBits,hh]
     | succ i=>exact g2 i x y (by simpa using hx) (by simpa using hy) u v hv hu
  obtain⟨g1,g2⟩:=cells ks dx dy hb'
  unfold Instr.sameBits
  simp only[Bool.and_eq_true,beq_iff_eq,List.all_eq_true]
  refine⟨by omega,fun p hp=>?_⟩
  obtain⟨i,hi,hpi⟩:=List.mem_iff_getElem.1 hp
  simp only[List.length_zip,Array.length_toList] at hi
  simp only[List.getElem_zip] at hpi
  subst hpi
  refine g2 i (dx[i]'(by omega)) (dy[i]'(by omega)) (by simp) (by simp) _ _ (hxr i _ _ ?_ ?_) (hyr i _ _ ?_ ?_) <;> simp

theorem MapSz.push {es:Array MapEntry}{clock n:Nat}(h:MapSz es clock n)(v x:Value):MapSz (es.push { key:=v,val:=x,born:=clock }) (clock+1) (es.push { key:=v,val:=x,born:=clock }).size where
 len:=rfl
 clk:=by simp[h.clk,h.len]
 born:=fun j e he=>by
  rw[Array.getElem?_push] at he
  split at he
  ·cases he
   rename_i hj
   simp[hj,h.clk,h.len]
  ·exact h.born j e he

theorem MapSz.modify {es:Array MapEntry}{clock n:Nat}(h:MapSz es clock n)(j:Nat)(f:MapEntry→MapEntry)(hf:∀e,(f e).born=e.born):MapSz (es.modify j f) clock (es.modify j f).size where
 len:=rfl
 clk:=by simp[h.clk,h.len]
 born:=fun k e he=>by
  simp only[Array.getElem?_modify] at he
  split at he
  ·obtain⟨e0,h0,rfl⟩:=Option.map_eq_some_iff.1 he
   rw[hf]
   exact h.born k e0 h0
  ·exact h.born k e he

theorem lost_app {kvs:List D}{k u:D}(h:D.lost kvs=false):D.lost (kvs++[.tup [k,u]])=false:=by
 unfold D.lost at h ⊢
 cases kvs with
 | nil=>rfl
 | cons x r=>
  simp only[List.cons_append]
  split at h
  ·cases h
  ·rename_i hx
   split
   ·rename_i e
    simp only[List.cons.injEq] at e
    exact(hx r (by rw[e.1])).elim
   ·rfl

theorem lost_set {kvs:List D}{j:Nat}{k u:D}(h:D.lost kvs=false):D.lost (kvs.set j (.tup [k,u]))=false:=by
 unfold D.lost at h ⊢
 cases kvs with
 | nil=>rfl
 | cons x r=>
  cases j with
  | zero=>rfl
  | succ j=>
   simp only[List.set_cons_succ]
   split at h
   ·cases h
   ·rename_i hx
    split
    ·rename_i e
     simp only[List.cons.injEq] at e
     exact(hx r (by rw[e.1])).elim
    ·rfl

theorem stOk_setM {w':World}{bs:List D}{i:Nat}{kvs kvs':List D}{es':Array MapEntry}{clock':Nat}(hst:StOk w ρ.S ρ.foot bs)(hK:Keeps ρ.S w w')(hbs:bs[i]? = some (.mblk kvs))(hh:w'.heap[ρ.S.loc i]? = some (.map es' clock'))(hother:∀b,b≠ρ.S.loc i→w'.heap[b]? = w.heap[b]?)(he:EntsRd w ρ.S es'.toList (D.kept kvs'))(hsz:MapSzL es' clock' kvs') :
  StOk w' ρ.S ρ.foot (bs.set i (.mblk kvs')):=by
 refine hst.set hK hbs rfl (fun j x _ _ hne=>hother _ hne) (fun e sz cs hz=>by cases hz) (fun kvs2 hz=>?_) fun hz=>by cases hz
 cases hz
 refine⟨es',clock',hh,hsz,fun j e kv hj hkv=>?_⟩
 obtain⟨dk,dv,h1,h2,h3⟩:=he.2 j e kv (by simpa using hj) hkv
 exact⟨dk,dv,h1,h2.keep hK (Sets.le_refl _),h3.keep hK (Sets.le_refl _)⟩

theorem entries_rd {bs kvs:List D}{m:Value}{dm:D}(hst:StOk w ρ.S ρ.foot bs)(hm:RdD w ρ.S m dm)(he:D.entries (.st bs) dm=some kvs) :
  (m=.map none∧kvs=[])∨∃(i:Nat) (es:Array MapEntry) (clock:Nat) (kvs0:List D),dm=.mp i∧bs[i]? = some (.mblk kvs0)∧kvs=D.kept kvs0∧m=.map (some (ρ.S.loc i))∧w.heap[ρ.S.loc i]? = some (.map es clock)∧EntsRd w ρ.S es.toList kvs∧MapSzL es clock kvs0:=by
 unfold D.entries at he
 split at he
 ·cases he
  exact .inl ⟨hm.v_eq,rfl⟩
 ·rename_i i
  simp only at he
  split at he
  ·rename_i kvs' hbs
   cases he
   obtain⟨hf,es,clock,hh,hsz,hns,hr⟩:=hst.maps i _ hbs
   refine .inr ⟨i,es,clock,_,rfl,hbs,rfl,?_,hh,⟨by simpa using hsz.size,fun j e kv h1 h2=>hr j e kv (by simpa using h1) h2⟩,hsz⟩
   cases hm
   rfl
  ·cases he
 ·cases he

theorem mapTy_spec {t k e:TypeId}{kd:Kd}(h:mapTy P t=some (k,e,kd)):P.underlying t=some (.map k e)∧keyKd P k=some kd:=by
 unfold mapTy at h
 split at h
 ·rename_i k' e' hu
  obtain⟨kd',hk,h⟩:=Option.map_eq_some_iff.1 h
  cases h
  exact⟨hu,hk⟩
 ·cases h

theorem lookup_run {t k e:TypeId}{kd:Kd}{bs kvs:List D}{m v z:Value}{dm d:D}{ok:Bool}{r:Option (Nat×D)}(hst:StOk w ρ.S ρ.foot bs)(ht:mapTy P t=some (k,e,kd))(hm:RdD w ρ.S m dm)(hv:RdD w ρ.S v d)(he:D.entries (.st bs) dm=some kvs)(hf:D.mlook kd d kvs=some r)(hz:(P.info? e).bind (·.zero)=some z) :
  ∃x:Value,(Instr.lookup t m v ok).run P w=.ok (if ok then .tuple #[x,.bool r.isSome] else x) w∧((r=none∧x=z)∨∃j dv,r=some (j,dv)∧RdD w ρ.S x dv):=by
 obtain⟨hu,hk⟩:=mapTy_spec ht
 rcases entries_rd hst hm he with⟨rfl,rfl⟩ | ⟨i,es,clock,_,rfl,hbs,_,rfl,hh,hes,_⟩
 ·obtain⟨hok,hr⟩:=mlook_run (es:=[]) hk hv ⟨rfl,by simp⟩ hf
  rcases hr with⟨rfl,hrun⟩ | ⟨j,dv,e',dk,_,_,h3,_⟩
  ·refine⟨z,?_,.inl ⟨rfl,rfl⟩⟩
   have hck:(Instr.checkKey (#[]:Array MapEntry).isEmpty 10000 k v).run P w=.ok () w:=run_checkKd hk hv hok
   simp only[Instr.lookup,Sem.run_bind,run_underlying hu,Result.andThen_ok,Sem.run_pure,hck,hrun,run_zeroValue hz,Option.isSome_none]
  ·simp at h3
 ·obtain⟨hok,hr⟩:=mlook_run hk hv hes hf
  have hck:(Instr.checkKey es.isEmpty 10000 k v).run P w=.ok () w:=run_checkKd hk hv hok
  rcases hr with⟨rfl,hrun⟩ | ⟨j,dv,e',dk,rfl,hrun,h3,h4,_⟩
  ·refine⟨z,?_,.inl ⟨rfl,rfl⟩⟩
   simp only[Instr.lookup,Sem.run_bind,run_underlying hu,Result.andThen_ok,Sem.run_pure,Go.MapKept.run_getObj_map hh,hck,hrun,run_zeroValue hz,Option.isSome_none]
  ·refine⟨e'.val,?_,.inr ⟨j,dv,rfl,h4⟩⟩
   simp only[Instr.lookup,Sem.run_bind,run_underlying hu,Result.andThen_ok,Sem.run_pure,Go.MapKept.run_getObj_map hh,hck,hrun,Option.isSome_some]

theorem update_run {t k e:TypeId}{kd:Kd}{bs:List D}{i:Nat}{v x:Value}{d dx:D}{m:Value}{d':D}(hst:StOk w ρ.S ρ.foot bs)(ht:mapTy P t=some (k,e,kd))(hm:RdD w ρ.S m (.mp i))(hv:RdD w ρ.S v d)(hx:RdD w ρ.S x dx)(hput:D.mput kd (.st bs) (.mp i) d dx=some d') :
  ∃(kvs':List D) (es':Array MapEntry) (clock':Nat),(∃kvs,bs[i]? = some (.mblk kvs))∧d'=.st (bs.set i (.mblk kvs'))∧(Instr.mapUpdate t m v x).run P w=.ok () { w with heap:=w.heap.setIfInBounds (ρ.S.loc i) (.map es' clock') }∧EntsRd w ρ.S es'.toList (D.kept kvs')∧MapSzL es' clock' kvs':=by
 obtain⟨hu,hk⟩:=mapTy_spec ht
 unfold D.mput at hput
 simp only at hput
 split at hput
 ·rename_i kvs hbs
  obtain⟨r,hf,hput⟩:=Option.map_eq_some_iff.1 hput
  have hlo:=D.mlook_lost hf
  have he:D.entries (.st bs) (.mp i)=some kvs:=by simp[D.entries,hbs,D.kept_of hlo]
  rcases entries_rd hst hm he with⟨rfl,_⟩ | ⟨i',es,clock,kvs0,e1,hbs',_,rfl,hh,hes,hms⟩
  ·cases hm
  cases e1
  rw[hbs] at hbs'
  cases hbs'
  replace hms:=hms.sz hlo
  obtain⟨hok,hr⟩:=mlook_run hk hv hes hf
  have hck:(Instr.checkKey false 10000 k v).run P w=.ok () w:=run_checkKd hk hv hok
  rcases hr with⟨rfl,hrun⟩ | ⟨j,dv,e',dk,rfl,hrun,h3,h4,h5,h6⟩
  ·simp only at hput
   subst hput
   refine⟨_,es.push { key:=v,val:=x,born:=clock },clock+1,⟨_,hbs⟩,rfl,?_,.keptOf (lost_app hlo) ⟨?_,?_⟩,MapSzL.of (by have:=hms.push v x;rwa [Array.size_push,hms.len,show kvs.length+1=(kvs++[D.tup [d,dx]]).length from by simp] at this) (lost_app hlo)⟩
   ·simp only[Instr.mapUpdate,Sem.run_bind,run_underlying hu,Result.andThen_ok,Go.MapKept.run_getObj_map hh,hck,hrun,Go.MapKept.run_setObj_map _ hh]
   ·simp[hes.1]
   ·intro j e2 kv hj hkv
    simp only[Array.toList_push] at hj
    rw[List.getElem?_append] at hj hkv
    rw[hes.1] at hj
    split at hj
    ·rename_i hlt
     rw[if_pos hlt] at hkv
     exact hes.2 j e2 kv hj hkv
    ·rename_i hlt
     rw[if_neg hlt] at hkv
     have h0:j-kvs.length=0:=by
      have:=(List.getElem?_eq_some_iff.1 hj).1
      simp at this
      omega
     rw[h0] at hj hkv
     simp only[List.getElem?_cons_zero,Option.some.injEq] at hj hkv
     subst hj hkv
     exact⟨_,_,rfl,hv,hx⟩
  ·simp only at hput
   subst hput
   have hjl:j<es.size:=by simpa using(List.getElem?_eq_some_iff.1 h3).1
   have hkey:((es[j]?).map (·.key)).getD v=e'.key:=by
    have:es[j]? = some e':=by simpa using h3
    simp[this]
   have hstay:(Instr.keyThatStays e'.key v).run P w=.ok v w:=by
    simp[Instr.keyThatStays,sameBits_eq hk hv h5 h6]
   refine⟨_,es.modify j fun e=>{ e with key:=v,val:=x },clock,⟨_,hbs⟩,rfl,?_,.keptOf (lost_set hlo) ⟨?_,?_⟩,MapSzL.of (by have:=hms.modify j (fun e=>{ e with key:=v,val:=x }) fun _=>rfl;rwa [Array.size_modify,hms.len,←List.length_set (as:=kvs) (i:=j) (a:=D.tup [d,dx])] at this) (lost_set hlo)⟩
   ·simp only[Instr.mapUpdate,Sem.run_bind,run_underlying hu,Result.andThen_ok,Go.MapKept.run_getObj_map hh,hck,hrun,hkey,hstay,Go.MapKept.run_setObj_map _ hh]
   ·simpa using hes.1
   ·intro q e2 kv hq hkv
    simp only[Array.getElem?_toList,Array.getElem?_modify] at hq
    rw[List.getElem?_set] at hkv
    by_cases hjq:j=q
    ·subst hjq
     rw[if_pos rfl] at hq hkv
     rw[if_pos (by rw[←hes.1];simpa using hjl)] at hkv
     obtain⟨e0,he0,rfl⟩:=Option.map_eq_some_iff.1 hq
     cases hkv
     exact⟨_,_,rfl,hv,hx⟩
    ·rw[if_neg hjq] at hq hkv
     exact hes.2 q e2 kv (by simpa using hq) hkv
 ·cases hput

theorem mentry_run {t k e:TypeId}{kd:Kd}{bs:List D}{m v zv:Value}{dm d z d':D}(hst:StOk w ρ.S ρ.foot bs)(ht:mapTy P t=some (k,e,kd))(hm:RdD w ρ.S m dm)(hv:RdD w ρ.S v d)(hzv:(P.info? e).bind (·.zero)=some zv)(hz:D.ofVal zv=some z)(hput:D.mentm kd (.st bs) dm d z=some d') :
  ∃(i:Nat) (kvs kvs':List D) (es':Array MapEntry) (clock':Nat) (u:Value) (j:Nat) (du:D),dm=.mp i∧bs[i]? = some (.mblk kvs)∧d'=.st (bs.set i (.mblk kvs'))∧D.mentv kd (.st bs) dm d z=some (.tup [du,.int j])∧(Instr.mapEntry t m v).run P w=.ok (.tuple #[u,.int .i64 j]) { w with heap:=w.heap.setIfInBounds (ρ.S.loc i) (.map es' clock') }∧EntsRd w ρ.S es'.toList (D.kept kvs')∧MapSzL es' clock' kvs'∧RdD w ρ.S u du:=by
 obtain⟨hu,hk⟩:=mapTy_spec ht
 unfold D.mentm at hput
 split at hput
 ·rename_i i bs' e1
  cases e1
  split at hput
  ·rename_i kvs hbs
   obtain⟨r,hf,hput⟩:=Option.map_eq_some_iff.1 hput
   have hlo:=D.mlook_lost hf
   have he:D.entries (.st bs) (.mp i)=some kvs:=by simp[D.entries,hbs,D.kept_of hlo]
   rcases entries_rd hst hm he with⟨rfl,_⟩ | ⟨i',es,clock,kvs0,e1,hbs',_,rfl,hh,hes,hms⟩
   ·cases hm
   cases e1
   rw[hbs] at hbs'
   cases hbs'
   replace hms:=hms.sz hlo
   obtain⟨hok,hr⟩:=mlook_run (w:=w) hk hv hes hf
   have hck:=run_checkKd (w:=w) (em:=false) hk hv hok
   rcases hr with⟨rfl,hrun⟩ | ⟨j,dv,e',dk,rfl,hrun,h3,h4,h5,h6⟩
   ·simp only at hput
    subst hput
    refine⟨i,kvs,_,es.push { key:=v,val:=zv,born:=clock },clock+1,zv,clock,z,rfl,hbs,rfl,?_,?_,.keptOf (lost_app hlo) ⟨?_,?_⟩,MapSzL.of (by have:=hms.push v zv;rwa [Array.size_push,hms.len,show kvs.length+1=(kvs++[D.tup [d,z]]).length from by simp] at this) (lost_app hlo),D.ofVal_rd hz⟩
    ·unfold D.mentv
     rw[he,Option.bind_some,hf,hms.clk]
     rfl
    ·simp only[Instr.mapEntry,Sem.run_bind,run_underlying hu,Result.andThen_ok,Go.MapKept.run_getObj_map hh,hck,hrun,run_zeroValue hzv,Go.MapKept.run_setObj_map _ hh,Sem.run_pure]
     rfl
    ·simp[←hes.1]
    ·intro q e2 kv hq hkv
     rw[Array.toList_push] at hq
     rw[List.getElem?_append] at hq hkv
     rw[hes.1] at hq
     split at hq
     ·rename_i hlt
      rw[if_pos hlt] at hkv
      exact hes.2 q e2 kv hq hkv
     ·rename_i hge
      rw[if_neg hge] at hkv
      have h0:q-kvs.length=0:=by
       have:=(List.getElem?_eq_some_iff.1 hq).1
       simp at this
       omega
      rw[h0] at hq hkv
      simp only[List.getElem?_cons_zero,Option.some.injEq] at hq hkv
      subst hq hkv
      exact⟨_,_,rfl,hv,D.ofVal_rd hz⟩
   ·simp only at hput
    subst hput
    have hjl:j<es.size:=by simpa using(List.getElem?_eq_some_iff.1 h3).1
    have hej:es[j]? = some e':=by simpa using h3
    have hkey:((es[j]?).map (·.key)).getD v=e'.key:=by simp[hej]
    have hborn:((es[j]?).map fun x=>(x.born:Int)).getD 0=(j:Int):=by simp[hej,hms.born j e' hej]
    have hstay:(Instr.keyThatStays e'.key v).run P w=.ok v w:=by
     simp[Instr.keyThatStays,sameBits_eq hk hv h5 h6]
    refine⟨i,kvs,_,es.modify j fun e=>{ e with key:=v },clock,e'.val,j,dv,rfl,hbs,rfl,?_,?_,.keptOf (lost_set hlo) ⟨?_,?_⟩,MapSzL.of (by have:=hms.modify j (fun e=>{ e with key:=v }) fun _=>rfl;rwa [Array.size_modify,hms.len,←List.length_set (as:=kvs) (i:=j) (a:=D.tup [d,dv])] at this) (lost_set hlo),h4⟩
    ·unfold D.mentv
     rw[he,Option.bind_some,hf]
     rfl
    ·simp only[Instr.mapEntry,Sem.run_bind,run_underlying hu,Result.andThen_ok,Go.MapKept.run_getObj_map hh,hck,hrun,hkey,hstay,Go.MapKept.run_setObj_map _ hh,hborn,Sem.run_pure]
     rfl
    ·simpa using hes.1
    ·intro q e2 kv hq hkv
     simp only[Array.getElem?_toList,Array.getElem?_modify] at hq
     rw[List.getElem?_set] at hkv
     by_cases hjq:j=q
     ·subst hjq
      rw[if_pos rfl] at hq hkv
      rw[if_pos (by rw[←hes.1];simpa using hjl)] at hkv
      rw[hej] at hq
      cases hq
      cases hkv
      exact⟨_,_,rfl,hv,h4⟩
     ·rw[if_neg hjq] at hq hkv
      exact hes.2 q e2 kv (by simpa using hq) hkv
  ·cases hput
 ·cases hput

theorem ments_run {t:TypeId}{bs:List D}{m s x:Value}{dm ds dx d':D}(hst:StOk w ρ.S ρ.foot bs)(hm:RdD w ρ.S m dm)(hs:RdD w ρ.S s ds)(hx:RdD w ρ.S x dx)(hput:D.ments (.st bs) dm ds dx=some d') :
  ∃(i:Nat) (kvs kvs':List D) (es':Array MapEntry) (clock':Nat),dm=.mp i∧bs[i]? = some (.mblk kvs)∧d'=.st (bs.set i (.mblk kvs'))∧(Instr.entryStore t m s x).run P w=.ok () { w with heap:=w.heap.setIfInBounds (ρ.S.loc i) (.map es' clock') }∧EntsRd w ρ.S es'.toList (D.kept kvs')∧MapSzL es' clock' kvs':=by
 unfold D.ments at hput
 split at hput
 ·rename_i i bs' n e1
  cases e1
  split at hput
  ·rename_i kvs hbs
   split at hput
   ·rename_i hn0
    obtain⟨hn0,hlo⟩:=hn0
    obtain⟨⟨k,u⟩,hku,e0⟩:=Option.map_eq_some_iff.1 hput
    subst e0
    obtain⟨j,rfl⟩:∃j:Nat,n=j:=⟨n.toNat,by omega⟩
    simp only[Int.toNat_natCast] at hku ⊢
    have he:D.entries (.st bs) (.mp i)=some kvs:=by simp[D.entries,hbs,D.kept_of hlo]
    rcases entries_rd hst hm he with⟨rfl,_⟩ | ⟨i',es,clock,kvs0,e1,hbs',_,rfl,hh,hes,hms⟩
    ·cases hm
    cases e1
    rw[hbs] at hbs'
    cases hbs'
    replace hms:=hms.sz hlo
    obtain rfl:=hs.v_eq
    unfold pairAt at hku
    split at hku
    ·rename_i k' u' hk
     cases hku
     have hjl:j<es.size:=by
      have:=(List.getElem?_eq_some_iff.1 hk).1
      rw[hms.len]
      exact this
     have hej:es[j]? = some es[j]:=Array.getElem?_eq_getElem hjl
     obtain⟨dk,dv,e1,e2,e3⟩:=hes.2 j es[j] _ (by simp[hjl]) hk
     cases e1
     have hfind:es.findIdx? (fun e=>(e.born:Int)==(j:Int))=some j:=by
      rw[Array.findIdx?_eq_some_iff_getElem]
      refine⟨hjl,by simp[hms.born j _ hej],fun q hq=>?_⟩
      have:=hms.born q es[q] (Array.getElem?_eq_getElem (by omega))
      simp[this]
      omega
     refine⟨i,kvs,_,es.modify j fun e=>{ e with val:=x },clock,rfl,hbs,rfl,?_,.keptOf (lost_set hlo) ⟨?_,?_⟩,MapSzL.of (by have:=hms.modify j (fun e=>{ e with val:=x }) fun _=>rfl;rwa [Array.size_modify,hms.len,←List.length_set (as:=kvs) (i:=j) (a:=D.tup [k,dx])] at this) (lost_set hlo)⟩
     ·simp only[Instr.entryStore,Sem.run_bind,Go.MapKept.run_getObj_map hh,Result.andThen_ok,asInt,asIntOf,Sem.run_pure,hfind,Go.MapKept.run_setObj_map _ hh]
     ·simpa using hes.1
     ·intro q e2' kv hq hkv
      simp only[Array.getElem?_toList,Array.getElem?_modify] at hq
      rw[List.getElem?_set] at hkv
      by_cases hjq:j=q
      ·subst hjq
       rw[if_pos rfl] at hq hkv
       rw[if_pos (by rw[←hes.1];simpa using hjl)] at hkv
       rw[hej] at hq
       cases hq
       cases hkv
       exact⟨_,_,rfl,e2,hx⟩
      ·rw[if_neg hjq] at hq hkv
       exact hes.2 q e2' kv (by simpa using hq) hkv
    ·cases hku
   ·cases hput
  ·cases hput
 ·cases hput

theorem delete_run {t k e ty:TypeId}{ts:List TypeId}{kd:Kd}{bs:List D}{v:Value}{d:D}{m:Value}{dm d':D}(hst:StOk w ρ.S ρ.foot bs)(ht:mapTy P t=some (k,e,kd))(hm:RdD w ρ.S m dm)(hv:RdD w ρ.S v d)(hdel:D.mdel kd (.st bs) dm d=some d') :
  ∃(i:Nat) (kvs kvs':List D) (es':Array MapEntry) (clock':Nat),dm=.mp i∧bs[i]? = some (.mblk kvs)∧d'=.st (bs.set i (.mblk kvs'))∧(Builtin.delete_ (t :: ts).toArray ty #[m,v]).run P w=.ok (.tuple #[]) { w with heap:=w.heap.setIfInBounds (ρ.S.loc i) (.map es' clock') }∧EntsRd w ρ.S es'.toList (D.kept kvs')∧MapSzL es' clock' kvs':=by
 obtain⟨hu,hk⟩:=mapTy_spec ht
 unfold D.mdel at hdel
 split at hdel
 ·rename_i i bs' e1
  cases e1
  split at hdel
  ·rename_i kvs hbs
   obtain⟨r,hf,hdel⟩:=Option.map_eq_some_iff.1 hdel
   have he:D.entries (.st bs) (.mp i)=some (D.kept kvs):=by simp[D.entries,hbs]
   rcases entries_rd hst hm he with⟨rfl,_⟩ | ⟨i',es,clock,kvs0,e1,hbs',_,rfl,hh,hes,hms⟩
   ·cases hm
   cases e1
   rw[hbs] at hbs'
   cases hbs'
   obtain⟨hok,hr⟩:=mlook_run hk hv hes hf
   have hck:(Instr.checkKey es.isEmpty 10000 k v).run P w=.ok () w:=run_checkKd hk hv hok
   rcases hr with⟨rfl,hrun⟩ | ⟨j,dv,e',dk,rfl,hrun,h3,h4,h5,h6⟩
   ·simp only at hdel
    subst hdel
    refine⟨i,kvs,kvs,es,clock,rfl,hbs,rfl,?_,hes,hms⟩
    simp only[Builtin.delete_,List.getElem?_toArray,List.getElem?_cons_zero,Sem.run_bind,run_underlying hu,Result.andThen_ok,Go.MapKept.run_getObj_map hh,hck,hrun,Go.MapKept.run_setObj_map _ hh,Sem.run_pure]
    simp[Go.MapKept.run_getObj_map hh,hck,hrun,Go.MapKept.run_setObj_map _ hh,Sem.run_pure,run_underlying hu,Result.andThen_ok]
   ·simp only at hdel
    subst hdel
    refine⟨i,kvs,_,es.eraseIdxIfInBounds j,clock,rfl,hbs,rfl,?_,⟨?_,?_⟩,?_⟩
    ·simp[Builtin.delete_,Go.MapKept.run_getObj_map hh,hck,hrun,Go.MapKept.run_setObj_map _ hh,Sem.run_pure,run_underlying hu,Result.andThen_ok]
    ·have hjl:j<es.size:=by simpa using(List.getElem?_eq_some_iff.1 h3).1
     have h1:=hes.1
     simp only[kept_mark,List.length_eraseIdx,Array.length_toList,Array.eraseIdxIfInBounds,hjl,dif_pos,Array.size_eraseIdx]
     simp only[Array.length_toList] at h1
     rw[h1,if_pos (by omega)]
    ·have hjl:j<es.size:=by simpa using(List.getElem?_eq_some_iff.1 h3).1
     intro q e2 kv hq hkv
     simp only[Array.eraseIdxIfInBounds,hjl,dif_pos,Array.toList_eraseIdx,kept_mark,List.getElem?_eraseIdx] at hq hkv
     split at hq
     ·rename_i hl
      rw[if_pos hl] at hkv
      exact hes.2 q e2 kv hq hkv
     ·rename_i hl
      rw[if_neg hl] at hkv
      exact hes.2 (q+1) e2 kv hq hkv
    ·have hjl:j<es.size:=by simpa using(List.getElem?_eq_some_iff.1 h3).1
     have h1:=hms.size
     unfold MapSzL
     rw[if_pos (lost_mark _)]
     simp only[kept_mark,List.length_eraseIdx,Array.eraseIdxIfInBounds,hjl,dif_pos,Array.size_eraseIdx]
     rw[if_pos (by have:=hes.1;simp only[Array.length_toList] at this;omega),h1]
  ·cases hdel
 ·cases hdel

theorem exec_delete {o:Oper}{t:TypeId}{ts:List TypeId}{m k:Operand}{v:Value}{w':World}(ho:o.op=.call { callee:=.builtin .delete,args:=#[m,k],argTypes:=(t :: ts).toArray })(hr:(Builtin.delete_ (t :: ts).toArray o.type #[a.eval m,a.eval k]).run P w=.ok v w'):(execOp a.eval o).run P w=.ok (.value v) w':=by
 unfold execOp
 simp only[ho,resolve,invoke,builtin,Sem.run_bind,Sem.run_pure,Result.andThen_ok,List.map_toArray,List.map_cons,List.map_nil,hr]

/-! ## loops over a map -/

theorem mrng_some {bs:List D}{dm d:D}(h:D.mrng (.st bs) dm=some d):∃i kvs,dm=.mp i∧bs[i]? = some (.mblk kvs)∧D.lost kvs=false∧d=.st (bs++[.itb i kvs.length []]):=by
 unfold D.mrng at h
 split at h
 ·rename_i i bs' e
  cases e
  split at h
  ·rename_i kvs hi
   split at h
   ·cases h
   rename_i hlo
   cases h
   exact⟨i,kvs,rfl,hi,by simpa using hlo,rfl⟩
  ·cases h
 ·cases h

theorem place_rd {bs:List D}{p:Value}{dp:D}{bs':List D}{i m n:Nat}{seen:List Nat}{kvs:List D}(hst:StOk w ρ.S ρ.foot bs)(hp:RdD w ρ.S p dp)(h:D.place (.st bs) dp=some (bs',i,m,n,seen,kvs)) :
  bs'=bs∧bs[i]? = some (.itb m n seen)∧p=.pointer (some ⟨ρ.S.loc i,0,none⟩)∧m<ρ.S.n∧w.heap[ρ.S.loc i]? = some (.mapIter (some (ρ.S.loc m)) n seen.toArray n)∧∃es:Array MapEntry,w.heap[ρ.S.loc m]? = some (.map es n)∧MapSz es n n∧EntsRd w ρ.S es.toList kvs∧kvs.length=n:=by
 unfold D.place at h
 split at h
 ·rename_i bs1 i1 e
  cases e
  split at h
  ·rename_i m1 n1 seen1 hi
   split at h
   ·rename_i kvs1 hm
    split at h
    ·rename_i hn
     obtain⟨hn,hlo⟩:=hn
     cases h
     obtain⟨_,⟨g1,g2⟩,_⟩:=hst.its _ _ hi rfl
     obtain⟨_,es,clock,g3,g4,_,g5⟩:=hst.maps _ _ hm
     replace g4:=g4.sz hlo
     rw[D.kept_of hlo] at g5
     have hc:clock=n:=g4.clk.trans hn
     subst hc
     cases hp
     refine⟨rfl,hi,rfl,g1,g2,es,g3,by rw[hn] at g4;exact g4,⟨by simpa using g4.len,fun j e kv h1 h2=>g5 j e kv (by simpa using h1) h2⟩,hn⟩
    ·cases h
   ·cases h
  ·cases h
 ·cases h

theorem entry_run {bs:List D}{p:Value}{dp d:D}(hst:StOk w ρ.S ρ.foot bs)(hp:RdD w ρ.S p dp)(h:D.mentry (.st bs) dp=some d) :
  ∃v1 v2 d1 d2,(Instr.entry p).run P w=.ok (.tuple #[v1,v2]) w∧d=.tup [d1,d2]∧RdD w ρ.S v1 d1∧RdD w ρ.S v2 d2:=by
 unfold D.mentry at h
 obtain⟨q,hpl,hq⟩:=Option.bind_eq_some_iff.1 h
 obtain⟨bs',i,m,n,seen,kvs⟩:=q
 simp only at hq
 obtain⟨rfl,hi,rfl,hm,hit,es,hes,hsz,hrd,hn⟩:=place_rd hst hp hpl
 obtain⟨j,hj,hq2⟩:=Option.bind_eq_some_iff.1 hq
 obtain⟨⟨k,u⟩,hku,e0⟩:=Option.map_eq_some_iff.1 hq2
 simp only at e0
 subst e0
 unfold pairAt at hku
 split at hku
 ·rename_i k' u' hk
  cases hku
  have hjl:j<es.size:=by
   have:=(List.getElem?_eq_some_iff.1 hk).1
   rw[hsz.len,←hn]
   exact this
  obtain⟨dk,dv,e1,e2,e3⟩:=hrd.2 j es[j] _ (by simp[hjl]) hk
  cases e1
  obtain⟨s',rfl⟩:∃s',seen=s'++[j]:=by
   have:=List.getLast?_eq_some_iff.1 hj
   exact this
  refine⟨es[j].key,es[j].val,_,_,?_,rfl,e2,e3⟩
  have hborn:es[j].born=j:=hsz.born j _ (by simp[hjl])
  have hnd:(es.toList.map (·.born)).Nodup:=by
   refine List.pairwise_iff_getElem.2 fun a b ha hb hab=>?_
   have hb':b<es.size:=by simpa using hb
   have ha':a<es.size:=by simpa using ha
   simp only[List.getElem_map,Array.getElem_toList]
   rw[hsz.born a _ (Array.getElem?_eq_getElem ha'),hsz.born b _ (Array.getElem?_eq_getElem hb')]
   omega
  have:=run_entry_at (P:=P) w (ρ.S.loc i) (ρ.S.loc m) n s'.toArray es n es[j] (by rw[hit,hborn];simp) hes (by simp) hnd
  exact this
 ·cases hku

theorem next_run {ty:TypeId}{bs:List D}{p:Value}{dp:D}{ys:List D}(hst:StOk w ρ.S ρ.foot bs)(hp:RdD w ρ.S p dp)(h:D.mnext (.st bs) dp=some (.lst ys)) :
  ∃(v:Value) (w':World) (d:D) (bs':List D),.tup [d,.st bs']∈ys∧(Instr.next p false ty).run P w=.ok v w'∧RdD w' ρ.S v d∧StOk w' ρ.S ρ.foot bs'∧Keeps ρ.S w w'∧w'.os=w.os∧TL w' w∧w'.output=w.output∧w'.heap.size=w.heap.size∧∀b,¬ρ.foot b→w'.heap[b]? = w.heap[b]?:=by
 unfold D.mnext at h
 obtain⟨q,hpl,hq⟩:=Option.map_eq_some_iff.1 h
 clear h
 obtain⟨bs',i,m,n,seen,kvs⟩:=q
 simp only[D.lst.injEq] at hq
 have h:=hq
 clear hq
 obtain⟨rfl,hi,rfl,hm,hit,es,hes,hsz,hrd,hn⟩:=place_rd hst hp hpl
 have hborn:∀(j:Nat) (x:MapEntry),es[j]? = some x→x.born=j:=hsz.born
 have hold:∀x∈es.toList,x.born<n:=fun x hx=>by
  obtain⟨j,hj⟩:=List.getElem?_of_mem hx
  rw[hborn j x (by simpa using hj)]
  have:=(List.getElem?_eq_some_iff.1 hj).1
  rw[Array.length_toList,hsz.len] at this
  exact this
 have hf:=(hst.its i _ hi rfl).1
 have hns:∀off,¬ρ.S (ρ.S.loc i) off:=fun off=>hst.nos _ off hf
 have hleft:∀x∈es.toList,(x∈(leftOf es seen.toArray).toList↔x.born∈leftN n seen):=fun x hx=>by
  have:=hold x hx
  simp only[leftOf,leftN,Array.toList_filter,List.mem_filter,List.contains_toArray,List.mem_range,hx,this,true_and]
 rcases run_next_at (P:=P) w ty (ρ.S.loc i) (ρ.S.loc m) n n seen.toArray es n hit hes hold (Nat.le_refl _) with⟨h0,hrun⟩ | ⟨e,he,w1,hw1,hrun⟩
 ·have hemp:(leftN n seen).isEmpty=true:=by
   rw[List.isEmpty_iff]
   refine List.eq_nil_iff_forall_not_mem.2 fun j hj=>?_
   have hjn:j<n:=by simp only[leftN,List.mem_filter,List.mem_range] at hj;exact hj.1
   have hjl:j<es.size:=by rw[hsz.len];exact hjn
   have hb:=hborn j es[j] (Array.getElem?_eq_getElem hjl)
   have:=(hleft es[j] (by simp)).2 (by rw[hb];exact hj)
   rw[Array.eq_empty_of_size_eq_zero h0] at this
   simp at this
  rw[if_pos hemp] at h
  subst h
  exact⟨_,w,.tup [.bool false],bs',by simp,hrun,.tup rfl fun j v d hv hd=>by
   match j with
   | 0=>simp at hv hd;subst hv hd;exact .v rfl
   | j+1=>simp at hv,hst,Keeps.refl _ _,rfl,.refl _,rfl,rfl,fun _ _=>rfl⟩
 ·have hees:e∈es.toList:=by
   simp only[leftOf,Array.toList_filter,List.mem_filter] at he
   exact he.1
  have hj:=(hleft e hees).1 he
  obtain⟨j,hje⟩:=List.getElem?_of_mem hees
  have hej:es[j]? = some e:=by simpa using hje
  have hb:=hborn j e hej
  rw[hb] at hj
  have hne:¬(leftN n seen).isEmpty=true:=fun hh=>by
   rw[List.isEmpty_iff] at hh
   rw[hh] at hj
   cases hj
  rw[if_neg hne] at h
  have hjl:j<kvs.length:=by rw[hn,←hsz.len];exact(Array.getElem?_eq_some_iff.1 hej).1
  obtain⟨dk,dv,e1,e2,e3⟩:=hrd.2 j e kvs[j] hje (by simp)
  have hw:w1.heap=w.heap∧w1.os=w.os∧TL w1 w∧w1.output=w.output:=by
   rcases hw1 with rfl | rfl
   ·exact⟨rfl,rfl,.refl _,rfl⟩
   ·exact⟨rfl,rfl,⟨rfl,Nat.le_succ _⟩,rfl⟩
  have hil:ρ.S.loc i<w.heap.size:=(Array.getElem?_eq_some_iff.1 hit).1
  have hset:∀b,b≠ρ.S.loc i→(ChangeMaps.setBlock w1 (ρ.S.loc i) (.mapIter (some (ρ.S.loc m)) n (seen.toArray.push e.born) n)).heap[b]? = w.heap[b]?:=fun b hb=>by
   simp only[ChangeMaps.setBlock,hw.1,Array.getElem?_setIfInBounds,Ne.symm hb,if_false]
  have hat:(ChangeMaps.setBlock w1 (ρ.S.loc i) (.mapIter (some (ρ.S.loc m)) n (seen.toArray.push e.born) n)).heap[ρ.S.loc i]? = some (.mapIter (some (ρ.S.loc m)) n (seen++[j]).toArray n):=by
   simp only[ChangeMaps.setBlock,hw.1,Array.getElem?_setIfInBounds,if_true,hil,hb]
   simp
  have hK:Keeps ρ.S w (ChangeMaps.setBlock w1 (ρ.S.loc i) (.mapIter (some (ρ.S.loc m)) n (seen.toArray.push e.born) n)):=fun b o hbo=>World.cell?_of_block (a:=⟨b,o,none⟩) (hset b fun e=>hns o (e ▸ hbo))
  refine⟨_,_,.tup [.bool true,dk,dv],bs'.set i (.itb m n (seen++[j])),?_,hrun,?_,?_,hK,hw.2.1,⟨hw.2.2.1.tape,hw.2.2.1.dr⟩,hw.2.2.2,by simp[ChangeMaps.setBlock,hw.1],fun b hb=>hset b fun e=>hb (e ▸ hf)⟩
  ·rw[←h,List.mem_filterMap]
   refine⟨j,hj,?_⟩
   unfold pairAt
   rw[List.getElem?_eq_getElem hjl,e1]
   rfl
  ·refine .tup rfl fun q v d hv hd=>?_
   match q with
   | 0=>simp at hv hd;subst hv hd;exact .v rfl
   | 1=>simp at hv hd;subst hv hd;exact e2.keep hK (Sets.le_refl _)
   | 2=>simp at hv hd;subst hv hd;exact e3.keep hK (Sets.le_refl _)
   | q+3=>simp at hv
  ·refine hst.set hK hi rfl (fun k x _ _ hne=>hset _ hne) (fun e sz cs hz=>by cases hz) (fun kvs hz=>by cases hz) fun _=>⟨hm,hat⟩

theorem run_getObj_sit {w:World}{r:Nat}{s:ByteArray}{n:Nat}(h:w.heap[r]? = some (.stringIter s n)):(getObj r).run P w=.ok (.stringIter s n) w:=by simp[getObj,Sem.run,h]

theorem run_setObj_sit {w:World}{r:Nat}{s:ByteArray}{n:Nat}(o':Obj)(h:w.heap[r]? = some (.stringIter s n)):(setObj r o').run P w=.ok () { w with heap:=w.heap.setIfInBounds r o' }:=by
 simp[setObj,Sem.run,h]

theorem lstr_sound {o:Oper}{opv:Operand→SV}{ix:Nat}{r:LRes}(hv:∀x,SRd w ρ env (a.eval x) (opv x))(hl:lstrC P o opv (σ.obj HID) ix=some r)(h:Rep w0 X w a σ env ρ)(hd:∀d,o.dst=some d→d<σ.tmps.length)(hb:BindOk P env ix r.bind) :
  ∃z,r.upd=some (HID,z)∧OpOk P o a w w0 X ((σ.setObj HID (some z)).put o.dst r.val) env:=by
 unfold lstrC at hl
 split at hl
 case h_2=>cases hl
 rename_i cf hx hob
 obtain⟨bs,hbe,hst,_⟩:=h.objs _ _ hob
 split at hl
 ·cases hl
 rename_i hro
 have hro:cf.ro=false:=by simpa using hro
 split at hl
 ·rename_i t m ho
  split at hl
  ·rename_i m' hty hm'
   cases hl
   obtain⟨dm,hdm,hrm⟩:=SV.toE_rd hm' (hv m)
   obtain⟨d,he,hix⟩:=hb
   simp only[E.eval,hbe,hdm,Option.bind_some,D.m4] at he
   obtain⟨s,rfl,rfl⟩:∃s,dm=.v (.string s)∧d=.st (bs++[.sit s 0]):=by
    unfold D.srng at he
    split at he
    ·rename_i e1
     cases e1
     cases he
     exact⟨_,rfl,rfl⟩
    ·cases he
   have hme:a.eval m=.string s:=by
    generalize a.eval m=v at hrm
    cases hrm
    rfl
   have hrun:(execOp a.eval o).run P w=.ok (.value (.pointer (some ⟨w.heap.size,0,none⟩))) (w.alloc (.stringIter s 0)):=by
    unfold execOp
    simp only[ho,hme,Instr.range,Sem.run_bind,run_underlying hty,Result.andThen_ok,Sem.run_pure]
    rfl
   obtain⟨hrep,hn⟩:=h.newStoreG (k:=0) (z:=.sit s 0) (ob:=.stringIter s 0) (x':=.sym ix) hob hro hbe (fun e sz cs hz=>by cases hz) (fun kvs hz=>by cases hz) (by simp only[E.eval];exact hix) (fun _=>rfl)
   refine⟨_,rfl,opOk_value hrun (hrep.put (by rw[SState.tmps_setObj];exact hd) ?_)⟩
   exact fstid_rd hbe hn
  ·cases hl
 ·rename_i it ho
  obtain⟨p,hp,rfl⟩:=Option.map_eq_some_iff.1 hl
  obtain⟨dp,hdp,hrp⟩:=SV.toE_rd hp (hv it)
  obtain⟨d,he,hix⟩:=hb
  simp only[E.eval,hbe,hdp,Option.bind_some,D.m4] at he
  obtain⟨q,hq,rfl⟩:=Option.map_eq_some_iff.1 he
  obtain⟨i,s,n,rfl,hi,rfl⟩:∃i s n,dp=.loc i 0∧bs[i]? = some (.sit s n)∧q=(bs,i,s,n):=by
   unfold D.splace at hq
   split at hq
   ·rename_i e1
    cases e1
    split at hq
    ·rename_i hi
     cases hq
     exact⟨_,_,_,rfl,hi,rfl⟩
    ·cases hq
   ·cases hq
  obtain⟨hf,hat,hns⟩:=hst.its i _ hi rfl
  replace hat:w.heap[ρ.S.loc i]? = some (.stringIter s n):=hat
  have hpe:a.eval it=.pointer (some ⟨ρ.S.loc i,0,none⟩):=by
   generalize a.eval it=v at hrp
   cases hrp
   rfl
  have hX:(E.m4 .snv hx p .nil .nil).eval env=some (if n<s.size then .tup [.bool true,.int n,.v (.int .i32 (Utf8.decode s n).1)] else .tup [.bool false]):=by
   simp only[E.eval,hbe,hdp,Option.bind_some,D.m4,D.snv,hq,Option.map_some]
  by_cases hlt:n<s.size
  ·rw[if_pos hlt] at hX
   simp only[if_pos hlt] at hix
   have hexec:(execOp a.eval o).run P w=.ok (.value (.tuple #[.bool true,goInt n,.int .i32 (Utf8.decode s n).1])) { w with heap:=w.heap.setIfInBounds (ρ.S.loc i) (.stringIter s (n+(Utf8.decode s n).2)) }:=by
    unfold execOp
    simp only[ho,hpe,Instr.next,Sem.run_bind,run_getObj_sit hat,Result.andThen_ok,if_pos hlt,run_setObj_sit _ hat,Sem.run_pure]
   obtain⟨g1,g2⟩:=heap_set (o':=.stringIter s (n+(Utf8.decode s n).2)) hat
   refine⟨_,rfl,opOk_value hexec ((h.setBlock (w':={ w with heap:=w.heap.setIfInBounds (ρ.S.loc i) (.stringIter s (n+(Utf8.decode s n).2)) }) (x':=.store cf (.sym ix)) (.inl rfl) hob (b0:=ρ.S.loc i) hf (by simpa[SObj.ro] using hro) (by intro _ hh;exact hh) hns (fun b hb'=>g2 b hb') rfl ⟨rfl,Nat.le_refl _⟩ rfl (by simp) fun hk=>?_).put (by rw[SState.tmps_setObj];exact hd) ?_)⟩
   ·exact⟨_,by simp only[E.eval];exact hix,hst.set (z':=.sit s (n+(Utf8.decode s n).2)) hk hi rfl (fun k x _ _ hne=>g2 _ hne) (fun e sz cs hz=>by cases hz) (fun kvs hz=>by cases hz) fun _=>g1,rfl⟩
   ·refine .e hX (.tup rfl fun q v d hv hd=>?_) (by simp)
    match q with
    | 0=>simp at hv hd;subst hv hd;exact .v rfl
    | 1=>simp at hv hd;subst hv hd;exact .v rfl
    | 2=>simp at hv hd;subst hv hd;exact .v rfl
    | q+3=>simp at hv
  ·rw[if_neg hlt] at hX
   simp only[if_neg hlt] at hix
   have hexec:(execOp a.eval o).run P w=.ok (.value (.tuple #[.bool false])) w:=by
    unfold execOp
    simp only[ho,hpe,Instr.next,Sem.run_bind,run_getObj_sit hat,Result.andThen_ok,if_neg hlt,Sem.run_pure]
   refine⟨_,rfl,opOk_value hexec ((h.setBlock (w':=w) (x':=.store cf (.sym ix)) (.inl rfl) hob (b0:=ρ.S.loc i) hf (by simpa[SObj.ro] using hro) (by intro _ hh;exact hh) hns (fun b hb'=>rfl) rfl (.refl _) rfl rfl fun hk=>?_).put (by rw[SState.tmps_setObj];exact hd) ?_)⟩
   ·exact⟨_,by simp only[E.eval];exact hix,hst,rfl⟩
   ·refine .e hX (.tup rfl fun q v d hv hd=>?_) (by simp)
    match q with
    | 0=>simp at hv hd;subst hv hd;exact .v rfl
    | q+1=>simp at hv
 ·cases hl

theorem lmap_sound {o:Oper}{opv:Operand→SV}{ix:Nat}{r:LRes}(hv:∀x,SRd w ρ env (a.eval x) (opv x))(hl:lmap P o opv σ.obj ix=some r)(h:Rep w0 X w a σ env ρ)(hd:∀d,o.dst=some d→d<σ.tmps.length)(hb:BindOk P env ix r.bind) :
  (r.upd=none∧OpOk P o a w w0 X (σ.put o.dst r.val) env)∨∃z,r.upd=some (HID,z)∧OpOk P o a w w0 X ((σ.setObj HID (some z)).put o.dst r.val) env:=by
 unfold lmap at hl
 split at hl
 case isFalse=>cases hl
 split at hl
 case h_2=>
  split at hl
  case h_2=>
   split at hl
   case h_2=>exact .inr (lclo_sound hv hl h hd hb)
   rename_i hl'
   cases hl
   exact lextC_sound hv hl' h hd hb
  rename_i hl'
  cases hl
  exact .inr (lstr_sound hv hl' h hd hb)
 rename_i hl'
 cases hl
 have hl:=hl'
 clear hl'
 unfold lmapC at hl
 split at hl
 case h_2=>cases hl
 rename_i cf hx hob
 obtain⟨bs,hbe,hst,_⟩:=h.objs _ _ hob
 have upd:∀{t:TypeId} {m k x:Operand} {ty:TypeId×TypeId×Kd} {m' k' x':E},(execOp a.eval o).run P w=((Instr.mapUpdate t (a.eval m) (a.eval k) (a.eval x)).run P w).andThen (fun _ w'=>.ok .skip w')→mapTy P t=some ty→(opv m).toE=some m'→(opv k).toE=some k'→(opv x).toE=some x'→cf.ro=false →
   BindOk P env ix (some (.ev (.m4 (.put ty.2.2) hx m' k' x')))→OpOk P o a w w0 X ((σ.setObj HID (some (.store cf (.sym ix)))).put o.dst .junk) env:=by
  rintro t m k x ⟨kt,e,kd⟩ m' k' x' hexec hty hm' hk' hx' hro hb
  obtain⟨dm,hdm,hrm⟩:=SV.toE_rd hm' (hv m)
  obtain⟨dk,hdk,hrk⟩:=SV.toE_rd hk' (hv k)
  obtain⟨dx,hdx,hrx⟩:=SV.toE_rd hx' (hv x)
  obtain⟨d,he,hix⟩:=hb
  simp only[E.eval,hbe,hdm,hdk,hdx,Option.bind_some,D.m4] at he
  have hmp:∃i,dm=.mp i:=by
   unfold D.mput at he
   split at he
   ·exact⟨_,rfl⟩
   ·cases he
  obtain⟨i,rfl⟩:=hmp
  obtain⟨kvs',es',clock',⟨kvs,hbs⟩,rfl,hrun,hes,hms⟩:=update_run hst hty hrm hrk hrx he
  rw[hrun] at hexec
  obtain⟨hf,es0,clock0,hh,_,hns,_⟩:=hst.maps i _ hbs
  obtain⟨g1,g2⟩:=heap_set (o':=.map es' clock') hh
  refine opOk_skip hexec ((h.setBlock (w':={ w with heap:=w.heap.setIfInBounds (ρ.S.loc i) (.map es' clock') }) (.inl rfl) hob (b0:=ρ.S.loc i) hf (by simpa[SObj.ro] using hro) (by intro _ hh;exact hh) hns (fun b hb'=>g2 b hb') rfl ⟨rfl,Nat.le_refl _⟩ rfl (by simp) fun hk=>?_).put (by rw[SState.tmps_setObj];exact hd) .junk)
  exact⟨_,by simp only[E.eval];exact hix,stOk_setM hst hk hbs g1 g2 hes hms,rfl⟩
 split at hl
 ·rename_i t ho
  split at hl
  ·cases hl
  rename_i hro
  have hro:cf.ro=false:=by simpa using hro
  cases hl
  obtain⟨d,he,hix⟩:=hb
  simp only[E.eval,hbe,Option.bind_some,D.m4] at he
  cases he
  have hrun:(execOp a.eval o).run P w=.ok (.value (.map (some w.heap.size))) (w.alloc (.map #[] 0)):=by
   unfold execOp
   simp only[ho,Option.map_none,Sem.run_bind]
   rfl
  obtain⟨hrep,hn⟩:=h.newStoreG (k:=0) (z:=.mblk []) (ob:=.map #[] 0) (x':=.sym ix) hob hro hbe (fun e sz cs hz=>by cases hz) (fun kvs hz=>by cases hz;exact⟨#[],0,rfl,MapSzL.of ⟨rfl,rfl,by simp⟩ rfl,by simp⟩) (by simp only[E.eval];exact hix)
  refine .inr ⟨_,rfl,opOk_value hrun (hrep.put (by rw[SState.tmps_setObj];exact hd) ?_)⟩
  refine .e (d:=.mp bs.length) (by simp only[E.eval,hbe];rfl) ?_ fun _=>rfl
  have:=RdD.mp (w:=w.alloc (.map #[] 0)) (S:=ρ.S.more w.heap.size 0) (i:=bs.length) (by simp[Sets.more,hn])
  have hl:(ρ.S.more w.heap.size 0).loc bs.length=w.heap.size:=by simp[Sets.more,hn]
  rwa [hl] at this
 ·rename_i t m k x ho
  split at hl
  ·cases hl
  rename_i hro
  split at hl
  ·rename_i ty m' k' x' hty hm' hk' hx'
   cases hl
   exact .inr ⟨_,rfl,upd (by unfold execOp;rw[ho];simp only[Sem.run_bind,Sem.run_pure]) hty hm' hk' hx' (by simpa using hro) hb⟩
  ·cases hl
 ·rename_i t m k x ho
  split at hl
  ·cases hl
  rename_i hro
  split at hl
  ·rename_i ty m' k' x' hty hm' hk' hx'
   cases hl
   exact .inr ⟨_,rfl,upd (by unfold execOp;rw[ho];simp only[Sem.run_bind,Sem.run_pure]) hty hm' hk' hx' (by simpa using hro) hb⟩
  ·cases hl
 ·rename_i t m k ok ho
  split at hl
  ·rename_i kt e kd m' k' hty hm' hk'
   split at hl
   ·rename_i z agg hz hagg
    obtain⟨zv,hzv,hz⟩:=Option.bind_eq_some_iff.1 hz
    obtain⟨dm,hdm,hrm⟩:=SV.toE_rd hm' (hv m)
    obtain⟨dk,hdk,hrk⟩:=SV.toE_rd hk' (hv k)
    split at hl
    ·rename_i hok
     subst hok
     cases hl
     obtain⟨d,he,hix⟩:=hb
     simp only[E.eval,hbe,hdm,hdk,Option.bind_some,D.m4,Option.bind_eq_some_iff,Option.map_eq_some_iff] at he
     obtain⟨kvs,hkvs,rr,hrr,he⟩:=he
     obtain⟨x,hrun,hx⟩:=lookup_run (ok:=true) hst hty hrm hrk hkvs hrr hzv
     have hexec:(execOp a.eval o).run P w=.ok (.value (.tuple #[x,.bool rr.isSome])) w:=by
      unfold execOp
      simp only[ho,Sem.run_bind,hrun,Result.andThen_ok,Sem.run_pure,if_true]
     refine .inl ⟨rfl,opOk_value hexec (h.put hd ?_)⟩
     obtain⟨dd,hdd,hxd⟩:∃dd,d=.tup [dd,.bool rr.isSome]∧RdD w ρ.S x dd:=by
      rcases hx with⟨rfl,rfl⟩ | ⟨j,dv,rfl,hdv⟩
      ·exact⟨_,he.symm,D.ofVal_rd hz⟩
      ·exact⟨_,he.symm,hdv⟩
     subst hdd
     refine .tup rfl fun i v c hv' hc=>?_
     match i with
     | 0=>
      simp at hv' hc
      subst hv' hc
      exact .e (d:=dd) (by simp[E.eval,hix,D.tget]) hxd (by simp)
     | 1=>
      simp at hv' hc
      subst hv' hc
      exact .e (d:=.bool rr.isSome) (by simp[E.eval,hix,D.tget]) (.v rfl) (fun _=>rfl)
     | i+2=>simp at hc
    ·rename_i hok
     have hok:ok=false:=by simpa using hok
     subst hok
     cases hl
     obtain⟨d,he,hix⟩:=hb
     simp only[E.eval,hbe,hdm,hdk,Option.bind_some,D.m4,Option.bind_eq_some_iff] at he
     obtain⟨kvs,hkvs,rr,hrr,he⟩:=he
     obtain⟨x,hrun,hx⟩:=lookup_run (ok:=false) hst hty hrm hrk hkvs hrr hzv
     have hexec:(execOp a.eval o).run P w=.ok (.value x) w:=by
      unfold execOp
      simp only[ho,Sem.run_bind,hrun,Result.andThen_ok,Sem.run_pure]
      rfl
     refine .inl ⟨rfl,opOk_value hexec (h.put hd ?_)⟩
     rcases hx with⟨rfl,rfl⟩ | ⟨j,dv,rfl,hdv⟩
     ·simp only at he
      split at he
      ·rename_i hone
       cases he
       exact .e hix (D.ofVal_rd hz) fun hag=>hone.resolve_left (by simpa using hag)
      ·cases he
     ·simp only at he
      split at he
      ·rename_i hone
       cases he
       exact .e hix hdv fun hag=>hone.resolve_left (by simpa using hag)
      ·cases he
   ·cases hl
  ·cases hl
 ·rename_i t m ho
  split at hl
  ·cases hl
  rename_i hro
  have hro:cf.ro=false:=by simpa using hro
  split at hl
  ·rename_i ty m' hty hm'
   cases hl
   obtain⟨kt,e,kd⟩:=ty
   obtain⟨hu,_⟩:=mapTy_spec hty
   obtain⟨dm,hdm,hrm⟩:=SV.toE_rd hm' (hv m)
   obtain⟨d,he,hix⟩:=hb
   simp only[E.eval,hbe,hdm,Option.bind_some,D.m4] at he
   obtain⟨i,kvs,rfl,hbs,hlo,rfl⟩:=mrng_some he
   obtain⟨hf,es,clock,hh,hsz,hns,hr⟩:=hst.maps i _ hbs
   replace hsz:=hsz.sz hlo
   have hlt:i<ρ.S.n:=by rw[hst.n];exact(List.getElem?_eq_some_iff.1 hbs).1
   have hme:a.eval m=.map (some (ρ.S.loc i)):=by
    generalize a.eval m=v at hrm
    cases hrm
    rfl
   have hrun:(execOp a.eval o).run P w=.ok (.value (.pointer (some ⟨w.heap.size,0,none⟩))) (w.alloc (.mapIter (some (ρ.S.loc i)) kvs.length [].toArray kvs.length)):=by
    unfold execOp
    simp only[ho,hme,Instr.range,Sem.run_bind,run_underlying hu,Result.andThen_ok,Go.MapKept.run_getObj_map hh,hsz.clk,Sem.run_pure]
    rfl
   obtain⟨hrep,hn⟩:=h.newStoreG (k:=0) (z:=.itb i kvs.length []) (ob:=.mapIter (some (ρ.S.loc i)) kvs.length [].toArray kvs.length) (x':=.sym ix) hob hro hbe (fun e sz cs hz=>by cases hz) (fun kvs hz=>by cases hz) (by simp only[E.eval];exact hix) (fun _=>⟨Nat.lt_succ_of_lt hlt,by rw[(ρ.S.le_more w.heap.size 0).loc _ hlt]⟩)
   refine .inr ⟨_,rfl,opOk_value hrun (hrep.put (by rw[SState.tmps_setObj];exact hd) ?_)⟩
   exact fstid_rd hbe hn
  ·cases hl
 ·rename_i t m k ho
  split at hl
  ·cases hl
  rename_i hro
  have hro:cf.ro=false:=by simpa using hro
  split at hl
  ·rename_i kt e kd m' k' hty hm' hk'
   obtain⟨z,hz,rfl⟩:=Option.map_eq_some_iff.1 hl
   obtain⟨zv,hzv,hz⟩:=Option.bind_eq_some_iff.1 hz
   obtain⟨dm,hdm,hrm⟩:=SV.toE_rd hm' (hv m)
   obtain⟨dk,hdk,hrk⟩:=SV.toE_rd hk' (hv k)
   obtain⟨d,he,hix⟩:=hb
   simp only[E.eval,hbe,hdm,hdk,Option.bind_some,D.m4] at he
   obtain⟨i,kvs,kvs',es',clock',u,j,du,rfl,hbs,rfl,hent,hrun,hes,hms,hu⟩:=mentry_run (P:=P) hst hty hrm hrk hzv hz he
   have hexec:(execOp a.eval o).run P w=.ok (.value (.tuple #[u,.int .i64 j])) { w with heap:=w.heap.setIfInBounds (ρ.S.loc i) (.map es' clock') }:=by
    unfold execOp
    simp only[ho,Sem.run_bind,hrun,Result.andThen_ok,Sem.run_pure]
   obtain⟨hf,es0,clock0,hh,_,hns,_⟩:=hst.maps i _ hbs
   obtain⟨g1,g2⟩:=heap_set (o':=.map es' clock') hh
   have hK:Keeps ρ.S w { w with heap:=w.heap.setIfInBounds (ρ.S.loc i) (.map es' clock') }:=fun b o hs=>World.cell?_of_block (a:=⟨b,o,none⟩) (g2 b fun e=>hns o (e ▸ hs))
   have hX:(E.m4 (.entv kd) hx m' k' (.const z)).eval env=some (.tup [du,.int j]):=by
    simp only[E.eval,hbe,hdm,hdk,Option.bind_some,D.m4]
    exact hent
   refine .inr ⟨_,rfl,opOk_value hexec ((h.setBlock (w':={ w with heap:=w.heap.setIfInBounds (ρ.S.loc i) (.map es' clock') }) (.inl rfl) hob (b0:=ρ.S.loc i) hf (by simpa[SObj.ro] using hro) (by intro _ hh;exact hh) hns (fun b hb'=>g2 b hb') rfl ⟨rfl,Nat.le_refl _⟩ rfl (by simp) fun hk=>?_).put (by rw[SState.tmps_setObj];exact hd) ?_)⟩
   ·exact⟨_,by simp only[E.eval];exact hix,stOk_setM hst hk hbs g1 g2 hes hms,rfl⟩
   ·refine .tup rfl fun q v c hv' hc=>?_
    match q with
    | 0=>
     simp at hv' hc
     subst hv' hc
     exact .e (d:=du) (by simp only[E.eval] at hX ⊢;rw[hX];rfl) (hu.keep hK (Sets.le_refl _)) (by simp)
    | 1=>
     simp at hv' hc
     subst hv' hc
     exact .e (d:=.int j) (by simp only[E.eval] at hX ⊢;rw[hX];rfl) (.v rfl) fun _=>rfl
    | q+2=>simp at hc
  ·cases hl
 ·rename_i t m s x ho
  split at hl
  ·cases hl
  rename_i hro
  have hro:cf.ro=false:=by simpa using hro
  split at hl
  ·rename_i m' s' x' hm' hs' hx'
   cases hl
   obtain⟨dm,hdm,hrm⟩:=SV.toE_rd hm' (hv m)
   obtain⟨ds,hds,hrs⟩:=SV.toE_rd hs' (hv s)
   obtain⟨dx,hdx,hrx⟩:=SV.toE_rd hx' (hv x)
   obtain⟨d,he,hix⟩:=hb
   simp only[E.eval,hbe,hdm,hds,hdx,Option.bind_some,D.m4] at he
   obtain⟨i,kvs,kvs',es',clock',rfl,hbs,rfl,hrun,hes,hms⟩:=ments_run (P:=P) (t:=t) hst hrm hrs hrx he
   have hexec:(execOp a.eval o).run P w=.ok .skip { w with heap:=w.heap.setIfInBounds (ρ.S.loc i) (.map es' clock') }:=by
    unfold execOp
    simp only[ho,Sem.run_bind,hrun,Result.andThen_ok,Sem.run_pure]
   obtain⟨hf,es0,clock0,hh,_,hns,_⟩:=hst.maps i _ hbs
   obtain⟨g1,g2⟩:=heap_set (o':=.map es' clock') hh
   refine .inr ⟨_,rfl,opOk_skip hexec ((h.setBlock (w':={ w with heap:=w.heap.setIfInBounds (ρ.S.loc i) (.map es' clock') }) (.inl rfl) hob (b0:=ρ.S.loc i) hf (by simpa[SObj.ro] using hro) (by intro _ hh;exact hh) hns (fun b hb'=>g2 b hb') rfl ⟨rfl,Nat.le_refl _⟩ rfl (by simp) fun hk=>?_).put (by rw[SState.tmps_setObj];exact hd) .junk)⟩
   exact⟨_,by simp only[E.eval];exact hix,stOk_setM hst hk hbs g1 g2 hes hms,rfl⟩
  ·cases hl
 ·rename_i it ho
  obtain⟨p,hp,rfl⟩:=Option.map_eq_some_iff.1 hl
  obtain⟨dp,hdp,hrp⟩:=SV.toE_rd hp (hv it)
  obtain⟨d,he,hix⟩:=hb
  simp only[E.eval,hbe,hdp,Option.bind_some,D.m4] at he
  obtain⟨v1,v2,d1,d2,hrun,rfl,h1,h2⟩:=entry_run (P:=P) hst hrp he
  have hexec:(execOp a.eval o).run P w=.ok (.value (.tuple #[v1,v2])) w:=by
   unfold execOp
   simp only[ho,Sem.run_bind,hrun,Result.andThen_ok,Sem.run_pure]
  refine .inl ⟨rfl,opOk_value hexec (h.put hd ?_)⟩
  refine .tup rfl fun i v c hv' hc=>?_
  match i with
  | 0=>
   simp at hv' hc
   subst hv' hc
   exact .e (d:=d1) (by simp[E.eval,hix,D.tget]) h1 (by simp)
  | 1=>
   simp at hv' hc
   subst hv' hc
   exact .e (d:=d2) (by simp[E.eval,hix,D.tget]) h2 (by simp)
  | i+2=>simp at hc
 ·rename_i c ho
  split at hl
  ·rename_i hcal
   split at hl
   ·rename_i x t hargs hts
    split at hl
    ·split at hl
     ·rename_i ty m' hty hm'
      cases hl
      obtain⟨kt,e,kd⟩:=ty
      obtain⟨hu,_⟩:=mapTy_spec hty
      obtain⟨dm,hdm,hrm⟩:=SV.toE_rd hm' (hv x)
      obtain⟨d,he,hix⟩:=hb
      simp only[E.eval,hbe,hdm,Option.bind_some,D.m4,Option.map_eq_some_iff] at he
      obtain⟨kvs,hkvs,rfl⟩:=he
      have ho':o.op=.call { callee:=.builtin .len,args:=#[x],argTypes:=#[t] }:=by
       rw[ho]
       obtain⟨c1,c2,c3⟩:=c
       simp only at hcal hargs hts
       subst hcal
       congr 2
       ·exact Array.toList_inj.1 (by simpa using hargs)
       ·exact Array.toList_inj.1 (by simpa using hts)
      have hexec:(execOp a.eval o).run P w=.ok (.value (.int .i64 kvs.length)) w:=by
       refine exec_len ho' ?_
       rcases entries_rd hst hrm hkvs with⟨e1,rfl⟩ | ⟨i,es,clock,kvs0,rfl,hbs,ek,e1,hh,hes,hms⟩
       ·rw[e1]
        simp only[Builtin.len_,List.getElem?_toArray,List.getElem?_cons_zero,Sem.run_bind,run_underlying hu,Result.andThen_ok,Sem.run_pure]
        rfl
       ·rw[e1]
        simp only[Builtin.len_,List.getElem?_toArray,List.getElem?_cons_zero,Sem.run_bind,run_underlying hu,Result.andThen_ok,Go.MapKept.run_getObj_map hh,Sem.run_pure,hms.size,ek]
        rfl
      exact .inl ⟨rfl,opOk_value hexec (h.put hd (.e hix (.v rfl) fun _=>rfl))⟩
     ·cases hl
    ·cases hl
   ·cases hl
  ·rename_i hcal
   split at hl
   ·cases hl
   rename_i hro
   have hro:cf.ro=false:=by simpa using hro
   split at hl
   ·rename_i x y t ts hargs hts
    split at hl
    ·rename_i kt e kd m' k' hty hm' hk'
     cases hl
     obtain⟨dm,hdm,hrm⟩:=SV.toE_rd hm' (hv x)
     obtain⟨dk,hdk,hrk⟩:=SV.toE_rd hk' (hv y)
     obtain⟨d,he,hix⟩:=hb
     simp only[E.eval,hbe,hdm,hdk,Option.bind_some,D.m4] at he
     have ho':o.op=.call { callee:=.builtin .delete,args:=#[x,y],argTypes:=(t :: ts).toArray }:=by
      rw[ho]
      obtain⟨c1,c2,c3⟩:=c
      simp only at hcal hargs hts
      subst hcal
      congr 2
      ·exact Array.toList_inj.1 (by simpa using hargs)
      ·exact Array.toList_inj.1 (by simpa using hts)
     obtain⟨i,kvs,kvs',es',clock',rfl,hbs,rfl,hrun,hes,hms⟩:=delete_run (P:=P) (ty:=o.type) (ts:=ts) hst hty hrm hrk he
     have hexec:=exec_delete (P:=P) (a:=a) ho' hrun
     obtain⟨hf,es0,clock0,hh,_,hns,_⟩:=hst.maps i _ hbs
     obtain⟨g1,g2⟩:=heap_set (o':=.map es' clock') hh
     refine .inr ⟨_,rfl,opOk_value hexec ((h.setBlock (w':={ w with heap:=w.heap.setIfInBounds (ρ.S.loc i) (.map es' clock') }) (.inl rfl) hob (b0:=ρ.S.loc i) hf (by simpa[SObj.ro] using hro) (by intro _ hh;exact hh) hns (fun b hb'=>g2 b hb') rfl ⟨rfl,Nat.le_refl _⟩ rfl (by simp) fun hk=>?_).put (by rw[SState.tmps_setObj];exact hd) .junk)⟩
     exact⟨_,by simp only[E.eval];exact hix,stOk_setM hst hk hbs g1 g2 hes hms,rfl⟩
    ·cases hl
   ·cases hl
  ·cases hl
 ·cases hl

end
end
end Go.Am
