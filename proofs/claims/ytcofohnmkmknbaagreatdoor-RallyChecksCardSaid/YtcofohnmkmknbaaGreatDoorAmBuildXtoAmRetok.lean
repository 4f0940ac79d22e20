/-
  Several texts, one behind the other.
-/
import Derived.Test.YtcofohnmkmknbaaGreatDoorAmPuretoAmClo
import Derived.Test.YtcofohnmkmknbaaGreatDoorAmBasetoAmTok
import Derived.Test.YtcofohnmkmknbaaGreatDoorAmMap
import Derived.Defers
import Derived.Lib.SliceRun
import Derived.WalkSpells
set_option linter.unusedSimpArgs false
set_option linter.unusedVariables false
namespace Go.Am
section
noncomputable section

abbrev ail:=Nat×SV×Option SV

def aa_ (z:Value)(parts:List ail)(i off size:Nat)(agg:Bool):Option E:=
 match parts.find? (fun p=>p.1==i) with
 | some p=>(match p.2.1.jx with
  | some x=>if agg=true∨size=1 then some (Pn agg size x) else none
  | none=>if size=1∧p.2.2.isSome=true then some (.const (.v (.bool false))) else none)
 | none=>(D.mD true ((z.cells.toList.drop off).take size)).bind fun ds=>if ds.length=size then some (.const (.agg ds)) else none

def Qpy (z:Value)(parts:List ail):Nat→Nat→List ((Nat×Nat)×Bool)→Option E
 | _,off,[]=>if off=z.cells.size then some .nil else none
 | i,off,p :: r=>if p.1.1=off then(match aa_ z parts i off p.1.2 p.2,Qpy z parts (i+1) (off+p.1.2) r with
   | some x,some y=>some (.cons x y)
   | _,_=>none) else none

def aif (pl:List (Nat×Nat))(parts:List ail)(ix k:Nat):SV:=
 match parts.find? (fun p=>p.2.1.jx.isNone&&decide (pl[p.1]? = some (k,1))) with
 | some p=>p.2.2.getD (.e (.const (.v (.bool false))) true)
 | none=>.e (.cell k (.sym ix)) true

def aoA (P:Program)(t:TypeId)(parts:List ail)(ix:Nat):Option eV:=
 match P.info? t,P.underlying t with
 | some it,some (.struct fields)=>match it.zero,BJ P fields with
  | some z,some pl=>match Qpy z parts 0 0 (pl.zip (py P fields)) with
   | some y=>if ZK P t z.cells.size=false∧(parts.map (·.1)).Nodup∧parts.all (fun p=>decide (p.1<pl.length))=true∧Mq pl=true then some { val:=.agg ((List.range z.cells.size).map fun k=>aif pl parts ix k),bind:=some (.ev y) } else none
   | none=>none
  | _,_=>none
 | _,_=>none

def Qjj (obj:Nat→Option bl)(ct:Operand→SV)(parts:List (Nat×Operand)):List ail:=parts.map fun p=>(p.1,ct p.2,Bq obj (ct p.2))

def Qik (P:Program)(o:Oper)(ct:Operand→SV)(obj:Nat→Option bl)(ix:Nat):Option eV:=
 match o.op with
 | .build t parts=>aoA P t (Qjj obj ct parts.toList) ix
 | _=>none

section
variable {P:Program} {w w0:World} {X:kG} {a:Act} {σ:af} {env:List D} {ρ:dJ}

theorem Qok {z:Value}{parts:List ail}(hlen:∀i off size agg x u,aa_ z parts i off size agg=some x→x.eval env=some u→u.cells.length=size):∀{l:List ((Nat×Nat)×Bool)} {i off:Nat} {y:E} {d:D},Qpy z parts i off l=some y→y.eval env=some d →
  ∃cs,d=.agg cs∧off+cs.length=z.cells.size∧(∀(f:Nat) (q:(Nat×Nat)×Bool),l[f]? = some q→q.1.1+q.1.2≤z.cells.size∧∃x u,aa_ z parts (i+f) q.1.1 q.1.2 q.2=some x∧x.eval env=some u) ∧
  ∀k,off≤k→k<z.cells.size→∃f q x u,l[f]? = some q∧q.1.1≤k∧k<q.1.1+q.1.2∧aa_ z parts (i+f) q.1.1 q.1.2 q.2=some x∧x.eval env=some u∧cs[k-off]? = u.cells[k-q.1.1]?
 | [],i,off,y,d,h,hd=>by
  simp only[Qpy] at h
  split at h
  ·rename_i ho
   cases h
   simp only[E.eval,Option.some.injEq] at hd
   subst hd
   exact⟨[],rfl,by simpa using ho,by simp,fun k h1 h2=>by omega⟩
  ·cases h
 | q :: r,i,off,y,d,h,hd=>by
  simp only[Qpy] at h
  split at h
  ·rename_i ho
   split at h
   ·rename_i x y' hx hy
    cases h
    simp only[E.eval,Option.bind_eq_some_iff] at hd
    obtain⟨u,hu,d',fz,hc⟩:=hd
    obtain⟨cs,rfl,hl,h1,h2⟩:=Qok hlen hy fz
    have FK:=hlen _ _ _ _ _ _ hx hu
    have hd2:d=.agg (u.cells++cs):=by
     unfold D.cons at hc
     split at hc <;> first | cases hc;done | (cases hc;rename_i e1 e2;cases e2;rfl) | skip
     all_goals first | (cases hc;rfl) | cases hc
    refine⟨u.cells++cs,hd2,by simp[FK];omega,fun f q' hq=>?_,fun k hk1 hk2=>?_⟩
    ·cases f with
     | zero=>simp at hq;subst hq;rw[ho];exact⟨by omega,x,u,hx,hu⟩
     | succ f=>
      obtain⟨h5,x',u',h3,h4⟩:=h1 f q' (by simpa using hq)
      exact⟨h5,x',u',by rw[show i+(f+1)=i+1+f from by omega];exact h3,h4⟩
    ·by_cases hk:k<off+q.1.2
     ·refine⟨0,q,x,u,rfl,by omega,by omega,by rw[ho];exact hx,hu,?_⟩
      rw[List.getElem?_append_left (by omega),ho]
     ·obtain⟨f,q',x',u',h3,h4,h5,h6,h7,h8⟩:=h2 k (by omega) hk2
      refine⟨f+1,q',x',u',by simpa using h3,h4,h5,by rw[show i+(f+1)=i+1+f from by omega];exact h6,h7,?_⟩
      rw[List.getElem?_append_right (by omega),FK,show k-off-q.1.2=k-(off+q.1.2) from by omega]
      exact h8
   ·cases h
  ·cases h

theorem Qqk {o:Oper} {ct:Operand→SV} {ix:Nat} {r:eV} (hv:∀x,ef w ρ env (a.eval x) (ct x)) (hl:Qik P o ct σ.obj ix=some r) (h:cu w0 X w a σ env ρ)
  (hd:∀d,o.dst=some d→d<σ.tmps.length) (hb:cn P env ix r.bind):r.eM=none∧gq P o a w w0 X (σ.put o.dst r.val) env:=by
 unfold Qik at hl
 split at hl
 case h_2=>cases hl
 rename_i t parts ho
 unfold aoA at hl
 split at hl
 ·rename_i it fields hit hu
  split at hl
  ·rename_i z pl hz BF
   split at hl
   ·rename_i y hy
    split at hl
    ·rename_i hc
     obtain⟨_,hnd,hin,hap⟩:=hc
     have hnd:(parts.toList.map (·.1)).Nodup:=by
      have:(Qjj σ.obj ct parts.toList).map (·.1)=parts.toList.map (·.1):=by simp[Qjj,Function.comp_def]
      rw[this] at hnd;exact hnd
     have hin:∀p,p∈parts.toList→p.1<pl.length:=fun p hp=>by
      have:=List.all_eq_true.1 hin _ (List.mem_map.2 ⟨p,hp,rfl⟩)
      simpa using this
     cases hl
     refine⟨rfl,?_⟩
     obtain⟨dz,cV,cW⟩:=hb
     have aqY:pl.length=fields.toList.length:=mapM_length BF
     have To:∀i off size agg x u,aa_ z (Qjj σ.obj ct parts.toList) i off size agg=some x→x.eval env=some u→u.cells.length=size ∧
       ((∃p,p∈parts.toList∧p.1=i∧(ct p.2).jx.isNone=false∧bU w ρ.S (a.eval p.2) u∧u.DJ=true)∨(∃p s,p∈parts.toList∧p.1=i∧(ct p.2).jx.isNone=true∧size=1∧Bq σ.obj (ct p.2)=some s) ∨
        ((∀p,p∈parts.toList→p.1≠i)∧∃ds,u=.agg ds∧D.mD true ((z.cells.toList.drop off).take size)=some ds)):=by
      intro i off size agg x u hx qc
      unfold aa_ at hx
      split at hx
      ·rename_i p hp
       have hmem:=List.mem_of_find?_eq_some hp
       have hpi:=List.find?_some hp
       simp only[beq_iff_eq] at hpi
       obtain⟨p0,hp0,rfl⟩:=List.mem_map.1 hmem
       split at hx
       ·rename_i x' hx'
        split at hx
        ·rename_i hag
         cases hx
         obtain⟨d,pY,mT⟩:=SV.ck hx' (hv p0.2)
         obtain⟨h1,h2,h3⟩:=Pm hag pY mT qc
         exact⟨h2,.inl ⟨p0,hp0,hpi,by simp only at hx';rw[hx'];rfl,h1,h3⟩⟩
        ·cases hx
       ·rename_i hx'
        split at hx
        ·rename_i hag
         cases hx
         simp only[E.eval,Option.some.injEq] at qc
         subst qc
         obtain⟨s,hs⟩:=Option.isSome_iff_exists.1 hag.2
         exact⟨by rw[hag.1];rfl,.inr (.inl ⟨p0,s,hp0,hpi,by simp only at hx';rw[hx'];rfl,hag.1,hs⟩)⟩
        ·cases hx
      ·rename_i hnone
       obtain⟨ds,hds,hx⟩:=Option.bind_eq_some_iff.1 hx
       split at hx
       ·rename_i cP
        cases hx
        simp only[E.eval,Option.some.injEq] at qc
        subst qc
        refine⟨cP,.inr (.inr ⟨fun p hp hpi=>?_,ds,rfl,hds⟩)⟩
        have:=List.find?_eq_none.1 hnone _ (List.mem_map.2 ⟨p,hp,rfl⟩)
        simp[hpi] at this
       ·cases hx
     obtain⟨cs,rfl,dG,hf,Yq⟩:=Qok (fun i off size agg x u h1 h2=>(To i off size agg x u h1 h2).1) hy cV
     rw[Nat.zero_add] at dG
     have ak0:∀(i:Nat) (q:Nat×Nat),pl[i]? = some q→∃b,(pl.zip (py P fields))[i]? = some (q,b):=by
      intro i q hq
      have hi:=(List.getElem?_eq_some_iff.1 hq).1
      have hi2:i<(py P fields).length:=by simp only[py,List.length_map];omega
      exact⟨(py P fields)[i],by rw[List.getElem?_zip_eq_some];exact⟨hq,List.getElem?_eq_getElem hi2⟩⟩
     have aaX:∀(i:Nat) (q:(Nat×Nat)×Bool),(pl.zip (py P fields))[i]? = some q→pl[i]? = some q.1:=by
      intro i q hq
      rw[List.getElem?_zip_eq_some] at hq
      exact hq.1
     have afD:∀{p:Nat×Operand} {s:SV},Bq σ.obj (ct p.2)=some s→ef w ρ env (a.eval p.2) s∧(a.eval p.2).oneCell'=true:=fun hs=>Uf hs (hv _) h.dO
     have ze:∀{v:Value},v.oneCell'=true→v.cells=#[v]:=fun {v} h1=>by cases v <;> first | rfl | simp[Value.oneCell'] at h1
     have hpart:∀p,p∈parts.toList→∃off,pl[p.1]? = some (off,(a.eval p.2).cells.size)∧off+(a.eval p.2).cells.size≤z.cells.size:=by
      intro p hp
      have hlt:p.1<pl.length:=hin p hp
      obtain⟨b,hb⟩:=ak0 p.1 pl[p.1] (List.getElem?_eq_getElem hlt)
      obtain⟨hle,x,u,h1,h2⟩:=hf p.1 _ hb
      rw[Nat.zero_add] at h1
      obtain⟨h3,h4⟩:=To _ _ _ _ _ _ h1 h2
      rcases h4 with⟨p',hp',hpi,_,hr,hnt⟩ | ⟨p',s,hp',hpi,_,hs1,hs⟩ | ⟨hno,_⟩
      ·have:=rJ hnd hp' hp hpi
       subst this
       have hsz:=(hr.cellAt hnt).1
       rw[h3] at hsz
       exact⟨pl[p'.1].1,by rw[hsz];exact List.getElem?_eq_getElem hlt,by rw[hsz];exact hle⟩
      ·have:=rJ hnd hp' hp hpi
       subst this
       have hsz:(a.eval p'.2).cells.size=pl[p'.1].2:=by rw[ze (afD hs).2];exact hs1.symm
       exact⟨pl[p'.1].1,by rw[hsz];exact List.getElem?_eq_getElem hlt,by rw[hsz];exact hle⟩
      ·exact absurd rfl (hno p hp)
     obtain⟨r,hr,tI,Fs⟩:=I4 (place:=fun i=>pl.toArray[i]?) (parts.toList.map fun p=>(p.1,a.eval p.2)) z.cells (fun p hp=>by
      obtain⟨q,hq,rfl⟩:=List.mem_map.1 hp
      obtain⟨off,h1,h2⟩:=hpart q hq
      exact⟨off,by simpa using h1,h2⟩)
     have Oi:P.built t (parts.map fun(x:Nat×Operand)=>(x.1,a.eval x.2)).toList=some r:=by
      unfold Program.built
      simp only[hit,hu,hz]
      unfold BJ at BF
      simp only[BF,Array.toList_map]
      exact hr
     have hcell:∀(k:Nat),k<z.cells.size→∃v,r[k]? = some v∧v.oneCell'=true∧ef w ρ env v (aif pl (Qjj σ.obj ct parts.toList) ix k):=by
      intro k hkz
      obtain⟨f,q,x,u,h1,h2,h3,h4,h5,h6⟩:=Yq k (Nat.zero_le _) hkz
      rw[Nat.sub_zero] at h6
      rw[Nat.zero_add] at h4
      have afz:=aaX f q h1
      obtain⟨h7,h8⟩:=To _ _ _ _ _ _ h4 h5
      obtain⟨c,hk⟩:∃c,cs[k]? = some c:=⟨cs[k]'(by omega),List.getElem?_eq_getElem _⟩
      have huc:u.cells[k-q.1.1]? = some c:=h6 ▸ hk
      have hcE:(E.cell k (.sym ix)).eval env=some c:=by simp[E.eval,cW,D.cell,D.cells,hk]
      have U_:∀p,p∈parts.toList→p.1≠f→¬JE (fun i=>pl.toArray[i]?) (p.1,a.eval p.2) k:=by
       rintro p hp hne ⟨off,size,h9,h10,h11⟩
       simp only[List.getElem?_toArray] at h9
       have:=FY hap h9 afz hne
       simp only at this
       omega
      have hfind:∀p,p∈parts.toList→pl[p.1]? = some (k,1)→p.1=f:=by
       intro p hp h9
       by_cases hne:p.1=f
       ·exact hne
       ·have:=FY hap h9 afz hne
        simp only at this
        omega
      have hnone:(∀p,p∈parts.toList→p.1=f→(ct p.2).jx.isNone=false)→aif pl (Qjj σ.obj ct parts.toList) ix k=.e (.cell k (.sym ix)) true:=by
       intro hne
       unfold aif
       rw[List.find?_eq_none.2]
       intro p hp
       obtain⟨p0,hp0,rfl⟩:=List.mem_map.1 hp
       simp only[Bool.and_eq_true,decide_eq_true_eq,not_and]
       intro h9 h10
       have:=hne p0 hp0 (hfind p0 hp0 h10)
       rw[h9] at this
       cases this
      rcases h8 with⟨p,hp,hpi,hE,hrd,hnt⟩ | ⟨p,s,hp,hpi,hE,hs1,hs⟩ | ⟨hno,ds,rfl,hds⟩
      ·obtain⟨h9,v,h10,h11⟩:=(hrd.cellAt hnt).2 _ c huc
       have hsz:=(hrd.cellAt hnt).1
       rw[h7] at hsz
       have oP:r[k]? = some v:=by
        have:=(Fs k hkz).2 (p.1,a.eval p.2) q.1.1 (List.mem_map.2 ⟨p,hp,rfl⟩) (by simp only[List.getElem?_toArray,hpi,afz,hsz]) h2 (by simp only[hsz];exact h3) fun q' Yf hne=>by
         obtain⟨p',hp',rfl⟩:=List.mem_map.1 Yf
         refine U_ p' hp' fun e=>hne ?_
         rw[rJ hnd hp' hp (e.trans hpi.symm)]
        rw[this];exact h10
       refine⟨v,oP,h11.one h9,?_⟩
       rw[hnone fun p' hp' ato=>by rw[rJ hnd hp' hp (ato.trans hpi.symm)];exact hE]
       exact .e hcE h11 fun _=>h9
      ·have hv1:=afD hs
       have hkq:q.1.1=k:=by omega
       have oP:r[k]? = some (a.eval p.2):=by
        have:=(Fs k hkz).2 (p.1,a.eval p.2) q.1.1 (List.mem_map.2 ⟨p,hp,rfl⟩) (by
          simp only[List.getElem?_toArray,hpi,afz,ze hv1.2]
          rw[show(q.1:Nat×Nat)=(q.1.1,q.1.2) from rfl,hs1]
          rfl) h2 (by simp only[ze hv1.2];simp;omega) fun q' Yf hne=>by
         obtain⟨p',hp',rfl⟩:=List.mem_map.1 Yf
         refine U_ p' hp' fun e=>hne ?_
         rw[rJ hnd hp' hp (e.trans hpi.symm)]
        rw[this,ze hv1.2,hkq]
        simp
       refine⟨_,oP,hv1.2,?_⟩
       have azb:pl[p.1]? = some (k,1):=by
        rw[hpi,afz,show(q.1:Nat×Nat)=(q.1.1,q.1.2) from rfl,hs1,hkq]
       have:aif pl (Qjj σ.obj ct parts.toList) ix k=s:=by
        unfold aif
        obtain⟨x,hx⟩:∃x,(Qjj σ.obj ct parts.toList).find? (fun p=>p.2.1.jx.isNone&&decide (pl[p.1]? = some (k,1)))=some x:=by
         refine Option.isSome_iff_exists.1 (List.find?_isSome.2 ⟨_,List.mem_map.2 ⟨p,hp,rfl⟩,?_⟩)
         simp only[hE,azb,decide_true,Bool.and_true]
        have hmem:=List.mem_of_find?_eq_some hx
        have hpx:=List.find?_some hx
        obtain⟨p',hp',rfl⟩:=List.mem_map.1 hmem
        simp only[Bool.and_eq_true,decide_eq_true_eq] at hpx
        have:=rJ hnd hp' hp ((hfind p' hp' hpx.2).trans hpi.symm)
        subst this
        rw[hx]
        simp only[hs,Option.getD_some]
       rw[this]
       exact hv1.1
      ·have oP:r[k]? = z.cells[k]?:=(Fs k hkz).1 fun q' Yf=>by
        obtain⟨p',hp',rfl⟩:=List.mem_map.1 Yf
        exact U_ p' hp' (hno p' hp')
       obtain⟨_,hrd⟩:=D.ng (w:=w) (S:=ρ.S) hds
       have mM:((z.cells.toList.drop q.1.1).take q.1.2)[k-q.1.1]? = some z.cells[k]:=by
        rw[List.getElem?_take,if_pos (by omega),List.getElem?_drop,show q.1.1+(k-q.1.1)=k from by omega]
        simp[hkz]
       obtain⟨h9,h10⟩:=hrd _ _ c mM huc
       refine⟨z.cells[k],by rw[oP];exact Array.getElem?_eq_getElem hkz,h9.one h10,?_⟩
       rw[hnone fun p' hp' ato=>absurd ato (hno p' hp')]
       exact .e hcE h9 fun _=>h10
     refine bS h hd (v:=.agg r) ?_ (.agg (by rw[tI];simp) (fun k v Qcz=>?_) fun k v c Qcz hk=>?_)
     ·unfold execOp
      simp only[ho,Sem.run_bind,run_build w t _ r Oi,Result.andThen_ok,Sem.run_pure]
     ·obtain⟨v',h1,h2,_⟩:=hcell k (by rw[←tI];exact(Array.getElem?_eq_some_iff.1 Qcz).1)
      rw[Qcz] at h1
      cases h1
      exact h2
     ·have hkz:k<z.cells.size:=by rw[←tI];exact(Array.getElem?_eq_some_iff.1 Qcz).1
      obtain⟨v',h1,_,h2⟩:=hcell k hkz
      rw[Qcz] at h1
      cases h1
      simp only[List.getElem?_map,Option.map_eq_some_iff] at hk
      obtain⟨j,hj,rfl⟩:=hk
      have:=List.getElem?_eq_some_iff.1 hj
      simp only[List.getElem_range] at this
      obtain⟨_,rfl⟩:=this
      exact h2
    ·cases hl
   ·cases hl
  ·cases hl
 ·cases hl

end
end
end

section
noncomputable section

structure j5 where
 val:SV
 eM:Option (Nat×bl)
 del:Option Nat
 bind:Option Bind
 deriving Inhabited

def eV.eu (r:eV):j5:=⟨r.val,r.eM,none,r.bind⟩

def af.jM (σ:af):Option Nat→af
 | none=>σ
 | some k=>σ.setObj k none

def af.sets (σ:af):Option (Nat×bl)→af
 | none=>σ
 | some u=>σ.setObj u.1 (some u.2)

def af.app (σ:af)(dst:Option Tmp)(e:j5):af:=((σ.jM e.del).sets e.eM).put dst e.val

def lY:Operand→Bool
 | .const (.slice none 0 0)=>true
 | _=>false

def jL (o:Oper):Bool:=
 match o.op with
 | .alloc _ | .box _ _ | .buildSlice _ _ _ | .makeSlice _ _ _=>true
 | .assign x=>lY x
 | .call c=>(match c.callee with | .builtin .append=>true | _=>false)
 | _=>false

def Ad (o:Oper)(σ:af)(e:j5):Bool:=
 !jL o||match e.eM with | some u=>decide (u.1=bN)||(o.op.operands.all fun x=>(σ.ct [] x).aT u.1) | none=>true

def XS (e:j5):Bool:=match e.eM with | some u=>decide (u.1≠bN) | none=>true

theorem Gw {e:j5}(h:XS e=true){u:Nat×bl}(hu:e.eM=some u):u.1≠bN:=by
 unfold XS at h
 rw[hu] at h
 simpa using h

def AS (σ:af)(o:Oper)(e:j5):Prop:=jL o=true→∀u,e.eM=some u→u.1≠bN→σ.obj u.1=none∧σ.aT u.1∧∀x,x∈o.op.operands→(σ.ct [] x).aT u.1=true

theorem J9 {o:Oper}{σ:af}{e:j5}(h:Ad o σ e=true)(hn:jL o=true){u:Nat×bl}(hu:e.eM=some u)(hne:u.1≠bN):∀x,x∈o.op.operands→(σ.ct [] x).aT u.1=true:=by
 simp only[Ad,hn,hu,Bool.not_true,Bool.false_or,Bool.or_eq_true,decide_eq_true_eq] at h
 exact fun x hx=>Array.all_eq_true'.1 (h.resolve_left hne) x hx

def Ih (P:Program)(t:TypeId)(dst:Option Tmp):Option j5:=
 match dst,P.underlying t with
 | some d,some (.slice e)=>(w9 P e).map fun n=>⟨.own (.const (.bq [])) d,some (d,.tok e n),none,none⟩
 | _,_=>none

def vU (P:Program)(t:TypeId)(s x:SV)(dst:Option Tmp)(obj:Nat→Option bl)(ix:Nat):Option j5:=
 match dst,P.underlying t,s with
 | some d,some (.slice e),.own y k=>match obj k,P.info? e,x.jx with
  | some (.tok e' size),some i,some x'=>match i.zero with
   | some z=>if e=e'∧i.size=size∧z.cells.size=size∧0<size then some ⟨.own (.sym ix) d,some (d,.tok e size),some k,some (.ev (.app size i.bytes y x'))⟩ else none
   | none=>none
  | _,_,_=>none
 | _,_,_=>none

def D9 (P:Program)(t:TypeId)(x:SV)(dst:Option Tmp)(ix:Nat):Option j5:=
 match dst,P.underlying t with
 | some d,some (.slice e)=>match P.info? e,x.jx with
  | some i,some x'=>match i.zero with
   | some z=>if z.cells.size=i.size∧0<i.size then some ⟨.own (.sym ix) d,some (d,.tok e i.size),none,some (.ev (.app i.size i.bytes (.const (.bq [])) x'))⟩ else none
   | none=>none
  | _,_=>none
 | _,_=>none

def DN (obj:Nat→Option bl):Bool:=match jv obj with | some cf=>cf.FB | none=>false

def Ii (nz:Bool)(P:Program)(o:Oper)(ct:Operand→SV)(obj:Nat→Option bl)(ix:Nat):Option j5:=
 match o.op with
 | .assign x=>if lY x then Ih P o.type o.dst else none
 | .makeSlice t n c=>(GA nz P t (ct n) (ct c) o.dst ix).map eV.eu
 | .buildSlice t len parts=>(NG P t len parts.toList ct o.dst ix).map eV.eu
 | .call c=>match c.callee with
  | .builtin .append=>match c.args.toList,c.argTypes.toList with
   | [s,x],[t,t']=>if t=t' then(if lY s=true then D9 P t (ct x) o.dst ix else vU P t (ct s) (ct x) o.dst obj ix) else none
   | _,_=>none
  | _=>none
 | _=>none

def AB (P:Program)(nz:Bool)(o:Oper)(ct:Operand→SV)(ix:Nat):Option eV:=
 match o.op with
 | .build t parts=>Ir nz P t parts.toList ct ix
 | _=>match ao6 P o ct ix with
  | some r=>some r
  | none=>Gz P o ct ix

def BN (P:Program)(o:Oper)(ct:List (E×Bool)→Operand→SV)(act:List (E×Bool))(obj:Nat→Option bl)(ix:Nat):Option j5:=
 match RE P o (ct act) act obj ix with
 | some r=>some r.eu
 | none=>match RA P o (ct []) obj ix with
  | some r=>some r.eu
  | none=>match lmap P o (ct act) obj ix with
  | some r=>some r.eu
  | none=>match Ii (DN obj) P o (ct []) obj ix with
   | some e=>if XS e then some e else none
   | none=>match AB P (DN obj) o (ct act) ix with
    | some r=>some r.eu
    | none=>match Qik P o (ct act) obj ix with
    | some r=>some r.eu
    | none=>(Gy P o ct act obj ix).bind fun r=>if !jL o||XS r.eu then some r.eu else none

section
variable {P:Program} {w w0:World} {X:kG} {a:Act} {σ:af} {env:List D} {ρ:dJ}

theorem mP {k o:Nat}{y:bl}(hy:(σ.setObj k none).obj o=some y):o≠k∧σ.obj o=some y:=by
 rcases af.Cc hy with⟨_,h⟩ | h
 ·cases h
 ·exact h

theorem cu.V7 (h:cu w0 X w a σ env ρ)(k:Nat):cu w0 X w a (σ.setObj k none) env ρ:=
 ⟨by rw[af.aZ];exact h.size,fun t=>by rw[af.ga];exact h.tmps t,fun o y hy=>h.dO o y (mP hy).2,fun o o' y y' b h1 h2=>h.inj o o' y y' b (mP h1).2 (mP h2).2,fun o y b h1=>h.own o y b (mP h1).2,h.cells,h.os,h.tape,h.output,h.grown,h.old,h.sub,h.new,h.zT,h.hold⟩

theorem wX {k d:Nat}(h:σ.aT d):(σ.setObj k none).aT d:=
 ⟨fun t=>by rw[af.ga];exact h.1 t,fun o y hy=>h.2 o y (mP hy).2⟩

theorem FC {o:Oper} {x:Operand} {e:j5} (ho:o.op=.assign x) (hx:lY x=true) (hl:Ih P o.type o.dst=some e) (h:cu w0 X w a σ env ρ) (hd:∀d,o.dst=some d→d<σ.tmps.length) (hm:σ.mem.length=σ.tmps.length)
  (hf:∀u,e.eM=some u→σ.obj u.1=none∧σ.aT u.1):gq P o a w w0 X (σ.app o.dst e) env:=by
 unfold Ih at hl
 split at hl
 ·rename_i d el ig hu
  obtain⟨n,hn,rfl⟩:=Option.map_eq_some_iff.1 hl
  obtain⟨hfree,ox⟩:=hf _ rfl
  have cP:=hd d ig
  have uT:a.eval x=.slice none 0 0:=by
   unfold lY at hx
   split at hx
   ·rfl
   ·cases hx
  have bn:=h.Fl (w':=w) (k:=d) (by rw[hm];exact cP) hfree ox (World.ownsRow_nil w 0 el n) (bW.refl _ _) (fun _ _ _ _ _=>⟨rfl,by simp[Value.ownBlock]⟩) (fun _ hb=>by simp[Value.ownBlock] at hb) (fun _ hb=>by simp[Value.ownBlock] at hb) rfl ⟨rfl,Nat.le_refl _⟩ rfl (Nat.le_refl _) fun _ _ _=>rfl
  refine c_ (v:=.slice none 0 0) (by unfold execOp;simp[ho,uT]) (bn.put (by rw[ig];intro d' e;cases e;rw[af.aZ];exact cP) ?_)
  exact .own (es:=[]) rfl .nil (by simp[dJ.lR])
 ·cases hl


theorem Gs (h:cu w0 X w a σ env ρ){k:Nat}{e:TypeId}{size:Nat}(hk:σ.obj k=some (.tok e size)){b:Nat}(hb:(ρ.val k).ownBlock=some b):(w0.heap.size≤b∨X.may b)∧b<w.heap.size:=by
 have:=h.own k _ b hk hb
 exact⟨this.1.resolve_left (by simp[bl.ro]),this.2⟩

theorem wK {o:Oper} {t:TypeId} {s x:Operand} {ss sx:SV} {ix:Nat} {e:j5} (ho:o.op=.call { callee:=.builtin .append,args:=#[s,x],argTypes:=#[t,t] }) (hl:vU P t ss sx o.dst σ.obj ix=some e) (hs:ef w ρ env (a.eval s) ss) (hx:ef w ρ env (a.eval x) sx)
  (h:cu w0 X w a σ env ρ) (hd:∀d,o.dst=some d→d<σ.tmps.length) (hm:σ.mem.length=σ.tmps.length) (hb:cn P env ix e.bind) (hf:∀u,e.eM=some u→σ.obj u.1=none∧σ.aT u.1):gq P o a w w0 X (σ.app o.dst e) env:=by
 unfold vU at hl
 split at hl
 ·rename_i d el y k ig hu
  split at hl
  ·rename_i e' size i x' hk hi hx'
   split at hl
   ·rename_i z hz
    split at hl
    ·rename_i hc
     obtain⟨rfl,hsize,hzs,hsz⟩:=hc
     cases hl
     obtain⟨hfree,ox⟩:=hf _ rfl
     have cP:=hd d ig
     obtain⟨es,nL,hrd,hval⟩:=hs.yH
     obtain⟨dx,pY,mT⟩:=SV.ck hx' hx
     obtain⟨dz,cV,cW⟩:=hb
     simp only[E.eval,nL,pY,Option.bind_some] at cV
     unfold D.app at cV
     split at cV
     ·rename_i xs0 ys heq
      cases heq
      split at cV
      ·rename_i wP
       cases cV
       obtain⟨hby,hml,GK,UR⟩:=wP
       obtain⟨n,xs,hown,Oa⟩:=h.dO k _ hk
       rw[←hval] at hown Oa
       obtain⟨hn,hrow⟩:=XO hown hrd GK
       have GN:d≠k:=fun e=>by rw[e,hk] at hfree;cases hfree
       have AR:=h.V7 k
       have abk:(σ.setObj k none).obj d=none:=by
        rw[af.ep σ none GN];exact hfree
       have mJ:∀o' y' b,(σ.setObj k none).obj o'=some y'→bY ρ o' y' b→b<w.heap.size∧(a.eval s).ownBlock≠some b:=by
        intro o' y' b h1 h2
        have h1':=mP h1
        refine⟨(h.own o' y' b h1'.2 h2).2,fun hg=>h1'.1 ?_⟩
        rw[hval] at hg
        exact h.inj o' k y' _ b h1'.2 hk h2 hg
       have fin:∀(v':Value) (w':World) (m:Nat) (news:List Value),(Builtin.append_ #[t,t] o.type #[a.eval s,a.eval x]).run P w=.ok v' w'→ys.length=m→mj w ρ.S size news ys→w'.ownsRow 0 el size v' (n+m) (xs++news) →
         ((v'.ownBlock=(a.eval s).ownBlock∧QH w w' (a.eval s).ownBlock)∨(v'.ownBlock=some w.heap.size∧QH w w' none))→gq P o a w w0 X (σ.app o.dst ⟨.own (.sym ix) d,some (d,.tok el size),some k,some (.ev (.app size i.bytes y x'))⟩) env:=by
        intro v' w' m news hrun S7 Ll hown' gT
        have Qev:w'.os=w.os∧TL w' w∧w'.output=w.output∧w.heap.size≤w'.heap.size:=by
         rcases gT with⟨_,hg⟩ | ⟨_,hg⟩ <;> exact⟨hg.os,hg.tape,hg.output,hg.size⟩
        have s9:∀b,b<w.heap.size→(a.eval s).ownBlock≠some b→w'.heap[b]? = w.heap[b]?:=by
         intro b hb hne
         rcases gT with⟨_,hg⟩ | ⟨_,hg⟩
         ·exact hg.block b hb fun e=>hne e.symm
         ·exact hg.block b hb (by simp)
        have hK:bW ρ.S w w':=by
         intro b i' hS
         by_cases hg:(a.eval s).ownBlock=some b
         ·rcases gT with⟨Qcz,_⟩ | ⟨_,s8⟩
          ·have hlt:i'<n*size:=Nat.lt_of_not_le fun hle=>Oa b hg i' hle hS
           have Vj:i'<xs.length:=by rw[hown.1];exact hlt
           have h1:=hown.cells hg i' _ (List.getElem?_eq_getElem Vj)
           have h2:=hown'.cells (Qcz.trans hg) i' xs[i'] (by rw[List.getElem?_append_left Vj];exact List.getElem?_eq_getElem Vj)
           rw[iR] at h1 h2
           rw[Nat.zero_add] at h1 h2
           rw[h1,h2]
          ·exact World.cell?_of_block (a:=⟨b,i',none⟩) (s8.block b (h.cells b i' hS) (by simp))
         ·exact World.cell?_of_block (a:=⟨b,i',none⟩) (s9 b (h.cells b i' hS) hg)
        have bn:=AR.Fl (w':=w') (k:=d) (e:=el) (size:=size) (v:=v') (n:=n+m) (xs:=xs++news) (by rw[af.fG,hm];exact cP) abk (wX ox) hown' hK ?_ ?_ ?_ Qev.1 Qev.2.1 Qev.2.2.1 Qev.2.2.2 ?_
        ·have UT:(ρ.lR d v' ((n+m)*size)).val d=v':=by simp[dJ.lR]
         refine c_ (v:=v') ?_ (bn.put (by rw[ig];intro d' e;cases e;rw[af.aZ,af.aZ];exact cP) ?_)
         ·unfold execOp
          simp only[ho,resolve,invoke,builtin,Sem.run_bind,Sem.run_pure,Result.andThen_ok,List.map_toArray,List.map_cons,List.map_nil,hrun]
         ·refine .own (es:=es++ys) (by simp only[E.eval];exact cW) (HX hown' (by simp[hn,S7]) ((hrow.append Ll).keep hK (ρ.S.rN _)) fun b hb i' hi'=>.inr ⟨hb,hi'⟩) UT.symm
        ·intro o' y' b h1 h2
         obtain⟨h3,h4⟩:=mJ o' y' b h1 h2
         refine⟨s9 b h3 h4,?_⟩
         rcases gT with⟨Qcz,_⟩ | ⟨Qcz,_⟩
         ·rw[Qcz];exact h4
         ·rw[Qcz];simp;omega
        ·intro b hb
         rcases gT with⟨Qcz,_⟩ | ⟨Qcz,_⟩
         ·rw[Qcz,hval] at hb;exact(Gs h hk hb).1
         ·rw[Qcz] at hb;cases hb;exact .inl h.grown
        ·intro b hb off hoff hS
         rcases gT with⟨Qcz,_⟩ | ⟨Qcz,_⟩
         ·rw[Qcz] at hb
          refine Oa b hb off (Nat.le_trans (Nat.mul_le_mul_right _ (Nat.le_add_right n m)) hoff) hS
         ·rw[Qcz] at hb;cases hb
          have:=h.cells _ off hS
          omega
        ·intro b hb hnm
         refine s9 b (Nat.lt_of_lt_of_le hb h.grown) fun hg=>?_
         rw[hval] at hg
         rcases(Gs h hk hg).1 with h1 | h1
         ·omega
         ·exact hnm h1
       rcases H8 mT UR with⟨Lf,rfl⟩ | ⟨ad,m,c,news,Lf,S7,hnl,hcells,hone,wO⟩
       ·refine fin (a.eval s) w 0 [] ?_ rfl ⟨by simp,by simp,by simp⟩ (by simpa using hown) (.inl ⟨rfl,⟨rfl,.refl _,rfl,Nat.le_refl _,fun _ _ _=>rfl⟩⟩)
        rw[Lf]
        rcases hown.2 with⟨hv,hn0⟩ | ⟨g,cap,cur,hv,_,_,hnc,_⟩
        ·rw[hv];exact lT w t o.type el i hu hi none 0 0 (Nat.le_refl _)
        ·rw[hv];exact lT w t o.type el i hu hi _ n cap hnc
       ·obtain⟨v',w',hrun,hown',gT⟩:=kI (P:=P) w t o.type el i z size i.bytes hu hi hz hsize rfl hzs hsz (a.eval s) n xs hown ad m c news hnl hcells hone (by rw[←hn,←S7];exact hml) (by rw[←hn,←S7];exact hby)
        rw[←Lf] at hrun
        exact fin v' w' m news hrun S7 wO hown' gT
      ·cases cV
     ·cases cV
    ·cases hl
   ·cases hl
  ·cases hl
 ·cases hl

theorem uM {o:Oper} {t:TypeId} {s x:Operand} {sx:SV} {ix:Nat} {e:j5} (ho:o.op=.call { callee:=.builtin .append,args:=#[s,x],argTypes:=#[t,t] }) (hn:lY s=true) (hl:D9 P t sx o.dst ix=some e) (hx:ef w ρ env (a.eval x) sx)
  (h:cu w0 X w a σ env ρ) (hd:∀d,o.dst=some d→d<σ.tmps.length) (hm:σ.mem.length=σ.tmps.length) (hb:cn P env ix e.bind) (hf:∀u,e.eM=some u→σ.obj u.1=none∧σ.aT u.1):gq P o a w w0 X (σ.app o.dst e) env:=by
 have uV:a.eval s=.slice none 0 0:=by
  unfold lY at hn
  split at hn
  ·rfl
  ·cases hn
 unfold D9 at hl
 split at hl
 ·rename_i d el ig hu
  split at hl
  ·rename_i i x' hi hx'
   split at hl
   ·rename_i z hz
    split at hl
    ·rename_i hc
     obtain⟨hzs,hsz⟩:=hc
     cases hl
     obtain⟨hfree,ox⟩:=hf _ rfl
     have cP:=hd d ig
     obtain⟨dx,pY,mT⟩:=SV.ck hx' hx
     obtain⟨dz,cV,cW⟩:=hb
     simp only[E.eval,pY,Option.bind_some] at cV
     unfold D.app at cV
     split at cV
     ·rename_i xs0 ys heq
      cases heq
      split at cV
      ·rename_i wP
       cases cV
       obtain⟨hby,hml,_,UR⟩:=wP
       have hown:=World.ownsRow_nil w 0 el i.size
       have dN:(Value.slice none 0 0).ownBlock=none:=rfl
       have fin:∀(v':Value) (w':World) (m:Nat) (news:List Value),(Builtin.append_ #[t,t] o.type #[a.eval s,a.eval x]).run P w=.ok v' w'→ys.length=m→mj w ρ.S i.size news ys→w'.ownsRow 0 el i.size v' (0+m) ([]++news) →
         ((v'.ownBlock=none∧QH w w' none)∨(v'.ownBlock=some w.heap.size∧QH w w' none))→gq P o a w w0 X (σ.app o.dst ⟨.own (.sym ix) d,some (d,.tok el i.size),none,some (.ev (.app i.size i.bytes (.const (.bq [])) x'))⟩) env:=by
        intro v' w' m news hrun S7 Ll hown' gT
        have Qev:w'.os=w.os∧TL w' w∧w'.output=w.output∧w.heap.size≤w'.heap.size:=by
         rcases gT with⟨_,hg⟩ | ⟨_,hg⟩ <;> exact⟨hg.os,hg.tape,hg.output,hg.size⟩
        have s9:∀b,b<w.heap.size→w'.heap[b]? = w.heap[b]?:=by
         intro b hb
         rcases gT with⟨_,hg⟩ | ⟨_,hg⟩ <;> exact hg.block b hb (by simp)
        have hK:bW ρ.S w w':=fun b i' hS=>World.cell?_of_block (a:=⟨b,i',none⟩) (s9 b (h.cells b i' hS))
        have bn:=h.Fl (w':=w') (k:=d) (e:=el) (size:=i.size) (v:=v') (n:=0+m) (xs:=[]++news) (by rw[hm];exact cP) hfree ox hown' hK ?_ ?_ ?_ Qev.1 Qev.2.1 Qev.2.2.1 Qev.2.2.2 ?_
        ·have UT:(ρ.lR d v' ((0+m)*i.size)).val d=v':=by simp[dJ.lR]
         refine c_ (v:=v') ?_ (bn.put (by rw[ig];intro d' e;cases e;rw[af.aZ];exact cP) ?_)
         ·unfold execOp
          simp only[ho,resolve,invoke,builtin,Sem.run_bind,Sem.run_pure,Result.andThen_ok,List.map_toArray,List.map_cons,List.map_nil,hrun]
         ·refine .own (es:=[]++ys) (by simp only[E.eval];exact cW) (HX hown' (by simp[S7]) (mj.keep (by simpa using Ll) hK (ρ.S.rN _)) fun b hb i' hi'=>.inr ⟨hb,hi'⟩) UT.symm
        ·intro o' y' b h1 h2
         have h3:=(h.own o' y' b h1 h2).2
         refine⟨s9 b h3,?_⟩
         rcases gT with⟨Qcz,_⟩ | ⟨Qcz,_⟩
         ·rw[Qcz];simp
         ·rw[Qcz];simp;omega
        ·intro b hb
         rcases gT with⟨Qcz,_⟩ | ⟨Qcz,_⟩
         ·rw[Qcz] at hb;cases hb
         ·rw[Qcz] at hb;cases hb;exact .inl h.grown
        ·intro b hb off hoff hS
         rcases gT with⟨Qcz,_⟩ | ⟨Qcz,_⟩
         ·rw[Qcz] at hb;cases hb
         ·rw[Qcz] at hb;cases hb
          have:=h.cells _ off hS
          omega
        ·intro b hb hnm
         exact s9 b (Nat.lt_of_lt_of_le hb h.grown)
       rcases H8 mT UR with⟨Lf,rfl⟩ | ⟨ad,m,c,news,Lf,S7,hnl,hcells,hone,wO⟩
       ·refine fin (.slice none 0 0) w 0 [] ?_ rfl ⟨by simp,by simp,by simp⟩ (by simpa using hown) (.inl ⟨rfl,⟨rfl,.refl _,rfl,Nat.le_refl _,fun _ _ _=>rfl⟩⟩)
        rw[Lf,uV]
        exact lT w t o.type el i hu hi none 0 0 (Nat.le_refl _)
       ·obtain⟨v',w',hrun,hown',gT⟩:=kI (P:=P) w t o.type el i z i.size i.bytes hu hi hz rfl rfl hzs hsz (.slice none 0 0) 0 [] hown ad m c news hnl hcells hone (by rw[←S7];simpa using hml) (by rw[←S7];simpa using hby)
        rw[←Lf,←uV] at hrun
        exact fin v' w' m news hrun S7 wO hown' (by rw[dN] at gT;exact gT)
      ·cases cV
     ·cases cV
    ·cases hl
   ·cases hl
  ·cases hl
 ·cases hl

theorem Ic {nz:Bool}{o:Oper}{ct:Operand→SV}{ix:Nat}{r:eV}(hv:∀x,ef w ρ env (a.eval x) (ct x))(hl:AB P nz o ct ix=some r)(h:cu w0 X w a σ env ρ)(hd:∀d,o.dst=some d→d<σ.tmps.length)(hb:cn P env ix r.bind) :
  r.eM=none∧gq P o a w w0 X (σ.put o.dst r.val) env:=by
 unfold AB at hl
 split at hl
 ·rename_i ho
  exact Iq ho hv hl h hd hb
 ·split at hl
  ·rename_i hl'
   cases hl
   exact an0 hv hl' h hd hb
  ·exact KH hv hl h hd hb

theorem vm {o:Oper} {act:List (E×Bool)} {ix:Nat} {e:j5} (h:cu w0 X w a σ env ρ) (ha:bI env act) (hl:BN P o σ.ct act σ.obj ix=some e) (hd:∀d,o.dst=some d→d<σ.tmps.length) (hm:σ.mem.length=σ.tmps.length)
  (hb:cn P env ix e.bind) (hf:AS σ o e) (hact:jL o=true→¬(e.eM=none∧e.del=none)→act=[]):gq P o a w w0 X (σ.app o.dst e) env:=by
 have hv:=fun x=>uC (a:=a) h o4 x
 unfold BN at hl
 split at hl
 ·rename_i r hr
  cases hl
  obtain⟨hu,hok⟩:=NL (fun x=>uC (a:=a) h ha x) hr h hd hb
  have:σ.app o.dst r.eu=σ.put o.dst r.val:=by simp[af.app,eV.eu,af.jM,af.sets,hu]
  rw[this];exact hok
 split at hl
 ·rename_i r hr
  cases hl
  rcases Ny hv hr h hd hb with⟨hu,hok⟩ | ⟨z,hu,hok⟩
  ·have:σ.app o.dst r.eu=σ.put o.dst r.val:=by simp[af.app,eV.eu,af.jM,af.sets,hu]
   rw[this];exact hok
  ·have:σ.app o.dst r.eu=(σ.setObj bN (some z)).put o.dst r.val:=by simp[af.app,eV.eu,af.jM,af.sets,hu]
   rw[this];exact hok
 split at hl
 ·rename_i r hr
  cases hl
  rcases NC (fun x=>uC (a:=a) h ha x) hr h hd hb with⟨hu,hok⟩ | ⟨z,hu,hok⟩
  ·have:σ.app o.dst r.eu=σ.put o.dst r.val:=by simp[af.app,eV.eu,af.jM,af.sets,hu]
   rw[this];exact hok
  ·have:σ.app o.dst r.eu=(σ.setObj bN (some z)).put o.dst r.val:=by simp[af.app,eV.eu,af.jM,af.sets,hu]
   rw[this];exact hok
 split at hl
 ·rename_i e' hn
  split at hl
  case isFalse=>cases hl
  rename_i hnH
  cases hl
  have hf:jL o=true→∀u,e.eM=some u→σ.obj u.1=none∧σ.aT u.1∧∀x,x∈o.op.operands→(σ.ct [] x).aT u.1=true:=fun hn u hu=>hf hn u hu (Gw hnH hu)
  unfold Ii at hn
  split at hn
  ·rename_i x ho
   split at hn
   ·rename_i hx
    exact FC ho hx hn h hd hm fun u hu=>by
     have:=hf (by simp[jL,ho,hx]) u hu
     exact⟨this.1,this.2.1⟩
   ·cases hn
  ·rename_i t n c ho
   obtain⟨r,hr,rfl⟩:=Option.map_eq_some_iff.1 hn
   obtain⟨ob,x,hu,hok⟩:=KP ho hr (hv n) (hv c) h hd hm hb fun u hu=>by
    have:=hf (by simp[jL,ho]) u hu
    exact⟨this.1,this.2.1⟩
   have:σ.app o.dst r.eu=(σ.setObj ob (some x)).put o.dst r.val:=by simp[af.app,eV.eu,af.jM,af.sets,hu]
   rw[this];exact hok
  ·rename_i t len parts ho
   obtain⟨r,hr,rfl⟩:=Option.map_eq_some_iff.1 hn
   obtain⟨ob,x,hu,hok⟩:=NF ho hv hr h hd hm hb fun u hu=>by
    have:=hf (by simp[jL,ho]) u hu
    exact⟨this.1,this.2.1⟩
   have:σ.app o.dst r.eu=(σ.setObj ob (some x)).put o.dst r.val:=by simp[af.app,eV.eu,af.jM,af.sets,hu]
   rw[this];exact hok
  ·rename_i c ho
   obtain⟨callee,args,ts⟩:=c
   simp only at hn
   split at hn
   ·split at hn
    ·rename_i s x t t' hargs hts
     split at hn
     ·rename_i WY
      subst WY
      have e1:args=#[s,x]:=by rw[←Array.toArray_toList (xs:=args),hargs]
      have e2:ts=#[t,t]:=by rw[←Array.toArray_toList (xs:=ts),hts]
      subst e1 e2
      split at hn
      ·rename_i wm
       exact uM ho wm hn (hv x) h hd hm hb fun u hu=>by
        have:=hf (by simp[jL,ho]) u hu
        exact⟨this.1,this.2.1⟩
      ·exact wK ho hn (hv s) (hv x) h hd hm hb fun u hu=>by
        have:=hf (by simp[jL,ho]) u hu
        exact⟨this.1,this.2.1⟩
     ·cases hn
    ·cases hn
   ·cases hn
  ·cases hn
 split at hl
 ·rename_i r hr
  cases hl
  obtain⟨hu,hok⟩:=Ic (fun x=>uC (a:=a) h ha x) hr h hd hb
  have:σ.app o.dst r.eu=σ.put o.dst r.val:=by simp[af.app,eV.eu,af.jM,af.sets,hu]
  rw[this];exact hok
 split at hl
 ·rename_i r hr
  cases hl
  obtain⟨hu,hok⟩:=Qqk (fun x=>uC (a:=a) h ha x) hr h hd hb
  have:σ.app o.dst r.eu=σ.put o.dst r.val:=by simp[af.app,eV.eu,af.jM,af.sets,hu]
  rw[this];exact hok
 ·obtain⟨r,hr,hl⟩:=Option.bind_eq_some_iff.1 hl
  split at hl
  case isFalse=>cases hl
  rename_i hnH
  cases hl
  have hf:jL o=true→∀u,r.eM=some u→σ.obj u.1=none∧σ.aT u.1∧∀x,x∈o.op.operands→(σ.ct [] x).aT u.1=true:=fun hn u hu=>hf hn u hu (Gw (by simpa[hn] using hnH) hu)
  have hfo:Qq σ o r.eM:=by
   intro ob x hu
   split
   ·rename_i t ho
    have:=hf (by simp[jL,ho]) (ob,x) hu
    exact⟨this.1,this.2.1⟩
   ·rename_i t y ho
    have:=hf (by simp[jL,ho]) (ob,x) hu
    exact⟨this.1,this.2.1,this.2.2 y (by rw[ho];simp[Op.operands])⟩
   ·trivial
  rcases KF h ha hr hd hm hb hfo (fun⟨t,x,ho⟩ hu=>hact (by simp[jL,ho]) fun hh=>hu hh.1) with⟨hu,hok⟩ | ⟨ob,x,hu,hok⟩
  ·have:σ.app o.dst r.eu=σ.put o.dst r.val:=by simp[af.app,eV.eu,af.jM,af.sets,hu]
   rw[this];exact hok
  ·have:σ.app o.dst r.eu=(σ.setObj ob (some x)).put o.dst r.val:=by simp[af.app,eV.eu,af.jM,af.sets,hu]
   rw[this];exact hok

end
end
end

section
noncomputable section

def SV.Tf (k:Nat)(x:E)(sv:SV):SV:=
 match sv with
 | .oc o=>if o=k then .e x true else .oc o
 | sv=>sv

def SV.agw (k:Nat)(x:E)(sv:SV):SV:=
 match sv with
 | .addr o 0=>if o=k then .e x true else .addr o 0
 | sv=>sv

def af.Tf (k:Nat)(σ:af):af:=
 match σ.obj k with
 | some (.row x _)=>{ (σ.setObj k none) with tmps:=σ.tmps.map (SV.Tf k x) }
 | some (.box cs)=>(match SV.MT cs with
  | some y=>{ (σ.setObj k none) with tmps:=σ.tmps.map (SV.agw k (.gE y)) }
  | none=>σ)
 | _=>σ

def bl.Ut (f:SV→SV):bl→bl
 | .box cs=>.box (cs.map f)
 | x=>x

def SV.adX (k:Nat)(y:E)(sv:SV):SV:=
 match sv with
 | .oc o=>if o=k then .e y true else .oc o
 | sv=>sv

def SV.adZ (k:Nat)(y:E)(sv:SV):SV:=
 match sv with
 | .addr o 0=>if o=k then .e y true else .addr o 0
 | sv=>sv

def af.DA (σ:af)(k:Nat)(f:SV→SV)(y:bl):af:={ tmps:=σ.tmps.map f,mem:=(σ.mem.map (Option.map (bl.Ut f))).set k none,hs:=some y }

def af.Rf (k:Nat)(σ:af):af:=
 match σ.obj bN with
 | some (.store cf h)=>if cf.ro=true then σ else(match σ.obj k with
  | some (.row x sz)=>if 0<sz then σ.DA k (SV.adX k (.bO h x)) (.store cf (.a_ SM sz h x)) else σ
  | some (.box cs)=>(match SV.MT cs with
   | some y=>σ.DA k (SV.adZ k (.aU h)) (.store cf (.cI SM cs.length h y))
   | none=>σ)
  | _=>σ)
 | _=>σ

def td (k:Nat)(σ:af):af:=if 1000000<k then σ.Rf (k-1000000) else σ.Tf k

def vh:List Nat→af→af
 | [],σ=>σ
 | k :: ks,σ=>vh ks (td k σ)

def rW (id:Nat)(σ:af):af:=
 match σ.obj bN with
 | some (.store cf _)=>vh ((cf.Ot.filter fun p=>p.1==id).map (·.2)) σ
 | _=>σ

section
variable {w w0:World} {X:kG} {a:Act} {σ:af} {env:List D} {ρ:dJ}

theorem XJ {o:Nat}{x:E}{sz:Nat}(h:iB w ρ env o (.row x sz)):∃d,x.eval env=some d∧bU w (ρ.S.or fun b _=>b=ρ.aE o) (ρ.val o) d∧d.one=true:=by
 obtain⟨vs,ty,es,hh,hx,hz,hsz,hr,hval,hm,_⟩:=h
 refine⟨_,hx,?_,rfl⟩
 rw[hval]
 have mM:∀(i:Nat) (e:D) (j:Nat) (d:D),es[i]? = some e→e.cells[j]? = some d→∃v,vs[i*sz+j]? = some v∧bU w ρ.S v d∧d.one=true:=by
  intro i e j d he hd
  obtain⟨h1,v,h2,h3⟩:=hr i e j d he hd
  exact⟨v,h2,h3,h1⟩
 refine .bq (size:=sz) (val:=fun i j=>vs.getD (i*sz+j) undef) rfl (Nat.le_refl _) hm hz (fun i e j d he hd=>(mM i e j d he hd).choose_spec.2.2) (fun i e j d he hd=>.inr rfl) (fun i e j d he hd=>?_) fun i e j d he hd=>?_
 ·obtain⟨v,h2,_⟩:=mM i e j d he hd
  rw[gD hh,Nat.zero_add,h2,Array.getD_eq_getD_getElem?,h2]
  rfl
 ·obtain⟨v,h2,h3,_⟩:=mM i e j d he hd
  rw[Array.getD_eq_getD_getElem?,h2]
  exact h3.keep (bW.refl _ _) (ρ.S.rN _)

theorem cu.agv (h:cu w0 X w a σ env ρ){k:Nat}{z:bl}(hk:σ.obj k=some z)(hz:bY ρ k z (ρ.aE k))(hro:z.ro=false){f:SV→SV}(hf:∀v sv,ef w { ρ with S:=ρ.S.or fun b _=>b=ρ.aE k } env v sv→ef w { ρ with S:=ρ.S.or fun b _=>b=ρ.aE k } env v (f sv))(hj:f .cE=.cE) :
  cu w0 X w a { (σ.setObj k none) with tmps:=σ.tmps.map f } env { ρ with S:=ρ.S.or fun b _=>b=ρ.aE k }:=by
 have hle:ρ.S≤ρ.S.or fun b _=>b=ρ.aE k:=ρ.S.rN _
 have hm:ρ.vB { ρ with S:=ρ.S.or fun b _=>b=ρ.aE k } (fun _=>False):=⟨⟨fun _ _=>rfl,fun _ _=>rfl,hle⟩,fun _=>rfl,fun _=>rfl⟩
 have Lj:=h.own k _ (ρ.aE k) hk hz
 refine⟨by simpa using h.size,fun t=>?_,fun o y hy=>?_,fun o o' y y' b h1 h2=>h.inj o o' y y' b (mP h1).2 (mP h2).2,fun o y b h1=>h.own o y b (mP h1).2,fun b o hs=>?_,h.os,h.tape,h.output,h.grown,h.old,Sets.le_trans h.sub hle,fun b o hs=>?_,h.zT,h.hold⟩
 ·have hv:=(h.tmps t).keep (bW.refl _ _) hm (fun _ hf=>hf.elim)
  have IJ:af.tmp { (σ.setObj k none) with tmps:=σ.tmps.map f } t=f (σ.tmp t):=by
   simp only[af.gw,List.getD_eq_getElem?_getD,List.getElem?_map]
   cases σ.tmps[t]? with
   | none=>exact hj.symm
   | some _=>rfl
  rw[IJ]
  exact hf _ _ hv
 ·obtain⟨hne,hy'⟩:=mP hy
  refine(h.dO o y hy').keep (bW.refl _ _) hm (fun hf=>hf) (fun _ hf=>hf.elim) (fun _ _=>rfl) fun b off hb hs=>?_
  rcases hs with hs | hs
  ·exact hs
  ·subst hs
   exact absurd (h.inj o k y _ _ hy' hk hb hz) hne
 ·rcases hs with hs | rfl
  ·exact h.cells b o hs
  ·exact Lj.2
 ·rcases hs with hs | rfl
  ·exact h.new b o hs
  ·rcases Lj.1 with g | g | g
   ·exact absurd g.1 (by simp[hro])
   ·exact .inr (.inl g)
   ·exact .inr (.inr g)

theorem cu.Tf (h:cu w0 X w a σ env ρ)(k:Nat):∃ρ',cu w0 X w a (σ.Tf k) env ρ':=by
 unfold af.Tf
 split
 ·rename_i x sz hk
  refine⟨_,h.agv hk rfl rfl (fun v sv hv=>?_) rfl⟩
  unfold SV.Tf
  split
  ·rename_i o
   split
   ·rename_i e
    subst e
    obtain⟨d,h1,h2,h3⟩:=XJ (h.dO _ _ hk)
    rw[hv.sH]
    exact .e h1 h2 fun _=>h3
   ·exact hv
  ·exact hv
 ·rename_i cs hk
  split
  ·rename_i y hy
   refine⟨_,h.agv hk rfl rfl (fun v sv hv=>?_) rfl⟩
   unfold SV.agw
   split
   ·rename_i o
    split
    ·rename_i e
     subst e
     obtain⟨vs,ty,hh,hsz,ho,hr,_⟩:=h.dO _ _ hk
     obtain⟨ds,he,hl,hd⟩:=SV.Cj (vs:=vs.toList) hy (by simpa using hsz) (fun i v hv=>ho i v (by simpa using hv)) (fun i v c hv hc=>hr i v c (by simpa using hv) hc)
     rw[hv.lP]
     refine .e (d:=.ptr ds) (by simp[E.eval,he,D.gE]) ?_ fun _=>rfl
     have hcell:∀(j:Nat) (c:D),ds[j]? = some c→∃u,vs[j]? = some u:=fun j c hj=>⟨_,Array.getElem?_eq_getElem (by have:=(List.getElem?_eq_some_iff.1 hj).1;simp at hl;omega)⟩
     refine .ptr (val:=fun j=>vs.getD j undef) (fun j c hj=>?_) (fun j c hj=>.inr rfl) (fun j c hj=>?_) fun j c hj=>?_
     ·obtain⟨u,hu⟩:=hcell j c hj
      exact(hd j u c (by simpa using hu) hj).2
     ·obtain⟨u,hu⟩:=hcell j c hj
      rw[gD hh,Nat.zero_add,hu,Array.getD_eq_getD_getElem?,hu]
      rfl
     ·obtain⟨u,hu⟩:=hcell j c hj
      rw[Array.getD_eq_getD_getElem?,hu]
      exact(hd j u c (by simpa using hu) hj).1.keep (bW.refl _ _) (ρ.S.rN _)
    ·exact hv
   ·exact hv
  ·exact⟨ρ,h⟩
 ·exact⟨ρ,h⟩

theorem yE {k o:Nat}{f:SV→SV}{y z:bl}(hz:(σ.DA k f y).obj o=some z):(o=bN∧z=y)∨(o≠bN∧o≠k∧∃x,σ.obj o=some x∧z=x.Ut f):=by
 simp only[af.DA,af.dV] at hz
 by_cases ho:o=bN
 ·simp only[ho,if_true,Option.some.injEq] at hz
  exact .inl ⟨ho,hz.symm⟩
 ·simp only[ho,if_false,List.getD_eq_getElem?_getD,List.getElem?_set,List.length_map] at hz
  by_cases hk:k=o
  ·simp only[hk,if_true] at hz
   split at hz <;> cases hz
  ·simp only[hk,if_false,List.getElem?_map] at hz
   refine .inr ⟨ho,Ne.symm hk,?_⟩
   simp only[af.dV]
   simp only[ho,if_false,List.getD_eq_getElem?_getD]
   cases hm:σ.mem[o]? with
   | none=>rw[hm] at hz;cases hz
   | some x=>
    rw[hm] at hz
    cases x with
    | none=>cases hz
    | some x=>
     simp only[Option.map_some,Option.getD_some,Option.some.injEq] at hz
     exact⟨x,rfl,hz.symm⟩

theorem mE {ρ:dJ}{o:Nat}{x:bl}{f:SV→SV}:bY ρ o (x.Ut f)=bY ρ o x:=by
 cases x <;> rfl

theorem cu.adY (h:cu w0 X w a σ env ρ) {k:Nat} {z:bl} (hk:σ.obj k=some z) (hz:bY ρ k z (ρ.aE k)) (hro:z.ro=false) (oa:∀off,¬ρ.S (ρ.aE k) off) {cf:cz} {x x':E} (dN:σ.obj bN=some (.store cf x)) (Tb:k≠bN) {bs:List D} (jC:x.eval env=some (.st bs)) {n sz:Nat} {cs:List D}
  (GK:∃vs:Array Value,o7 w (ρ.aE k) vs SM∧vs.size=n*sz∧cs.length≤vs.size∧(∀(j:Nat) (d:D),cs[j]? = some d→d.one=true)∧∀(j:Nat) (v:Value) (d:D),vs[j]? = some v→cs[j]? = some d→bU w ρ.S v d)
  (hx':x'.eval env=some (.st (bs++[.aE SM sz cs]))) {f:SV→SV} (hf:∀v sv,ρ.S.n=bs.length→ef w { ρ with S:=ρ.S.more (ρ.aE k) n,aJ:=fun c=>ρ.aJ c∨c=ρ.aE k } env v sv→ef w { ρ with S:=ρ.S.more (ρ.aE k) n,aJ:=fun c=>ρ.aJ c∨c=ρ.aE k } env v (f sv)) (hj:f .cE=.cE) :
  cu w0 X w a (σ.DA k f (.store cf x')) env { ρ with S:=ρ.S.more (ρ.aE k) n,aJ:=fun c=>ρ.aJ c∨c=ρ.aE k }:=by
 have hle:=ρ.S.qw (ρ.aE k) n
 have Qlj:ρ.Le { ρ with S:=ρ.S.more (ρ.aE k) n,aJ:=fun c=>ρ.aJ c∨c=ρ.aE k } (fun _=>False):=⟨fun _ _=>rfl,fun _ _=>rfl,hle⟩
 obtain⟨rp,hb0,hst,_⟩:=h.dO _ _ dN
 rw[jC] at hb0
 cases hb0
 have Lj:=h.own k _ (ρ.aE k) hk hz
 have za:∀b,ρ.aJ b→b≠ρ.aE k:=fun b hb e=>Tb (h.inj k bN _ _ (ρ.aE k) hk dN hz (e ▸ hb))
 have Qhv:∀o y,o≠bN→bY { ρ with S:=ρ.S.more (ρ.aE k) n,aJ:=fun c=>ρ.aJ c∨c=ρ.aE k } o y=bY ρ o y∨∃cf x,y=.store cf x:=by
  intro o y ho
  cases y with
  | store cf x=>exact .inr ⟨cf,x,rfl⟩
  | _=>exact .inl rfl
 have IN:∀o y,o≠bN→σ.obj o=some y→bY { ρ with S:=ρ.S.more (ρ.aE k) n,aJ:=fun c=>ρ.aJ c∨c=ρ.aE k } o y=bY ρ o y:=by
  intro o y ho hy
  rcases Qhv o y ho with g | ⟨cf,x,rfl⟩
  ·exact g
  ·obtain⟨_,_,_,e⟩:=h.dO o _ hy
   exact absurd e ho
 have hrd:∀v sv,ef w ρ env v sv→ef w { ρ with S:=ρ.S.more (ρ.aE k) n,aJ:=fun c=>ρ.aJ c∨c=ρ.aE k } env v (f sv):=fun v sv hv=>hf v sv hst.n (hv.Bv (bW.refl _ _) Qlj fun _ hf=>hf.elim)
 refine⟨by simpa[af.DA] using h.size,fun t=>?_,fun o y hy=>?_,fun o o' y y' b h1 h2 tM tK=>?_,fun o y b hy hb=>?_,h.cells,h.os,h.tape,h.output,h.grown,h.old,Sets.le_trans h.sub hle,h.new,h.zT,h.hold⟩
 ·have IJ:(σ.DA k f (.store cf x')).tmp t=f (σ.tmp t):=by
   simp only[af.DA,af.gw,List.getD_eq_getElem?_getD,List.getElem?_map]
   cases σ.tmps[t]? with
   | none=>exact hj.symm
   | some _=>rfl
  rw[IJ]
  exact hrd _ _ (h.tmps t)
 ·rcases yE hy with⟨rfl,rfl⟩ | ⟨ho,hok,y1,hy1,rfl⟩
  ·refine⟨_,hx',pK hst (bW.refl _ _) rfl (fun i x hi hx=>⟨hi,za _ (hst.jl hi hx),rfl⟩) (fun _=>Iff.rfl) (fun e sz' cs' he=>?_) (fun dL he=>by cases he) oa,rfl⟩
   cases he
   exact GK
  ·have:=(h.dO o y1 hy1).Bv (bW.refl _ _) Qlj (fun e=>absurd e ho) (fun hf=>hf) (fun _ hf=>hf.elim) (fun _ _=>rfl) (fun b off _ hs=>hs)
   cases y1 with
   | box cs=>
    obtain⟨vs,ty,g1,g2,g3,g4,g5⟩:=this
    refine⟨vs,ty,g1,by simpa using g2,g3,fun i v c hv hc=>?_,g5⟩
    simp only[List.getElem?_map,Option.map_eq_some_iff] at hc
    obtain⟨c',zf,rfl⟩:=hc
    exact hf _ _ hst.n (g4 i v c' hv zf)
   | _=>exact this
 ·rcases yE h1 with⟨rfl,rfl⟩ | ⟨ho,hok,y1,hy1,rfl⟩ <;> rcases yE h2 with⟨rfl,rfl⟩ | ⟨ho',U9,y2,hy2,rfl⟩
  ·rfl
  ·rw[mE,IN o' y2 ho' hy2] at tK
   rcases tM with tM | rfl
   ·exact h.inj bN o' _ _ b dN hy2 tM tK
   ·exact absurd (h.inj o' k _ _ _ hy2 hk tK hz) U9
  ·rw[mE,IN o y1 ho hy1] at tM
   rcases tK with tK | rfl
   ·exact h.inj o bN _ _ b hy1 dN tM tK
   ·exact absurd (h.inj o k _ _ _ hy1 hk tM hz) hok
  ·rw[mE,IN o y1 ho hy1] at tM
   rw[mE,IN o' y2 ho' hy2] at tK
   exact h.inj o o' _ _ b hy1 hy2 tM tK
 ·rcases yE hy with⟨rfl,rfl⟩ | ⟨ho,hok,y1,hy1,rfl⟩
  ·rcases hb with hb | rfl
   ·have:=h.own bN (.store cf x) b dN hb
    exact this
   ·refine⟨.inr (Lj.1.resolve_left ?_),Lj.2⟩
    rintro⟨e,_⟩
    rw[hro] at e
    cases e
  ·rw[mE,IN o y1 ho hy1] at hb
   have:=h.own o y1 b hy1 hb
   refine⟨?_,this.2⟩
   cases y1 <;> exact this.1

theorem cu.Rf (h:cu w0 X w a σ env ρ)(k:Nat):∃ρ',cu w0 X w a (σ.Rf k) env ρ':=by
 unfold af.Rf
 split
 ·rename_i cf hx dN
  split
  ·exact⟨ρ,h⟩
  obtain⟨bs,jC,hst,_⟩:=h.dO _ _ dN
  split
  ·rename_i x sz hk
   split
   ·rename_i hsz
    have Tb:k≠bN:=fun e=>by rw[e,dN] at hk;cases hk
    obtain⟨vs,ty,es,hh,uT,hz,hvs,hr,hval,hm,oa⟩:=h.dO _ _ hk
    have hrow:mj w ρ.S sz vs.toList es:=⟨by simpa using hvs,hz,fun i e j d he hd=>by
     obtain⟨g1,v,g2,g3⟩:=hr i e j d he hd
     exact⟨g1,v,by simpa using g2,g3⟩⟩
    obtain⟨hall,hfl,hfr⟩:=hrow.flat hsz
    have hone:(Qrj es).all (·.one)=true:=List.all_eq_true.2 fun d hd=>by
     obtain⟨j,hj⟩:=List.getElem?_of_mem hd
     have hjl:=(List.getElem?_eq_some_iff.1 hj).1
     exact(hfr j vs.toList[j] d (by rw[List.getElem?_eq_getElem (by rw[←hfl];exact hjl)]) hj).2
    refine⟨_,h.adY (n:=es.length) (cs:=Qrj es) hk rfl rfl oa dN Tb jC ⟨vs,⟨ty,hh,.inl rfl⟩,hvs,by rw[hfl];simp,fun j d hj=>List.all_eq_true.1 hone d (List.mem_of_getElem? hj),fun j v d hv hd=>(hfr j v d (by simpa using hv) hd).1⟩ (by simp only[E.eval,jC,uT,Option.bind_some,D.a_];rw[if_pos ⟨hall,hone⟩]) (fun v sv hn hv=>?_) rfl⟩
    unfold SV.adX
    split
    ·rename_i o
     split
     ·rename_i e
      subst e
      rw[hv.sH]
      refine .e (d:=.sl bs.length 0 es.length) (by simp only[E.eval,jC,uT];rfl) ?_ fun _=>rfl
      show bU w _ (ρ.val o) _
      rw[hval]
      have:=bU.sl (w:=w) (S:=ρ.S.more (ρ.aE o) es.length) (i:=bs.length) (off:=0) (len:=es.length) (c:=es.length) (by simp[Sets.more,hn]) (Nat.le_refl _) hm (fun _=>by simp[Sets.more,hn])
      have hl:(ρ.S.more (ρ.aE o) es.length).loc bs.length=ρ.aE o:=by simp[Sets.more,hn]
      rwa [hl] at this
     ·exact hv
    ·exact hv
   ·exact⟨ρ,h⟩
  ·rename_i cs hk
   split
   ·rename_i y hy
    have Tb:k≠bN:=fun e=>by rw[e,dN] at hk;cases hk
    obtain⟨vs,ty,hh,hsz,ho,hr,oa⟩:=h.dO _ _ hk
    obtain⟨ds,he,hl,hd⟩:=SV.Cj (vs:=vs.toList) hy (by simpa using hsz) (fun i v hv=>ho i v (by simpa using hv)) (fun i v c hv hc=>hr i v c (by simpa using hv) hc)
    have hl':ds.length=vs.size:=by simpa using hl.symm
    have hone:ds.all (·.one)=true:=List.all_eq_true.2 fun d FO=>by
     obtain⟨j,hj⟩:=List.getElem?_of_mem FO
     have hjl:=(List.getElem?_eq_some_iff.1 hj).1
     exact(hd j vs.toList[j] d (by rw[List.getElem?_eq_getElem (by simp;omega)]) hj).2
    refine⟨_,h.adY (n:=1) (cs:=ds) hk rfl rfl oa dN Tb jC ⟨vs,⟨ty,hh,.inl rfl⟩,by rw[hsz,Nat.one_mul],by omega,fun j d hj=>List.all_eq_true.1 hone d (List.mem_of_getElem? hj),fun j v d hv JJ=>(hd j v d (by simpa using hv) JJ).1⟩ (by simp only[E.eval,jC,he,Option.bind_some,D.cI];rw[if_pos hone]) (fun v sv hn hv=>?_) rfl⟩
    unfold SV.adZ
    split
    ·rename_i o
     split
     ·rename_i e
      subst e
      rw[hv.lP]
      refine .e (d:=.loc bs.length 0) (by simp only[E.eval,jC];rfl) ?_ fun _=>rfl
      have:=bU.loc (w:=w) (S:=ρ.S.more (ρ.aE o) 1) (i:=bs.length) (off:=0) (by simp[Sets.more,hn])
      have hl:(ρ.S.more (ρ.aE o) 1).loc bs.length=ρ.aE o:=by simp[Sets.more,hn]
      rwa [hl] at this
     ·exact hv
    ·exact hv
   ·exact⟨ρ,h⟩
  ·exact⟨ρ,h⟩
 ·exact⟨ρ,h⟩

theorem cu.td (h:cu w0 X w a σ env ρ)(k:Nat):∃ρ',cu w0 X w a (td k σ) env ρ':=by
 unfold Go.Am.td
 split
 ·exact h.Rf _
 ·exact h.Tf k

theorem cu.vh:∀(ks:List Nat) {σ:af} {ρ:dJ},cu w0 X w a σ env ρ→∃ρ',cu w0 X w a (vh ks σ) env ρ'
 | [],_,ρ,h=>⟨ρ,h⟩
 | k :: ks,_,_,h=>by
  obtain⟨_,h'⟩:=h.td k
  exact cu.vh ks h'

theorem cu.rW (h:cu w0 X w a σ env ρ)(id:Nat):∃ρ',cu w0 X w a (rW id σ) env ρ':=by
 unfold Go.Am.rW
 split
 ·exact h.vh _
 ·exact⟨ρ,h⟩

theorem YE (k:Nat)(σ:af):(σ.Tf k).tmps.length=σ.tmps.length∧(σ.Tf k).mem.length=σ.mem.length:=by
 unfold af.Tf
 split
 ·refine⟨by simp,?_⟩
  show(σ.setObj k none).mem.length=_
  exact af.fG _ _ _
 ·split
  ·refine⟨by simp,?_⟩
   show(σ.setObj k none).mem.length=_
   exact af.fG _ _ _
  ·exact⟨rfl,rfl⟩
 ·exact⟨rfl,rfl⟩

theorem Km (k:Nat)(f:SV→SV)(y:bl)(σ:af):(σ.DA k f y).tmps.length=σ.tmps.length∧(σ.DA k f y).mem.length=σ.mem.length:=by
 simp[af.DA]

theorem Ou (k:Nat)(σ:af):(td k σ).tmps.length=σ.tmps.length∧(td k σ).mem.length=σ.mem.length:=by
 unfold td
 split
 ·unfold af.Rf
  split
  ·split
   ·exact⟨rfl,rfl⟩
   split
   ·split
    ·exact Km _ _ _ _
    ·exact⟨rfl,rfl⟩
   ·split
    ·exact Km _ _ _ _
    ·exact⟨rfl,rfl⟩
   ·exact⟨rfl,rfl⟩
  ·exact⟨rfl,rfl⟩
 ·exact YE k σ

theorem EC:∀(ks:List Nat) (σ:af),(vh ks σ).tmps.length=σ.tmps.length∧(vh ks σ).mem.length=σ.mem.length
 | [],_=>⟨rfl,rfl⟩
 | k :: ks,σ=>by
  have h1:=EC ks (td k σ)
  have h2:=Ou k σ
  exact⟨h1.1.trans h2.1,h1.2.trans h2.2⟩

theorem R8 (id:Nat)(σ:af):(rW id σ).tmps.length=σ.tmps.length∧(rW id σ).mem.length=σ.mem.length:=by
 unfold rW
 split
 ·exact EC _ _
 ·exact⟨rfl,rfl⟩

end
end
end

section
noncomputable section

/-! ## evaluation ahead of use (for Qiw kernel: Qiw functions change nothing) -/

def Ho (act:List (E×Bool))(ix:Nat)(e:j5):SV×Option Bind:=
 match act,e.bind,e.val with
 | _ :: _,none,.e x s=>if isAtom ix x then(e.val,none) else(.e (.sym ix) s,some (.ev x))
 | _,b,v=>(v,b)

def CA (o:Oper):Bool:=match o.op with | .call c=>(match c.callee with | .value _=>true | _=>false) | _=>false

def Zb (o:Oper)(cf:Option cz):Bool:=match o.op with | .call c=>Ig cf c.callee | _=>false

def nI (o:Oper)(hO:Option bl)(ix:Nat)(e:j5):Bool:=
 !Zb o (zy hO)&&(CA o&&e.del.isNone&&match hO,e.eM with
  | some (.store cf h),some (k,.store Qdy (.Qrx 1 (.sym j)))=>!cf.ro&&decide (k=bN)&&decide (cf=Qdy)&&decide (j=ix)&&(match e.bind with
   | some (.bQ [] _ h' _ _)=>h'.same h
   | some (.fC [] _ h' _ _)=>h'.same h
   | _=>false)
  | _,_=>false)

def R5 (P:Program)(o:Oper)(σ:af)(act:List (E×Bool))(ix:Nat):Option j5:=
 match act with
 | []=>none
 | act=>match o.op with
  | .call c=>(match c.callee with
   | .builtin .append=>(match Ii false P o (σ.ct act) σ.obj ix with
    | some e=>(match e.eM with
     | some (d,.tok _ _)=>if d≠bN∧o.dst=some d then some ⟨.cond act e.val,e.eM,e.del,rU act e.bind⟩ else none
     | _=>none)
    | none=>none)
   | _=>none)
  | _=>none

def oe (P:Program)(ops:Array Oper)(o:Oper)(σ:af)(ix:Nat):Option j5:=
 match Hq ops σ ix o.guard with
 | none=>none
 | some act=>match R5 P o σ act ix with
  | some e=>some e
  | none=>match BN P o σ.ct act σ.obj ix with
  | none=>none
  | some e=>if e.eM.isNone&&e.del.isNone then some ⟨Tm act (Ho act ix e).1,none,none,rU act (Ho act ix e).2⟩ else match act with
   | []=>if Ad o σ e then some e else none
   | act=>if nI o (σ.obj bN) ix e then some ⟨.cond act e.val,e.eM,none,rU act e.bind⟩ else none

def Qck (σ:af)(ob:Nat):Prop:=(σ.obj ob).isNone=true∧σ.Qrv ob=true

def rX (σ:af)(o:Oper)(e:j5):Bool:=!jL o||match e.eM with | some u=>decide (u.1=bN)||((σ.obj u.1).isNone&&σ.Qrv u.1) | none=>true

def nT (P:Program)(ops:Array Oper)(o:Oper)(σ:af)(ix:Nat):Option (af×Option Bind):=
 match oe P ops o σ ix with
 | some e=>if qB σ o&&rX σ o e then some (σ.app o.dst e,e.bind) else none
 | none=>none

theorem wG {P:Program}{ops:Array Oper}{o:Oper}{σ:af}{ix:Nat}{e:j5}(h:oe P ops o σ ix=some e)(hd:qB σ o=true)(hf:jL o=true→∀u,e.eM=some u→u.1=bN∨Qck σ u.1) :
  nT P ops o σ ix=some (σ.app o.dst e,e.bind):=by
 have:rX σ o e=true:=by
  unfold rX
  cases hn:jL o with
  | false=>rfl
  | true=>
   cases hu:e.eM with
   | none=>rfl
   | some u=>
    rcases hf hn u hu with h1 | h1
    ·simp[h1]
    ·simp[h1.1,h1.2]
 unfold nT
 rw[h]
 simp[hd,this]

section
variable {P:Program} {w w0:World} {X:kG} {a:Act} {σ:af} {env:List D} {ρ:dJ}

theorem WH {act:List (E×Bool)}{ix:Nat}{e:j5}(h:cn P env ix (Ho act ix e).2):cn P env ix e.bind∧∀(w:World) (ρ:dJ) (v:Value),ef w ρ env v e.val→ef w ρ env v (Ho act ix e).1:=by
 unfold Ho at h ⊢
 split at h
 ·rename_i hb hv
  split at h
  ·rename_i xF
   rw[if_pos xF]
   exact⟨by rw[hb];trivial,fun _ _ _ h=>h⟩
  ·rename_i xF
   rw[if_neg xF]
   refine⟨by rw[hb];trivial,fun w ρ v hs=>?_⟩
   rw[hv] at hs
   obtain⟨d,hx,cW⟩:=h
   obtain⟨d',hx',hr,h1⟩:=hs.kC
   rw[hx] at hx'
   cases hx'
   exact .e (by simp only[E.eval];exact cW) hr h1
 ·exact⟨h,fun _ _ _ h=>h⟩

theorem Om {o:Oper}{act:List (E×Bool)}{ix:Nat}{e:j5}(h:cu w0 X w a σ env ρ)(hm:σ.mem.length=σ.tmps.length)(hd:∀d,o.dst=some d→d<σ.tmps.length)(hg:R5 P o σ act ix=some e)(hf:rX σ o e=true)(hb:cn P env ix e.bind)(qW:∀p,p∈act→∃d,p.1.eval env=some d) :
  (bI env act→gq P o a w w0 X (σ.app o.dst e) env)∧(¬bI env act→∃ρ',cu w0 X w (a.put o.dst undef) (σ.app o.dst e) env ρ'):=by
 unfold R5 at hg
 split at hg
 ·cases hg
 rename_i hact
 split at hg
 ·rename_i c ho
  split at hg
  ·rename_i ku
   split at hg
   ·rename_i e0 hl
    split at hg
    ·rename_i d ty sz aaW
     split at hg
     ·rename_i hc
      obtain⟨hne,ig⟩:=hc
      cases hg
      have cP:=hd d ig
      have hnew:jL o=true:=by simp[jL,ho,ku]
      simp only[rX,hnew,aaW,Bool.not_true,Bool.false_or,Bool.or_eq_true,decide_eq_true_eq,Bool.and_eq_true,Option.isNone_iff_eq_none] at hf
      obtain⟨hfree,ox⟩:=hf.resolve_left hne
      have ox:=zH ox
      refine⟨fun ha=>?_,fun ha=>?_⟩
      ·have hv:=fun x=>uC (a:=a) h ha x
       have hf':∀u,e0.eM=some u→σ.obj u.1=none∧σ.aT u.1:=fun u hu=>by
        rw[aaW] at hu
        cases hu
        exact⟨hfree,ox⟩
       have hb0:=s_ ha hb
       have hok:gq P o a w w0 X (σ.app o.dst e0) env:=by
        unfold Ii at hl
        rw[ho] at hl
        obtain⟨callee,args,ts⟩:=c
        simp only at ku
        subst ku
        simp only at hl
        split at hl
        ·rename_i s x t t' hargs hts
         split at hl
         ·rename_i WY
          subst WY
          have e1:args=#[s,x]:=by rw[←Array.toArray_toList (xs:=args),hargs]
          have e2:ts=#[t,t]:=by rw[←Array.toArray_toList (xs:=ts),hts]
          subst e1 e2
          split at hl
          ·rename_i wm
           exact uM ho wm hl (hv x) h hd hm hb0 hf'
          ·exact wK ho hl (hv s) (hv x) h hd hm hb0 hf'
         ·cases hl
        ·cases hl
       intro Q
       refine zV (hok Q) ?_
       rintro a' w' ⟨ρ',bn⟩
       refine⟨ρ',?_⟩
       unfold af.app at bn ⊢
       rw[ig] at bn ⊢
       simp only at bn ⊢
       generalize hσ:(σ.jM e0.del).sets e0.eM=σ1 at bn ⊢
       have W0:d<σ1.tmps.length:=by
        rw[←hσ]
        unfold af.jM af.sets
        cases e0.del <;> cases e0.eM <;> simpa[af.aZ] using cP
       refine⟨by simpa[af.fM] using bn.size,fun t=>?_,bn.dO,bn.inj,bn.own,bn.cells,bn.os,bn.tape,bn.output,bn.grown,bn.old,bn.sub,bn.new,bn.zT,bn.hold⟩
       have:=bn.tmps t
       rw[af.yd W0] at this ⊢
       split
       ·rename_i e;rw[if_pos e] at this;exact .cond qW (fun _=>this) fun hn=>absurd ha hn
       ·rename_i e;rw[if_neg e] at this;exact this
      ·have AR:cu w0 X w a (σ.jM e0.del) env ρ∧(σ.jM e0.del).obj d=none∧(σ.jM e0.del).aT d∧(σ.jM e0.del).tmps.length=σ.tmps.length∧(σ.jM e0.del).mem.length=σ.mem.length:=by
        cases e0.del with
        | none=>exact⟨h,hfree,ox,rfl,rfl⟩
        | some k=>
         refine⟨h.V7 k,?_,wX ox,by rw[af.jM,af.aZ],by rw[af.jM,af.fG]⟩
         cases hx:(σ.setObj k none).obj d with
         | none=>exact hx
         | some y=>
          have:=(mP hx).2
          rw[hfree] at this
          cases this
       obtain⟨d1,d2,d3,d4,d5⟩:=AR
       have bn:=d1.Fl (w':=w) (k:=d) (by rw[d5,hm];exact cP) d2 d3 (World.ownsRow_nil w 0 ty sz) (bW.refl _ _) (fun _ _ _ _ _=>⟨rfl,by simp[Value.ownBlock]⟩) (fun _ hb=>by simp[Value.ownBlock] at hb) (fun _ hb=>by simp[Value.ownBlock] at hb) rfl ⟨rfl,Nat.le_refl _⟩ rfl (Nat.le_refl _) fun _ _ _=>rfl
       refine⟨ρ.lR d (.slice none 0 0) (0*sz),?_⟩
       unfold af.app
       rw[aaW]
       exact bn.put (by intro d' e;rw[af.aZ,d4];exact hd d' e) (.cond qW (fun hh=>absurd hh ha) fun _=>rfl)
     ·cases hg
    ·cases hg
   ·cases hg
  ·cases hg
 ·cases hg

theorem Bj {ops:Array Oper} {o:Oper} {ix:Nat} {σ':af} {b:Option Bind} (h:cu w0 X w a σ env ρ) (hm:σ.mem.length=σ.tmps.length) (cW:ix≤env.length) (hsz:∀(j d:Nat),(ops[j]?).bind (fun(o:Oper)=>o.dst)=some d→d<σ.tmps.length)
  (hs:nT P ops o σ ix=some (σ',b)) (hb:cn P env ix b):(Region.wanted o (yielded ops a.tmps)=true∧gq P o a w w0 X σ' env)∨(Region.wanted o (yielded ops a.tmps)=false∧∃ρ',cu w0 X w (a.put o.dst undef) σ' env ρ'):=by
 unfold nT at hs
 split at hs
 ·rename_i e he
  split at hs
  ·rename_i hc
   simp only[Bool.and_eq_true] at hc
   cases hs
   have hd:=xM hc.1
   unfold oe at he
   split at he
   ·cases he
   ·rename_i act hact
    obtain⟨qW,Qaj⟩:=ML h cW hsz hact
    split at he
    ·rename_i eg hg
     cases he
     obtain⟨k1,k2⟩:=Om h hm hd hg hc.2 hb qW
     by_cases ha:bI env act
     ·exact .inl ⟨Qaj.2 ha,k1 ha⟩
     ·exact .inr ⟨by rw[←Bool.not_eq_true,Qaj];exact ha,k2 ha⟩
    split at he
    ·cases he
    ·rename_i e0 hl
     split at he
     ·rename_i hn
      simp only[Bool.and_eq_true,Option.isNone_iff_eq_none] at hn
      cases he
      have nD:∀sv,σ.app o.dst ⟨sv,none,none,rU act (Ho act ix e0).2⟩=σ.put o.dst sv:=fun _=>rfl
      rw[nD]
      by_cases ha:bI env act
      ·refine .inl ⟨Qaj.2 ha,?_⟩
       obtain⟨hbb,hatom⟩:=WH (s_ ha hb)
       have hok:=vm h ha hl hd hm hbb (by simp[AS,hn.1]) (fun _=>by simp[hn.1,hn.2])
       have VE:σ.app o.dst e0=σ.put o.dst e0.val:=by simp[af.app,af.jM,af.sets,hn.1,hn.2]
       rw[VE] at hok
       intro Q
       refine zV (hok Q) ?_
       rintro a' w' ⟨ρ',bn⟩
       refine⟨ρ',?_⟩
       cases JI:o.dst with
       | none=>rw[JI] at bn;exact bn
       | some d=>
        rw[JI] at bn
        have cP:=hd d JI
        refine⟨by simpa[af.fM] using bn.size,fun t=>?_,bn.dO,bn.inj,bn.own,bn.cells,bn.os,bn.tape,bn.output,bn.grown,bn.old,bn.sub,bn.new,bn.zT,bn.hold⟩
        have:=bn.tmps t
        rw[af.yd cP] at this ⊢
        split
        ·rename_i e;rw[if_pos e] at this;exact Xd qW ha (hatom _ _ _ this)
        ·rename_i e;rw[if_neg e] at this;exact this
      ·refine .inr ⟨by rw[←Bool.not_eq_true,Qaj];exact ha,ρ,h.put hd ?_⟩
       cases act with
       | nil=>exact absurd o4 ha
       | cons p r=>exact .cond qW (fun hh=>absurd hh ha) fun _=>rfl
     ·split at he
      ·split at he
       ·rename_i UZ
        cases he
        have ha:bI env []:=o4
        refine .inl ⟨Qaj.2 ha,vm h ha hl hd hm hb ?_ fun _ _=>rfl⟩
        intro hnew u hu hne
        have hf:=hc.2
        simp only[rX,hnew,hu,Bool.not_true,Bool.false_or,Bool.or_eq_true,decide_eq_true_eq,Bool.and_eq_true,Option.isNone_iff_eq_none] at hf
        have hf:=hf.resolve_left hne
        exact⟨hf.1,zH hf.2,J9 UZ hnew hu hne⟩
       ·cases he
      ·rename_i hne
       split at he
       ·rename_i MD
        cases he
        unfold nI at MD
        simp only[Bool.and_eq_true] at MD
        obtain⟨_,⟨GP,AR⟩,MD⟩:=MD
        split at MD
        ·rename_i cf hE k Qdy j dN Mz
         simp only[Bool.and_eq_true,Bool.not_eq_true',decide_eq_true_eq] at MD
         obtain⟨⟨⟨⟨hro,rfl⟩,rfl⟩,rfl⟩,hbm⟩:=MD
         have AR:e0.del=none:=by simpa using AR
         have nD:∀sv b,σ.app o.dst ⟨sv,e0.eM,none,b⟩=(σ.setObj bN (some (.store cf (.Qrx 1 (.sym j))))).put o.dst sv:=fun sv b=>by simp[af.app,af.jM,af.sets,Mz]
         rw[nD]
         have hnew:jL o=false:=by
          unfold CA at GP
          unfold jL
          split at GP
          ·rename_i c hop
           rw[hop]
           split at GP
           ·rename_i g hc
            simp[hc]
           ·cases GP
          ·cases GP
         by_cases ha:bI env act
         ·refine .inl ⟨Qaj.2 ha,?_⟩
          have hok:=vm h ha hl hd hm (s_ ha hb) (by simp[AS,hnew]) (fun hn=>by rw[hnew] at hn;cases hn)
          have VE:σ.app o.dst e0=(σ.setObj bN (some (.store cf (.Qrx 1 (.sym j))))).put o.dst e0.val:=by rw[←nD e0.val e0.bind,←AR]
          rw[VE] at hok
          intro Q
          refine zV (hok Q) ?_
          rintro a' w' ⟨ρ',bn⟩
          refine⟨ρ',?_⟩
          cases JI:o.dst with
          | none=>rw[JI] at bn;exact bn
          | some d=>
           rw[JI] at bn
           have cP:d<(σ.setObj bN (some (.store cf (.Qrx 1 (.sym j))))).tmps.length:=by rw[af.aZ];exact hd d JI
           refine⟨by simpa[af.fM] using bn.size,fun t=>?_,bn.dO,bn.inj,bn.own,bn.cells,bn.os,bn.tape,bn.output,bn.grown,bn.old,bn.sub,bn.new,bn.zT,bn.hold⟩
           have:=bn.tmps t
           rw[af.yd cP] at this ⊢
           split
           ·rename_i e;rw[if_pos e] at this;exact .cond qW (fun _=>this) fun hn=>absurd ha hn
           ·rename_i e;rw[if_neg e] at this;exact this
         ·refine .inr ⟨by rw[←Bool.not_eq_true,Qaj];exact ha,?_⟩
          obtain⟨bs,jC,hst,_⟩:=h.dO _ _ dN
          have hna:¬bI env (act++[]):=by rw[List.append_nil];exact ha
          have cW:(E.Qrx 1 (.sym j)).eval env=some (.st bs):=by
           split at hbm
           ·rename_i g h' args rs abv
            rw[abv] at hb
            obtain⟨st,d,h2,g0,g1,_,g3⟩:=hb
            have:=E.dU hbm
            subst this
            rw[jC] at g0
            cases g0
            simp only[E.eval,g1,Option.bind_some,D.Qrx,g3 hna]
            rfl
           ·rename_i x h' args rs abv
            rw[abv] at hb
            obtain⟨st,d,h2,g0,g1,_,g3⟩:=hb
            have:=E.dU hbm
            subst this
            rw[jC] at g0
            cases g0
            simp only[E.eval,g1,Option.bind_some,D.Qrx,g3 hna]
            rfl
           ·cases hbm
          have bn:=h.Qew (x':=.Qrx 1 (.sym j)) dN hro cW hst (bW.refl _ _) (Sets.le_refl _) rfl ⟨rfl,Nat.le_refl _⟩ rfl (Nat.le_refl _) (fun _ _ _=>rfl) (fun b hb=>⟨.inl hb,gZ h dN b hb⟩) (fun b o hs=>.inl hs) h.cells
          exact⟨_,bn.put (by rw[af.aZ];exact hd) (.cond qW (fun hh=>absurd hh ha) fun _=>rfl)⟩
        ·cases MD
       ·cases he
  ·cases hs
 ·cases hs

theorem Bk {ops:Array Oper}{o:Oper}{ix:Nat}{x:af×Option Bind}(hs:nT P ops o σ ix=some x):vP o=true:=by
 unfold nT at hs
 split at hs
 ·split at hs
  ·rename_i hc
   simp only[Bool.and_eq_true] at hc
   exact vo hc.1
  ·cases hs
 ·cases hs

theorem Jv (σ:af)(dst:Option Tmp)(e:j5):(σ.app dst e).tmps.length=σ.tmps.length∧(σ.app dst e).mem.length=σ.mem.length:=by
 unfold af.app af.jM af.sets
 cases e.del <;> cases e.eM <;> cases dst <;> simp[af.fM,af.aZ,af.fG]

theorem Q6 {ops:Array Oper}{o:Oper}{ix:Nat}{σ':af}{b:Option Bind}(hs:nT P ops o σ ix=some (σ',b)):σ'.tmps.length=σ.tmps.length∧σ'.mem.length=σ.mem.length:=by
 unfold nT at hs
 split at hs
 ·split at hs
  ·cases hs;exact Jv _ _ _
  ·cases hs
 ·cases hs

def wh (P:Program)(env:List D)(ix:Nat)(bs:List Bind):Prop:=∀i b,bs[i]? = some b→cn P env (ix+i) (some b)

end
end
end

section
noncomputable section

/-! ## what an operation looks at -/

section congr
variable {P:Program} {obj jh:Nat→Option bl} {ix:Nat}

theorem wV {agg:Bool}{n:Nat}{x:SV}(h:∀ob,x.aT ob=false→obj ob=jh ob):x.cellsOf agg n ix obj=x.cellsOf agg n ix jh:=by
 unfold SV.cellsOf
 split
 ·rfl
 ·cases x <;> try rfl
  ·rename_i y s;cases s <;> rfl
  ·rename_i o
   simp only
   rw[h o (by simp[SV.aT])]

theorem KR {t:TypeId}{x:SV}(h:∀ob,x.aT ob=false→obj ob=jh ob)(hh:(∃e s,x=.e e s)→obj bN=jh bN):GB P t x obj ix=GB P t x jh ix:=by
 unfold GB hOf
 cases x <;> try rfl
 ·rw[hh ⟨_,_,rfl⟩]
 ·rename_i ob off
  simp only
  rw[h ob (by simp[SV.aT])]
 ·rename_i ob i sz off
  simp only
  rw[h ob (by simp[SV.aT])]

theorem Ib {t:TypeId}{x y:SV}(h:∀ob,x.aT ob=false→obj ob=jh ob)(h':∀ob,y.aT ob=false→obj ob=jh ob)(hh:(∃e s,x=.e e s)→obj bN=jh bN):AA P t x y obj ix=AA P t x y jh ix:=by
 unfold AA
 have hc:∀agg n,y.cellsOf agg n ix obj=y.cellsOf agg n ix jh:=fun agg n=>wV h'
 cases x <;> try rfl
 ·rw[hh ⟨_,_,rfl⟩]
 ·rename_i ob off
  simp only[hc]
  rw[h ob (by simp[SV.aT])]
 ·rename_i ob i sz off
  simp only
  rw[h ob (by simp[SV.aT])]

theorem AF {t:TypeId}{x i:SV}(h:∀ob,x.aT ob=false→obj ob=jh ob):nv P t x i obj ix=nv P t x i jh ix:=by
 unfold nv
 cases x <;> try rfl
 rename_i ob
 simp only
 rw[h ob (by simp[SV.aT])]

theorem NI {t:TypeId}{x:SV}(h:∀ob,x.aT ob=false→obj ob=jh ob):RD P t x obj ix=RD P t x jh ix:=by
 unfold RD
 cases x <;> try rfl
 rename_i ob
 simp only
 rw[h ob (by simp[SV.aT])]

theorem NP {t:TypeId}{x:SV}{dst:Option Tmp}(h:∀ob,x.aT ob=false→obj ob=jh ob):NQ P t x dst obj ix=NQ P t x dst jh ix:=by
 unfold NQ
 split
 ·rw[wV h]
 ·rfl

theorem Hf {obj:Nat→Option bl}{cf:cz}(h:jv obj=some cf):∃x,obj bN=some (.store cf x):=by
 unfold jv at h
 split at h
 ·rename_i x hx
  cases h
  exact⟨_,hx⟩
 ·cases h

theorem KG {o:Oper} {ct jg:List (E×Bool)→Operand→SV} {act:List (E×Bool)} (hv:∀act x,x∈o.op.operands→jg act x=ct act x)
  (ho:∀x ob,x∈o.op.operands→(ct act x).aT ob=false→obj ob=jh ob) {m:Operand→Bool} (hM:∀act x,x∈o.op.operands→(∃e s,ct act x=.e e s)→m x=true) (hF:∀act g,ct act (.func g)=.func (.func g) []) (hC:jv obj=jv jh) (hH:iq o m (jv obj)=true→obj bN=jh bN):Gy P o jg act jh ix=Gy P o ct act obj ix:=by
 unfold Gy
 unfold iq at hH
 generalize hop:o.op=op at *
 cases op <;> try rfl
 all_goals try simp only[Op.operands] at hv ho hM
 case move x=>simp[hv]
 case assign x=>simp[hv]
 case pick c a b=>simp[hv]
 case box t x=>simp only;rw[hv act x (by simp),NP (fun ob h=>ho x ob (by simp) h)]
 case load t x=>simp only;rw[hv act x (by simp),KR (fun ob h=>ho x ob (by simp) h) (fun he=>hH (hM act x (by simp) he))]
 case store t x y=>simp only;rw[hv act x (by simp),hv act y (by simp),Ib (fun ob h=>ho x ob (by simp) h) (fun ob h=>ho y ob (by simp) h) (fun he=>hH (hM act x (by simp) he))]
 case nilCheck x=>simp[hv]
 case binOp=>simp[hv]
 case unOp=>simp[hv]
 case convert=>simp[hv]
 case fieldAddr=>simp[hv]
 case indexAddr t x i=>simp only;rw[hv act x (by simp),hv act i (by simp),AF (fun ob h=>ho x ob (by simp) h)]
 case extract=>simp[hv]
 case call c=>
  obtain⟨callee,args,ts⟩:=c
  simp only
  have hargs:∀x,x∈args→x∈(Call.mk callee args ts).operands:=by
   intro x hx
   unfold Call.operands
   simp
   cases callee <;> simp[hx]
  split
  ·split
   ·rename_i x t hx ht
    have:x∈args:=by
     have:x∈args.toList:=by rw[hx];simp
     simpa using this
    rw[hv act x (hargs x this),NI (fun ob h=>ho x ob (hargs x this) h)]
   ·rfl
  rotate_left
  ·rename_i rc name
   have hr:rc∈(Call.mk (.invoke rc name) args ts).operands:=by
    unfold Call.operands
    simp
   rw[hv act rc hr]
   have:args.toList.map (jg act)=args.toList.map (ct act):=List.map_congr_left fun x hx=>hv act x (hargs x (by simpa using hx))
   rw[this]
   have hHH:=hH rfl
   unfold linv K0
   rw[hHH]
  rotate_left
  ·rename_i f
   have hf:f∈(Call.mk (.value f) args ts).operands:=by
    unfold Call.operands
    simp
   rw[hv act f hf]
   have:args.toList.map (jg act)=args.toList.map (ct act):=List.map_congr_left fun x hx=>hv act x (hargs x (by simpa using hx))
   rw[this]
   cases wo:Ig (jv obj) (.value f) with
   | false=>
    have hHH:=hH (by simp only[wo];rfl)
    unfold K0 Ip
    rw[hHH]
   | true=>
    unfold Ig at wo
    split at wo
    ·rename_i g hg
     cases hg
     split at wo
     ·rename_i cf Ce
      rw[hF act g]
      simp only
      obtain⟨h1,e1⟩:=Hf Ce
      obtain⟨h2,e2⟩:=Hf (hC ▸ Ce)
      unfold K0
      rw[e1,e2]
      split
      ·split
       ·rfl
       ·cases scalars P _ with
        | none=>rfl
        | some rs=>
         cases pG (List.map (ct act) args.toList) with
         | none=>rfl
         | some xs=>simp only[wo,if_true]
      ·rfl
     ·cases wo
    ·cases wo
  ·rfl
 case build t parts=>
  simp only
  have h1:parts.toList.map (fun p=>(p.1,Bq jh (jg act p.2)))=parts.toList.map fun p=>(p.1,Bq obj (ct act p.2)):=List.map_congr_left fun p hp=>by
   have hm:p.2∈(parts.toList.map (·.2)).toArray:=by simp;exact⟨p.1,by simpa using hp⟩
   rw[hv act p.2 hm]
   congr 1
   unfold Bq
   split <;> try rfl
   rename_i k hk
   rw[ho p.2 k hm (by rw[hk];simp[SV.aT])]
  unfold Cy
  rw[h1]
 case makeFunc fn first bT=>
  simp only
  have h1:first.toList.map (jg act)=first.toList.map (ct act):=List.map_congr_left fun x hx=>hv act x (by simp;exact .inl (by simpa using hx))
  have h2:bT.toList.map (jg act)=bT.toList.map (ct act):=List.map_congr_left fun x hx=>hv act x (by simp;exact .inr (by simpa using hx))
  rw[h1,h2]

theorem FI {t:TypeId}{s x:SV}{dst:Option Tmp}(h:∀ob,s.aT ob=false→obj ob=jh ob):vU P t s x dst obj ix=vU P t s x dst jh ix:=by
 unfold vU
 split
 ·rename_i k _
  rw[h k (by simp[SV.aT])]
 ·rfl

theorem D3 {nz:Bool}{o:Oper}{ct jg:Operand→SV}(hv:∀x,x∈o.op.operands→jg x=ct x)(ho:∀x ob,x∈o.op.operands→(ct x).aT ob=false→obj ob=jh ob):Ii nz P o jg jh ix=Ii nz P o ct obj ix:=by
 unfold Ii
 generalize hop:o.op=op at *
 cases op <;> try rfl
 case buildSlice t len parts=>
  simp only
  have:parts.toList.map (fun p=>jg p.2)=parts.toList.map fun p=>ct p.2:=List.map_congr_left fun p hp=>hv p.2 (by simp only[Op.operands,List.mem_toArray,List.mem_map];exact⟨p,hp,rfl⟩)
  unfold NG
  rw[this]
 case makeSlice t n c=>simp only;rw[hv n (by simp[Op.operands]),hv c (by simp[Op.operands])]
 case call c=>
  obtain⟨callee,args,ts⟩:=c
  simp only[Op.operands] at hv ho ⊢
  have hargs:∀x,x∈args→x∈(Call.mk callee args ts).operands:=by
   intro x hx
   unfold Call.operands
   simp
   cases callee <;> simp[hx]
  split
  ·split
   ·rename_i s x t t' hx ht
    have h1:s∈args:=by
     have:s∈args.toList:=by rw[hx];simp
     simpa using this
    have h2:x∈args:=by
     have:x∈args.toList:=by rw[hx];simp
     simpa using this
    rw[hv s (hargs s h1),hv x (hargs x h2),FI (fun ob h=>ho s ob (hargs s h1) h)]
   ·rfl
  ·rfl

theorem H7 (hC:jv obj=jv jh):DN jh=DN obj:=by unfold DN;rw[hC]

theorem Ie {nz:Bool}{o:Oper}{ct jg:Operand→SV}(hv:∀x,x∈o.op.operands→jg x=ct x):AB P nz o jg ix=AB P nz o ct ix:=by
 unfold AB
 split
 ·rename_i t parts ho
  have:parts.toList.map (fun p=>(p.1,jg p.2))=parts.toList.map fun p=>(p.1,ct p.2):=List.map_congr_left fun p hp=>by
   rw[hv p.2 (by rw[ho];simp only[Op.operands,List.mem_toArray,List.mem_map];exact⟨p,hp,rfl⟩)]
  unfold Ir
  rw[this]
 ·rw[an1 hv,KI hv]

theorem NM {o:Oper}{ct jg:Operand→SV}{act:List (E×Bool)}(hv:∀x,x∈o.op.operands→jg x=ct x)(hC:jv obj=jv jh):RE P o jg act jh ix=RE P o ct act obj ix:=by
 unfold RE
 generalize hop:o.op=op at *
 cases op <;> try (simp;done)
 case box t x=>
  have h2:=hv x (by simp[Op.operands])
  simp only[UO,hC,h2]
 case buildSlice t len parts=>
  have:parts.toList.map (fun p=>jg p.2)=parts.toList.map fun p=>ct p.2:=List.map_congr_left fun p hp=>hv p.2 (by simp only[Op.operands,List.mem_toArray,List.mem_map];exact⟨p,hp,rfl⟩)
  simp only[UO,hC,NG,this]

theorem iC (obj:Nat→Option bl):jv obj=zy (obj bN):=by
 unfold jv zy
 split <;> rfl

theorem KL {o:Oper}{ct jg:Operand→SV}{hO:Option bl}(hv:∀x,x∈o.op.operands→jg x=ct x):wJ P o jg hO ix=wJ P o ct hO ix:=by
 unfold wJ
 generalize hop:o.op=op at *
 cases op <;> try rfl
 case box t x=>simp only[hv x (by simp[Op.operands])]
 case makeSlice t n c=>simp only[hv n (by simp[Op.operands]),hv c (by simp[Op.operands])]
 case buildSlice t len parts=>
  have:parts.toList.map (fun p=>jg p.2)=parts.toList.map fun p=>ct p.2:=List.map_congr_left fun p hp=>hv p.2 (by simp only[Op.operands,List.mem_toArray,List.mem_map];exact⟨p,hp,rfl⟩)
  simp only[NG,this]
 case call c=>
  obtain⟨callee,args,ts⟩:=c
  have hargs:∀x,x∈args.toList→jg x=ct x:=fun x hx=>hv x (by
   have:x∈args:=by simpa using hx
   simp only[Op.operands,Call.operands]
   simp
   cases callee <;> simp[this])
  simp only
  split
  ·split
   ·rfl
   ·split
    ·split
     ·rename_i s x t t' hx _
      rw[hargs s (by rw[hx];simp),hargs x (by rw[hx];simp)]
     ·rfl
    ·rfl
  ·rfl

theorem KK {o:Oper}{ct:Operand→SV}{hO Yw:Option bl}{m:Operand→Bool}(hC:zy hO=zy Yw)(hM:∀x,x∈o.op.operands→(∃e s,ct x=.e e s)→m x=true)(hH:iq o m (zy hO)=true→hO=Yw):wJ P o ct Yw ix=wJ P o ct hO ix:=by
 have other:∀{hO:Option bl},zy hO=none→wJ P o ct hO ix=none:=by
  intro hO h
  unfold wJ
  split
  ·simp[zy] at h
  ·rfl
 cases hc:zy hO with
 | none=>rw[other hc,other (hC ▸ hc)]
 | some cf=>
  obtain⟨h1,rfl⟩:∃h1,hO=some (.store cf h1):=by
   unfold zy at hc
   split at hc
   ·cases hc;exact⟨_,rfl⟩
   ·cases hc
  obtain⟨h2,rfl⟩:∃h2,Yw=some (.store cf h2):=by
   rw[hc] at hC
   unfold zy at hC
   split at hC
   ·cases hC;exact⟨_,rfl⟩
   ·cases hC
  simp only[zy] at hH
  unfold wJ
  unfold iq at hH
  generalize hop:o.op=op at *
  cases hd:o.dst with
  | none=>rfl
  | some d=>
   rw[hd] at hH
   have pub:∀{α:Type} {A B:Option α},(cf.Ca.contains d=true→(some (bl.store cf h1)=some (bl.store cf h2)))→(h1=h2→A=B)→(if cf.Ca.contains d=true then A else none)=(if cf.Ca.contains d=true then B else none):=by
    intro α A B h3 h4
    split
    ·rename_i hp
     have:=h3 hp
     simp only[Option.some.injEq,bl.store.injEq,true_and] at this
     exact h4 this
    ·rfl
   by_cases hro:cf.ro=true
   ·simp only[hro,if_true]
   simp only[hro]
   cases op <;> try rfl
   case alloc t=>exact pub hH fun e=>by subst e;rfl
   case box t x=>exact pub hH fun e=>by subst e;rfl
   case makeSlice t n c=>exact pub hH fun e=>by subst e;rfl
   case buildSlice t len parts=>exact pub hH fun e=>by subst e;rfl
   case call c=>
    obtain⟨callee,args,ts⟩:=c
    cases callee <;> try rfl
    rename_i b
    cases b <;> try rfl
    simp only at hH ⊢
    have key:∀s r,args.toList=s :: r→(∃e q,Ro s (ct s)=.e e q)→h1=h2:=by
     intro s r hx he
     have hm:(m s||Gx s)=true:=by
      by_cases hn:Gx s=true
      ·simp[hn]
      ·rw[Ro,if_neg hn] at he
       rw[hM s (by
        have:s∈args:=by
         have:s∈args.toList:=by rw[hx];simp
         simpa using this
        simp only[Op.operands,Call.operands]
        simp[this]) he]
       rfl
     rw[hx] at hH
     have:=hH hm
     simpa using this
    clear hH
    cases hx:args.toList with
    | nil=>rfl
    | cons s r=>
     have key:=key s r hx
     cases hs:Ro s (ct s) with
     | e e q=>
      have:=key ⟨_,_,hs⟩
      subst this
      rfl
     | _=>
      cases r with
      | nil=>rfl
      | cons x r=>
       cases r with
       | cons _ _=>rfl
       | nil=>
        cases ht:ts.toList with
        | nil=>rfl
        | cons t q=>
         cases q with
         | nil=>rfl
         | cons t' q=>
          cases q with
          | cons _ _=>rfl
          | nil=>simp only[hs]

theorem Nz {o:Oper}{ct jg:Operand→SV}(hv:∀x,x∈o.op.operands→jg x=ct x){m:Operand→Bool}(hM:∀x,x∈o.op.operands→(∃e s,ct x=.e e s)→m x=true)(hC:jv obj=jv jh)(hH:iq o m (jv obj)=true→obj bN=jh bN):RA P o jg jh ix=RA P o ct obj ix:=by
 unfold RA
 split
 ·rw[KL hv]
  rw[iC,iC] at hC
  rw[iC] at hH
  exact KK hC hM hH
 ·rfl

theorem alQ {o:Oper}{ct jg:Operand→SV}(hv:∀x,x∈o.op.operands→jg x=ct x){m:Operand→Bool}(hC:jv obj=jv jh)(hH:iq o m (jv obj)=true→obj bN=jh bN):qv P o jg (jh bN) ix=qv P o ct (obj bN) ix:=by
 have Za:∀{hO Yw:Option bl},zy hO=zy Yw→(∀cf h,hO=some (.store cf h)→∀h',qv P o jg (some (.store cf h')) ix=qv P o ct (some (.store cf h)) ix)→qv P o jg Yw ix=qv P o ct hO ix:=by
  intro hO Yw hc hs
  cases Ce:zy hO with
  | none=>
   have other:∀{ct:Operand→SV} {hO:Option bl},zy hO=none→qv P o ct hO ix=none:=by
    intro ct hO h
    unfold qv
    split
    ·simp[zy] at h
    ·rfl
   rw[other Ce,other (hc ▸ Ce)]
  | some cf=>
   obtain⟨h1,rfl⟩:∃h1,hO=some (.store cf h1):=by
    unfold zy at Ce
    split at Ce
    ·cases Ce;exact⟨_,rfl⟩
    ·cases Ce
   obtain⟨h2,rfl⟩:∃h2,Yw=some (.store cf h2):=by
    rw[Ce] at hc
    unfold zy at hc
    split at hc
    ·cases hc;exact⟨_,rfl⟩
    ·cases hc
   exact hs cf h1 rfl h2
 have same:iq o m (jv obj)=true→qv P o jg (jh bN) ix=qv P o ct (obj bN) ix:=by
  intro hu
  rw[hH hu]
  unfold qv
  generalize hop:o.op=op at *
  cases op <;> try rfl
  case mapUpdate t m k x=>simp only[hv m (by simp[Op.operands]),hv k (by simp[Op.operands]),hv x (by simp[Op.operands])]
  case insert t m k x=>simp only[hv m (by simp[Op.operands]),hv k (by simp[Op.operands]),hv x (by simp[Op.operands])]
  case makeMap t r=>cases r <;> rfl
  case lookup t m k ok=>simp only[hv m (by simp[Op.operands]),hv k (by simp[Op.operands])]
  case range t m=>simp only[hv m (by simp[Op.operands])]
  case entry it=>simp only[hv it (by simp[Op.operands])]
  case mapEntry t m k=>simp only[hv m (by simp[Op.operands]),hv k (by simp[Op.operands])]
  case entryStore t m s x=>simp only[hv m (by simp[Op.operands]),hv s (by simp[Op.operands]),hv x (by simp[Op.operands])]
  case call c=>
   obtain⟨callee,args,ts⟩:=c
   cases callee <;> try rfl
   rename_i b
   cases b <;> try rfl
   case delete=>
    simp only
    match hx:args.toList with
    | [x,y]=>
     have mem:∀z,z∈[x,y]→z∈(Op.call ⟨.builtin .delete,args,ts⟩).operands:=fun z hz=>by
      have:z∈args:=by
       have:z∈args.toList:=by rw[hx];exact hz
       simpa using this
      simp only[Op.operands,Call.operands]
      simp[this]
     have Lf:=hv x (mem x (by simp))
     have hvy:=hv y (mem y (by simp))
     match ts.toList with
     | t :: _=>simp only[Lf,hvy]
     | []=>rfl
    | []=>rfl
    | [_]=>rfl
    | _ :: _ :: _ :: _=>rfl
   simp only
   match hx:args.toList with
   | [x]=>
    have Lf:=hv x (by
     have:x∈args:=by
      have:x∈args.toList:=by rw[hx];simp
      simpa using this
     simp only[Op.operands,Call.operands]
     simp[this])
    match ts.toList with
    | [t]=>simp only[Lf]
    | []=>rfl
    | _ :: _ :: _=>rfl
   | []=>rfl
   | _ :: _ :: _=>rfl
 rw[iC,iC] at hC
 cases hop:o.op
 case makeMap=>exact same (by unfold iq;rw[hop])
 case mapUpdate=>exact same (by unfold iq;rw[hop])
 case insert=>exact same (by unfold iq;rw[hop])
 case lookup=>exact same (by unfold iq;rw[hop])
 case range=>exact same (by unfold iq;rw[hop])
 case entry=>exact same (by unfold iq;rw[hop])
 case mapEntry=>exact same (by unfold iq;rw[hop])
 case entryStore=>exact same (by unfold iq;rw[hop])
 case call c=>
  by_cases hu:iq o m (jv obj)=true
  ·exact same hu
  ·refine Za hC fun Qdy h e h'=>?_
   unfold iq at hu
   rw[hop,iC,e] at hu
   have off:∀{ct:Operand→SV} {h:E},qv P o ct (some (.store Qdy h)) ix=none:=by
    intro ct h
    unfold qv
    rw[hop]
    simp only
    split
    ·rename_i hb
     simp only[hb,zy,Bool.not_eq_true] at hu
     split
     ·rename_i x t _ ht
      rw[ht] at hu
      simp only[List.any_cons,List.any_nil,Bool.or_false] at hu
      rw[if_neg (by rw[hu];simp)]
     ·rfl
    ·rename_i hb
     simp[hb] at hu
    ·rfl
   rw[off,off]
 all_goals exact Za hC fun cf h _ h'=>by unfold qv;rw[hop]

theorem alO {o:Oper}{ct jg:Operand→SV}(hv:∀x,x∈o.op.operands→jg x=ct x){m:Operand→Bool}(hH:iq o m (jv obj)=true→obj bN=jh bN):Qmk P o jg (jh bN) ix=Qmk P o ct (obj bN) ix:=by
 have off:∀{ct:Operand→SV} {hO:Option bl},(∀t m,o.op≠.range t m)→(∀it,o.op≠.next it true)→Qmk P o ct hO ix=none:=by
  intro ct hO h1 h2
  unfold Qmk
  split
  ·split
   ·rfl
   ·split
    ·rename_i h;exact absurd h (h1 _ _)
    ·rename_i h;exact absurd h (h2 _)
    ·rfl
  ·rfl
 by_cases h1:∃t x,o.op=.range t x
 ·obtain⟨t,x,h1⟩:=h1
  rw[hH (by unfold iq;rw[h1])]
  unfold Qmk
  rw[h1]
  simp only[hv x (by rw[h1];simp[Op.operands])]
 ·by_cases h2:∃x,o.op=.next x true
  ·obtain⟨x,h2⟩:=h2
   rw[hH (by unfold iq;rw[h2])]
   unfold Qmk
   rw[h2]
   simp only[hv x (by rw[h2];simp[Op.operands])]
  ·rw[off (fun t x h=>h1 ⟨t,x,h⟩) (fun x h=>h2 ⟨x,h⟩),off (fun t x h=>h1 ⟨t,x,h⟩) (fun x h=>h2 ⟨x,h⟩)]

theorem alT {o:Oper}{ct jg:Operand→SV}(hv:∀x,x∈o.op.operands→jg x=ct x){m:Operand→Bool}(hM:∀x,x∈o.op.operands→(∃e s,ct x=.e e s)→m x=true)(hC:jv obj=jv jh)(hH:iq o m (jv obj)=true→obj bN=jh bN):Qkw P o jg (jh bN) ix=Qkw P o ct (obj bN) ix:=by
 have auT:∀hO:Option bl,Qkw P o jg hO ix=Qkw P o ct hO ix:=by
  intro hO
  unfold Qkw
  generalize hop:o.op=op at *
  split
  ·cases op <;> try rfl
   case convert s t x=>simp only[hv x (by simp[Op.operands])]
   case indexAddr t x i=>cases x <;> first | rfl | simp only[hv i (by simp[Op.operands])]
   case call c=>
    obtain⟨callee,args,ts⟩:=c
    have hargs:∀x,x∈args.toList→jg x=ct x:=fun x hx=>hv x (by
     simp only[Op.operands,Call.operands]
     have:x∈args:=by simpa using hx
     simp[this])
    cases callee <;> try rfl
    rename_i b
    cases b <;> try rfl
    all_goals
     simp only
     cases hl:args.toList with
     | nil=>rfl
     | cons x r=>
      cases r with
      | nil=>rfl
      | cons y r=>
       cases r with
       | cons _ _=>rfl
       | nil=>
        have hx:=hargs x (by rw[hl];simp)
        have hy:=hargs y (by rw[hl];simp)
        have hap:∀cf h t t',Qox P cf h x jg (jg y) t t' ix=Qox P cf h x ct (ct y) t t' ix:=by
         intro cf h t t'
         unfold Qox
         rw[hx,hy]
        cases ts.toList with
        | nil=>rfl
        | cons t q=>
         cases q with
         | nil=>rfl
         | cons t' q=>
          cases q with
          | cons _ _=>rfl
          | nil=>first | (simp only[hx,hy];done) | exact hap _ _ _ _
  ·rfl
 rw[auT]
 by_cases hu:iq o m (jv obj)=true
 ·rw[hH hu]
 ·rw[iC,iC] at hC
  rw[iC] at hu
  cases Ce:zy (obj bN) with
  | none=>
   have other:∀{hO:Option bl},zy hO=none→Qkw P o ct hO ix=none:=by
    intro hO h
    unfold Qkw
    split
    ·simp[zy] at h
    ·rfl
   rw[other Ce,other (hC ▸ Ce)]
  | some cf=>
   obtain⟨h1,e1⟩:∃h1,obj bN=some (.store cf h1):=by
    unfold zy at Ce
    split at Ce
    ·rename_i e;cases Ce;exact⟨_,e⟩
    ·cases Ce
   obtain⟨h2,e2⟩:∃h2,jh bN=some (.store cf h2):=by
    rw[Ce] at hC
    unfold zy at hC
    split at hC
    ·rename_i e;cases hC;exact⟨_,e⟩
    ·cases hC
   rw[e1,e2]
   rw[Ce] at hu
   unfold iq at hu
   unfold Qkw
   generalize hop:o.op=op at *
   cases op <;> try rfl
   case convert s t x=>
    simp only at hu ⊢
    have:atc cf o=false:=by
     unfold atc
     cases hd:o.dst with
     | none=>rfl
     | some d=>rw[hd] at hu;simpa using hu
    simp only[this]
    rfl
   case indexAddr t x i=>
    cases x <;> first | rfl | exact absurd rfl hu
   case call c=>
    obtain⟨callee,args,ts⟩:=c
    cases callee <;> try rfl
    rename_i b
    cases b <;> first | rfl | exact absurd rfl hu | skip
    simp only at hu ⊢
    cases hl:args.toList with
    | nil=>rfl
    | cons s r=>
     rw[hl] at hu
     simp only[Bool.or_eq_true,not_or,Bool.not_eq_true] at hu
     have hn:∀h,∀x t t',Qox P cf h s ct x t t' ix=none:=by
      intro h x t t'
      unfold Qox
      split
      ·rfl
      ·split
       ·rename_i s' sb _ _ hs _ _ _
        rw[Ro,if_neg (by simp[hu.2])] at hs
        have:=hM s (by
         simp only[Op.operands,Call.operands]
         have:s∈args:=by
          have:s∈args.toList:=by rw[hl];simp
          simpa using this
         simp[this]) ⟨_,_,hs⟩
        rw[hu.1] at this
        cases this
       ·rfl
     cases r with
     | nil=>rfl
     | cons x r=>
      cases r with
      | cons _ _=>rfl
      | nil=>
       cases ts.toList with
       | nil=>rfl
       | cons t q=>
        cases q with
        | nil=>rfl
        | cons t' q=>
         cases q with
         | cons _ _=>rfl
         | nil=>simp only[hn]

theorem al2 {o:Oper}{ct jg:Operand→SV}(hv:∀x,x∈o.op.operands→jg x=ct x){m:Operand→Bool}(hC:jv obj=jv jh)(hH:iq o m (jv obj)=true→obj bN=jh bN):Qqj P o jg (jh bN) ix=Qqj P o ct (obj bN) ix:=by
 rw[an3 hv]
 by_cases hu:iq o m (jv obj)=true
 ·rw[hH hu]
 ·rw[iC,iC] at hC
  rw[iC] at hu
  have ar5:∀hO:Option bl,iq o m (zy hO)≠true→Qqj P o ct hO ix=none:=by
   intro hO hn
   unfold Qqj
   split
   ·rename_i cf h
    split
    ·rename_i c ho
     obtain⟨callee,args,ts⟩:=c
     split
     ·rename_i f x ku _
      simp only at ku
      subst ku
      split
      ·rename_i hc
       refine absurd ?_ hn
       unfold iq
       rw[ho]
       have:=hc.2.2
       simp only[zy,Ig,this]
       rfl
      ·rfl
     ·rfl
    ·rfl
   ·rfl
  rw[ar5 _ hu,ar5 _ (hC ▸ hu)]

theorem ND {o:Oper}{ct jg:Operand→SV}(hv:∀x,x∈o.op.operands→jg x=ct x){m:Operand→Bool}(hM:∀x,x∈o.op.operands→(∃e s,ct x=.e e s)→m x=true)(hC:jv obj=jv jh)(hH:iq o m (jv obj)=true→obj bN=jh bN):lmap P o jg jh ix=lmap P o ct obj ix:=by
 unfold lmap
 split
 ·rw[alQ hv hC hH,alO hv hH,alT hv hM hC hH,al2 hv hC hH]
 ·rfl

theorem SY {o:Oper}{ct jg:Operand→SV}(hv:∀x,x∈o.op.operands→jg x=ct x)(ho:∀x ob,x∈o.op.operands→(ct x).aT ob=false→obj ob=jh ob):Qik P o jg jh ix=Qik P o ct obj ix:=by
 unfold Qik
 split
 ·rename_i t parts hop
  have h1:Qjj jh jg parts.toList=Qjj obj ct parts.toList:=List.map_congr_left fun p hp=>by
   have hm:p.2∈o.op.operands:=by rw[hop];simp only[Op.operands,List.mem_toArray,List.mem_map];exact⟨p,hp,rfl⟩
   rw[hv p.2 hm]
   congr 2
   unfold Bq
   split <;> try rfl
   rename_i k hk
   rw[ho p.2 k hm (by rw[hk];simp[SV.aT])]
  rw[h1]
 ·rfl

theorem LM {o:Oper} {ct jg:List (E×Bool)→Operand→SV} {act:List (E×Bool)} (hv:∀act x,x∈o.op.operands→jg act x=ct act x)
  (ho:∀act x ob,x∈o.op.operands→(ct act x).aT ob=false→obj ob=jh ob) {m:Operand→Bool} (hM:∀act x,x∈o.op.operands→(∃e s,ct act x=.e e s)→m x=true) (hF:∀act g,ct act (.func g)=.func (.func g) []) (hC:jv obj=jv jh) (hH:iq o m (jv obj)=true→obj bN=jh bN):BN P o jg act jh ix=BN P o ct act obj ix:=by
 unfold BN
 rw[NM (hv act) hC,Nz (hv []) (hM []) hC hH,ND (hv act) (hM act) hC hH,H7 hC,D3 (hv []) (ho []),Ie (hv act),SY (hv act) (ho act),KG hv (ho act) hM hF hC hH]

end congr

end
end

section
noncomputable section

structure Rec where
 eu:j5
 seen:List SV
 ix:Nat
 deriving Inhabited

def mW (ops:Array Oper)(j:Nat):Option Tmp:=(ops[j]?).bind (·.dst)
def gJ (R:List Rec)(j:Nat):j5:=((R[j]?).map (·.eu)).getD ⟨.cE,none,none,none⟩

def j5.targets (e:j5):List Nat:=(match e.eM with | some u=>[u.1] | none=>[])++(match e.del with | some k=>[k] | none=>[])

def cH (ops:Array Oper)(R:List Rec)(D:Nat→Bool)(σ:af):Nat→af
 | 0=>σ
 | n+1=>if D n=true then(cH ops R D σ n).app (mW ops n) (gJ R n) else cH ops R D σ n

def ug (ops:Array Oper)(o:Oper)(σ:af):List SV:=(o.looksAt ops).map σ.tmp++(if iq o (fun x=>(σ.zS x).Nu) (jv σ.obj) then[.oc bN] else[])

def AZ (P:Program)(ops:Array Oper):List Oper→af→Nat→Option (af×List Bind×List Rec)
 | [],σ,_=>some (σ,[],[])
 | o :: r,σ,ix=>match oe P ops o σ ix with
  | none=>none
  | some e=>match e.bind with
   | none=>(AZ P ops r (σ.app o.dst e) ix).map fun x=>(x.1,x.2.1,⟨e,ug ops o σ,ix⟩ :: x.2.2)
   | some b=>(AZ P ops r (σ.app o.dst e) (ix+1)).map fun x=>(x.1,b :: x.2.1,⟨e,ug ops o σ,ix⟩ :: x.2.2)

/-! ## states -/

theorem kJ (ops:Array Oper)(R:List Rec)(D:Nat→Bool)(σ:af):∀n,(cH ops R D σ n).tmps.length=σ.tmps.length∧(cH ops R D σ n).mem.length=σ.mem.length
 | 0=>⟨rfl,rfl⟩
 | n+1=>by
  have h:=kJ ops R D σ n
  unfold cH
  split
  ·have:=Jv (cH ops R D σ n) (mW ops n) (gJ R n)
   exact⟨this.1.trans h.1,this.2.trans h.2⟩
  ·exact h

theorem MU {σ:af}{dst:Option Tmp}{sv:SV}{t:Nat}(h:dst≠some t):(σ.put dst sv).tmp t=σ.tmp t:=by
 cases dst with
 | none=>rfl
 | some d=>
  have:d≠t:=fun e=>h (by rw[e])
  simp[af.fM,af.gw,List.getD_eq_getElem?_getD,this]

theorem MV {σ:af}{sv:SV}{t:Nat}:(σ.put (some t) sv).tmp t=if t<σ.tmps.length then sv else .cE:=by
 simp only[af.fM,af.gw,List.getD_eq_getElem?_getD,List.getElem?_set]
 simp only[if_true]
 split <;> rfl

theorem V6 (σ:af)(k:Option Nat)(t:Nat):(σ.jM k).tmp t=σ.tmp t:=by cases k;rfl;exact σ.ga _ _ t
theorem TW (σ:af)(u:Option (Nat×bl))(t:Nat):(σ.sets u).tmp t=σ.tmp t:=by cases u;rfl;exact σ.ga _ _ t
theorem Sg (σ:af)(k:Option Nat):(σ.jM k).tmps=σ.tmps:=by cases k;rfl;exact σ.aZ _ _
theorem QZ (σ:af)(u:Option (Nat×bl)):(σ.sets u).tmps=σ.tmps:=by cases u;rfl;exact σ.aZ _ _

theorem O8 {σ:af}{dst:Option Tmp}{e:j5}{t:Nat}(h:dst≠some t):(σ.app dst e).tmp t=σ.tmp t:=by
 unfold af.app
 rw[MU h,TW,V6]

theorem Fg {σ:af}{e:j5}{t:Nat}:(σ.app (some t) e).tmp t=if t<σ.tmps.length then e.val else .cE:=by
 unfold af.app
 rw[MV,QZ,Sg]

theorem ep {σ:af}{o o':Nat}{x:Option bl}(h:o≠o'):(σ.setObj o x).obj o'=σ.obj o':=σ.ep x (Ne.symm h)

theorem f_ {σ:af}{o:Nat}{x:Option bl}:(σ.setObj o x).obj o=if o=bN∨o<σ.mem.length then x else none:=by
 split
 ·rename_i h;rw[af.ff h,if_pos rfl]
 ·rename_i h
  rw[not_or] at h
  simp only[af.fD,af.dV]
  simp only[h.1,if_false,List.getD_eq_getElem?_getD]
  rw[List.getElem?_eq_none (by simpa using h.2)]
  rfl

theorem aao (σ:af)(o:Nat)(x:Option bl):(σ.setObj o x).mem.length=σ.mem.length:=σ.fG o x
theorem LS (σ:af)(k:Option Nat):(σ.jM k).mem.length=σ.mem.length:=by cases k <;> simp[af.jM,af.fG]

theorem Qfk {σ:af}{dst:Option Tmp}{e:j5}{ob:Nat}(h:ob∉e.targets):(σ.app dst e).obj ob=σ.obj ob:=by
 unfold af.app
 rw[af.Cu]
 unfold j5.targets at h
 cases hu:e.eM with
 | none=>
  cases hk:e.del with
  | none=>rfl
  | some k=>
   rw[hu,hk] at h
   simp only[af.sets,af.jM]
   exact ep fun e=>h (by simp[e])
 | some u=>
  rw[hu] at h
  simp only[af.sets]
  rw[ep fun e=>h (by simp[e])]
  cases hk:e.del with
  | none=>rfl
  | some k=>
   rw[hk] at h
   simp only[af.jM]
   exact ep fun e=>h (by simp[e])

theorem O9 {σ τ:af}{dst:Option Tmp}{e:j5}{ob:Nat}(h:ob∈e.targets)(hl:σ.mem.length=τ.mem.length):(σ.app dst e).obj ob=(τ.app dst e).obj ob:=by
 unfold af.app
 rw[af.Cu,af.Cu]
 unfold j5.targets at h
 have AR:∀(e':j5),e'.del=e.del→(∃k,e.del=some k∧k=ob)→(σ.jM e.del).obj ob=(τ.jM e.del).obj ob:=by
  rintro _ _ ⟨k,hk,rfl⟩
  rw[hk]
  simp only[af.jM]
  rw[f_,f_,hl]
 cases hu:e.eM with
 | none=>
  rw[hu] at h
  cases hk:e.del with
  | none=>rw[hk] at h;simp at h
  | some k=>
   rw[hk] at h
   simp only[af.sets]
   have:=AR e rfl ⟨k,hk,by simp at h;exact h.symm⟩
   rwa [hk] at this
 | some u=>
  rw[hu] at h
  simp only[af.sets]
  by_cases dN:u.1=ob
  ·subst dN
   rw[f_,f_,LS,LS,hl]
  ·rw[ep dN,ep dN]
   cases hk:e.del with
   | none=>rw[hk] at h;simp at h;exact absurd h.symm dN
   | some k=>
    rw[hk] at h
    have:=AR e rfl ⟨k,hk,by simp at h;exact(h.resolve_left fun e=>dN e.symm).symm⟩
    rwa [hk] at this

section
variable {ops:Array Oper} {R:List Rec} {D D':Nat→Bool} {σ:af}

theorem Gn {t:Nat}:∀n,(∀j,j<n→mW ops j=some t→D j=D' j)→(cH ops R D σ n).tmp t=(cH ops R D' σ n).tmp t
 | 0,_=>rfl
 | n+1,h=>by
  have ih:=Gn n fun j hj=>h j (by omega)
  unfold cH
  by_cases hd:mW ops n=some t
  ·rw[←h n (by omega) hd]
   split
   ·rw[hd,Fg,Fg,(kJ ..).1,(kJ ..).1]
   ·exact ih
  ·split <;> split <;> (try simp only[O8 hd]) <;> exact ih

theorem Af {ob:Nat}:∀n,(∀j,j<n→ob∈(gJ R j).targets→D j=D' j)→(cH ops R D σ n).obj ob=(cH ops R D' σ n).obj ob
 | 0,_=>rfl
 | n+1,h=>by
  have ih:=Af n fun j hj=>h j (by omega)
  unfold cH
  by_cases hd:ob∈(gJ R n).targets
  ·rw[←h n (by omega) hd]
   split
   ·exact O9 hd (by rw[(kJ ..).2,(kJ ..).2])
   ·exact ih
  ·split <;> split <;> (try simp only[Qfk hd]) <;> exact ih

theorem l9:∀n,(∀j,j<n→D j=D' j)→cH ops R D σ n=cH ops R D' σ n
 | 0,_=>rfl
 | n+1,h=>by
  unfold cH
  rw[l9 n fun j hj=>h j (by omega),h n (by omega)]

theorem nS {i : Nat} : ∀ n, i ≤ n → (∀ j, j < n → i ≤ j → D j = false) → cH ops R D σ n = cH ops R D σ i
  | 0, h, _ => by have : i = 0 := by omega
                  subst this; rfl
  | n + 1, h, hD => by
    rcases Nat.lt_or_ge i (n + 1) with hlt | hge
    · unfold cH
      rw [hD n (by omega) (by omega)]
      simp only [Bool.false_eq_true, if_false]
      rw [nS n (by omega) fun j hj => hD j (by omega)]
      cases i <;> rfl
    · have : i = n + 1 := by omega
      subst this; rfl

theorem yy {i n t:Nat}(hi:i≤n)(h:∀j,j<n→mW ops j=some t→D j=decide (j<i)):(cH ops R D σ n).tmp t=(cH ops R (fun _=>true) σ i).tmp t:=by
 rw[Gn (D':=fun j=>decide (j<i)) n h,nS n hi (fun j _ hj=>by simp;omega),l9 (D':=fun _=>true) i (fun j hj=>by simp[hj])]

theorem sN {i n ob:Nat}(hi:i≤n)(h:∀j,j<n→ob∈(gJ R j).targets→D j=decide (j<i)):(cH ops R D σ n).obj ob=(cH ops R (fun _=>true) σ i).obj ob:=by
 rw[Af (D':=fun j=>decide (j<i)) n h,nS n hi (fun j _ hj=>by simp;omega),l9 (D':=fun _=>true) i (fun j hj=>by simp[hj])]

theorem nR (σ:af){o o':Nat}(x y:Option bl)(h:o≠o'):(σ.setObj o x).setObj o' y=(σ.setObj o' y).setObj o x:=by
 simp only[af.fD]
 by_cases h1:o=bN <;> by_cases h2:o'=bN
 ·exact absurd (h1.trans h2.symm) h
 ·simp[h1,h2]
 ·simp[h1,h2]
 ·simp only[h1,h2,if_false]
  rw[List.set_comm _ _ h]

theorem put_comm (σ:af){d d':Option Tmp}(x y:SV)(h:∀t,d=some t→d'≠some t):(σ.put d x).put d' y=(σ.put d' y).put d x:=by
 cases d with
 | none=>rfl
 | some t=>cases d' with
  | none=>rfl
  | some t'=>
   have:t≠t':=fun e=>h t rfl (by rw[e])
   simp[af.fM,List.set_comm _ _ this]

theorem Dy (σ:af)(d:Option Tmp)(x:SV)(o:Nat)(y:Option bl):(σ.put d x).setObj o y=(σ.setObj o y).put d x:=by
 simp only[af.fD]
 cases d <;> simp only[af.fM] <;> split <;> rfl

def nQ (σ:af)(l:List (Nat×Option bl)):af:=l.foldl (fun σ u=>σ.setObj u.1 u.2) σ

theorem yw {o:Nat}{x:Option bl}:∀{l:List (Nat×Option bl)} {σ:af},(∀u,u∈l→u.1≠o)→(nQ σ l).setObj o x=nQ (σ.setObj o x) l
 | [],_,_=>rfl
 | u :: l,σ,h=>by
  have:=yw (o:=o) (x:=x) (l:=l) (σ:=σ.setObj u.1 u.2) fun v hv=>h v (by simp[hv])
  simp only[nQ,List.foldl_cons] at this ⊢
  rw[this,nR _ _ _ (h u (by simp))]

theorem Dc:∀{l l':List (Nat×Option bl)} {σ:af},(∀u u',u∈l→u'∈l'→u.1≠u'.1)→nQ (nQ σ l) l'=nQ (nQ σ l') l
 | l,[],_,_=>rfl
 | l,u :: l',σ,h=>by
  have h1:nQ (nQ σ l) (u :: l')=nQ ((nQ σ l).setObj u.1 u.2) l':=rfl
  have h2:nQ σ (u :: l')=nQ (σ.setObj u.1 u.2) l':=rfl
  rw[h1,h2,yw fun v hv=>h v u hv (by simp),Dc fun v v' hv Qcz=>h v v' hv (by simp[Qcz])]

def j5.list (e:j5):List (Nat×Option bl):=(match e.del with | some k=>[(k,none)] | none=>[])++(match e.eM with | some u=>[(u.1,some u.2)] | none=>[])

theorem zI (σ:af)(dst:Option Tmp)(e:j5):σ.app dst e=(nQ σ e.list).put dst e.val:=by
 unfold af.app j5.list
 cases e.del <;> cases e.eM <;> rfl

theorem yT {e:j5}{u:Nat×Option bl}(h:u∈e.list):u.1∈e.targets:=by
 unfold j5.list at h
 unfold j5.targets
 cases hd:e.del <;> cases hu:e.eM <;> rw[hd,hu] at h <;> simp at h ⊢
 ·rw[h]
 ·rw[h]
 ·rcases h with h | h <;> rw[h] <;> simp

theorem Ac (d:Option Tmp)(x:SV):∀(l:List (Nat×Option bl)) (σ:af),nQ (σ.put d x) l=(nQ σ l).put d x
 | [],_=>rfl
 | u :: l,σ=>by
  have:=Ac d x l (σ.setObj u.1 u.2)
  simp only[nQ,List.foldl_cons] at this ⊢
  rw[Dy,this]

theorem WJ (σ:af){d d':Option Tmp}{e e':j5}(hd:∀t,d=some t→d'≠some t)(hu:∀ob,ob∈e.targets→ob∉e'.targets):(σ.app d e).app d' e'=(σ.app d' e').app d e:=by
 rw[zI,zI,zI,zI,Ac,Ac,put_comm _ _ _ hd,Dc fun u u' h1 h2 h3=>hu u.1 (yT h1) (h3 ▸ yT h2)]

theorem Ag {i:Nat}(hi:D i=false):∀n,i<n→(∀j,j<n→i<j→D j=true→(∀t,mW ops i=some t→mW ops j≠some t)∧∀ob,ob∈(gJ R i).targets→ob∉(gJ R j).targets) →
  cH ops R (fun j=>D j||j==i) σ n=(cH ops R D σ n).app (mW ops i) (gJ R i)
 | 0,h,_=>by omega
 | n+1,h,hc=>by
  unfold cH
  rcases Nat.lt_or_ge i n with hlt | hge
  ·have ih:=Ag hi n hlt fun j hj=>hc j (by omega)
   have hne:(n==i)=false:=by simp;omega
   rw[ih]
   simp only[hne,Bool.or_false]
   split
   ·rename_i hD
    obtain⟨h1,h2⟩:=hc n (by omega) hlt hD
    exact WJ _ h1 h2
   ·rfl
  ·have:n=i:=by omega
   subst this
   simp only[hi,BEq.rfl,Bool.or_true,if_true,Bool.false_eq_true,if_false]
   rw[l9 (D':=D) n fun j hj=>by simp;omega]

end

end
end

section
noncomputable section

def Rec.cR (r:Rec)(ob:Nat):Bool:=
 r.seen.any (fun sv=>!sv.aT ob)||!r.eu.val.aT ob||r.eu.targets.contains ob||(match r.eu.eM with | some u=>!u.2.aT ob | none=>false)

def Rec.reader (r:Rec):Bool:=r.eu.eM.isNone&&r.eu.del.isNone

def Qsw (o:Oper):Bool:=o.guard.isNone&&match o.op with | .move _ | .nilCheck _ | .fieldAddr _ _ _=>true | _=>false

def Qiq (ow oy:Oper)(ry:Rec)(ob:Nat):Bool:=Qsw oy&&ry.reader&&decide (ob≠bN)&&!jL ow

def xQ (ops:Array Oper)(oj oi:Oper)(rj ri:Rec):Bool:=
 !oj.apart ops oi||rj.eu.targets.any (fun ob=>ri.cR ob&&!Qiq oj oi ri ob)||ri.eu.targets.any (fun ob=>rj.cR ob&&!Qiq oi oj rj ob)

def Us (ms:List Nat)(o:Oper):Nat:=o.after.toList.foldl (fun s e=>if Region.binds .any e=true then s ||| 2 ^ e.on ||| ms.getD e.on 0 else s) 0

def lF:List Oper→List Nat→List Nat
 | [],ms=>ms
 | o :: r,ms=>lF r (ms++[Us ms o])

def Rec.sF (r:Rec):Bool:=match r.eu.targets with | [k]=>decide (k=bN) | _=>false

def nP (ops:Array Oper)(oj oi:Oper)(rj ri:Rec):Bool:=oj.apart ops oi&&((rj.reader&&ri.sF)||(ri.reader&&rj.sF))

def Uc (ops:Array Oper)(m:Nat)(oi:Oper)(ri:Rec)(j:Nat)(oj:Oper)(rj:Rec):Bool:=
 (!xQ ops oj oi rj ri||m.testBit j||nP ops oj oi rj ri)&&(!jL oi||match ri.eu.eM with | some u=>decide (u.1=bN)||!rj.cR u.1 | none=>true)

def ad4 (ops:Array Oper)(R:List Rec)(σ:af)(m i:Nat):Bool:=
 match ops[i]?,R[i]? with
 | some oi,some ri=>oi.after.all (fun e=>!Region.binds .any e||decide (e.on<i))&&qB σ oi &&
   (!jL oi||match ri.eu.eM with | some u=>decide (u.1=bN)||((σ.obj u.1).isNone&&σ.Qrv u.1) | none=>true) &&
   (List.range i).all fun j=>match ops[j]?,R[j]? with
    | some oj,some rj=>Uc ops m oi ri j oj rj
    | _,_=>true
 | _,_=>false

def OY (R:List Rec)(σ:af):Bool:=
 R.all fun r=>decide (r.eu.del≠some bN)&&match r.eu.eM with
  | some u=>decide (u.1=bN→zy (some u.2)=jv σ.obj)
  | none=>true

def qt (ops:Array Oper)(R:List Rec)(σ:af):Bool:=OY R σ &&
 (List.range ops.size).all fun i=>ad4 ops R σ ((lF ops.toList []).getD i 0) i

def J6 (ops:Array Oper)(R:List Rec)(ms:List Nat)(i:Nat):List Nat:=
 (List.range ops.size).filter fun j=>(match R[j]? with | some rj=>rj.sF | none=>false)&&!(decide (j<i)&&(ms.getD i 0).testBit j)&&!(decide (i<j)&&(ms.getD j 0).testBit i)&&decide (j≠i)

def Jw (ops:Array Oper)(R:List Rec)(σ:af)(i j:Nat):Option bl:=(cH ops R (fun k=>decide (k<i) != (k==j)) σ ops.size).obj bN

def QD (P:Program)(ops:Array Oper)(R:List Rec)(σ:af)(ms:List Nat)(i:Nat):Option (List E):=
 match ops[i]?,R[i]? with
 | some o,some r=>if r.reader&&r.cR bN then(match J6 ops R ms i with
   | []=>some []
   | [j]=>(match oe P ops o ((cH ops R (fun _=>true) σ i).setObj bN (Jw ops R σ i j)) r.ix with
    | some e=>if e.val.same r.eu.val&&e.eM.isNone&&e.del.isNone then(match e.bind,r.eu.bind with
      | some (.ev b),some (.ev a)=>some [.m4 .same a b .nil .nil]
      | none,none=>some []
      | _,_=>none) else none
    | none=>none)
   | _=>none) else some []
 | _,_=>none

def zi (P:Program)(ops:Array Oper)(R:List Rec)(σ:af)(ms:List Nat):Nat→Option (List E)
 | 0=>some []
 | n+1=>(zi P ops R σ ms n).bind fun xs=>(QD P ops R σ ms n).map (xs++·)

def extras (P:Program)(ops:Array Oper)(R:List Rec)(σ:af):Option (List E):=zi P ops R σ (lF ops.toList []) ops.size

theorem G2 {P:Program}{ops:Array Oper}{R:List Rec}{σ:af}{ms:List Nat}:∀{n:Nat} {xs:List E},zi P ops R σ ms n=some xs→∀i,i<n→∃ys,QD P ops R σ ms i=some ys∧∀y,y∈ys→y∈xs
 | 0,_,_,i,hi=>by omega
 | n+1,xs,h,i,hi=>by
  simp only[zi,Option.bind_eq_some_iff,Option.map_eq_some_iff] at h
  obtain⟨zs,h1,ys,h2,rfl⟩:=h
  rcases Nat.lt_or_ge i n with hlt | hge
  ·obtain⟨ys',h3,h4⟩:=G2 h1 i hlt
   exact⟨ys',h3,fun y hy=>List.mem_append.2 (.inl (h4 y hy))⟩
  ·obtain rfl:i=n:=by omega
   exact⟨ys,h2,fun y hy=>List.mem_append.2 (.inr hy)⟩

theorem C5 {r:Rec}(h:r.sF=true):r.eu.targets=[bN]:=by
 unfold Rec.sF at h
 split at h
 ·rename_i k hk
  simp only[decide_eq_true_eq] at h
  rw[hk,h]
 ·cases h

theorem mA {r:Rec}(h:r.reader=true):r.eu.targets=[]:=by
 unfold Rec.reader at h
 simp only[Bool.and_eq_true,Option.isNone_iff_eq_none] at h
 unfold j5.targets
 rw[h.1,h.2]
 rfl

section
variable {P:Program} {ops:Array Oper} {R:List Rec} {σ:af} {D:Nat→Bool}

theorem HD {act:List (E×Bool)}{sv:SV}{ob:Nat}(h:(sv.strip act).aT ob=false):sv.aT ob=false:=by
 unfold SV.strip at h
 split at h
 ·split at h
  ·exact h
  ·simp[SV.aT] at h
 ·exact h

theorem DH {act:List (E×Bool)}{x:Operand}{ob:Nat}(h:(σ.ct act x).aT ob=false):∃t,x=.tmp t∧(σ.tmp t).aT ob=false:=by
 have h:=HD h
 cases x with
 | tmp t=>exact⟨t,rfl,h⟩
 | const v=>
  simp only[af.zS,oV] at h
  split at h <;> simp[SV.aT] at h
 | global g=>simp[af.zS,SV.aT] at h
 | func f=>simp[af.zS,SV.aT,SV.ee] at h

theorem uE {o:Oper}{t:Tmp}(h:Operand.tmp t∈o.op.operands):t∈o.looksAt ops:=by
 unfold Oper.looksAt
 refine List.mem_append.2 (.inl (List.mem_filterMap.2 ⟨.tmp t,by simpa using h,rfl⟩))

theorem Dk (h:OY R σ=true):∀n,jv (cH ops R D σ n).obj=jv σ.obj
 | 0=>rfl
 | n+1=>by
  have ih:=Dk h n
  unfold cH
  split
  ·have key:∀e:j5,(e.del≠some bN∧∀u,e.eM=some u→u.1=bN→zy (some u.2)=jv σ.obj)→jv ((cH ops R D σ n).app (mW ops n) e).obj=jv σ.obj:=by
    rintro e ⟨h1,h2⟩
    by_cases ht:bN∈e.targets
    ·unfold j5.targets at ht
     cases hu:e.eM with
     | none=>
      rw[hu] at ht
      cases hk:e.del with
      | none=>rw[hk] at ht;simp at ht
      | some k=>rw[hk] at ht;simp at ht;exact absurd (by rw[hk,←ht]) h1
     | some u=>
      by_cases JF:u.1=bN
      ·have fP:((cH ops R D σ n).app (mW ops n) e).obj bN=some u.2:=by
        unfold af.app
        rw[af.Cu,hu]
        simp only[af.sets]
        rw[JF,f_,if_pos (.inl rfl)]
       rw[iC,fP]
       exact h2 u hu JF
      ·rw[hu] at ht
       cases hk:e.del with
       | none=>rw[hk] at ht;simp at ht;exact absurd ht.symm JF
       | some k=>
        rw[hk] at ht
        simp at ht
        rcases ht with ht | ht
        ·exact absurd ht.symm JF
        ·exact absurd (by rw[hk,←ht]) h1
    ·rw[iC,Qfk ht,←iC]
     exact ih
   refine key _ ?_
   unfold gJ
   cases hr:R[n]? with
   | none=>exact⟨by simp,by simp⟩
   | some r=>
    have:=List.all_eq_true.1 h r (List.mem_of_getElem? hr)
    simp only[Bool.and_eq_true,decide_eq_true_eq] at this
    refine⟨this.1,fun u hu hh=>?_⟩
    have h2:=this.2
    simp only[Option.map_some,Option.getD_some] at hu
    rw[hu] at h2
    exact(of_decide_eq_true h2) hh
  ·exact ih

theorem sP {σ':af}{o:Oper}{ix:Nat}(ht:∀t,t∈o.looksAt ops→σ'.tmp t=σ.tmp t)(ho:∀t ob,t∈o.looksAt ops→(σ.tmp t).aT ob=false→σ'.obj ob=σ.obj ob)(hC:jv σ'.obj=jv σ.obj)(hH:iq o (fun x=>(σ.zS x).Nu) (jv σ.obj)=true→σ'.obj bN=σ.obj bN):oe P ops o σ' ix=oe P ops o σ ix:=by
 have hact:Hq ops σ' ix o.guard=Hq ops σ ix o.guard:=by
  unfold Hq
  split
  ·rfl
  ·rename_i j want hg
   split
   ·rename_i d hd
    rw[ht d (by unfold Oper.looksAt;rw[hg];simp[hd])]
   ·rfl
 have hv:∀act x,x∈o.op.operands→σ'.ct act x=σ.ct act x:=by
  intro act x hx
  unfold af.ct
  cases x with
  | tmp t=>simp only[af.zS];rw[ht t (uE hx)]
  | _=>rfl
 have UZ:∀e,Ad o σ' e=Ad o σ e:=by
  intro e
  unfold Ad
  cases e.eM with
  | none=>rfl
  | some u=>
   simp only
   congr 1
   congr 1
   rw[Bool.eq_iff_iff,Array.all_eq_true_iff_forall_mem,Array.all_eq_true_iff_forall_mem]
   exact⟨fun h x hx=>by rw[←hv [] x hx];exact h x hx,fun h x hx=>by rw[hv [] x hx];exact h x hx⟩
 have hstep:∀act,BN P o σ'.ct act σ'.obj ix=BN P o σ.ct act σ.obj ix:=fun act=>LM (ct:=σ.ct) (obj:=σ.obj) hv (fun act x ob hx ox=>by
  obtain⟨t,rfl,abw⟩:=DH ox
  exact(ho t ob (uE hx) abw).symm) (m:=fun x=>(σ.zS x).Nu) (fun act x _ he=>by obtain⟨e,s,he⟩:=he;exact MY he) (fun act g=>rfl) hC.symm fun h=>(hH h).symm
 have MD:∀e,nI o (σ'.obj bN) ix e=nI o (σ.obj bN) ix e:=by
  intro e
  have hC':zy (σ'.obj bN)=zy (σ.obj bN):=by rw[←iC,←iC];exact hC
  cases hl:Zb o (zy (σ.obj bN)) with
  | true=>simp[nI,hl,hC']
  | false=>
  cases hc:CA o with
  | false=>simp[nI,hc]
  | true=>
   rw[hH ?_]
   unfold CA at hc
   unfold iq
   unfold Zb at hl
   rw[←iC] at hl
   split at hc
   ·rename_i c hop
    rw[hop] at hl ⊢
    simp only at hl ⊢
    split at hc
    ·rename_i g rT
     rw[rT] at hl ⊢
     simp only
     rw[hl]
     rfl
    ·cases hc
   ·cases hc
 have qz:∀act,Ii false P o (σ'.ct act) σ'.obj ix=Ii false P o (σ.ct act) σ.obj ix:=fun act=>D3 (ct:=σ.ct act) (jg:=σ'.ct act) (obj:=σ.obj) (jh:=σ'.obj) (hv act) fun x ob hx ox=>by
  obtain⟨t,rfl,abw⟩:=DH ox
  exact(ho t ob (uE hx) abw).symm
 have hgt:∀act,R5 P o σ' act ix=R5 P o σ act ix:=fun act=>by
  cases act with
  | nil=>rfl
  | cons p r=>simp only[R5,qz]
 unfold oe
 rw[hact]
 split
 ·rfl
 ·rename_i act _
  rw[hgt act,hstep act]
  simp only[UZ,MD]

theorem anP {σ':af}{o:Oper}{ix:Nat}{e:j5}(hb:Qsw o=true)(ht:∀t,t∈o.looksAt ops→σ'.tmp t=σ.tmp t)(hC:jv σ'.obj=jv σ.obj)(he:oe P ops o σ ix=some e)(hr:e.eM.isNone=true∧e.del.isNone=true):oe P ops o σ' ix=some e:=by
 unfold Qsw at hb
 simp only[Bool.and_eq_true,Option.isNone_iff_eq_none] at hb
 obtain⟨hg,hb⟩:=hb
 have hv:∀act x,x∈o.op.operands→σ'.ct act x=σ.ct act x:=by
  intro act x hx
  unfold af.ct
  cases x with
  | tmp t=>simp only[af.zS];rw[ht t (uE hx)]
  | _=>rfl
 have hstep:∀act,BN P o σ'.ct act σ'.obj ix=BN P o σ.ct act σ.obj ix:=fun act=>by
  unfold BN
  rw[NM (hv act) hC.symm,Ie (hv act),H7 hC.symm]
  have h1:∀ct obj,RA P o ct obj ix=none:=fun ct obj=>by
   unfold RA
   unfold wJ
   split at hb <;> rename_i hop <;> (try cases hb) <;> simp only[hop] <;> (repeat' split) <;> first | rfl | simp_all
  have h2:∀ct obj,lmap P o ct obj ix=none:=fun ct obj=>by
   have hU:YZ o=false:=by
    unfold YZ
    split at hb <;> rename_i hop <;> (try cases hb) <;> simp only[hop]
   unfold lmap
   rw[hU]
   simp
  have h3:∀nz ct obj,Ii nz P o ct obj ix=none:=fun nz ct obj=>by
   unfold Ii
   split at hb <;> rename_i hop <;> (try cases hb) <;> simp only[hop]
  have h4:∀ct obj,Qik P o ct obj ix=none:=fun ct obj=>by
   unfold Qik
   split at hb <;> rename_i hop <;> (try cases hb) <;> simp only[hop]
  simp only[h1,h2,h3,h4]
  have h5:Gy P o σ'.ct act σ'.obj ix=Gy P o σ.ct act σ.obj ix:=by
   unfold Gy
   split at hb <;> rename_i hop <;> (try cases hb) <;> simp only[hop]
   ·rw[hv act _ (by rw[hop];simp[Op.operands])]
   ·rw[hv act _ (by rw[hop];simp[Op.operands])]
   ·rw[hv act _ (by rw[hop];simp[Op.operands])]
  rw[h5]
 unfold oe at he ⊢
 have ha:∀σ:af,Hq ops σ ix o.guard=some []:=fun σ=>by unfold Hq;rw[hg]
 simp only[ha,R5,hstep] at he ⊢
 split at he
 ·cases he
 ·rename_i e' he'
  split at he
  ·rename_i hy
   rw[if_pos hy]
   exact he
  ·rename_i hn
   split at he
   ·cases he
    exact absurd (by rw[hr.1,hr.2];rfl) hn
   ·cases he

/-! ## lF -/

def jU (ops:Array Oper)(D:Nat→Bool):Prop:=∀k o,D k=true→ops[k]? = some o→∀e,e∈o.after→Region.binds .any e=true→D e.on=true

def Pf (ops:Array Oper)(D:Nat→Bool)(ms:List Nat):Prop:=
 ∀(i m:Nat),ms[i]? = some m→∃o:Oper,ops[i]? = some o∧((∀e,e∈o.after→Region.binds .any e=true→D e.on=true)→∀j,m.testBit j=true→D j=true)

theorem KD (hD:jU ops D){ms:List Nat}(hg:Pf ops D ms){o:Oper}(ho:∀e,e∈o.after→Region.binds .any e=true→D e.on=true):∀j,(Us ms o).testBit j=true→D j=true:=by
 have go:∀(l:List Edge) (s:Nat),(∀e,e∈l→Region.binds .any e=true→D e.on=true)→(∀j,s.testBit j=true→D j=true)→∀j,(l.foldl (fun s e=>if Region.binds .any e=true then s ||| 2 ^ e.on ||| ms.getD e.on 0 else s) s).testBit j=true→D j=true:=by
  intro l
  induction l with
  | nil=>intro s _ hs;exact hs
  | cons e l ih=>
   intro s hl hs
   refine ih _ (fun e' he'=>hl e' (by simp[he'])) fun j hj=>?_
   dsimp only at hj
   split at hj
   ·rename_i hb
    have hon:=hl e (by simp) hb
    simp only[Nat.testBit_or,Bool.or_eq_true] at hj
    rcases hj with(hj | hj) | hj
    ·exact hs j hj
    ·rw[Nat.testBit_two_pow] at hj
     simp at hj
     rw[←hj];exact hon
    ·rw[List.getD_eq_getElem?_getD] at hj
     cases hm:ms[e.on]? with
     | none=>rw[hm] at hj;simp at hj
     | some m=>
      rw[hm] at hj
      obtain⟨o',ho',h'⟩:=hg e.on m hm
      exact h' (hD e.on o' hon ho') j hj
   ·exact hs j hj
 exact go o.after.toList 0 (fun e he=>ho e (by simpa using he)) (by simp)

theorem DX (hD:jU ops D):∀{l:List Oper} {ms:List Nat},ops.toList.drop ms.length=l→Pf ops D ms→Pf ops D (lF l ms)
 | [],ms,_,hg=>hg
 | o :: r,ms,hl,hg=>by
  unfold lF
  have xF:ops[ms.length]? = some o:=by
   have:=congrArg (fun l=>l[0]?) hl
   simpa using this
  refine DX hD ?_ ?_
  ·have:ops.toList.drop (ms.length+1)=r:=by
    rw[←List.drop_drop,hl];rfl
   simpa using this
  ·show ∀(i m:Nat),_
   intro i m hi
   rcases Nat.lt_or_ge i ms.length with h | h
   ·rw[List.getElem?_append_left h] at hi
    exact hg i m hi
   ·rw[List.getElem?_append_right h] at hi
    have ZA:i=ms.length:=by
     rcases Nat.eq_or_lt_of_le h with h | h
     ·exact h.symm
     ·rw[List.getElem?_eq_none (by simp;omega)] at hi;cases hi
    subst ZA
    simp at hi
    subst hi
    exact⟨o,xF,fun ho=>KD hD hg ho⟩

theorem xo (hD:jU ops D){i:Nat}{o:Oper}(ho:ops[i]? = some o)(ha:∀e,e∈o.after→Region.binds .any e=true→D e.on=true){j:Nat}(hj:((lF ops.toList []).getD i 0).testBit j=true):D j=true:=by
 have hg:=DX hD (l:=ops.toList) (ms:=[]) rfl (fun i m hi=>by simp at hi)
 rw[List.getD_eq_getElem?_getD] at hj
 cases hm:(lF ops.toList [])[i]? with
 | none=>rw[hm] at hj;simp at hj
 | some m=>
  rw[hm] at hj
  obtain⟨o',ho',h'⟩:=hg i m hm
  rw[ho] at ho'
  cases ho'
  exact h' ha j hj

/-! ## Qiw run in Qiw text's order -/

abbrev lex (ops:Array Oper)(R:List Rec)(σ:af)(i:Nat):af:=cH ops R (fun _=>true) σ i

theorem G6 {env:List Am.D}:∀{l:List Oper} {k:Nat} {σk:af} {ix:Nat} {σ':af} {bs:List Bind} {rs:List Rec},AZ P ops l σk ix=some (σ',bs,rs)→ops.toList.drop k=l→R.drop k=rs→k≤ops.size →
  lex ops R σ k=σk→wh P env ix bs→ix+bs.length≤env.length →
  lex ops R σ ops.size=σ'∧∀(i:Nat) (o:Oper),k≤i→ops[i]? = some o→∃r,R[i]? = some r∧oe P ops o (lex ops R σ i) r.ix=some r.eu∧r.seen=ug ops o (lex ops R σ i)∧cn P env r.ix r.eu.bind∧r.ix≤env.length
 | [],k,σk,ix,σ',bs,rs,h,hl,_,hk,hσ,_,_=>by
  simp[AZ] at h
  have:k=ops.size:=by
   have:=congrArg List.length hl
   simp at this
   omega
  subst this
  refine⟨hσ.trans h.1,fun i o hi ho=>?_⟩
  have:=(Array.getElem?_eq_some_iff.1 ho).1
  omega
 | o :: l,k,σk,ix,σ',bs,rs,h,hl,hr,hk,hσ,hb,cW=>by
  have xF:ops[k]? = some o:=by
   have:=congrArg (fun l=>l[0]?) hl
   simpa using this
  have hk1:k+1≤ops.size:=(Array.getElem?_eq_some_iff.1 xF).1
  have hl':ops.toList.drop (k+1)=l:=by rw[←List.drop_drop,hl];rfl
  have go:∀{e:j5} {ix':Nat} {bs':List Bind} {rs':List Rec},oe P ops o σk ix=some e→AZ P ops l (σk.app o.dst e) ix'=some (σ',bs',rs')→rs=⟨e,ug ops o σk,ix⟩ :: rs'→cn P env ix e.bind→ix≤env.length→wh P env ix' bs'→ix'+bs'.length≤env.length →
    lex ops R σ ops.size=σ'∧∀(i:Nat) (o:Oper),k≤i→ops[i]? = some o→∃r,R[i]? = some r∧oe P ops o (lex ops R σ i) r.ix=some r.eu∧r.seen=ug ops o (lex ops R σ i)∧cn P env r.ix r.eu.bind∧r.ix≤env.length:=by
   intro e ix' bs' rs' he hd tI GS alH hb' Vj
   have hRk:R[k]? = some ⟨e,ug ops o σk,ix⟩:=by
    have:=congrArg (fun l=>l[0]?) (hr.trans tI)
    simpa using this
   have hr':R.drop (k+1)=rs':=by rw[←List.drop_drop,hr,tI];rfl
   have hσ':lex ops R σ (k+1)=σk.app o.dst e:=by
    unfold lex cH
    simp only[if_true,mW,xF,gJ,hRk,Option.bind_some,Option.map_some,Option.getD_some]
    rw[show cH ops R (fun _=>true) σ k=σk from hσ]
   obtain⟨h1,h2⟩:=G6 hd hl' hr' hk1 hσ' hb' Vj
   refine⟨h1,fun i o' hi ho'=>?_⟩
   rcases Nat.eq_or_lt_of_le hi with heq | hlt
   ·subst heq
    rw[xF] at ho'
    cases ho'
    exact⟨_,hRk,by rw[hσ];exact he,by rw[hσ],GS,alH⟩
   ·exact h2 i o' hlt ho'
  simp only[AZ] at h
  split at h
  ·cases h
  ·rename_i e he
   split at h
   ·rename_i jC
    obtain⟨⟨τ,bs',rs'⟩,h2,h3⟩:=Option.map_eq_some_iff.1 h
    cases h3
    exact go he h2 rfl (by rw[jC];trivial) (by omega) hb cW
   ·rename_i b jC
    obtain⟨⟨τ,bs',rs'⟩,h2,h3⟩:=Option.map_eq_some_iff.1 h
    cases h3
    simp only[List.length_cons] at cW
    refine go he h2 rfl (by rw[jC];simpa using hb 0 b rfl) (by omega) (fun i b' hi=>?_) (by omega)
    have:=hb (i+1) b' (by simpa using hi)
    rwa [show ix+(i+1)=ix+1+i from by omega] at this

/-! ## fresh names -/

theorem q5 {ob:Nat}:∀{l:List SV},SV.ee ob l=true↔∀x,x∈l→x.aT ob=true
 | []=>by simp[SV.ee]
 | a :: l=>by simp[SV.ee,q5 (l:=l)]

theorem LF {ob:Nat}{τ:af}{dst:Option Tmp}{e:j5}(h:Qck τ ob)(hv:e.val.aT ob=true)(ht:ob∉e.targets)(hu:∀u,e.eM=some u→u.2.aT ob=true):Qck (τ.app dst e) ob:=by
 obtain⟨h1,h2⟩:=h
 refine⟨by rw[Qfk ht];exact h1,?_⟩
 have kY:∀(τ:af) (k:Nat) (x:Option bl),τ.Qrv ob=true→(∀y,x=some y→y.aT ob=true)→(τ.setObj k x).Qrv ob=true:=by
  intro τ k x ht hx
  simp only[af.fD]
  simp only[af.Qrv,Bool.and_eq_true,List.all_eq_true] at ht ⊢
  split
  ·refine⟨ht.1,?_⟩
   cases x with
   | none=>rfl
   | some z=>exact hx z rfl
  ·refine⟨⟨ht.1.1,fun y hy=>?_⟩,ht.2⟩
   rcases List.mem_or_eq_of_mem_set hy with hy | rfl
   ·exact ht.1.2 y hy
   ·cases y with
    | none=>rfl
    | some z=>exact hx z rfl
 have h3:(τ.jM e.del).Qrv ob=true:=by
  cases e.del with
  | none=>exact h2
  | some k=>exact kY τ k none h2 fun y hy=>by cases hy
 have h4:((τ.jM e.del).sets e.eM).Qrv ob=true:=by
  cases qc:e.eM with
  | none=>exact h3
  | some u=>exact kY _ _ _ h3 fun y hy=>by cases hy;exact hu u qc
 unfold af.app
 cases dst with
 | none=>exact h4
 | some d=>
  simp only[af.Qrv,Bool.and_eq_true,af.fM] at h4 ⊢
  refine⟨⟨q5.2 fun x hx=>?_,h4.1.2⟩,h4.2⟩
  rcases List.mem_or_eq_of_mem_set hx with hx | rfl
  ·exact q5.1 h4.1.1 x hx
  ·exact hv

theorem wA {r:Rec}{ob:Nat}(h:r.cR ob=false):r.eu.val.aT ob=true∧ob∉r.eu.targets∧∀u,r.eu.eM=some u→u.2.aT ob=true:=by
 simp only[Rec.cR,Bool.or_eq_false_iff,Bool.not_eq_false'] at h
 refine⟨h.1.1.2,by simpa using h.1.2,fun u hu=>?_⟩
 have:=h.2
 rw[hu] at this
 simpa using this

theorem uj {ob:Nat}(h:Qck σ ob):∀n,(∀j,j<n→D j=true→∃r,R[j]? = some r∧r.cR ob=false)→Qck (cH ops R D σ n) ob
 | 0,_=>h
 | n+1,hj=>by
  have ih:=uj h n fun j hjn=>hj j (by omega)
  unfold cH
  split
  ·rename_i hD
   obtain⟨r,hr,ht⟩:=hj n (by omega) hD
   obtain⟨h2,h3,h4⟩:=wA ht
   have he:gJ R n=r.eu:=by simp[gJ,hr]
   rw[he]
   exact LF ih h2 h3 h4
  ·exact ih

end
end
end

section
noncomputable section

section
variable {P:Program} {ops:Array Oper} {R:List Rec} {σ:af} {w0:World} {X:kG} {env:List D}

structure ZX (P:Program)(ops:Array Oper)(R:List Rec)(σ:af)(env:List D)(i:Nat)(o:Oper)(r:Rec):Prop where
 at_:R[i]? = some r
 eu:oe P ops o (lex ops R σ i) r.ix=some r.eu
 seen:r.seen=ug ops o (lex ops R σ i)
 bind:cn P env r.ix r.eu.bind
 ix:r.ix≤env.length
 alt:∃ys,QD P ops R σ (lF ops.toList []) i=some ys∧∀y,y∈ys→∃d,y.eval env=some d

theorem sV (h:qt ops R σ=true){i:Nat}{o:Oper}{r:Rec}(ho:ops[i]? = some o)(hr:R[i]? = some r) :
  (∀e,e∈o.after→Region.binds .any e=true→e.on<i)∧qB σ o=true∧(jL o=true→∀u,r.eu.eM=some u→u.1=bN∨Qck σ u.1) ∧
  ∀(j:Nat) (oj:Oper) (rj:Rec),j<i→ops[j]? = some oj→R[j]? = some rj→(xQ ops oj o rj r=true→nP ops oj o rj r=false→((lF ops.toList []).getD i 0).testBit j=true)∧(jL o=true→∀u,r.eu.eM=some u→u.1=bN∨rj.cR u.1=false):=by
 have hi:=(Array.getElem?_eq_some_iff.1 ho).1
 unfold qt at h
 rw[Bool.and_eq_true] at h
 replace h:=h.2
 have h:=List.all_eq_true.1 h i (List.mem_range.2 hi)
 unfold ad4 at h
 rw[ho,hr] at h
 simp only[Bool.and_eq_true,List.all_eq_true,List.mem_range] at h
 obtain⟨⟨⟨h1,h2⟩,h3⟩,h4⟩:=h
 refine⟨fun e he hb=>?_,h2,fun hn u hu=>?_,fun j oj rj hj pq rR=>?_⟩
 ·have:=Array.all_eq_true'.1 h1 e he
  simpa[hb] using this
 ·rw[hn,hu] at h3
  simpa[Qck] using h3
 ·have:=h4 j hj
  rw[pq,rR] at this
  simp only[Uc,Bool.and_eq_true,Bool.or_eq_true,Bool.not_eq_true'] at this
  refine⟨fun hc hs=>by rw[hc,hs] at this;simpa using this.1,fun hn u hu=>?_⟩
  have:=this.2
  rw[hn,hu] at this
  simpa using this

theorem SA {oj oi:Oper}{rj ri:Rec}{t:Tmp}(hd:oj.dst=some t)(ht:t∈oi.looksAt ops):xQ ops oj oi rj ri=true:=by
 have:oj.apart ops oi=false:=by
  rw[←Bool.not_eq_true]
  intro h
  exact(Oper.apart_spec h).1 t hd ht
 simp[xQ,this]

theorem OW {oj oi:Oper}{rj ri:Rec}{t:Tmp}(hd:oi.dst=some t)(ht:t∈oj.looksAt ops):xQ ops oj oi rj ri=true:=by
 have:oj.apart ops oi=false:=by
  rw[←Bool.not_eq_true]
  intro h
  exact(Oper.apart_spec h).2.2 t hd ht
 simp[xQ,this]

theorem L6 {oj oi:Oper}{rj ri:Rec}{t:Tmp}(hd:oj.dst=some t)(ht:oi.dst=some t):xQ ops oj oi rj ri=true:=by
 have:oj.apart ops oi=false:=by
  rw[←Bool.not_eq_true]
  intro h
  exact(Oper.apart_spec h).2.1 t hd ht
 simp[xQ,this]

theorem zo {oj oi:Oper}{rj ri:Rec}{ob:Nat}(hu:ob∈rj.eu.targets)(ht:ri.cR ob=true)(hx:Qiq oj oi ri ob=false):xQ ops oj oi rj ri=true:=by
 have:rj.eu.targets.any (fun ob=>ri.cR ob&&!Qiq oj oi ri ob)=true:=List.any_eq_true.2 ⟨ob,hu,by simp[ht,hx]⟩
 unfold xQ
 rw[this]
 simp

theorem v7 {oj oi:Oper}{rj ri:Rec}{ob:Nat}(hu:ob∈ri.eu.targets)(ht:rj.cR ob=true)(hx:Qiq oi oj rj ob=false):xQ ops oj oi rj ri=true:=by
 have:ri.eu.targets.any (fun ob=>rj.cR ob&&!Qiq oi oj rj ob)=true:=List.any_eq_true.2 ⟨ob,hu,by simp[ht,hx]⟩
 unfold xQ
 rw[this]
 simp

theorem Qqz {ow oy:Oper}{ry:Rec}:Qiq ow oy ry bN=false:=by simp[Qiq]
theorem T1 {ow oy:Oper}{ry:Rec}{ob:Nat}(h:jL ow=true):Qiq ow oy ry ob=false:=by simp[Qiq,h]
theorem aik {ow oy:Oper}{ry:Rec}{ob ob':Nat}(h:ob'∈ry.eu.targets):Qiq ow oy ry ob=false:=by
 have:ry.reader=false:=by
  rw[←Bool.not_eq_true];intro hr
  rw[mA hr] at h;cases h
 simp[Qiq,this]
theorem T0 {ow oy:Oper}{ry:Rec}{ob:Nat}(h:¬(Qsw oy=true∧ry.reader=true)):Qiq ow oy ry ob=false:=by
 have:(Qsw oy&&ry.reader)=false:=by rw[←Bool.not_eq_true,Bool.and_eq_true];exact h
 simp[Qiq,this]

theorem Qcj {r:Rec}{sv:SV}{ob:Nat}(h:sv∈r.seen)(ha:sv.aT ob=false):r.cR ob=true:=by
 have:r.seen.any (fun sv=>!sv.aT ob)=true:=List.any_eq_true.2 ⟨sv,h,by simp[ha]⟩
 simp[Rec.cR,this]

theorem qi {r:Rec}{ob:Nat}(h:ob∈r.eu.targets):r.cR ob=true:=by
 simp[Rec.cR,h]

theorem wY {e:j5}{u:Nat×bl}(h:e.eM=some u):u.1∈e.targets:=by simp[j5.targets,h]

theorem nG {j:Nat}{t:Tmp}(h:mW ops j=some t):∃o,ops[j]? = some o∧o.dst=some t:=Option.bind_eq_some_iff.1 h

theorem sU {D:Nat→Bool} (hD:jU ops D) {i:Nat} {o:Oper} (ho:ops[i]? = some o) (hi:D i=false)
  (ha:∀e,e∈o.after→Region.binds .any e=true→D e.on=true) {j:Nat} {oj:Oper} (pq:ops[j]? = some oj) (h1:j<i→((lF ops.toList []).getD i 0).testBit j=true) (h2:i<j→((lF ops.toList []).getD j 0).testBit i=true):D j=decide (j<i):=by
 rcases Nat.lt_trichotomy j i with h | h | h
 ·rw[xo hD ho ha (h1 h)]
  simp[h]
 ·subst h;rw[hi];simp
 ·have hm:=h2 h
  have:D j=false:=by
   rw[←Bool.not_eq_true]
   intro IX
   have:=xo hD pq (hD j oj IX pq) hm
   rw[hi] at this
   cases this
  rw[this];simp;omega

theorem Nh (hok:qt ops R σ=true) {D:Nat→Bool} (hD:jU ops D) {i:Nat} {o:Oper} {r:Rec} (ho:ops[i]? = some o) (hr:R[i]? = some r) (hi:D i=false)
  (ha:∀e,e∈o.after→Region.binds .any e=true→D e.on=true) {j:Nat} {oj:Oper} {rj:Rec} (pq:ops[j]? = some oj) (rR:R[j]? = some rj) (hc:(xQ ops oj o rj r=true∧nP ops oj o rj r=false)∧xQ ops o oj r rj=true∧nP ops o oj r rj=false):D j=decide (j<i):=
 sU hD ho hi ha pq (fun h=>(sV hok ho hr).2.2.2 j oj rj h pq rR |>.1 hc.1.1 hc.1.2) fun h=>(sV hok pq rR).2.2.2 i o r h ho hr |>.1 hc.2.1 hc.2.2

theorem sG {oj oi:Oper}{rj ri:Rec}(h:oj.apart ops oi=false):nP ops oj oi rj ri=false:=by simp[nP,h]

theorem Fi {oj oi:Oper}{t:Tmp}(hd:oj.dst=some t)(ht:t∈oi.looksAt ops):oj.apart ops oi=false:=by
 rw[←Bool.not_eq_true]
 intro h
 exact(Oper.apart_spec h).1 t hd ht

theorem B4 {oj oi:Oper}{t:Tmp}(hd:oi.dst=some t)(ht:t∈oj.looksAt ops):oj.apart ops oi=false:=by
 rw[←Bool.not_eq_true]
 intro h
 exact(Oper.apart_spec h).2.2 t hd ht

theorem wg {oj oi:Oper}{t:Tmp}(hd:oj.dst=some t)(ht:oi.dst=some t):oj.apart ops oi=false:=by
 rw[←Bool.not_eq_true]
 intro h
 exact(Oper.apart_spec h).2.1 t hd ht

theorem PI {oj oi:Oper}{rj ri:Rec}{ob:Nat}(h:ob∈rj.eu.targets)(hne:ob≠bN):nP ops oj oi rj ri=false∧nP ops oi oj ri rj=false:=by
 have h1:rj.reader=false:=by
  rw[←Bool.not_eq_true];intro hr
  rw[mA hr] at h;cases h
 have h2:rj.sF=false:=by
  rw[←Bool.not_eq_true];intro hr
  rw[C5 hr] at h;simp at h;exact hne h
 simp[nP,h1,h2]

theorem TS {oj oi:Oper}{rj ri:Rec}{ob ob':Nat}(h:ob∈rj.eu.targets)(h':ob'∈ri.eu.targets):nP ops oj oi rj ri=false∧nP ops oi oj ri rj=false:=by
 have h1:rj.reader=false:=by
  rw[←Bool.not_eq_true];intro hr
  rw[mA hr] at h;cases h
 have h2:ri.reader=false:=by
  rw[←Bool.not_eq_true];intro hr
  rw[mA hr] at h';cases h'
 simp[nP,h1,h2]

theorem Rr {ms:List Nat}{i j:Nat}{rj:Rec}(hj:j<ops.size)(rR:R[j]? = some rj)(hs:rj.sF=true)(hne:j≠i)(h:j∉J6 ops R ms i):(j<i→(ms.getD i 0).testBit j=true)∧(i<j→(ms.getD j 0).testBit i=true):=by
 unfold J6 at h
 rw[List.mem_filter] at h
 simp only[List.mem_range,hj,true_and,rR,hs,Bool.true_and,Bool.and_eq_true,Bool.not_eq_true',decide_eq_true_eq,Bool.and_eq_false_iff,decide_eq_false_iff_not] at h
 refine⟨fun hlt=>Classical.byContradiction fun hb=>h ⟨⟨.inr (by simpa using hb),.inl (by omega)⟩,hne⟩,fun hlt=>Classical.byContradiction fun hb=>h ⟨⟨.inl (by omega),.inr (by simpa using hb)⟩,hne⟩⟩

theorem JQ {D:Nat→Bool} (hok:qt ops R σ=true) (hF:∀(i:Nat) (o:Oper),ops[i]? = some o→∃r,ZX P ops R σ env i o r) (hD:jU ops D) {i:Nat} {o:Oper} (ho:ops[i]? = some o) (hi:D i=false)
  (ha:∀e,e∈o.after→Region.binds .any e=true→D e.on=true):∃r:Rec,cn P env r.ix r.eu.bind∧r.ix≤env.length∧nT P ops o (cH ops R D σ ops.size) r.ix=some (cH ops R (fun j=>D j||j==i) σ ops.size,r.eu.bind):=by
 obtain⟨r,f⟩:=hF i o ho
 have hin:=(Array.getElem?_eq_some_iff.1 ho).1
 obtain⟨_,ig,hfr,Qj⟩:=sV hok ho f.at_
 have gp:∀(j:Nat),j<ops.size→∃oj rj,ops[j]? = some oj∧R[j]? = some rj:=fun j hj=>by
  obtain⟨rj,fj⟩:=hF j ops[j] (Array.getElem?_eq_getElem hj)
  exact⟨_,rj,Array.getElem?_eq_getElem hj,fj.at_⟩
 have hdone:=fun {j:Nat} {oj:Oper} {rj:Rec}=>Nh (j:=j) (oj:=oj) (rj:=rj) hok hD ho f.at_ hi ha
 have IJ:∀t,t∈o.looksAt ops→(cH ops R D σ ops.size).tmp t=(lex ops R σ i).tmp t:=by
  intro t ht
  refine yy (Nat.le_of_lt hin) fun j hj hjt=>?_
  obtain⟨oj,pq,hdj⟩:=nG hjt
  obtain⟨rj,fj⟩:=hF j oj pq
  exact hdone pq fj.at_ ⟨⟨SA hdj ht,sG (Fi hdj ht)⟩,OW hdj ht,sG (B4 hdj ht)⟩
 have fP:¬(Qsw o=true∧r.reader=true)→∀ob,ob≠bN→r.cR ob=true→(cH ops R D σ ops.size).obj ob=(lex ops R σ i).obj ob:=by
  intro hnb ob hne nC
  refine sN (Nat.le_of_lt hin) fun j hj N8=>?_
  obtain⟨oj,rj,pq,rR⟩:=gp j hj
  have Zk:ob∈rj.eu.targets:=by simpa[gJ,rR] using N8
  obtain⟨hs1,fX⟩:=PI (ops:=ops) (oj:=oj) (oi:=o) (ri:=r) Zk hne
  exact hdone pq rR ⟨⟨zo Zk nC (T0 hnb),hs1⟩,v7 Zk nC (T0 hnb),fX⟩
 have s7:∀t ob,t∈o.looksAt ops→((lex ops R σ i).tmp t).aT ob=false→r.cR ob=true:=fun t ob ht ox=>Qcj (sv:=(lex ops R σ i).tmp t) (by rw[f.seen];exact List.mem_append.2 (.inl (List.mem_map_of_mem ht))) ox
 have II:iq o (fun x=>((lex ops R σ i).zS x).Nu) (jv (lex ops R σ i).obj)=true→r.cR bN=true:=fun hu=>Qcj (sv:=.oc bN) (by rw[f.seen];refine List.mem_append.2 (.inr ?_);rw[hu];simp) (by simp[SV.aT])
 have Zy:OY R σ=true:=by
  unfold qt at hok
  rw[Bool.and_eq_true] at hok
  exact hok.1
 have hC:jv (cH ops R D σ ops.size).obj=jv (lex ops R σ i).obj:=(Dk Zy _).trans (Dk Zy _).symm
 have af8:cH ops R (fun j=>D j||j==i) σ ops.size=(cH ops R D σ ops.size).app o.dst r.eu:=by
  rw[Ag hi ops.size hin fun j hj hij IX=>?_]
  ·have h1:mW ops i=o.dst:=by simp[mW,ho]
   have h2:gJ R i=r.eu:=by simp[gJ,f.at_]
   rw[h1,h2]
  ·obtain⟨oj,rj,pq,rR⟩:=gp j hj
   have hno:¬((xQ ops oj o rj r=true∧nP ops oj o rj r=false)∧xQ ops o oj r rj=true∧nP ops o oj r rj=false):=by
    intro hc
    have:=hdone pq rR hc
    rw[IX] at this
    simp at this
    omega
   refine⟨fun t h1 h2=>hno ?_,fun ob h1 h2=>hno ?_⟩
   ·obtain⟨o1,MA,IT⟩:=nG h1
    obtain⟨o2,RU,hd2⟩:=nG h2
    rw[ho] at MA;rw[pq] at RU
    cases MA;cases RU
    exact⟨⟨L6 hd2 IT,sG (wg hd2 IT)⟩,L6 IT hd2,sG (wg IT hd2)⟩
   ·have JF:ob∈r.eu.targets:=by simpa[gJ,f.at_] using h1
    have hu2:ob∈rj.eu.targets:=by simpa[gJ,rR] using h2
    obtain⟨hs1,fX⟩:=TS (ops:=ops) (oj:=oj) (oi:=o) hu2 JF
    exact⟨⟨v7 JF (qi hu2) (aik hu2),hs1⟩,zo JF (qi hu2) (aik hu2),fX⟩
 have fin:∀e:j5,oe P ops o (cH ops R D σ ops.size) r.ix=some e→cn P env r.ix e.bind→e.val=r.eu.val→e.eM=r.eu.eM→e.del=r.eu.del→∃r:Rec,cn P env r.ix r.eu.bind∧r.ix≤env.length∧nT P ops o (cH ops R D σ ops.size) r.ix=some (cH ops R (fun j=>D j||j==i) σ ops.size,r.eu.bind):=by
  intro e uZ Qfv h1 h2 h3
  refine⟨⟨e,[],r.ix⟩,Qfv,f.ix,?_⟩
  have abA:cH ops R (fun j=>D j||j==i) σ ops.size=(cH ops R D σ ops.size).app o.dst e:=by
   rw[af8]
   simp only[af.app,h1,h2,h3]
  rw[abA]
  refine wG uZ ?_ fun hn u hu=>?_
  ·unfold qB at ig ⊢
   rw[(kJ ..).1]
   exact ig
  ·have hu:=h2 ▸ hu
   rcases hfr hn u hu with hH1 | hfr
   ·exact .inl hH1
   by_cases hne:u.1=bN
   ·exact .inl hne
   refine .inr (uj hfr ops.size fun j hj IX=>?_)
   obtain⟨oj,rj,pq,rR⟩:=gp j hj
   refine⟨rj,rR,?_⟩
   rcases Nat.lt_trichotomy j i with h | h | h
   ·exact((Qj j oj rj h pq rR).2 hn u hu).resolve_left hne
   ·subst h;rw[hi] at IX;cases IX
   ·rw[←Bool.not_eq_true]
    intro ht
    obtain⟨hs1,fX⟩:=PI (ops:=ops) (oj:=o) (oi:=oj) (ri:=rj) (wY hu) hne
    have:=hdone pq rR ⟨⟨v7 (wY hu) ht (T1 hn),fX⟩,zo (wY hu) ht (T1 hn),hs1⟩
    rw[IX] at this
    simp at this
    omega
 by_cases q_:Qsw o=true∧r.reader=true
 ·have hrd:=q_.2
  unfold Rec.reader at hrd
  rw[Bool.and_eq_true] at hrd
  exact fin r.eu (anP q_.1 IJ hC f.eu hrd) f.bind rfl rfl rfl
 have fP:=fP q_
 by_cases hkeep:r.cR bN=true→(cH ops R D σ ops.size).obj bN=(lex ops R σ i).obj bN
 ·have uZ:oe P ops o (cH ops R D σ ops.size) r.ix=some r.eu:=by
   rw[sP IJ (fun t ob ht ox=>?_) hC (fun hu=>hkeep (II hu))]
   ·exact f.eu
   ·by_cases hne:ob=bN
    ·subst hne;exact hkeep (s7 t _ ht ox)
    ·exact fP ob hne (s7 t ob ht ox)
  exact fin r.eu uZ f.bind rfl rfl rfl
 ·-- a writer of Qiw store has aiy place
  rw[Classical.not_imp] at hkeep
  obtain⟨nC,hkeep⟩:=hkeep
  have hw:∀j,j<ops.size→bN∈(gJ R j).targets→D j=decide (j<i)∨(r.reader=true∧j∈J6 ops R (lF ops.toList []) i):=by
   intro j hj N8
   obtain⟨oj,rj,pq,rR⟩:=gp j hj
   have Zk:bN∈rj.eu.targets:=by simpa[gJ,rR] using N8
   by_cases hji:j=i
   ·subst hji;left;rw[hi];simp
   by_cases UY:r.reader=true∧rj.sF=true
   ·by_cases hm:j∈J6 ops R (lF ops.toList []) i
    ·exact .inr ⟨UY.1,hm⟩
    ·obtain⟨m1,m2⟩:=Rr hj rR UY.2 hji hm
     exact .inl (sU hD ho hi ha pq m1 m2)
   ·have Ll:rj.reader=false:=by
     rw[←Bool.not_eq_true];intro hr
     rw[mA hr] at Zk;cases Zk
    have hs:∀{o1 o2:Oper},nP ops o1 o2 rj r=false∧nP ops o2 o1 r rj=false:=by
     intro o1 o2
     have:(r.reader&&rj.sF)=false:=by
      rw[←Bool.not_eq_true,Bool.and_eq_true];exact UY
     simp only[nP,Ll,this,Bool.false_and,Bool.or_false,Bool.and_false,and_self]
    exact .inl (hdone pq rR ⟨⟨zo Zk nC Qqz,hs.1⟩,v7 Zk nC Qqz,hs.2⟩)
  have hsame:(∀j,j<ops.size→bN∈(gJ R j).targets→D j=decide (j<i))→False:=fun h=>hkeep (sN (Nat.le_of_lt hin) h)
  have hread:r.reader=true:=by
   refine Classical.byContradiction fun hn=>hsame fun j hj N8=>?_
   exact(hw j hj N8).resolve_right fun h=>hn h.1
  obtain⟨ys,hys,cV⟩:=f.alt
  unfold QD at hys
  simp only[ho,f.at_,hread,nC,Bool.and_self,if_true] at hys
  split at hys
  ·rename_i hs
   exact(hsame fun j hj N8=>(hw j hj N8).resolve_right fun h=>by rw[hs] at h;cases h.2).elim
  ·rename_i j0 hs
   have hD0:D j0≠decide (j0<i):=by
    intro h
    refine hsame fun j hj N8=>(hw j hj N8).elim id fun h'=>?_
    rw[hs] at h'
    have:=h'.2
    simp at this
    rw[this];exact h
   have halt:(cH ops R D σ ops.size).obj bN=Jw ops R σ i j0:=by
    refine Af ops.size fun j hj N8=>?_
    by_cases hj0:j=j0
    ·subst hj0
     cases IX:D j <;> cases hdj:decide (j<i) <;> simp_all
    ·have:D j=decide (j<i):=(hw j hj N8).resolve_right fun h=>by rw[hs] at h;simp at h;exact hj0 h.2
     show D j=(decide (j<i) != (j==j0))
     rw[this,show(j==j0)=false from by simpa using hj0]
     cases decide (j<i) <;> rfl
   split at hys
   ·rename_i e he
    split at hys
    ·rename_i hc
     simp only[Bool.and_eq_true,Option.isNone_iff_eq_none] at hc
     have hrd:=hread
     unfold Rec.reader at hrd
     simp only[Bool.and_eq_true,Option.isNone_iff_eq_none] at hrd
     have uZ:oe P ops o (cH ops R D σ ops.size) r.ix=some e:=by
      rw[←he]
      have hH:((lex ops R σ i).setObj bN (Jw ops R σ i j0)).obj bN=Jw ops R σ i j0:=by rw[f_,if_pos (.inl rfl)]
      refine sP (fun t ht=>?_) (fun t ob ht ox=>?_) ?_ fun _=>by rw[hH];exact halt
      ·rw[af.ga];exact IJ t ht
      ·rw[af.ga] at ox
       by_cases hne:ob=bN
       ·subst hne;rw[hH];exact halt
       ·rw[ep (Ne.symm hne)];exact fP ob hne (s7 t ob ht ox)
      ·rw[iC,iC,hH,halt]
     have hb:cn P env r.ix e.bind:=by
      split at hys
      ·rename_i b a jC hba
       cases hys
       obtain⟨d,hd⟩:=cV _ (List.mem_singleton_self _)
       have h0:=f.bind
       rw[hba] at h0
       obtain⟨da,h1,h2⟩:=h0
       rw[jC]
       simp only[E.eval,h1,Option.bind_some,Option.bind_eq_some_iff] at hd
       obtain⟨db,h3,h4⟩:=hd
       simp only[Am.D.m4] at h4
       split at h4
       ·rename_i hsm
        have:=Am.D.dU hsm
        subst this
        exact⟨da,h3,h2⟩
       ·cases h4
      ·rename_i jC hba
       rw[jC];trivial
      ·cases hys
     exact fin e uZ hb (SV.dU hc.1.1) (hc.1.2.trans hrd.1.symm) (hc.2.trans hrd.2.symm)
    ·cases hys
   ·cases hys
  ·cases hys

abbrev Qbq (listed:Array Bool):Nat→Bool:=fun j=>listed.getD j false

theorem BS {p q:Nat→Bool}{i:Nat}:∀{l:List Nat},(∀j,q j=true→p j=true)→i∈l→p i=true→q i=false→l.countP q<l.countP p
 | [],_,h,_,_=>by cases h
 | j :: l,hpq,hm,hp,hq=>by
  have hle:l.countP q≤l.countP p:=List.countP_mono_left fun x _ hx=>hpq x hx
  rw[List.countP_cons,List.countP_cons]
  rcases List.mem_cons.1 hm with rfl | hm
  ·rw[hp,hq];simp;omega
  ·have ih:=BS hpq hm hp hq
   cases hqj:q j with
   | false=>cases p j <;> simp <;> omega
   | true=>rw[hpq j hqj];simp;omega

theorem F6 {rd:Option Nat} {n:Nat} {Q:Exit→Act→World→Prop} {st:(Nat→Bool)→af} (abz:∀(i:Nat) (o:Oper),ops[i]? = some o→∀e,e∈o.after→Region.binds .any e=true→e.on<i)
  (hst:∀(D:Nat→Bool) (i:Nat) (o:Oper),jU ops D→ops[i]? = some o→D i=false→(∀e,e∈o.after→Region.binds .any e=true→D e.on=true)→∃r:Rec,cn P env r.ix r.eu.bind∧r.ix≤env.length∧nT P ops o (st D) r.ix=some (st (fun j=>D j||j==i),r.eu.bind))
  (hlen:∀D,(st D).tmps.length=σ.tmps.length∧(st D).mem.length=σ.mem.length) (abq:∀D D':Nat→Bool,(∀j,j<ops.size→D j=D' j)→st D=st D') (hm:σ.mem.length=σ.tmps.length)
  (hsz:∀(j d:Nat),(ops[j]?).bind (fun(o:Oper)=>o.dst)=some d→d<σ.tmps.length) (hQ:∀a' w' ρ',cu w0 X w' a' (st fun _=>true) env ρ'→Q .normal a' w') :
  ∀(fuel:Nat) (listed:Array Bool) (a:Act) (w:World) (ρ:dJ),listed.size=ops.size→jU ops (Qbq listed)→(List.range ops.size).countP (fun j=>!Qbq listed j)≤fuel →
   cu w0 X w a (st (Qbq listed)) env ρ→wpAnyIn (FW rd) n P .any ops Q fuel listed a w:=by
 have hall:∀(listed:Array Bool),listed.size=ops.size→Region.ready .any ops listed=[]→∀j,j<ops.size→Qbq listed j=true:=by
  intro listed hs hr j
  induction j using Nat.strongRecOn with
  | _ j ih=>
   intro hj
   refine Classical.byContradiction fun hnd=>?_
   have hmem:j∈Region.ready .any ops listed:=by
    refine mem_ready.2 ⟨?_,ops[j],Array.getElem?_eq_getElem hj,fun e he hb=>?_⟩
    ·simp only[Qbq,Array.getD_eq_getD_getElem?,Array.getElem?_eq_getElem (show j<listed.size by omega),Option.getD_some] at hnd ⊢
     simpa using hnd
    ·have:=abz j ops[j] (Array.getElem?_eq_getElem hj) e he hb
     exact ih e.on this (by omega)
   rw[hr] at hmem
   cases hmem
 have hend:∀(listed:Array Bool) (a:Act) (w:World) (ρ:dJ),listed.size=ops.size→Region.ready .any ops listed=[]→cu w0 X w a (st (Qbq listed)) env ρ→Q .normal a w:=by
  intro listed a w ρ hs hr bn
  rw[abq _ (fun _=>true) fun j hj=>hall listed hs hr j hj] at bn
  exact hQ a w ρ bn
 intro fuel
 induction fuel with
 | zero=>
  intro listed a w ρ hs hD hc bn
  have wm:Region.ready .any ops listed=[]:=by
   cases hr:Region.ready .any ops listed with
   | nil=>rfl
   | cons j l=>
    have hmem:j∈Region.ready .any ops listed:=by rw[hr];simp
    obtain⟨h1,o,ho,_⟩:=mem_ready.1 hmem
    have hj:=(Array.getElem?_eq_some_iff.1 ho).1
    have hpos:0<(List.range ops.size).countP (fun j=>!Qbq listed j):=List.countP_pos_iff.2 ⟨j,List.mem_range.2 hj,by
     simp only[Qbq,Array.getD_eq_getD_getElem?,Array.getElem?_eq_getElem (show j<listed.size by omega),Option.getD_some] at h1 ⊢
     simpa using h1⟩
    omega
  exact⟨wm,hend listed a w ρ hs wm bn⟩
 | succ fuel ih=>
  intro listed a w ρ hs hD hc bn
  refine⟨fun wm=>hend listed a w ρ hs wm bn,fun i hi=>?_⟩
  obtain⟨h1,o,ho,ha⟩:=mem_ready.1 hi
  have hin:=(Array.getElem?_eq_some_iff.1 ho).1
  have mU:i<listed.size:=by omega
  have hDi:Qbq listed i=false:=by
   simp only[Qbq,Array.getD_eq_getD_getElem?,Array.getElem?_eq_getElem mU,Option.getD_some] at h1 ⊢
   exact h1
  have kY:Qbq (listed.setIfInBounds i true)=fun j=>Qbq listed j||j==i:=by
   funext j
   simp only[Qbq,Array.getD_eq_getD_getElem?,Array.getElem?_setIfInBounds]
   by_cases hij:i=j
   ·subst hij;simp[mU]
   ·have:(j==i)=false:=by simp;omega
    simp[hij,this]
  obtain⟨r,Qfv,cW,hstep⟩:=hst _ i o hD ho hDi ha
  have hD':jU ops (Qbq (listed.setIfInBounds i true)):=by
   rw[kY]
   intro k ok hk U9 e he hb
   simp only[Bool.or_eq_true,beq_iff_eq] at hk ⊢
   rcases hk with hk | rfl
   ·exact .inl (hD k ok hk U9 e he hb)
   ·rw[ho] at U9;cases U9
    exact .inl (ha e he hb)
  have abp:(List.range ops.size).countP (fun j=>!Qbq (listed.setIfInBounds i true) j)≤fuel:=by
   have:=BS (p:=fun j=>!Qbq listed j) (q:=fun j=>!Qbq (listed.setIfInBounds i true) j) (i:=i) (l:=List.range ops.size) (fun j hj=>by rw[kY] at hj;simp at hj ⊢;exact hj.1) (List.mem_range.2 hin) (by simp[hDi]) (by rw[kY];simp)
   omega
  have hnext:∀a' w' ρ',cu w0 X w' a' (st (fun j=>Qbq listed j||j==i)) env ρ'→wpAnyIn (FW rd) n P .any ops Q fuel (listed.setIfInBounds i true) a' w':=by
   intro a' w' ρ' hr'
   exact ih _ a' w' ρ' (by simp[hs]) hD' abp (by rw[kY];exact hr')
  have hlen:=hlen (Qbq listed)
  unfold wpOpIn
  rw[ho]
  simp only
  rcases Bj bn (by rw[hlen.1,hlen.2];exact hm) cW (fun j d hjd=>by rw[hlen.1];exact hsz j d hjd) hstep Qfv with⟨hw,afB⟩ | ⟨hw,ρ'',hr'⟩
  ·rw[if_pos hw]
   refine iN (Bk hstep) (afB Q) ?_
   rintro a' w' ⟨ρ',hr'⟩
   exact hnext a' w' ρ' hr'
  ·rw[if_neg (by rw[hw];simp)]
   exact⟨fun _ _=>trivial,hnext _ _ _ hr'⟩

theorem Qbv {rd:Option Nat} {n:Nat} {Q:Exit→Act→World→Prop} (hok:qt ops R σ=true) (hF:∀(i:Nat) (o:Oper),ops[i]? = some o→∃r,ZX P ops R σ env i o r) (hm:σ.mem.length=σ.tmps.length)
  (hsz:∀(j d:Nat),(ops[j]?).bind (fun(o:Oper)=>o.dst)=some d→d<σ.tmps.length) (hQ:∀a' w' ρ',cu w0 X w' a' (lex ops R σ ops.size) env ρ'→Q .normal a' w') :
  ∀(fuel:Nat) (listed:Array Bool) (a:Act) (w:World) (ρ:dJ),listed.size=ops.size→jU ops (Qbq listed)→(List.range ops.size).countP (fun j=>!Qbq listed j)≤fuel →
   cu w0 X w a (cH ops R (Qbq listed) σ ops.size) env ρ→wpAnyIn (FW rd) n P .any ops Q fuel listed a w:=
 F6 (st:=fun D=>cH ops R D σ ops.size) (fun i o ho=>by
  obtain⟨r,f⟩:=hF i o ho
  exact(sV hok ho f.at_).1) (fun D i o hD ho hi ha=>JQ hok hF hD ho hi ha) (fun D=>kJ ops R D σ ops.size) (fun D D' h=>l9 ops.size h) hm hsz hQ

end
end
end

section
noncomputable section

def oF (cf:cz)(e:j5):Option Nat:=
 match e.eM with
 | some (k,.store Qdy (.sym n))=>if k=bN∧Qdy=cf then some n else none
 | _=>none

theorem oD {cf:cz}{e:j5}{n:Nat}(h:oF cf e=some n):e.eM=some (bN,.store cf (.sym n)):=by
 unfold oF at h
 split at h
 ·rename_i k Qdy n' hu
  split at h
  ·rename_i hc
   cases h
   rw[hu,hc.1,hc.2]
  ·cases h
 ·cases h

def j5.bare (e:j5):j5:=match e.eM with | some u=>if u.1=bN then { e with eM:=none } else e | none=>e

def tO (R:List Rec):List Rec:=R.map fun r=>{ r with eu:=r.eu.bare }

structure Tg where
 i:Nat
 j:Nat
 ni:Nat
 nj:Nat
 ja:Nat

def fP (σ:af)(cf:cz)(t:Tg):Bool→Bool→Option bl
 | false,false=>σ.obj bN
 | true,false=>some (.store cf (.sym t.ni))
 | false,true=>some (.store cf (.sym t.ja))
 | true,true=>some (.store cf (.sym t.nj))

def vp (ops:Array Oper)(oj oi:Oper)(rj ri:Rec):Bool:=
 !oj.apart ops oi||rj.eu.bare.targets.any ri.cR||ri.eu.bare.targets.any rj.cR

def Ue (ops:Array Oper)(R:List Rec)(σ:af)(m i:Nat):Bool:=
 match ops[i]?,R[i]? with
 | some oi,some ri=>oi.after.all (fun e=>!Region.binds .any e||decide (e.on<i))&&qB σ oi &&
   (!jL oi||match ri.eu.eM with | some u=>decide (u.1=bN)||((σ.obj u.1).isNone&&σ.Qrv u.1) | none=>true) &&
   (List.range i).all fun j=>match ops[j]?,R[j]? with
    | some oj,some rj=>(!vp ops oj oi rj ri||m.testBit j)&&(!jL oi||match ri.eu.eM with | some u=>decide (u.1=bN)||!rj.cR u.1 | none=>true)
    | _,_=>true
 | _,_=>false

def HZ (R:List Rec)(cf:cz)(t:Tg):Bool:=
 decide (t.i<t.j)&&(List.range R.length).all fun k=>match R[k]? with
  | some r=>decide (r.eu.del≠some bN)&&(if k=t.i then decide (oF cf r.eu=some t.ni) else if k=t.j then decide (oF cf r.eu=some t.nj) else match r.eu.eM with
   | some u=>decide (u.1≠bN)
   | none=>true)
  | none=>true

def rG (ops:Array Oper)(R:List Rec)(σ:af)(cf:cz)(t:Tg):Bool:=
 decide (ops.size=R.length)&&decide (zy (σ.obj bN)=some cf)&&HZ R cf t&&(List.range ops.size).all fun i=>Ue ops R σ ((lF ops.toList []).getD i 0) i

def ZI (ms:List Nat)(k w:Nat):Bool:=!(decide (w<k)&&(ms.getD k 0).testBit w)&&!(decide (k<w)&&(ms.getD w 0).testBit k)

def Ja (ms:List Nat)(k w:Nat):List Bool:=if ZI ms k w then[false,true] else[decide (w<k)]

def Qdw (P:Program)(ops:Array Oper)(R:List Rec)(σ:af)(cf:cz)(t:Tg)(k:Nat)(o:Oper)(a b:Bool)(ix:Nat):Option j5:=
 oe P ops o ((lex ops R σ k).setObj bN (fP σ cf t a b)) ix

def WL (P:Program)(ops:Array Oper)(R:List Rec)(σ:af)(cf:cz)(t:Tg)(k:Nat)(o:Oper)(r:Rec)(a b:Bool):Option (List E):=
 if a=decide (t.i<k)∧b=decide (t.j<k) then some [] else match Qdw P ops R σ cf t k o a b r.ix with
 | some e=>if e.val.same r.eu.val&&e.eM.isNone&&r.eu.eM.isNone&&e.del.isNone&&r.eu.del.isNone then(match e.bind,r.eu.bind with
   | some (.ev b),some (.ev a)=>some [.m4 .same a b .nil .nil]
   | none,none=>some []
   | _,_=>none) else none
 | none=>none

def Wt:List (Option (List E))→Option (List E)
 | []=>some []
 | x :: r=>x.bind fun xs=>(Wt r).map (xs++·)

def O_ (P:Program)(ops:Array Oper)(R:List Rec)(σ:af)(cf:cz)(t:Tg)(ms:List Nat)(k:Nat):Option (List E):=
 match ops[k]?,R[k]? with
 | some o,some r=>
  if k=t.i then(match Qdw P ops R σ cf t k o false true t.nj with
   | some e=>if e.val.same r.eu.val&&decide (oF cf e=some t.nj)&&e.del.isNone&&r.eu.del.isNone then(match e.bind with
    | some (.ev b)=>some [.m4 .same b (.sym t.nj) .nil .nil]
    | _=>none) else none
   | none=>none)
  else if k=t.j then(match Qdw P ops R σ cf t k o false false t.ja with
   | some e=>if e.val.same r.eu.val&&decide (oF cf e=some t.ja)&&e.del.isNone&&r.eu.del.isNone then(match e.bind with
    | some (.ev b)=>some [.m4 .same (.sym t.ja) b .nil .nil]
    | _=>none) else none
   | none=>none)
  else if r.cR bN then Wt ((Ja ms k t.i).flatMap fun a=>(Ja ms k t.j).map fun b=>WL P ops R σ cf t k o r a b)
  else some []
 | _,_=>none

def ahw (P:Program)(ops:Array Oper)(R:List Rec)(σ:af)(cf:cz)(t:Tg):Option E:=
 match ops[t.j]? with
 | some o=>(match Qdw P ops R σ cf t t.j o false false t.ja with
  | some e=>(match e.bind with
   | some (.ev b)=>some b
   | _=>none)
  | none=>none)
 | none=>none

def adu (R:List Rec)(cf:cz)(ja:Nat):Option Tg:=
 match(List.range R.length).filterMap fun k=>(R[k]?).bind fun r=>(oF cf r.eu).map fun n=>(k,n) with
 | [(i,ni),(j,nj)]=>some ⟨i,j,ni,nj,ja⟩
 | _=>none

def CJ (P:Program)(ops:Array Oper)(R:List Rec)(σ:af)(ja:Nat):Option (List E):=
 match zy (σ.obj bN) with
 | some cf=>(adu R cf ja).bind fun t=>if rG ops R σ cf t=true then(ahw P ops R σ cf t).bind fun b=>
   (Wt ((List.range ops.size).map (O_ P ops R σ cf t (lF ops.toList [])))).map (b :: ·) else none
 | none=>none

/-! ## states -/

section
variable {P:Program} {ops:Array Oper} {R:List Rec} {σ:af} {D:Nat→Bool} {cf:cz} {t:Tg} {env:List Am.D}

theorem sj (e:j5):e.bare.val=e.val:=by
 unfold j5.bare;split
 ·split <;> rfl
 ·rfl

theorem sk (e:j5):e.bare.del=e.del:=by
 unfold j5.bare;split
 ·split <;> rfl
 ·rfl

theorem lM (e:j5):e.bare.eM=match e.eM with | some u=>if u.1=bN then none else some u | none=>none:=by
 unfold j5.bare
 split
 ·rename_i u hu
  split
  ·rfl
  ·exact hu
 ·rename_i hu;exact hu

theorem zG {e:j5}{ob:Nat}(h:ob∈e.bare.targets)(hd:e.del≠some bN):ob∈e.targets∧ob≠bN:=by
 unfold j5.targets at h ⊢
 rw[lM,sk] at h
 rcases List.mem_append.1 h with h | h
 ·cases hu:e.eM with
  | none=>rw[hu] at h;simp at h
  | some u=>
   rw[hu] at h
   by_cases hh:u.1=bN
   ·simp[hh] at h
   ·simp[hh] at h
    subst h
    exact⟨by simp,hh⟩
 ·cases hk:e.del with
  | none=>rw[hk] at h;simp at h
  | some k=>
   rw[hk] at h
   simp at h
   subst h
   exact⟨by simp,fun e=>hd (by rw[hk,e])⟩

def s4 (e:j5)(z:Option bl):Option bl:=match e.eM with | some u=>if u.1=bN then some u.2 else z | none=>z

theorem Fh {τ:af}{dst:Option Tmp}{e:j5}{z:Option bl}(hd:e.del≠some bN):(τ.setObj bN z).app dst e=(τ.app dst e.bare).setObj bN (s4 e z):=by
 have two:∀(τ:af) (x y:Option bl),(τ.setObj bN x).setObj bN y=τ.setObj bN y:=by
  intro τ x y
  simp[af.fD]
 unfold af.app s4
 rw[lM,sk,sj,Dy]
 congr 1
 cases hk:e.del with
 | none=>
  cases hu:e.eM with
  | none=>rfl
  | some u=>
   by_cases hh:u.1=bN
   ·simp only[hh,if_true,af.jM,af.sets,two]
   ·simp only[hh,if_false,af.jM,af.sets]
    exact nR _ _ _ (Ne.symm hh)
 | some k=>
  have hkk:bN≠k:=fun e=>hd (by rw[hk,e])
  cases hu:e.eM with
  | none=>
   simp only[af.jM,af.sets]
   exact nR _ _ _ hkk
  | some u=>
   simp only[af.jM]
   rw[nR _ _ _ hkk]
   by_cases hh:u.1=bN
   ·simp only[hh,if_true,af.sets,two]
   ·simp only[hh,if_false,af.sets]
    exact nR _ _ _ (Ne.symm hh)

theorem p7 (k:Nat):gJ (tO R) k=(gJ R k).bare:=by
 unfold gJ tO
 rw[List.getElem?_map]
 cases R[k]? <;> rfl

theorem l8 (σ:af):σ.setObj bN (σ.obj bN)=σ:=by
 simp[af.fD,af.dV]

theorem sO (AR:∀k,(gJ R k).del≠some bN):∀n,∃z,cH ops R D σ n=(cH ops (tO R) D σ n).setObj bN z
 | 0=>⟨σ.obj bN,(l8 σ).symm⟩
 | n+1=>by
  obtain⟨z,hz⟩:=sO AR n
  unfold cH
  split
  ·rw[hz,Fh (AR n),p7]
   exact⟨_,rfl⟩
  ·exact⟨z,hz⟩

structure zO (R:List Rec)(cf:cz)(t:Tg):Prop where
 lt:t.i<t.j
 del:∀k,(gJ R k).del≠some bN
 ahv:∀r,R[t.i]? = some r→r.eu.eM=some (bN,.store cf (.sym t.ni))
 ahu:∀r,R[t.j]? = some r→r.eu.eM=some (bN,.store cf (.sym t.nj))
 other:∀k r,R[k]? = some r→k≠t.i→k≠t.j→∀u,r.eu.eM=some u→u.1≠bN

theorem Y2 (h:HZ R cf t=true):zO R cf t:=by
 unfold HZ at h
 simp only[Bool.and_eq_true,decide_eq_true_eq,List.all_eq_true,List.mem_range] at h
 obtain⟨hlt,h⟩:=h
 have at_:∀{k:Nat} {r:Rec},R[k]? = some r→r.eu.del≠some bN∧((k=t.i→oF cf r.eu=some t.ni)∧(k≠t.i→k=t.j→oF cf r.eu=some t.nj)∧(k≠t.i→k≠t.j→∀u,r.eu.eM=some u→u.1≠bN)):=by
  intro k r hk
  have:=h k (List.getElem?_eq_some_iff.1 hk).1
  rw[hk] at this
  simp only[Bool.and_eq_true,decide_eq_true_eq] at this
  refine⟨this.1,fun e=>?_,fun e1 e2=>?_,fun e1 e2 u hu=>?_⟩
  ·rw[if_pos e] at this;simpa using this.2
  ·rw[if_neg e1,if_pos e2] at this;simpa using this.2
  ·rw[if_neg e1,if_neg e2,hu] at this;simpa using this.2
 refine⟨hlt,fun k=>?_,fun r hr=>oD ((at_ hr).2.1 rfl),fun r hr=>oD ((at_ hr).2.2.1 (by omega) rfl),fun k r hr e1 e2=>(at_ hr).2.2.2 e1 e2⟩
 unfold gJ
 cases hr:R[k]? with
 | none=>simp
 | some r=>exact(at_ hr).1

theorem zO.agN (ht:zO R cf t)(hl:t.i<R.length):(gJ R t.i).eM=some (bN,.store cf (.sym t.ni)):=by
 have hr:R[t.i]? = some R[t.i]:=List.getElem?_eq_getElem hl
 unfold gJ
 rw[hr]
 exact ht.ahv _ hr

theorem zO.agM (ht:zO R cf t)(hl:t.j<R.length):(gJ R t.j).eM=some (bN,.store cf (.sym t.nj)):=by
 have hr:R[t.j]? = some R[t.j]:=List.getElem?_eq_getElem hl
 unfold gJ
 rw[hr]
 exact ht.ahu _ hr

theorem zO.ab1 (ht:zO R cf t){k:Nat}(h1:k≠t.i)(h2:k≠t.j){u:Nat×bl}(hu:(gJ R k).eM=some u):u.1≠bN:=by
 unfold gJ at hu
 cases hr:R[k]? with
 | none=>rw[hr] at hu;cases hu
 | some r=>rw[hr] at hu;exact ht.other k r hr h1 h2 u hu

theorem Uy (n:Nat):lex ops R σ (n+1)=(lex ops R σ n).app (mW ops n) (gJ R n):=rfl

theorem Il (ht:zO R cf t)(hlen:t.j<R.length):∀n,(lex ops R σ n).obj bN=fP σ cf t (decide (t.i<n)) (decide (t.j<n))
 | 0=>by simp[fP,cH]
 | n+1=>by
  have ih:=Il ht hlen n
  have hlt:=ht.lt
  rw[Uy]
  generalize lex ops R σ n=τ at ih
  have hd:=ht.del n
  have key:∀e:j5,e.del≠some bN→(τ.app (mW ops n) e).obj bN=s4 e (τ.obj bN):=by
   intro e hd
   have:=Fh (τ:=τ) (dst:=mW ops n) (z:=τ.obj bN) hd
   rw[l8] at this
   rw[this,f_,if_pos (.inl rfl)]
  rw[key _ hd,ih]
  by_cases h1:n=t.i
  ·subst h1
   rw[s4,ht.agN (by omega)]
   have e1:decide (t.i<t.i+1)=true:=by simp
   have e2:decide (t.j<t.i+1)=false:=by simp;omega
   rw[e1,e2]
   rfl
  ·by_cases h2:n=t.j
   ·subst h2
    rw[s4,ht.agM hlen]
    have e1:decide (t.i<t.j+1)=true:=by simp;omega
    have e2:decide (t.j<t.j+1)=true:=by simp
    rw[e1,e2]
    rfl
   ·have e1:decide (t.i<n+1)=decide (t.i<n):=decide_eq_decide.2 (by omega)
    have e2:decide (t.j<n+1)=decide (t.j<n):=decide_eq_decide.2 (by omega)
    rw[e1,e2]
    unfold s4
    split
    ·rename_i u hu
     rw[if_neg (ht.ab1 h1 h2 hu)]
    ·rfl

def Qhx (ops:Array Oper)(R:List Rec)(σ:af)(cf:cz)(t:Tg)(D:Nat→Bool):af:=
 (cH ops (tO R) D σ ops.size).setObj bN (fP σ cf t (D t.i) (D t.j))

theorem Fb:∀{l:List (Option (List E))} {xs:List E},Wt l=some xs→∀x,x∈l→∃ys,x=some ys∧∀y,y∈ys→y∈xs
 | [],_,_,x,hx=>by cases hx
 | a :: l,xs,h,x,hx=>by
  simp only[Wt,Option.bind_eq_some_iff,Option.map_eq_some_iff] at h
  obtain⟨ys,h1,zs,h2,rfl⟩:=h
  rcases List.mem_cons.1 hx with rfl | hx
  ·exact⟨ys,h1,fun y hy=>List.mem_append.2 (.inl hy)⟩
  ·obtain⟨ys',g1,g2⟩:=Fb h2 x hx
   exact⟨ys',g1,fun y hy=>List.mem_append.2 (.inr (g2 y hy))⟩

structure WV (P:Program)(ops:Array Oper)(R:List Rec)(σ:af)(env:List Am.D)(cf:cz)(t:Tg)(i:Nat)(o:Oper)(r:Rec):Prop where
 at_:R[i]? = some r
 eu:oe P ops o (lex ops R σ i) r.ix=some r.eu
 seen:r.seen=ug ops o (lex ops R σ i)
 bind:cn P env r.ix r.eu.bind
 ix:r.ix≤env.length
 alt:∃ys,O_ P ops R σ cf t (lF ops.toList []) i=some ys∧∀y,y∈ys→∃d,y.eval env=some d

theorem Q3 {a b:E}{n:Nat}(hd:∃d,(E.m4 .same a b .nil .nil).eval env=some d)(hb:b.eval env=env[n]?):cn P env n (some (.ev a)):=by
 obtain⟨d,hd⟩:=hd
 simp only[E.eval,Option.bind_eq_some_iff] at hd
 obtain⟨x,h1,y,h2,_,_,_,_,h3⟩:=hd
 simp only[Am.D.m4] at h3
 split at h3
 ·rename_i hs
  have:=Am.D.dU hs
  subst this
  exact⟨x,h1,by rw[←hb,h2]⟩
 ·cases h3

theorem Di {a b:E}{n:Nat}(hd:∃d,(E.m4 .same b a .nil .nil).eval env=some d)(hb:b.eval env=env[n]?):cn P env n (some (.ev a)):=by
 obtain⟨d,hd⟩:=hd
 simp only[E.eval,Option.bind_eq_some_iff] at hd
 obtain⟨x,h1,y,h2,_,_,_,_,h3⟩:=hd
 simp only[Am.D.m4] at h3
 split at h3
 ·rename_i hs
  have:=Am.D.dU hs
  subst this
  exact⟨x,h2,by rw[←hb,h1]⟩
 ·cases h3

theorem Ty {n:Nat}{a:E}(hb:cn P env n (some (.ev a))):n≤env.length:=by
 obtain⟨d,_,h⟩:=hb
 exact Nat.le_of_lt (List.getElem?_eq_some_iff.1 h).1

theorem ER (hD:jU ops D){k w:Nat}{o:Oper}(ho:ops[k]? = some o)(hk:D k=false)(ha:∀e,e∈o.after→Region.binds .any e=true→D e.on=true)(hw:w<ops.size)(hne:k≠w):D w∈Ja (lF ops.toList []) k w:=by
 unfold Ja
 split
 ·cases D w <;> simp
 ·rename_i hf
  simp only[ZI,Bool.and_eq_true,Bool.not_eq_true',Bool.and_eq_false_iff,decide_eq_false_iff_not] at hf
  rw[List.mem_singleton]
  exact sU hD ho hk ha (Array.getElem?_eq_getElem hw) (fun h=>Classical.byContradiction fun hb=>hf ⟨.inr (by simpa using hb),.inl (by omega)⟩) fun h=>Classical.byContradiction fun hb=>hf ⟨.inl (by omega),.inr (by simpa using hb)⟩

theorem adD (hok:rG ops R σ cf t=true) (hF:∀(i:Nat) (o:Oper),ops[i]? = some o→∃r,WV P ops R σ env cf t i o r) (hj:t.j<ops.size) (hD:jU ops D) {i:Nat} {o:Oper} (ho:ops[i]? = some o) (hi:D i=false)
  (ha:∀e,e∈o.after→Region.binds .any e=true→D e.on=true):∃r:Rec,cn P env r.ix r.eu.bind∧r.ix≤env.length∧nT P ops o (Qhx ops R σ cf t D) r.ix=some (Qhx ops R σ cf t (fun j=>D j||j==i),r.eu.bind):=by
 unfold rG at hok
 simp only[Bool.and_eq_true,decide_eq_true_eq,List.all_eq_true,List.mem_range] at hok
 obtain⟨⟨⟨hsize,Ce⟩,aaY⟩,hall⟩:=hok
 have ht:=Y2 aaY
 obtain⟨r,f⟩:=hF i o ho
 have hin:=(Array.getElem?_eq_some_iff.1 ho).1
 have gp:∀(j:Nat),j<ops.size→∃oj rj,ops[j]? = some oj∧R[j]? = some rj:=fun j hj=>by
  obtain⟨rj,fj⟩:=hF j ops[j] (Array.getElem?_eq_getElem hj)
  exact⟨_,rj,Array.getElem?_eq_getElem hj,fj.at_⟩
 have afC:∀{k:Nat} {ok:Oper} {rk:Rec},ops[k]? = some ok→R[k]? = some rk→qB σ ok=true∧(jL ok=true→∀u,rk.eu.eM=some u→u.1=bN∨Qck σ u.1) ∧
   ∀(j:Nat) (oj:Oper) (rj:Rec),j<k→ops[j]? = some oj→R[j]? = some rj→(vp ops oj ok rj rk=true→((lF ops.toList []).getD k 0).testBit j=true)∧(jL ok=true→∀u,rk.eu.eM=some u→u.1=bN∨rj.cR u.1=false):=by
  intro k ok rk hk Fs
  have h:=hall k (Array.getElem?_eq_some_iff.1 hk).1
  unfold Ue at h
  rw[hk,Fs] at h
  simp only[Bool.and_eq_true,List.all_eq_true,List.mem_range] at h
  obtain⟨⟨⟨_,h2⟩,h3⟩,h4⟩:=h
  refine⟨h2,fun hn u hu=>?_,fun j oj rj hj pq rR=>?_⟩
  ·rw[hn,hu] at h3
   simpa[Qck] using h3
  ·have:=h4 j hj
   rw[pq,rR] at this
   simp only[Bool.and_eq_true,Bool.or_eq_true,Bool.not_eq_true'] at this
   refine⟨fun hc=>by rw[hc] at this;simpa using this.1,fun hn u hu=>?_⟩
   have:=this.2
   rw[hn,hu] at this
   simpa using this
 obtain⟨ig,hfr,Qj⟩:=afC ho f.at_
 have hdone:∀{j:Nat} {oj:Oper} {rj:Rec},ops[j]? = some oj→R[j]? = some rj→vp ops oj o rj r=true→vp ops o oj r rj=true→D j=decide (j<i):=fun {j oj rj} pq rR h1 h2=>
  sU hD ho hi ha pq (fun h=>(Qj j oj rj h pq rR).1 h1) fun h=>((afC pq rR).2.2 i o r h ho f.at_).1 h2
 have ap:∀{j:Nat} {oj:Oper} {rj:Rec},oj.apart ops o=false→o.apart ops oj=false→ops[j]? = some oj→R[j]? = some rj→D j=decide (j<i):=fun h1 h2 pq rR=>
  hdone pq rR (by simp[vp,h1]) (by simp[vp,h2])
 have YM:∀{k:Nat} {rk:Rec},R[k]? = some rk→gJ R k=rk.eu:=fun hk=>by simp[gJ,hk]
 obtain⟨zD,hzD⟩:=sO (ops:=ops) (σ:=σ) (D:=D) ht.del ops.size
 obtain⟨zL,hzL⟩:=sO (ops:=ops) (σ:=σ) (D:=fun _=>true) ht.del i
 have IJ:∀s,s∈o.looksAt ops→(Qhx ops R σ cf t D).tmp s=(lex ops R σ i).tmp s:=by
  intro s hs
  have h1:(cH ops R D σ ops.size).tmp s=(lex ops R σ i).tmp s:=by
   refine yy (Nat.le_of_lt hin) fun j hj hjt=>?_
   obtain⟨oj,pq,hdj⟩:=nG hjt
   obtain⟨rj,fj⟩:=hF j oj pq
   exact ap (Fi hdj hs) (B4 hdj hs) pq fj.at_
  rw[←h1,hzD]
  unfold Qhx
  rw[af.ga,af.ga]
 have Zs:∀ob,ob≠bN→r.cR ob=true→(Qhx ops R σ cf t D).obj ob=(lex ops R σ i).obj ob:=by
  intro ob hne nC
  have h1:(cH ops (tO R) D σ ops.size).obj ob=(cH ops (tO R) (fun _=>true) σ i).obj ob:=by
   refine sN (Nat.le_of_lt hin) fun j hj N8=>?_
   obtain⟨oj,rj,pq,rR⟩:=gp j hj
   rw[p7,YM rR] at N8
   refine hdone pq rR ?_ ?_
   ·have:rj.eu.bare.targets.any r.cR=true:=List.any_eq_true.2 ⟨ob,N8,nC⟩
    simp[vp,this]
   ·have:rj.eu.bare.targets.any r.cR=true:=List.any_eq_true.2 ⟨ob,N8,nC⟩
    simp[vp,this]
  have h2:(lex ops R σ i).obj ob=(cH ops (tO R) (fun _=>true) σ i).obj ob:=by
   show(cH ops R (fun _=>true) σ i).obj ob=_
   rw[hzL,ep (Ne.symm hne)]
  unfold Qhx
  rw[ep (Ne.symm hne),h1,h2]
 have s7:∀s ob,s∈o.looksAt ops→((lex ops R σ i).tmp s).aT ob=false→r.cR ob=true:=fun s ob hs ox=>Qcj (sv:=(lex ops R σ i).tmp s) (by rw[f.seen];exact List.mem_append.2 (.inl (List.mem_map_of_mem hs))) ox
 have II:iq o (fun x=>((lex ops R σ i).zS x).Nu) (jv (lex ops R σ i).obj)=true→r.cR bN=true:=fun hu=>Qcj (sv:=.oc bN) (by rw[f.seen];refine List.mem_append.2 (.inr ?_);rw[hu];simp) (by simp[SV.aT])
 have Ya:(Qhx ops R σ cf t D).obj bN=fP σ cf t (D t.i) (D t.j):=by
  unfold Qhx
  rw[f_,if_pos (.inl rfl)]
 have abr:∀a b,zy (fP σ cf t a b)=some cf:=by
  intro a b
  cases a <;> cases b <;> first | exact Ce | rfl
 have Qk:=Il (ops:=ops) (σ:=σ) ht (by omega) i
 have alZ:jv (lex ops R σ i).obj=some cf:=by rw[iC,Qk,abr]
 have xF:∀ix,oe P ops o (Qhx ops R σ cf t D) ix=Qdw P ops R σ cf t i o (D t.i) (D t.j) ix:=by
  intro ix
  unfold Qdw
  have hH:((lex ops R σ i).setObj bN (fP σ cf t (D t.i) (D t.j))).obj bN=fP σ cf t (D t.i) (D t.j):=by rw[f_,if_pos (.inl rfl)]
  refine sP (fun s hs=>?_) (fun s ob hs ox=>?_) ?_ fun _=>by rw[Ya,hH]
  ·rw[af.ga];exact IJ s hs
  ·rw[af.ga] at ox
   by_cases hne:ob=bN
   ·subst hne;rw[Ya,hH]
   ·rw[ep (Ne.symm hne)];exact Zs ob hne (s7 s ob hs ox)
  ·rw[iC,iC,Ya,hH]
 have Yd:cH ops (tO R) (fun j=>D j||j==i) σ ops.size=(cH ops (tO R) D σ ops.size).app o.dst r.eu.bare:=by
  rw[Ag hi ops.size hin fun j hj hij IX=>?_]
  ·rw[p7,YM f.at_]
   congr 1
   simp[mW,ho]
  ·obtain⟨oj,rj,pq,rR⟩:=gp j hj
   have hno:D j≠decide (j<i):=by rw[IX];simp;omega
   refine⟨fun s h1 h2=>hno ?_,fun ob h1 h2=>hno ?_⟩
   ·obtain⟨o1,MA,IT⟩:=nG h1
    obtain⟨o2,RU,hd2⟩:=nG h2
    rw[ho] at MA;rw[pq] at RU
    cases MA;cases RU
    exact ap (wg hd2 IT) (wg IT hd2) pq rR
   ·rw[p7,YM f.at_] at h1
    rw[p7,YM rR] at h2
    have hd:=ht.del i
    rw[YM f.at_] at hd
    obtain⟨g1,g2⟩:=zG h1 hd
    refine hdone pq rR ?_ ?_
    ·have:r.eu.bare.targets.any rj.cR=true:=List.any_eq_true.2 ⟨ob,h1,by
      have hdj:=ht.del j
      rw[YM rR] at hdj
      exact qi (zG h2 hdj).1⟩
     simp[vp,this]
    ·have:r.eu.bare.targets.any rj.cR=true:=List.any_eq_true.2 ⟨ob,h1,by
      have hdj:=ht.del j
      rw[YM rR] at hdj
      exact qi (zG h2 hdj).1⟩
     simp[vp,this]
 have hrd:r.eu.del≠some bN:=by have:=ht.del i;rwa [YM f.at_] at this
 have fin:∀(e:j5) (ix:Nat),oe P ops o (Qhx ops R σ cf t D) ix=some e→cn P env ix e.bind→ix≤env.length→e.val=r.eu.val→e.bare.eM=r.eu.bare.eM→e.del=r.eu.del→(∀u,e.eM=some u→u.1=bN→some u.2=fP σ cf t (D t.i||t.i==i) (D t.j||t.j==i))→((∀u,e.eM=some u→u.1≠bN)→i≠t.i∧i≠t.j) →
   (jL o=true→∀u,e.eM=some u→u.1=bN∨r.eu.eM=some u)→∃r:Rec,cn P env r.ix r.eu.bind∧r.ix≤env.length∧nT P ops o (Qhx ops R σ cf t D) r.ix=some (Qhx ops R σ cf t (fun j=>D j||j==i),r.eu.bind):=by
  intro e ix uZ Qfv cW h1 h2 h3 h4 h5 h6
  refine⟨⟨e,[],ix⟩,Qfv,cW,?_⟩
  have aoZ:e.bare={ e.bare with val:=r.eu.bare.val,eM:=r.eu.bare.eM,del:=r.eu.bare.del }:=by
   rw[←h2,sj,sk,←h1,←h3,←sj e,←sk e]
  have hnew:Qhx ops R σ cf t (fun j=>D j||j==i)=(Qhx ops R σ cf t D).app o.dst e:=by
   unfold Qhx
   rw[Fh (by rw[h3];exact hrd),Yd]
   have nD:∀τ:af,τ.app o.dst e.bare=τ.app o.dst r.eu.bare:=fun τ=>by
    unfold af.app
    rw[h2,sk,sk,sj,sj,h1,h3]
   rw[nD]
   congr 1
   unfold s4
   cases hu:e.eM with
   | none=>
    obtain⟨g1,g2⟩:=h5 fun u qc=>by rw[hu] at qc;cases qc
    have e1:(t.i==i)=false:=by simpa using Ne.symm g1
    have e2:(t.j==i)=false:=by simpa using Ne.symm g2
    simp only[e1,e2,Bool.or_false]
   | some u=>
    by_cases hh:u.1=bN
    ·simp only[hh,if_true]
     exact(h4 u hu hh).symm
    ·simp only[hh,if_false]
     obtain⟨g1,g2⟩:=h5 fun u' qc=>by rw[hu] at qc;cases qc;exact hh
     have e1:(t.i==i)=false:=by simpa using Ne.symm g1
     have e2:(t.j==i)=false:=by simpa using Ne.symm g2
     simp only[e1,e2,Bool.or_false]
  rw[hnew]
  refine wG uZ ?_ fun hn u hu=>?_
  ·unfold qB at ig ⊢
   unfold Qhx
   rw[af.aZ,(kJ ..).1]
   exact ig
  ·rcases h6 hn u hu with hH1 | hu
   ·exact .inl hH1
   rcases hfr hn u hu with hH1 | hfr
   ·exact .inl hH1
   by_cases hne:u.1=bN
   ·exact .inl hne
   right
   have Yu:∀{k:Nat} {rk:Rec},R[k]? = some rk→rk.cR u.1=false→({ rk with eu:=rk.eu.bare }:Rec).cR u.1=false:=by
    intro k rk hk Fs
    obtain⟨g1,g2,g3⟩:=wA Fs
    have hdk:=ht.del k
    rw[YM hk] at hdk
    have afn:rk.seen.any (fun sv=>!sv.aT u.1)=false:=by
     simp only[Rec.cR,Bool.or_eq_false_iff] at Fs
     exact Fs.1.1.1
    have ht1:rk.eu.bare.targets.contains u.1=false:=by
     rw[←Bool.not_eq_true]
     intro hc
     exact g2 (zG (by simpa using hc) hdk).1
    have Mz:∀u',rk.eu.bare.eM=some u'→u'.2.aT u.1=true:=by
     intro u' qc
     rw[lM] at qc
     split at qc
     ·rename_i u0 hu0
      split at qc
      ·cases qc
      ·cases qc;exact g3 _ hu0
     ·cases qc
    unfold Rec.cR
    simp only[afn,sj,g1,ht1,Bool.not_true,Bool.or_false,Bool.false_or]
    split
    ·rename_i u' qc
     rw[Mz u' qc]
     rfl
    ·rfl
   have alJ:=uj (R:=tO R) (ops:=ops) (D:=D) hfr ops.size fun j hj IX=>by
    obtain⟨oj,rj,pq,rR⟩:=gp j hj
    refine⟨{ rj with eu:=rj.eu.bare },by unfold tO;rw[List.getElem?_map,rR];rfl,?_⟩
    refine Yu rR ?_
    rcases Nat.lt_trichotomy j i with h | h | h
    ·exact((Qj j oj rj h pq rR).2 hn u hu).resolve_left hne
    ·subst h;rw[hi] at IX;cases IX
    ·rw[←Bool.not_eq_true]
     intro WY
     have hub:u.1∈r.eu.bare.targets:=by
      unfold j5.targets
      rw[lM,hu]
      simp[hne]
     have:=hdone pq rR (by
      have:r.eu.bare.targets.any rj.cR=true:=List.any_eq_true.2 ⟨_,hub,WY⟩
      simp[vp,this]) (by
      have:r.eu.bare.targets.any rj.cR=true:=List.any_eq_true.2 ⟨_,hub,WY⟩
      simp[vp,this])
     rw[IX] at this
     simp at this
     omega
   obtain⟨q1,q2⟩:=alJ
   refine⟨by unfold Qhx;rw[ep (Ne.symm hne)];exact q1,?_⟩
   unfold Qhx
   simp only[af.Qrv,af.fD,if_true,Bool.and_eq_true] at q2 ⊢
   refine⟨q2.1,?_⟩
   have:=abr (D t.i) (D t.j)
   cases hh:fP σ cf t (D t.i) (D t.j) with
   | none=>rfl
   | some z=>
    rw[hh] at this
    cases z <;> simp[zy] at this
    rfl
 obtain⟨ys,hys,cV⟩:=f.alt
 by_cases hki:i=t.i
 ·have RO:=ht.ahv r (hki ▸ f.at_)
  have hbr:r.eu.bare.eM=none:=by rw[lM,RO];simp
  cases IX:D t.j with
  | false=>
   have uZ:oe P ops o (Qhx ops R σ cf t D) r.ix=some r.eu:=by
    rw[xF,←f.eu]
    unfold Qdw
    have e1:fP σ cf t (D t.i) (D t.j)=(lex ops R σ i).obj bN:=by
     rw[Qk,IX,←hki,hi]
     have h1:decide (i<i)=false:=by simp
     have h2:decide (t.j<i)=false:=by simp;have:=ht.lt;omega
     rw[h1,h2]
    rw[e1,l8]
   refine fin r.eu r.ix uZ f.bind f.ix rfl rfl rfl (fun u hu hh=>?_) (fun h=>absurd rfl (h _ RO)) fun _ u hu=>.inr hu
   rw[RO] at hu
   cases hu
   have e1:(t.i==i)=true:=by simp[hki]
   have e2:(t.j==i)=false:=by simp;have:=ht.lt;omega
   rw[IX,e1,e2,Bool.or_true,Bool.or_false]
   rfl
  | true=>
   unfold O_ at hys
   rw[hki] at ho
   have VC:=f.at_
   rw[hki] at VC
   simp only[hki,ho,VC,if_true] at hys
   split at hys
   ·rename_i e he
    split at hys
    ·rename_i hc
     simp only[Bool.and_eq_true,decide_eq_true_eq,Option.isNone_iff_eq_none] at hc
     obtain⟨⟨⟨c1,c2⟩,c3⟩,c4⟩:=hc
     split at hys
     ·rename_i b hb
      cases hys
      have Mz:=oD c2
      have Vz:=Q3 (P:=P) (n:=t.nj) (cV _ (List.mem_singleton_self _)) rfl
      refine fin e t.nj ?_ (by rw[hb];exact Vz) (Ty Vz) (SV.dU c1) (by rw[lM,Mz,hbr];simp) (c3.trans c4.symm) (fun u hu hh=>?_) (fun h=>absurd rfl (h _ Mz)) fun _ u hu=>by rw[Mz] at hu;cases hu;exact .inl rfl
      ·rw[xF,←hki,hi,IX,hki]
       exact he
      ·rw[Mz] at hu
       cases hu
       have e1:(t.i==i)=true:=by simp[hki]
       rw[IX,e1,Bool.or_true,Bool.true_or]
       rfl
     ·cases hys
    ·cases hys
   ·cases hys
 by_cases hkj:i=t.j
 ·have RO:=ht.ahu r (hkj ▸ f.at_)
  have hbr:r.eu.bare.eM=none:=by rw[lM,RO];simp
  cases hDi:D t.i with
  | true=>
   have uZ:oe P ops o (Qhx ops R σ cf t D) r.ix=some r.eu:=by
    rw[xF,←f.eu]
    unfold Qdw
    have e1:fP σ cf t (D t.i) (D t.j)=(lex ops R σ i).obj bN:=by
     rw[Qk,hDi,←hkj,hi]
     have h1:decide (t.i<i)=true:=by simp;have:=ht.lt;omega
     have h2:decide (i<i)=false:=by simp
     rw[h1,h2]
    rw[e1,l8]
   refine fin r.eu r.ix uZ f.bind f.ix rfl rfl rfl (fun u hu hh=>?_) (fun h=>absurd rfl (h _ RO)) fun _ u hu=>.inr hu
   rw[RO] at hu
   cases hu
   have e1:(t.j==i)=true:=by simp[hkj]
   rw[hDi,e1,Bool.or_true,Bool.true_or]
   rfl
  | false=>
   unfold O_ at hys
   have hne:¬t.j=t.i:=by have:=ht.lt;omega
   rw[hkj] at ho
   have VC:=f.at_
   rw[hkj] at VC
   simp only[hkj,ho,VC,hne,if_false,if_true] at hys
   split at hys
   ·rename_i e he
    split at hys
    ·rename_i hc
     simp only[Bool.and_eq_true,decide_eq_true_eq,Option.isNone_iff_eq_none] at hc
     obtain⟨⟨⟨c1,c2⟩,c3⟩,c4⟩:=hc
     split at hys
     ·rename_i b hb
      cases hys
      have Mz:=oD c2
      have Vz:=Di (P:=P) (n:=t.ja) (cV _ (List.mem_singleton_self _)) rfl
      refine fin e t.ja ?_ (by rw[hb];exact Vz) (Ty Vz) (SV.dU c1) (by rw[lM,Mz,hbr];simp) (c3.trans c4.symm) (fun u hu hh=>?_) (fun h=>absurd rfl (h _ Mz)) fun _ u hu=>by rw[Mz] at hu;cases hu;exact .inl rfl
      ·rw[xF,hDi,←hkj,hi,hkj]
       exact he
      ·rw[Mz] at hu
       cases hu
       have e1:(t.j==i)=true:=by simp[hkj]
       have e2:(t.i==i)=false:=by simp;have:=ht.lt;omega
       rw[hDi,e1,e2,Bool.or_true,Bool.or_false]
       rfl
     ·cases hys
    ·cases hys
   ·cases hys
 have mJ:=ht.other i r f.at_ hki hkj
 have hiT:t.i<ops.size:=by have:=ht.lt;omega
 have done:∀e,oe P ops o (Qhx ops R σ cf t D) r.ix=some e→cn P env r.ix e.bind→e.val=r.eu.val→e.eM=r.eu.eM→e.del=r.eu.del→∃r:Rec,cn P env r.ix r.eu.bind∧r.ix≤env.length∧nT P ops o (Qhx ops R σ cf t D) r.ix=some (Qhx ops R σ cf t (fun j=>D j||j==i),r.eu.bind):=by
  intro e uZ Qfv h1 h2 h3
  exact fin e r.ix uZ Qfv f.ix h1 (by rw[lM,lM,h2]) h3 (fun u hu hh=>absurd hh (mJ u (h2 ▸ hu))) (fun _=>⟨hki,hkj⟩) fun _ u hu=>.inr (h2 ▸ hu)
 by_cases nC:r.cR bN=true
 ·unfold O_ at hys
  simp only[ho,f.at_,hki,hkj,if_false,nC,if_true] at hys
  obtain⟨zs,hzs,hsub⟩:=Fb hys (WL P ops R σ cf t i o r (D t.i) (D t.j)) (List.mem_flatMap.2 ⟨D t.i,ER hD ho hi ha hiT hki,List.mem_map.2 ⟨D t.j,ER hD ho hi ha hj hkj,rfl⟩⟩)
  unfold WL at hzs
  split at hzs
  ·rename_i hc
   have uZ:oe P ops o (Qhx ops R σ cf t D) r.ix=some r.eu:=by
    rw[xF,←f.eu]
    unfold Qdw
    have e1:fP σ cf t (D t.i) (D t.j)=(lex ops R σ i).obj bN:=by rw[Qk,hc.1,hc.2]
    rw[e1,l8]
   exact done r.eu uZ f.bind rfl rfl rfl
  ·split at hzs
   ·rename_i e he
    split at hzs
    ·rename_i hc
     simp only[Bool.and_eq_true,Option.isNone_iff_eq_none] at hc
     obtain⟨⟨⟨⟨c1,c2⟩,c3⟩,c4⟩,c5⟩:=hc
     refine done e (by rw[xF];exact he) ?_ (SV.dU c1) (c2.trans c3.symm) (c4.trans c5.symm)
     split at hzs
     ·rename_i b a' jC hba
      cases hzs
      have h0:=f.bind
      rw[hba] at h0
      obtain⟨da,k1,k2⟩:=h0
      rw[jC]
      exact Di (cV _ (hsub _ (List.mem_singleton_self _))) (by rw[k1,k2])
     ·rename_i jC hba
      rw[jC];trivial
     ·cases hzs
    ·cases hzs
   ·cases hzs
 ·have uZ:oe P ops o (Qhx ops R σ cf t D) r.ix=some r.eu:=by
   rw[←f.eu]
   refine sP IJ (fun s ob hs ox=>?_) ?_ fun hu=>absurd (II hu) nC
   ·by_cases hne:ob=bN
    ·subst hne;exact absurd (s7 s _ hs ox) nC
    ·exact Zs ob hne (s7 s ob hs ox)
   ·rw[iC,Ya,abr,alZ]
  exact done r.eu uZ f.bind rfl rfl rfl

theorem XE (ht:zO R cf t)(hlen:ops.size=R.length)(hj:t.j<ops.size):Qhx ops R σ cf t (fun _=>true)=lex ops R σ ops.size:=by
 obtain⟨z,hz⟩:=sO (ops:=ops) (σ:=σ) (D:=fun _=>true) ht.del ops.size
 have h1:=Il (ops:=ops) (σ:=σ) ht (by omega) ops.size
 have e1:decide (t.i<ops.size)=true:=by simp;have:=ht.lt;omega
 have e2:decide (t.j<ops.size)=true:=by simp;omega
 rw[e1,e2] at h1
 unfold Qhx
 show _=cH ops R (fun _=>true) σ ops.size
 rw[←h1]
 show _=cH ops R (fun _=>true) σ ops.size
 have h2:(lex ops R σ ops.size).obj bN=z:=by
  show(cH ops R (fun _=>true) σ ops.size).obj bN=z
  rw[hz,f_,if_pos (.inl rfl)]
 rw[h2,hz]

theorem I5 {ja:Nat}{xs:List E}(h:CJ P ops R σ ja=some xs):∃cf t,rG ops R σ cf t=true∧t.j<ops.size∧∀i,i<ops.size→∃ys,O_ P ops R σ cf t (lF ops.toList []) i=some ys∧∀y,y∈ys→y∈xs:=by
 unfold CJ at h
 split at h
 ·rename_i cf Ce
  obtain⟨t,ht,h⟩:=Option.bind_eq_some_iff.1 h
  split at h
  ·rename_i hok
   obtain⟨b,hb,h⟩:=Option.bind_eq_some_iff.1 h
   obtain⟨zs,hzs,rfl⟩:=Option.map_eq_some_iff.1 h
   refine⟨cf,t,hok,?_,fun i hi=>?_⟩
   ·unfold ahw at hb
    split at hb
    ·rename_i o ho
     exact(Array.getElem?_eq_some_iff.1 ho).1
    ·cases hb
   ·obtain⟨ys,h1,h2⟩:=Fb hzs (O_ P ops R σ cf t (lF ops.toList []) i) (List.mem_map.2 ⟨i,List.mem_range.2 hi,rfl⟩)
    exact⟨ys,h1,fun y hy=>List.mem_cons_of_mem _ (h2 y hy)⟩
  ·cases h
 ·cases h

theorem JP {w0:World} {X:kG} {rd:Option Nat} {n:Nat} {Q:Exit→Act→World→Prop} (hok:rG ops R σ cf t=true) (hF:∀(i:Nat) (o:Oper),ops[i]? = some o→∃r,WV P ops R σ env cf t i o r) (hj:t.j<ops.size) (hm:σ.mem.length=σ.tmps.length)
  (hsz:∀(j d:Nat),(ops[j]?).bind (fun(o:Oper)=>o.dst)=some d→d<σ.tmps.length) (hQ:∀a' w' ρ',cu w0 X w' a' (lex ops R σ ops.size) env ρ'→Q .normal a' w') :
  ∀(fuel:Nat) (listed:Array Bool) (a:Act) (w:World) (ρ:dJ),listed.size=ops.size→jU ops (Qbq listed)→(List.range ops.size).countP (fun j=>!Qbq listed j)≤fuel →
   cu w0 X w a (Qhx ops R σ cf t (Qbq listed)) env ρ→wpAnyIn (FW rd) n P .any ops Q fuel listed a w:=by
 have alq:=hok
 unfold rG at hok
 simp only[Bool.and_eq_true,decide_eq_true_eq,List.all_eq_true,List.mem_range] at hok
 obtain⟨⟨⟨hsize,Ce⟩,aaY⟩,hall⟩:=hok
 have ht:=Y2 aaY
 refine F6 (st:=Qhx ops R σ cf t) (fun i o ho e he hb=>?_) (fun D i o hD ho hi ha=>adD alq hF hj hD ho hi ha) (fun D=>?_) (fun D D' h=>?_) hm hsz (fun a' w' ρ' hr=>hQ a' w' ρ' (by rw[←XE ht hsize hj];exact hr))
 ·obtain⟨r,f⟩:=hF i o ho
  have h:=hall i (Array.getElem?_eq_some_iff.1 ho).1
  unfold Ue at h
  rw[ho,f.at_] at h
  simp only[Bool.and_eq_true] at h
  have:=Array.all_eq_true'.1 h.1.1.1 e he
  simpa[hb] using this
 ·unfold Qhx
  rw[af.aZ,af.fG]
  exact kJ ops (tO R) D σ ops.size
 ·unfold Qhx
  rw[l9 ops.size h,h t.i (by have:=ht.lt;omega),h t.j hj]

theorem TP:Qhx ops R σ cf t (fun _=>false)=σ:=by
 unfold Qhx
 rw[nS (i:=0) ops.size (Nat.zero_le _) fun _ _ _=>rfl]
 exact l8 σ

end
end
end

section
noncomputable section

structure Left (w:World)(S:Sets)(aJ may:Nat→Prop)(w':World)(S':Sets)(bV:Nat→Prop)(bs':List D):Prop where
 st:dF w' S' bV bs'
 le:S≤S'
 os:w'.os=w.os
 tape:TL w' w
 output:w'.output=w.output
 size:w.heap.size≤w'.heap.size
 old:∀b,b<w.heap.size→¬may b→w'.heap[b]? = w.heap[b]?
 ft:∀b,bV b→(aJ b∨w.heap.size≤b)∧b<w'.heap.size
 new:∀b o,S' b o→S b o∨may b∨w.heap.size≤b
 lt:∀b o,S' b o→b<w'.heap.size

def A9 (P:Program)(f:FuncId)(st:D)(cs:List D)(m:Option D)(gO:D):Prop:=
 ∀(w:World) (S:Sets) (aJ:Nat→Prop) (bs:List D) (vs:Array Value) (u:FrameMode),st=.st bs→dF w S aJ bs→nJ w S aJ→(∀b,aJ b→b<w.heap.size)→(∀b o,S b o→b<w.heap.size)→vs.size=cs.length→(∀(i:Nat) (v:Value) (x:D),vs[i]? = some v→cs[i]? = some x→bU w S v x) →
  (match m with | none=>u=.returning | some d=>∃v,bU w S v d∧u=.panicking [{ v,recovered:=false }]) →
  CallsD P f vs u w fun e u' w'=>∃(v:Value) (S':Sets) (bV:Nat→Prop) (bs':List D),e=.returned v∧settle u'=.returning∧gO=.st bs'∧Left w S aJ aJ w' S' bV bs'


inductive T where
 | bind (b:Bind) (t:T)
 | ite (c:E) (a b:T)
 | loop (l:Nat) (inits:List E) (body:T)
 | join (l n:Nat) (body rest:T)
 | jump (l:Nat) (vals:List E)
 | ret (x:E)
 | fc (x h:E) (sl:List Nat) (ks:List E)
 | nk (x:E) (neg:Bool) (t:T)
 | pick (x:E) (t:T)
 | Jc (f:FuncId) (keep:List Nat) (bT:List E) (res:E) (t:T)
 | kV (f:FuncId) (h:E) (args:List E) (rs:List Bool) (sl:List Nat) (ks:List E) (t:T)
 | iH (f:FuncId) (h:E) (args:List E) (rs:List Bool) (sl:List Nat) (ks:List E) (t:T)
 | gu (x h:E) (args:List E) (rs:List Bool) (sl:List Nat) (ks:List E) (t:T)
 | Qsz (x h:E) (sl:List Nat) (bT:List E) (n l:Nat) (body rest:T)
 | lz (x h:E) (sl:List Nat) (bT:List E) (n l:Nat) (q:Option Nat) (body rest tR:T)
 deriving Inhabited

inductive iD where
 | jump (l:Nat) (ds:List D)
 | ret (d:D)
 | fc (d st:D) (sl:List Nat) (kd:List D)

def D.isNil (x:D):Option (List Bool):=
 match x with
 | .bq []=>some [true,false]
 | .bq _ | .sl _ _ _=>some [false]
 | .cq=>some [true]
 | _=>none

def Dl (l:Nat)(q:Option Nat)(b:Bool)(st:D):iD:=bif b then .jump l [st] else match q with | none=>.ret st | some _=>.jump (l+1) [st]

def dD (l:Nat)(K:List D→Prop)(Q:iD→Prop):iD→Prop
 | .jump l' ds=>if l'=l then K ds else Q (.jump l' ds)
 | .ret d=>Q (.ret d)
 | .fc d st sl kd=>Q (.fc d st sl kd)

def rounds (l:Nat)(body:List D→(iD→Prop)→Prop)(Q:iD→Prop):Nat→List D→Prop
 | 0,_=>False
 | n+1,ds=>body ds (dD l (rounds l body Q n) Q)

def D.La:D→Bool
 | .loc _ _=>true
 | _=>false

def JD (P:Program)(f:FuncId)(keep:List Nat)(fk:List D)(res:E)(Q:iD→Prop):iD→Prop
 | .ret (.bh [.bh kd,st])=>∃gO d',A9 P f st fk none gO∧res.eval (kd++[gO])=some d'∧Q (.ret (.bh [d',gO]))
 | .fc d st sl kd=>sl=keep∧∃gO d',A9 P f st fk (some d) gO∧res.eval (kd++[gO])=some d'∧Q (.ret (.bh [d',gO]))
 | _=>False

theorem Hs {P:Program}{f:FuncId}{keep:List Nat}{fk:List D}{res:E}{Q Q':iD→Prop}(hq:∀s,Q s→Q' s){s:iD}(h:JD P f keep fk res Q s):JD P f keep fk res Q' s:=by
 unfold JD at h ⊢
 split at h
 ·obtain⟨gO,d',h1,h2,h3⟩:=h;exact⟨gO,d',h1,h2,hq _ h3⟩
 ·obtain⟨h0,gO,d',h1,h2,h3⟩:=h;exact⟨h0,gO,d',h1,h2,hq _ h3⟩
 ·exact h

def den (P:Program):T→List D→(iD→Prop)→Prop
 | .bind (.ev x) t,env,Q=>∃d,x.eval env=some d∧den P t (env++[d]) Q
 | .bind (.call act f h args rs) t,env,Q=>(∀p,p∈act→∃d,p.1.eval env=some d)∧∃d,(bI env act→∃st ds,h.eval env=some st∧aM env args=some ds∧aP P f st ds d∧d.fits rs=true)∧den P t (env++[d]) Q
 | .bind (.bQ act f h args rs) t,env,Q=>(∀p,p∈act→∃d,p.1.eval env=some d)∧∃st d h',h.eval env=some st∧(bI env act→∃ds,aM env args=some ds∧bk P f st ds d h'∧d.fits rs=true)∧(¬bI env act→h'=st)∧den P t (env++[.bh [d,h']]) Q
 | .bind (.fu act x h args rs) t,env,Q=>(∀p,p∈act→∃d,p.1.eval env=some d)∧∃d,(bI env act→∃f us cs st ds,x.eval env=some (.fn f us cs)∧bJ P f=true∧h.eval env=some st∧aM env args=some ds∧aP P f st (us++ds++cs) d∧d.fits rs=true)∧den P t (env++[d]) Q
 | .bind (.fC act x h args rs) t,env,Q=>(∀p,p∈act→∃d,p.1.eval env=some d)∧∃st d h',h.eval env=some st∧(bI env act→∃xd ds,x.eval env=some xd∧aM env args=some ds∧tQ P xd st ds d h'∧d.fits rs=true)∧(¬bI env act→h'=st)∧den P t (env++[.bh [d,h']]) Q
 | .ite c a b,env,Q=>∃v,c.eval env=some (.v (.bool v))∧(v=true→den P a env Q)∧(v=false→den P b env Q)
 | .loop l inits body,env,Q=>∃ds,aM env inits=some ds∧∃n,rounds l (fun ds Q=>ds.length=inits.length∧den P body (env++ds) Q) Q n ds
 | .join l n body rest,env,Q=>den P body env (dD l (fun ds=>ds.length=n∧den P rest (env++ds) Q) Q)
 | .jump l vals,env,Q=>∃ds,aM env vals=some ds∧Q (.jump l ds)
 | .ret x,env,Q=>∃d,x.eval env=some d∧Q (.ret d)
 | .fc x h sl ks,env,Q=>∃d st kd,x.eval env=some d∧h.eval env=some st∧aM env ks=some kd∧Q (.fc d st sl kd)
 | .nk x neg t,env,Q=>∃d bs,x.eval env=some d∧d.isNil=some bs∧∀b,b∈bs→den P t (env++[.v (.bool (b != neg))]) Q
 | .pick x t,env,Q=>∃ys,x.eval env=some (.bq ys)∧∀d st,.bh [d,st]∈ys→den P t (env++[.bh [d,st]]) Q
 | .Jc f keep bT res t,env,Q=>∃fk,aM env bT=some fk∧fk.all D.La=true∧den P t env (JD P f keep fk res Q)
 | .kV f h args rs sl ks t,env,Q=>∃st ds o,h.eval env=some st∧aM env args=some ds∧k8 P f st ds o∧match o with
  | .ret d=>d.fits rs=true∧den P t (env++[d]) Q
  | .fc d=>∃kd,aM env ks=some kd∧Q (.fc d st sl kd)
 | .iH f h args rs sl ks t,env,Q=>∃st ds o h',h.eval env=some st∧aM env args=some ds∧eN P f st ds o h'∧match o with
  | .ret d=>d.fits rs=true∧den P t (env++[.bh [d,h']]) Q
  | .fc d=>∃kd,aM env ks=some kd∧Q (.fc d h' sl kd)
 | .gu x h args rs sl ks t,env,Q=>∃f us cs st ds o h',x.eval env=some (.fn f us cs)∧bJ P f=true∧h.eval env=some st∧aM env args=some ds∧eN P f st (us++ds++cs) o h'∧match o with
  | .ret d=>d.fits rs=true∧den P t (env++[.bh [d,h']]) Q
  | .fc d=>∃kd,aM env ks=some kd∧Q (.fc d h' sl kd)
 | .Qsz x h sl bT n l body rest,env,Q=>∃f us cs st fk d gO,x.eval env=some (.fn f us cs)∧bJ P f=true∧h.eval env=some st∧aM env bT=some fk∧cN fk=true∧gO.gK=true ∧
   (∀(m:Nat) (rec:Loop),(∀Qjv ds Qhx,Qjv.gK=true→cN ds=true→ds.length=n→den P body (env++[Qjv]++ds) (fun s=>s=.jump l [Qhx])→Fp P (.yl m rec sl fk) Qjv ds Qhx)→bk P f st (us++[.yl m rec sl fk]++cs) d gO)∧den P rest (env++[gO]) Q
 | .lz x h sl bT n l q body rest tR,env,Q=>∃f us cs bs fk d bs' stop,x.eval env=some (.fn f us cs)∧bJ P f=true∧h.eval env=some (.st bs)∧aM env bT=some fk∧bs'[bs.length]? = some (.bh []) ∧
   (∀(rec:Loop×Code),(∀ia ds b lg,ia[bs.length]? = some (.oM false)→ds.length=n→lg[bs.length]? = some (.bh [])→den P body (env++[.st (ia.set bs.length (.bh []))]++ds) (fun s=>s=Dl l q b (.st lg))→q7 P (.tW bs.length rec sl fk) (.st ia) ds b (.st (lg.set bs.length (.oM !b)))) →
    bk P f (.st (bs++[.oM false])) (us++[.tW bs.length rec sl fk]++cs) d (.st (bs'.set bs.length (.oM stop))))∧(stop=false→den P rest (env++[.st bs']) Q)∧(stop=true→den P tR (env++[.st bs']) Q)

theorem uk {l:Nat}{body body':List D→(iD→Prop)→Prop}{Q Q':iD→Prop}(hb:∀ds (R R':iD→Prop),(∀s,R s→R' s)→body ds R→body' ds R')(hQ:∀s,Q s→Q' s):∀(n:Nat) (ds:List D),rounds l body Q n ds→rounds l body' Q' n ds
 | 0,_,h=>h
 | n+1,ds,h=>hb ds _ _ (fun s hs=>by
   cases s with
   | jump l' ds'=>
    simp only[dD] at hs ⊢
    split
    ·rename_i e;rw[if_pos e] at hs;exact uk hb hQ n ds' hs
    ·rename_i e;rw[if_neg e] at hs;exact hQ _ hs
   | ret d=>exact hQ _ hs
   | fc d st sl kd=>exact hQ _ hs) h

theorem dI {P:Program}:∀{t:T} {env:List D} {Q Q':iD→Prop},(∀s,Q s→Q' s)→den P t env Q→den P t env Q'
 | .bind (.ev x) t,env,Q,Q',hq,⟨d,h1,h2⟩=>⟨d,h1,dI hq h2⟩
 | .bind (.call act f h args rs) t,env,Q,Q',hq,⟨h0,d,h1,h2⟩=>⟨h0,d,h1,dI hq h2⟩
 | .bind (.bQ act f h args rs) t,env,Q,Q',hq,⟨h0,st,d,h',h1,h2,h3,h5⟩=>⟨h0,st,d,h',h1,h2,h3,dI hq h5⟩
 | .bind (.fu act x h args rs) t,env,Q,Q',hq,⟨h0,d,h1,h2⟩=>⟨h0,d,h1,dI hq h2⟩
 | .bind (.fC act x h args rs) t,env,Q,Q',hq,⟨h0,st,d,h',h1,h2,h3,h5⟩=>⟨h0,st,d,h',h1,h2,h3,dI hq h5⟩
 | .ite c a b,env,Q,Q',hq,⟨v,h1,h2,h3⟩=>⟨v,h1,fun e=>dI hq (h2 e),fun e=>dI hq (h3 e)⟩
 | .loop l inits body,env,Q,Q',hq,⟨ds,h1,n,h2⟩=>⟨ds,h1,n,uk (fun ds R R' hR h=>⟨h.1,dI hR h.2⟩) hq n ds h2⟩
 | .join l n body rest,env,Q,Q',hq,h=>dI (t:=body) (fun s hs=>by
   cases s with
   | jump l' ds'=>
    simp only[dD] at hs ⊢
    split
    ·rename_i e;rw[if_pos e] at hs;exact⟨hs.1,dI hq hs.2⟩
    ·rename_i e;rw[if_neg e] at hs;exact hq _ hs
   | ret d=>exact hq _ hs
   | fc d st sl kd=>exact hq _ hs) h
 | .jump l vals,env,Q,Q',hq,⟨ds,h1,h2⟩=>⟨ds,h1,hq _ h2⟩
 | .ret x,env,Q,Q',hq,⟨d,h1,h2⟩=>⟨d,h1,hq _ h2⟩
 | .fc x h sl ks,env,Q,Q',hq,⟨d,st,kd,h1,h2,h3,h4⟩=>⟨d,st,kd,h1,h2,h3,hq _ h4⟩
 | .nk x neg t,env,Q,Q',hq,⟨d,bs,h1,h2,h3⟩=>⟨d,bs,h1,h2,fun b hb=>dI hq (h3 b hb)⟩
 | .pick x t,env,Q,Q',hq,⟨ys,h1,h2⟩=>⟨ys,h1,fun d st hy=>dI hq (h2 d st hy)⟩
 | .Jc f keep bT res t,env,Q,Q',hq,⟨fk,h1,h2,h3⟩=>⟨fk,h1,h2,dI (fun _=>Hs hq) h3⟩
 | .kV f h args rs sl ks t,env,Q,Q',hq,⟨st,ds,.ret d,h1,h2,h3,h4,h5⟩=>⟨st,ds,.ret d,h1,h2,h3,h4,dI hq h5⟩
 | .kV f h args rs sl ks t,env,Q,Q',hq,⟨st,ds,.fc d,h1,h2,h3,kd,h4,h5⟩=>⟨st,ds,.fc d,h1,h2,h3,kd,h4,hq _ h5⟩
 | .iH f h args rs sl ks t,env,Q,Q',hq,⟨st,ds,.ret d,h',h1,h2,h3,h4,h5⟩=>⟨st,ds,.ret d,h',h1,h2,h3,h4,dI hq h5⟩
 | .iH f h args rs sl ks t,env,Q,Q',hq,⟨st,ds,.fc d,h',h1,h2,h3,kd,h4,h5⟩=>⟨st,ds,.fc d,h',h1,h2,h3,kd,h4,hq _ h5⟩
 | .gu x h args rs sl ks t,env,Q,Q',hq,⟨f,us,cs,st,ds,.ret d,h',g1,g2,h1,h2,h3,h4,h5⟩=>⟨f,us,cs,st,ds,.ret d,h',g1,g2,h1,h2,h3,h4,dI hq h5⟩
 | .gu x h args rs sl ks t,env,Q,Q',hq,⟨f,us,cs,st,ds,.fc d,h',g1,g2,h1,h2,h3,kd,h4,h5⟩=>⟨f,us,cs,st,ds,.fc d,h',g1,g2,h1,h2,h3,kd,h4,hq _ h5⟩
 | .Qsz x h sl bT n l body rest,env,Q,Q',hq,⟨f,us,cs,st,fk,d,gO,h1,h2,h3,h4,h5,h6,h7,h8⟩=>⟨f,us,cs,st,fk,d,gO,h1,h2,h3,h4,h5,h6,h7,dI hq h8⟩
 | .lz x h sl bT n l q body rest tR,env,Q,Q',hq,⟨f,us,cs,bs,fk,d,bs',stop,h1,h2,h3,h4,h5,h6,h7,h8⟩=>⟨f,us,cs,bs,fk,d,bs',stop,h1,h2,h3,h4,h5,h6,fun e=>dI hq (h7 e),fun e=>dI hq (h8 e)⟩

def Qrz (bs:List Bind)(t:T):T:=bs.foldr T.bind t

theorem kM {env env':List D}(h:env <+: env'):∀{l:List E} {ds:List D},aM env l=some ds→aM env' l=some ds
 | [],ds,hd=>hd
 | x :: r,ds,hd=>by
  simp only[aM,Option.bind_eq_some_iff,Option.map_eq_some_iff] at hd ⊢
  obtain⟨d,h1,ds',h2,h3⟩:=hd
  exact⟨d,E.cA h x h1,ds',kM h h2,h3⟩

theorem prefix_append (env ds:List D):env <+: env++ds:=⟨ds,rfl⟩

theorem vY {P:Program}{t:T}{Q:iD→Prop}:∀{bs:List Bind} {env:List D},den P (Qrz bs t) env Q→∃ds,ds.length=bs.length∧den P t (env++ds) Q∧wh P (env++ds) env.length bs
 | [],env,h=>⟨[],rfl,by simpa[Qrz] using h,fun i b hi=>by simp at hi⟩
 | b :: bs,env,h=>by
  have go:∀{d:D},den P (Qrz bs t) (env++[d]) Q→(∀ds,cn P (env++[d]++ds) env.length (some b))→∃ds,ds.length=(b :: bs).length∧den P t (env++ds) Q∧wh P (env++ds) env.length (b :: bs):=by
   intro d hd hb
   obtain⟨ds,hl,h1,h2⟩:=vY hd
   refine⟨d :: ds,by simp[hl],by simpa using h1,fun i b' hi=>?_⟩
   cases i with
   | zero=>simp at hi;subst hi;simpa using hb ds
   | succ i=>
    have:=h2 i b' (by simpa using hi)
    simp only[List.length_append,List.length_cons,List.length_nil,List.append_assoc,List.cons_append,List.nil_append] at this
    rwa [show env.length+(i+1)=env.length+(0+1)+i from by omega]
  have xF:∀(d:D) (ds:List D),(env++[d]++ds)[env.length]? = some d:=by
   intro d ds
   simp
  cases b with
  | ev x=>
   obtain⟨d,hx,hd⟩:=h
   exact go hd fun ds=>⟨d,E.cA (by rw[List.append_assoc];exact prefix_append _ _) _ hx,xF d ds⟩
  | call act f hx args rs=>
   obtain⟨qW,d,hx,hd⟩:=h
   refine go hd fun ds=>⟨d,xF d ds,fun ha=>?_⟩
   obtain⟨st,as,h0,h1,h2⟩:=hx (lQ (by rw[List.append_assoc];exact prefix_append _ _) qW ha)
   exact⟨st,as,E.cA (by rw[List.append_assoc];exact prefix_append _ _) _ h0,kM (by rw[List.append_assoc];exact prefix_append _ _) h1,h2⟩
  | fu act x hx args rs=>
   obtain⟨qW,d,hx,hd⟩:=h
   refine go hd fun ds=>⟨d,xF d ds,fun ha=>?_⟩
   have hp:env <+: env++[d]++ds:=by rw[List.append_assoc];exact prefix_append _ _
   obtain⟨f,us,cs,st,as,g0,g1,g2,g3,g4⟩:=hx (lQ hp qW ha)
   exact⟨f,us,cs,st,as,E.cA hp _ g0,g1,E.cA hp _ g2,kM hp g3,g4⟩
  | fC act x hx args rs=>
   obtain⟨qW,st,d,h',g0,g1,g2,hd⟩:=h
   refine go hd fun ds=>?_
   have hp:env <+: env++[.bh [d,h']]++ds:=by rw[List.append_assoc];exact prefix_append _ _
   refine⟨st,d,h',E.cA hp _ g0,xF _ ds,fun ha=>?_,fun hn=>g2 fun ha=>hn (vz hp ha)⟩
   obtain⟨xd,as,k1,k2,k3⟩:=g1 (lQ hp qW ha)
   exact⟨xd,as,E.cA hp _ k1,kM hp k2,k3⟩
  | bQ act f hx args rs=>
   obtain⟨qW,st,d,h',g0,g1,g2,hd⟩:=h
   refine go hd fun ds=>?_
   have hp:env <+: env++[.bh [d,h']]++ds:=by rw[List.append_assoc];exact prefix_append _ _
   refine⟨st,d,h',E.cA hp _ g0,xF _ ds,fun ha=>?_,fun hn=>g2 fun ha=>hn (vz hp ha)⟩
   obtain⟨as,k2,k3⟩:=g1 (lQ hp qW ha)
   exact⟨as,kM hp k2,k3⟩

end
end

section
noncomputable section

inductive Sop where
 | fc (x:E)
 | nk (x:E) (neg:Bool)
 | call (f:FuncId) (args:List E) (rs:List Bool)
 | bQ (f:FuncId) (args:List E) (rs:List Bool)
 | fC (x:E) (args:List E) (rs:List Bool)
 | next (p:E)
 deriving Inhabited

def Iz:Operand→Bool
 | .const (.slice none 0 0)=>true
 | _=>false

def J5 (P:Program)(o:Oper)(σ:af):Option Sop:=
 match o.guard with
 | some _=>none
 | none=>match o.op with
  | .panic x=>(match(σ.zS x).jx,σ.hs with
   | some y,some (.store _ _)=>some (.fc (.m4 .UI y .nil .nil .nil))
   | _,_=>none)
  | .next it false=>(match(σ.zS it).jx,σ.hs with
   | some p,some (.store cf _)=>if cf.ro then none else some (.next p)
   | _,_=>none)
  | .binOp .eql t x y _=>(match P.underlying t with
   | some (.slice _)=>if Iz y then(σ.zS x).jx.map (.nk · false) else none
   | _=>none)
  | .binOp .neq t x y _=>(match P.underlying t with
   | some (.slice _)=>if Iz y then(σ.zS x).jx.map (.nk · true) else none
   | _=>none)
  | .call c=>(match c.callee with
   | .value f=>match σ.zS f,σ.hs with
    | .func (.func f) [],some (.store cf _)=>if cf.fc.contains f then(match P.funcs[f]?,pG (c.args.toList.map σ.zS) with
      | some fn,some xs=>(match scalars P fn.resultTypes.toList with
       | some rs=>if bJ P f=false then none else if cf.wr.contains f then(if cf.ro then none else some (.bQ f xs rs)) else some (.call f xs rs)
       | none=>none)
      | _,_=>none) else none
    | .e x _,some (.store cf _)=>if cf.fc.contains (1000000+o.dst.getD 999999) then(match Kb P o.type,pG (c.args.toList.map σ.zS) with
      | some rs,some xs=>if cf.ro then none else some (.fC x xs rs)
      | _,_=>none) else none
    | _,_=>none
   | _=>none)
  | _=>none

abbrev QG:=af→Nat→Option T

def N2 (σ:af):E:=match σ.hs with | some (.store _ h)=>h | _=>.const (.st [])

def mo (σ:af)(x:E):af:=match σ.hs with | some (.store cf _)=>σ.setObj bN (some (.store cf x)) | _=>σ

def jT (σ:af):List Nat:=match σ.hs with | some (.store cf _)=>cf.keep | _=>[]

def wM (σ:af):Option (List E):=pG ((jT σ).map σ.tmp)

def q8 (w:World)(S:Sets)(a:Act)(slots:List Nat)(kd:List D):Prop:=
 kd.length=slots.length∧∀(i s:Nat) (d:D),slots[i]? = some s→kd[i]? = some d→bU w S (a.tmps.getD s undef) d

def HL (s:Sop)(o:Oper)(σ:af)(u:Nat)(rest:af→Nat→Option T):Option T:=
 match s with
 | .fc x=>(wM σ).map (.fc x (N2 σ) (jT σ))
 | .nk x neg=>(rest (σ.put o.dst (.e (.sym u) true)) (u+1)).map (.nk x neg)
 | .next p=>(rest ((mo σ (.Qrx 1 (.sym u))).put o.dst (.e (.Qrx 0 (.sym u)) false)) (u+1)).map (.pick (.m4 .next (N2 σ) p .nil .nil))
 | .call f xs rs=>(wM σ).bind fun ks=>(rest (σ.put o.dst (Qdz (.sym u) rs)) (u+1)).map (.kV f (N2 σ) xs rs (jT σ) ks)
 | .bQ f xs rs=>(wM σ).bind fun ks=>(rest ((mo σ (.Qrx 1 (.sym u))).put o.dst (Qdz (.Qrx 0 (.sym u)) rs)) (u+1)).map (.iH f (N2 σ) xs rs (jT σ) ks)
 | .fC x xs rs=>(wM σ).bind fun ks=>(rest ((mo σ (.Qrx 1 (.sym u))).put o.dst (Qdz (.Qrx 0 (.sym u)) rs)) (u+1)).map (.gu x (N2 σ) xs rs (jT σ) ks)

def J_ (P:Program)(ops:Array Oper):List Oper→af→Nat→QG→Option T
 | [],σ,u,k=>k σ u
 | o :: r,σ,u,k=>match J5 P o σ with
  | some s=>if qB σ o then HL s o σ u fun σ u=>J_ P ops r σ u k else none
  | none=>match nT P ops o σ u with
   | some (σ',none)=>J_ P ops r σ' u k
   | some (σ',some b)=>(J_ P ops r σ' (u+1) k).map (.bind b)
   | none=>none

def yx (P:Program)(ops:Array Oper):List Oper→af→Nat→Option (Option (Nat×af))
 | [],σ,u=>some (some (u,σ))
 | o :: r,σ,u=>match J5 P o σ with
  | some (.fc _)=>some none
  | some (.nk _ _)=>yx P ops r (σ.put o.dst (.e (.sym u) true)) (u+1)
  | some (.next _)=>yx P ops r ((mo σ (.Qrx 1 (.sym u))).put o.dst (.e (.Qrx 0 (.sym u)) false)) (u+1)
  | some (.call _ _ rs)=>yx P ops r (σ.put o.dst (Qdz (.sym u) rs)) (u+1)
  | some (.fC _ _ rs)=>yx P ops r ((mo σ (.Qrx 1 (.sym u))).put o.dst (Qdz (.Qrx 0 (.sym u)) rs)) (u+1)
  | some (.bQ _ _ rs)=>yx P ops r ((mo σ (.Qrx 1 (.sym u))).put o.dst (Qdz (.Qrx 0 (.sym u)) rs)) (u+1)
  | none=>match nT P ops o σ u with
   | some (σ',none)=>yx P ops r σ' u
   | some (σ',some _)=>yx P ops r σ' (u+1)
   | none=>none

section
variable {P:Program} {w0:World} {X:kG}

theorem Q4 {t e:TypeId}{v:Value}{w:World}(ht:P.underlying t=some (.slice e))(hv:∃ad n c,v=.slice ad n c):∃b,(binOp .eql t v (.slice none 0 0)).run P w=.ok (.bool b) w∧(binOp .neq t v (.slice none 0 0)).run P w=.ok (.bool (!b)) w∧(b=true↔∃n c,v=.slice none n c):=by
 obtain⟨ad,n,c,rfl⟩:=hv
 exact⟨ad.isNone,Lib.run_eql_slice_nil w t e ad n c 0 0 ht,run_neq_slice_nil_any w t e ad n c 0 0 ht,by cases ad <;> simp⟩

theorem UN {w:World}{S:Sets}{v:Value}{d:D}{bs:List Bool}(h:bU w S v d)(hb:d.isNil=some bs):(∃ad n c,v=.slice ad n c)∧∀b:Bool,(b=true↔∃n c,v=.slice none n c)→b∈bs:=by
 unfold D.isNil at hb
 split at hb
 ·cases hb
  obtain⟨ad,n,c,hv,_⟩:=h.D1
  exact⟨⟨ad,n,c,hv⟩,fun b _=>by cases b <;> simp⟩
 ·cases hb
  rename_i hne
  cases h with
  | nil=>exact absurd rfl hne
  | emp _=>exact absurd rfl hne
  | bq=>exact⟨⟨_,_,_,rfl⟩,fun b hb=>by cases b <;> simp at hb ⊢⟩
 ·cases hb
  cases h
  exact⟨⟨_,_,_,rfl⟩,fun b hb=>by cases b <;> simp at hb ⊢⟩
 ·cases hb
  cases h
  exact⟨⟨_,_,_,rfl⟩,fun b hb=>by cases b <;> simp at hb ⊢⟩
 ·cases hb

theorem pg {w:World}{a:Act}{σ:af}{env:List D}{ρ:dJ}(h:cu w0 X w a σ env ρ){cf:cz}{x:E}(hx:σ.hs=some (.store cf x)):N2 σ=x∧σ.obj bN=some (.store cf x)∧∃bs,x.eval env=some (.st bs)∧dF w ρ.S ρ.aJ bs:=by
 have dN:σ.obj bN=some (.store cf x):=by rw[af.dV,if_pos rfl];exact hx
 obtain⟨bs,h1,h2,_⟩:=h.dO _ _ dN
 exact⟨by simp[N2,hx],dN,bs,h1,h2⟩

def acr (w0:World)(X:kG)(Q:iD→Prop)(Q':Exit→Act→World→Prop):Prop:=
 ∀(w:World) (a:Act) (σ:af) (env:List D) (ρ:dJ) (v:Value) (d:D) (bs:List D),cu w0 X w a σ env ρ→bU w ρ.S v d→dF w ρ.S ρ.aJ bs→(∃cf x,σ.obj bN=some (.store cf x))→(∃kd,q8 w ρ.S a (jT σ) kd∧Q (.fc d (.st bs) (jT σ) kd))→Q' (.panic [{ v,recovered:=false }]) a w

theorem rP {w:World}{a:Act}{σ:af}{env:List D}{ρ:dJ}(h:cu w0 X w a σ env ρ){ks:List E}(hk:wM σ=some ks){agK:List D}{kd:List D}(he:aM agK ks=some kd)(hp:agK <+: env):q8 w ρ.S a (jT σ) kd:=by
 obtain⟨ds,cV,hl,hrd⟩:=mZ (w:=w) (ρ:=ρ) (env:=env) (vs:=(jT σ).map fun s=>a.tmps.getD s undef) hk (by simp) (fun i v s hv hs=>by
  simp only[List.getElem?_map,Option.map_eq_some_iff] at hv hs
  obtain⟨x,hx,rfl⟩:=hv
  obtain⟨y,hy,rfl⟩:=hs
  rw[hx] at hy
  cases hy
  exact h.tmps x)
 have:=kM hp he
 rw[cV] at this
 cases this
 exact⟨by simpa using hl.symm,fun i s d hs hd=>hrd i _ d (by simp[hs]) hd⟩

theorem Jm {f:FuncId}{o:Oper}{a:Act}{w:World}{c:Operand}{args:Array Operand}{ts:Array TypeId}(dG:bJ P f=true)(ho:o.op=.call { callee:=.value c,args:=args,argTypes:=ts })(hc:a.eval c=.func (.func f) #[] #[]) :
  (execOp a.eval o).run P w=.ok (.enter f (args.map a.eval)) w:=by
 unfold bJ at dG
 split at dG
 ·rename_i fn hf
  simp only[Bool.and_eq_true,Bool.not_eq_true',Option.isSome_iff_ne_none] at dG
  have VA:fn.body.isNone=false:=by
   cases hb:fn.body with
   | none=>exact absurd hb dG.2
   | some _=>rfl
  unfold execOp
  simp only[ho,resolve,hc,Deferred.ofValue,invoke,Sem.run_bind,Sem.run_pure,Result.andThen_ok,callFunc,run_program,hf,dG.1,VA,Bool.false_eq_true,if_false]
  simp
 ·cases dG

theorem Gi {rd:Option Nat} {nd:Nat} {ops:Array Oper} {o:Oper} {s:Sop} {σ:af} {rest:af→Nat→Option T} {t:T} {env:List D} {Q:iD→Prop} {Q':Exit→Act→World→Prop} {K:Act→World→Prop} {a:Act} {w:World} {ρ:dJ}
  (hs:J5 P o σ=some s) (hnd:vP o=true) (hd:∀d,o.dst=some d→d<σ.tmps.length) (ht:HL s o σ env.length rest=some t) (fQ:den P t env Q) (hr:cu w0 X w a σ env ρ) (hp:acr w0 X Q Q')
  (hK:∀(σ':af) (env':List D) (t':T) (a':Act) (w':World) (ρ':dJ),env <+: env'→rest σ' env'.length=some t'→den P t' env' Q→cu w0 X w' a' σ' env' ρ'→σ'.tmps.length=σ.tmps.length→σ'.mem.length=σ.mem.length→K a' w') :
  Region.wanted o (yielded ops a.tmps)=true∧o.wpIn (FW rd) nd P a w K Q':=by
 unfold J5 at hs
 split at hs
 ·cases hs
 rename_i hg
 refine⟨by simp[Region.wanted,hg],?_⟩
 have hv:=fun x=>Ar (a:=a) hr x
 have Qak:∀sv,(σ.put o.dst sv).tmps.length=σ.tmps.length∧(σ.put o.dst sv).mem.length=σ.mem.length:=fun sv=>by cases o.dst <;> simp[af.fM]
 have nil:∀{op:BinOp} {ty yt:TypeId} {x y:Operand} {x':E} {neg:Bool},o.op=.binOp op ty x y yt→(op=.eql∧neg=false∨op=.neq∧neg=true)→(∃e,P.underlying ty=some (.slice e))→Iz y=true→(σ.zS x).jx=some x'→s=.nk x' neg→o.wpIn (FW rd) nd P a w K Q':=by
  intro op ty yt x y x' neg ho hop ⟨e,hu⟩ hy hx hs
  subst hs
  simp only[HL] at ht
  obtain⟨t',ht',rfl⟩:=Option.map_eq_some_iff.1 ht
  obtain⟨d,bs,he,hb,hall⟩:=fQ
  obtain⟨d',he',hrd⟩:=SV.ck hx (hv x)
  rw[he] at he'
  cases he'
  obtain⟨hform,hmem⟩:=UN hrd hb
  obtain⟨b,h1,h2,h3⟩:=Q4 (P:=P) (w:=w) hu hform
  have S8:a.eval y=.slice none 0 0:=by
   unfold Iz at hy
   split at hy
   ·rfl
   ·cases hy
  have fz:=hall b (hmem b h3)
  have Vm:(eqGuard op ty x y (a.eval x) (.slice none 0 0)).run P w=.ok () w:=by
   obtain⟨ad,n,c,Lf⟩:=hform
   rw[Lf]
   rcases hop with⟨rfl,_⟩ | ⟨rfl,_⟩ <;> simp[eqGuard]
  refine iN (K:=K) hnd ?_ fun _ _ h=>h
  have hrun:(execOp a.eval o).run P w=.ok (.value (.bool (b != neg))) w:=by
   unfold execOp
   rcases hop with⟨rfl,rfl⟩ | ⟨rfl,rfl⟩
   ·simp only[ho,S8,Sem.run_bind,Vm,Result.andThen_ok,h1,Sem.run_pure];simp
   ·simp only[ho,S8,Sem.run_bind,Vm,Result.andThen_ok,h2,Sem.run_pure];simp
  rw[hrun]
  have bn:=(hr.env (prefix_append env [.v (.bool (b != neg))])).put (dst:=o.dst) (v:=.bool (b != neg)) (sv:=.e (.sym env.length) true) hd (.e (d:=.v (.bool (b != neg))) (by simp[E.eval]) (.v rfl) fun _=>rfl)
  exact hK _ _ t' _ _ _ (prefix_append env _) (by rw[List.length_append];exact ht') fz bn (Qak _).1 (Qak _).2
 split at hs
 ·rename_i x ho
  split at hs
  ·rename_i y cf hx0 hx sA
   cases hs
   simp only[HL] at ht
   obtain⟨ks,hks,rfl⟩:=Option.map_eq_some_iff.1 ht
   obtain⟨d,st,kd,he,hh,GN,hq⟩:=fQ
   obtain⟨d',he',hrd⟩:=SV.ck hx (hv x)
   simp only[E.eval,he',Option.bind_some,D.m4] at he
   obtain⟨h1,dN,bs,h2,h3⟩:=pg hr sA
   rw[h1,h2] at hh
   cases hh
   split at he
   case h_2=>cases he
   cases he
   have alk:=hrd
   generalize hve:a.eval x=v at hrd
   cases hrd with
   | oO hd0=>
    refine iN (K:=K) hnd ?_ fun _ _ h=>h
    have hrun:(execOp a.eval o).run P w=.halt (.panic (a.eval x)) w:=by
     unfold execOp
     simp only[ho,hve,Instr.panic,goPanic,Sem.run_bind]
     rfl
    rw[hrun]
    exact hp w a σ env ρ _ _ bs hr alk h3 ⟨cf,_,dN⟩ ⟨kd,rP hr hks GN (List.prefix_refl _),hq⟩
  ·cases hs
 ·rename_i it ho
  split at hs
  ·rename_i p cf hx0 hx sA
   split at hs
   ·cases hs
   rename_i hro
   cases hs
   simp only[HL] at ht
   obtain⟨t',ht',rfl⟩:=Option.map_eq_some_iff.1 ht
   obtain⟨ys,he,hall⟩:=fQ
   obtain⟨dp,hdp,Ye⟩:=SV.ck hx (hv it)
   obtain⟨h1,dN,bs,h2,h3⟩:=pg hr sA
   simp only[E.eval,h1,h2,hdp,Option.bind_some,D.m4] at he
   obtain⟨v,w',d,bs',hmem,hrun,oP,fp,hK',hos,RL,hout,hsz,q_⟩:=Ui (P:=P) (ty:=o.type) h3 Ye he
   have fz:=hall _ _ hmem
   have fH:(execOp a.eval o).run P w=.ok (.value v) w':=by
    unfold execOp
    simp only[ho,Sem.run_bind,hrun,Result.andThen_ok,Sem.run_pure]
   refine iN (K:=K) hnd ?_ fun _ _ h=>h
   rw[fH]
   have hpre:=prefix_append env [.bh [d,.st bs']]
   have cW:(E.sym env.length).eval (env++[.bh [d,.st bs']])=some (.bh [d,.st bs']):=by simp[E.eval]
   have bn:=(hr.env hpre).Qew (x':=.Qrx 1 (.sym env.length)) dN (by simpa using hro) (by simp only[E.eval] at cW ⊢;rw[cW];rfl) fp hK' (Sets.le_refl _) hos RL hout (by omega) (fun b _ hb=>q_ b hb) (fun b hb=>⟨.inl hb,by rw[hsz];exact gZ hr dN b hb⟩) (fun b o hs=>.inl hs) (fun b o hs=>by rw[hsz];exact hr.cells b o hs)
   have kY:mo σ (.Qrx 1 (.sym env.length))=σ.setObj bN (some (.store cf (.Qrx 1 (.sym env.length)))):=by unfold mo;rw[sA]
   refine hK _ _ t' _ _ _ hpre (by rw[List.length_append];exact ht') fz (kY ▸ bn.put (dst:=o.dst) (by rw[af.aZ];exact hd) (.e (d:=d) (by simp only[E.eval] at cW ⊢;rw[cW];rfl) oP (by simp))) ?_ ?_
   ·rw[kY];cases o.dst <;> simp[af.fM,af.aZ]
   ·rw[kY];cases o.dst <;> simp[af.fM,af.fG]
  ·cases hs
 ·rename_i ty x y yt ho
  split at hs
  ·rename_i e hu
   split at hs
   ·rename_i hy
    obtain⟨x',hx,rfl⟩:=Option.map_eq_some_iff.1 hs
    exact nil ho (.inl ⟨rfl,rfl⟩) ⟨e,hu⟩ hy hx rfl
   ·cases hs
  ·cases hs
 ·rename_i ty x y yt ho
  split at hs
  ·rename_i e hu
   split at hs
   ·rename_i hy
    obtain⟨x',hx,rfl⟩:=Option.map_eq_some_iff.1 hs
    exact nil ho (.inr ⟨rfl,rfl⟩) ⟨e,hu⟩ hy hx rfl
   ·cases hs
  ·cases hs
 ·rename_i c ho
  obtain⟨callee,args,ts⟩:=c
  simp only at hs
  split at hs
  ·rename_i c
   split at hs
   ·rename_i f cf hE hfv sA
    split at hs
    ·split at hs
     ·rename_i fn xs hfn hxs
      split at hs
      ·rename_i rs tI
       split at hs
       ·cases hs
       ·rename_i dG
        have dG:bJ P f=true:=by simpa using dG
        obtain⟨h1,dN,bs,h2,h3⟩:=pg hr sA
        have hc:a.eval c=.func (.func f) #[] #[]:=by
         have:=hv c
         rw[hfv] at this
         obtain⟨vs,he,hl',_⟩:=this.rV
         rw[he]
         have:vs=#[]:=by simpa using hl'
         rw[this]
        have hrun:=Jm (w:=w) dG ho hc
        obtain⟨ds',oQ,cP,hrd⟩:=mZ (w:=w) (ρ:=ρ) (vs:=(args.map a.eval).toList) hxs (by simp) (fun i v s Qcz hs'=>by
         simp only[Array.toList_map,List.getElem?_map,Option.map_eq_some_iff] at Qcz hs'
         obtain⟨x,hx',rfl⟩:=Qcz
         obtain⟨y,hy',rfl⟩:=hs'
         rw[hx'] at hy'
         cases hy'
         exact hv x)
        split at hs
        ·split at hs
         ·cases hs
         ·rename_i hro
          cases hs
          simp only[HL] at ht
          obtain⟨ks,hks,ht⟩:=Option.bind_eq_some_iff.1 ht
          obtain⟨t',ht',rfl⟩:=Option.map_eq_some_iff.1 ht
          obtain⟨st,ds,oo,h',uV,cV,hspec,RR⟩:=fQ
          rw[h1,h2] at uV
          cases uV
          rw[cV] at oQ
          cases oQ
          refine iN (K:=K) hnd ?_ fun _ _ h=>h
          rw[hrun]
          refine⟨fun e=>(by cases e),callsIn_wide.2 ?_⟩
          refine(hspec w ρ.S ρ.aJ bs (args.map a.eval) rfl h3 (hr.mK dN) (gZ hr dN) hr.cells (by simpa using cP) (fun i v x hv hx'=>hrd i v x (by simpa using hv) hx')).mono ?_
          rintro e w' ⟨v,S',bV,bs',gj,rfl,fp,hk,hS,hos,RL,hout,hsz,q_,hf',GU,IW⟩
          cases oo with
          | ret d=>
           obtain⟨rfl,oP⟩:=gj
           have hpre:=prefix_append env [.bh [d,.st bs']]
           have cW:(E.sym env.length).eval (env++[.bh [d,.st bs']])=some (.bh [d,.st bs']):=by simp[E.eval]
           have bn:=(hr.env hpre).Qew (x':=.Qrx 1 (.sym env.length)) dN (by simpa using hro) (by simp only[E.eval] at cW ⊢;rw[cW];rfl) fp hk hS hos RL hout hsz q_ hf' GU IW
           have kY:mo σ (.Qrx 1 (.sym env.length))=σ.setObj bN (some (.store cf (.Qrx 1 (.sym env.length)))):=by unfold mo;rw[sA]
           refine hK _ _ t' _ _ _ hpre (by rw[List.length_append];exact ht') RR.2 (kY ▸ bn.put (dst:=o.dst) (by rw[af.aZ];exact hd) (lD (by simp only[E.eval] at cW ⊢;rw[cW];rfl) oP RR.1)) ?_ ?_
           ·rw[kY];cases o.dst <;> simp[af.fM,af.aZ]
           ·rw[kY];cases o.dst <;> simp[af.fM,af.fG]
          | fc d=>
           obtain⟨rfl,oP⟩:=gj
           have bn:=(hr.env (prefix_append env [.st bs'])).Qew (x':=.sym env.length) dN (by simpa using hro) (by simp[E.eval]) fp hk hS hos RL hout hsz q_ hf' GU IW
           obtain⟨kd,GN,hq⟩:=RR
           have GM:jT (σ.setObj bN (some (.store cf (.sym env.length))))=jT σ:=by
            unfold jT
            rw[sA]
            simp[af.fD]
           have hke:wM (σ.setObj bN (some (.store cf (.sym env.length))))=some ks:=by
            unfold wM at hks ⊢
            rw[GM]
            rw[←hks]
            congr 1
           exact hp w' a _ _ _ v d bs' bn oP fp ⟨cf,_,by rw[af.ff (.inl rfl),if_pos rfl]⟩ ⟨kd,rP bn hke GN (prefix_append env _),by rw[GM];exact hq⟩
        ·cases hs
         simp only[HL] at ht
         obtain⟨ks,hks,ht⟩:=Option.bind_eq_some_iff.1 ht
         obtain⟨t',ht',rfl⟩:=Option.map_eq_some_iff.1 ht
         obtain⟨st,ds,oo,uV,cV,hspec,RR⟩:=fQ
         rw[h1,h2] at uV
         cases uV
         rw[cV] at oQ
         cases oQ
         refine iN (K:=K) hnd ?_ fun _ _ h=>h
         rw[hrun]
         refine⟨fun e=>(by cases e),callsIn_wide.2 ?_⟩
         refine(hspec w ρ.S ρ.aJ bs (args.map a.eval) rfl h3 (hr.mK dN) (gZ hr dN) hr.cells (by simpa using cP) (fun i v x hv hx'=>hrd i v x (by simpa using hv) hx')).mono ?_
         rintro e w' ⟨v,S',gj,xD,hs1,CC,fX,JG⟩
         have bn:=hr.behind xD hs1 CC fX JG
         cases oo with
         | ret d=>
          obtain⟨rfl,oP⟩:=gj
          have hpre:=prefix_append env [d]
          exact hK _ _ t' _ _ _ hpre (by rw[List.length_append];exact ht') RR.2 ((bn.env hpre).put (dst:=o.dst) hd (lD (by simp[E.eval]) oP RR.1)) (Qak _).1 (Qak _).2
         | fc d=>
          obtain⟨rfl,oP⟩:=gj
          obtain⟨lg,h4,h5,_⟩:=bn.dO _ _ dN
          rw[h2] at h4
          cases h4
          obtain⟨kd,GN,hq⟩:=RR
          exact hp w' a _ _ _ v d bs bn oP h5 ⟨cf,_,dN⟩ ⟨kd,rP bn hks GN (List.prefix_refl _),hq⟩
      ·cases hs
     ·cases hs
    ·cases hs
   ·rename_i xe sb cf hE hfv sA
    split at hs
    ·split at hs
     ·rename_i rs xs tI hxs
      split at hs
      ·cases hs
      ·rename_i hro
       cases hs
       obtain⟨h1,dN,bs,h2,h3⟩:=pg hr sA
       have GP:=hv c
       rw[hfv] at GP
       obtain⟨dc,hdc,hrc,_⟩:=GP.kC
       obtain⟨ds',oQ,cP,hrd⟩:=mZ (w:=w) (ρ:=ρ) (vs:=(args.map a.eval).toList) hxs (by simp) (fun i v s Qcz hs'=>by
        simp only[Array.toList_map,List.getElem?_map,Option.map_eq_some_iff] at Qcz hs'
        obtain⟨x,hx',rfl⟩:=Qcz
        obtain⟨y,hy',rfl⟩:=hs'
        rw[hx'] at hy'
        cases hy'
        exact hv x)
       simp only[HL] at ht
       obtain⟨ks,hks,ht⟩:=Option.bind_eq_some_iff.1 ht
       obtain⟨t',ht',rfl⟩:=Option.map_eq_some_iff.1 ht
       obtain⟨f,us,cs,st,ds,oo,h',uT,dG,uV,cV,hspec,RR⟩:=fQ
       rw[hdc] at uT
       cases uT
       rw[h1,h2] at uV
       cases uV
       rw[cV] at oQ
       cases oQ
       generalize hvc:a.eval c=vc at hrc
       cases hrc with
       | @fn _ uv cv _ _ FK Vw RK IU=>
       have hrun:(execOp a.eval o).run P w=.ok (.enter f (uv++args.map a.eval++cv)) w:=by
        unfold bJ at dG
        split at dG
        ·rename_i fn hf
         simp only[Bool.and_eq_true,Bool.not_eq_true',Option.isSome_iff_ne_none] at dG
         have VA:fn.body.isNone=false:=by
          cases hb:fn.body with
          | none=>exact absurd hb dG.2
          | some _=>rfl
         unfold execOp
         simp only[ho,resolve,hvc,Deferred.ofValue,invoke,Sem.run_bind,Sem.run_pure,Result.andThen_ok,callFunc,run_program,hf,dG.1,VA,Bool.false_eq_true,if_false]
        ·cases dG
       refine iN (K:=K) hnd ?_ fun _ _ h=>h
       rw[hrun]
       refine⟨fun e=>(by cases e),callsIn_wide.2 ?_⟩
       refine(hspec w ρ.S ρ.aJ bs _ rfl h3 (hr.mK dN) (gZ hr dN) hr.cells (by simp at cP;simp[FK,Vw,cP]) (fun i v x hv hx'=>VP (us:=uv.toList) (vs:=(args.map a.eval).toList) (ws:=cv.toList) (R:=fun v x=>bU w ρ.S v x) (by simpa using FK) cP (fun i u x hu hx=>RK i u x (by simpa using hu) hx) hrd (fun i u x hu hx=>IU i u x (by simpa using hu) hx) i v x (by rw[←Array.toList_append,←Array.toList_append,Array.getElem?_toList];exact hv) hx')).mono ?_
       rintro e w' ⟨v,S',bV,bs',gj,rfl,fp,hk,hS,hos,RL,hout,hsz,q_,hf',GU,IW⟩
       cases oo with
       | ret d=>
        obtain⟨rfl,oP⟩:=gj
        have hpre:=prefix_append env [.bh [d,.st bs']]
        have cW:(E.sym env.length).eval (env++[.bh [d,.st bs']])=some (.bh [d,.st bs']):=by simp[E.eval]
        have bn:=(hr.env hpre).Qew (x':=.Qrx 1 (.sym env.length)) dN (by simpa using hro) (by simp only[E.eval] at cW ⊢;rw[cW];rfl) fp hk hS hos RL hout hsz q_ hf' GU IW
        have kY:mo σ (.Qrx 1 (.sym env.length))=σ.setObj bN (some (.store cf (.Qrx 1 (.sym env.length)))):=by unfold mo;rw[sA]
        refine hK _ _ t' _ _ _ hpre (by rw[List.length_append];exact ht') RR.2 (kY ▸ bn.put (dst:=o.dst) (by rw[af.aZ];exact hd) (lD (by simp only[E.eval] at cW ⊢;rw[cW];rfl) oP RR.1)) ?_ ?_
        ·rw[kY];cases o.dst <;> simp[af.fM,af.aZ]
        ·rw[kY];cases o.dst <;> simp[af.fM,af.fG]
       | fc d=>
        obtain⟨rfl,oP⟩:=gj
        have bn:=(hr.env (prefix_append env [.st bs'])).Qew (x':=.sym env.length) dN (by simpa using hro) (by simp[E.eval]) fp hk hS hos RL hout hsz q_ hf' GU IW
        obtain⟨kd,GN,hq⟩:=RR
        have GM:jT (σ.setObj bN (some (.store cf (.sym env.length))))=jT σ:=by
         unfold jT
         rw[sA]
         simp[af.fD]
        have hke:wM (σ.setObj bN (some (.store cf (.sym env.length))))=some ks:=by
         unfold wM at hks ⊢
         rw[GM]
         rw[←hks]
         congr 1
        exact hp w' a _ _ _ v d bs' bn oP fp ⟨cf,_,by rw[af.ff (.inl rfl),if_pos rfl]⟩ ⟨kd,rP bn hke GN (prefix_append env _),by rw[GM];exact hq⟩
     ·cases hs
    ·cases hs
   ·cases hs
  ·cases hs
 ·cases hs

theorem Sf {b:Bind}{t:T}{env:List D}{Q:iD→Prop}(h:den P (.bind b t) env Q):∃d,den P t (env++[d]) Q∧cn P (env++[d]) env.length (some b):=by
 obtain⟨ds,hl,h1,h2⟩:=vY (bs:=[b]) (t:=t) h
 match ds,hl with
 | [d],_=>exact⟨d,h1,h2 0 b rfl⟩

theorem Df {rd:Option Nat} {nd:Nat} {ops:Array Oper} {Q:iD→Prop} {Q':Exit→Act→World→Prop} {k:QG} (hp:acr w0 X Q Q') {N:Nat}
  (hsz:∀(j d:Nat),(ops[j]?).bind (fun(o:Oper)=>o.dst)=some d→d<N) :
  ∀{l:List Oper} {σ:af} {t:T} {env:List D} {a:Act} {w:World} {ρ:dJ},J_ P ops l σ env.length k=some t→den P t env Q→cu w0 X w a σ env ρ→σ.tmps.length=N→σ.mem.length=N →
   (∀(σ':af) (env':List D) (t':T) (a':Act) (w':World) (ρ':dJ),env <+: env'→k σ' env'.length=some t'→den P t' env' Q→cu w0 X w' a' σ' env' ρ'→σ'.tmps.length=N→σ'.mem.length=N→Q' .normal a' w')→wpListIn (FW rd) nd P ops Q' l a w
 | [],σ,t,env,a,w,ρ,hs,hd,hr,h1,h2,hQ=>hQ σ env t a w ρ (List.prefix_refl _) hs hd hr h1 h2
 | o :: r,σ,t,env,a,w,ρ,hs,hd,hr,h1,h2,hQ=>by
  simp only[J_] at hs
  have next:∀{σ':af} {env':List D} {t':T} {a':Act} {w':World} {ρ':dJ},env <+: env'→J_ P ops r σ' env'.length k=some t'→den P t' env' Q→cu w0 X w' a' σ' env' ρ'→σ'.tmps.length=N→σ'.mem.length=N→wpListIn (FW rd) nd P ops Q' r a' w':=by
   intro σ' env' t' a' w' ρ' hpre hs' fz hr' h1' h2'
   exact Df hp hsz hs' fz hr' h1' h2' fun σ2 bP t2 a2 w2 ρ2 hp2=>hQ σ2 bP t2 a2 w2 ρ2 (hpre.trans hp2)
  split at hs
  ·rename_i s WZ
   split at hs
   ·rename_i ig
    obtain⟨hw,hwp⟩:=Gi (ops:=ops) WZ (vo ig) (xM ig) hs hd hr hp (K:=wpListIn (FW rd) nd P ops Q' r) fun σ' env' t' a' w' ρ' hpre hk fz hr' e1 e2=>next hpre hk fz hr' (e1.trans h1) (e2.trans h2)
    unfold wpListIn
    rw[if_pos hw]
    exact hwp
   ·cases hs
  ·have go:∀{σ':af} {b:Option Bind} {env':List D} {t':T},nT P ops o σ env.length=some (σ',b)→env <+: env'→cn P env' env.length b→J_ P ops r σ' env'.length k=some t'→den P t' env' Q→wpListIn (FW rd) nd P ops Q' (o :: r) a w:=by
    intro σ' b env' t' hst hpre hb hs' fz
    have hlen:=Q6 hst
    unfold wpListIn
    rcases Bj (hr.env hpre) (by rw[h1,h2]) (List.IsPrefix.length_le hpre) (fun j d hjd=>by rw[h1];exact hsz j d hjd) hst hb with⟨hw,hok⟩ | ⟨hw,ρ'',bn⟩
    ·rw[if_pos hw]
     refine iN (Bk hst) (hok Q') ?_
     rintro a' w' ⟨ρ',bn⟩
     exact next hpre hs' fz bn (hlen.1.trans h1) (hlen.2.trans h2)
    ·rw[if_neg (by rw[hw];simp)]
     refine⟨fun _ _=>trivial,?_⟩
     exact next hpre hs' fz bn (hlen.1.trans h1) (hlen.2.trans h2)
   split at hs
   ·rename_i σ' hst
    exact go hst (List.prefix_refl _) trivial hs hd
   ·rename_i σ' b hst
    obtain⟨t',hs',rfl⟩:=Option.map_eq_some_iff.1 hs
    obtain⟨d,fz,hb⟩:=Sf hd
    exact go hst (prefix_append env [d]) hb (by rw[List.length_append];exact hs') fz
   ·cases hs

/-! ## a region whose order is drawn,with a special operation at FJ end -/

theorem Oper.MI {F:Fence}{n:Nat}{o:Oper}{a:Act}{w:World}{K:Act→World→Prop}{Q1 Q2:Exit→Act→World→Prop}(h1:∀c a w,Q1 (.panic c) a w→Q2 (.panic c) a w)(h2:∀a w,Q1 .outgrown a w→Q2 .outgrown a w)(h:o.wpIn F n P a w K Q1):o.wpIn F n P a w K Q2:=by
 unfold Oper.wpIn at *
 refine⟨h.1,?_⟩
 have h:=h.2
 have hl:LetsOut Q1→LetsOut Q2:=fun⟨a,w,h⟩=>⟨a,w,h2 a w h⟩
 generalize(o.semAt F.round a.eval).run P w=r at *
 cases r with
 | ok n w'=>
  cases n <;> simp only[Oper.uponIn] at h ⊢ <;>
   first
    | exact h
    | exact⟨h.1,CallsIn.mono h.2 (fun e w'' he=>by cases e <;> first | exact he | exact h1 _ _ _ he | exact hl he)⟩
    | exact⟨h.1,RowsIn.mono h.2 (fun _ _ he=>he)⟩
    | exact⟨h.1,RoundIn.mono h.2 (fun e w'' he=>by cases e <;> first | exact he | exact h1 _ _ _ he | exact hl he)⟩
 | halt x w'=>cases x <;> simp only[Oper.uponIn] at h ⊢ <;> first | exact h1 _ _ _ h | exact h

def Iu (ops:Array Oper):Bool:=
 (List.range (ops.size-1)).all (fun j=>((lF ops.toList []).getD (ops.size-1) 0).testBit j)&&(List.range ops.size).all fun i=>match ops[i]? with
  | some o=>(i==ops.size-1||match o.guard with | some (j,_)=>decide (j<ops.size-1) | none=>true)&&o.after.all fun e=>!Region.binds .any e||decide (e.on<i)
  | none=>false

theorem JO {ops:Array Oper}{tmps:Array Value}{j:Nat}(hj:j<ops.size-1):yielded ops.pop tmps j=yielded ops tmps j:=by
 unfold yielded
 rw[Array.getElem?_pop]
 simp[hj]

theorem MJ {F:Fence}{n:Nat}{ops:Array Oper}{Q:Exit→Act→World→Prop}(h0:0<ops.size)(hl:Iu ops=true) :
  ∀(fuel:Nat) (listed:Array Bool) (a:Act) (w:World),listed.size=ops.size-1→jU ops (Qbq listed) →
   wpAnyIn F n P .any ops.pop (fun e a w=>match e with | .normal=>wpOpIn F n P ops Q (ops.size-1) (Q .normal) a w | e=>Q e a w) fuel listed a w→wpAnyIn F n P .any ops Q (fuel+1) (listed.push false) a w:=by
 simp only[Iu,Bool.and_eq_true,List.all_eq_true,List.mem_range] at hl
 obtain⟨tJ,hall⟩:=hl
 have xF:∀(i:Nat) (o:Oper),ops[i]? = some o→(i<ops.size-1→∀j b,o.guard=some (j,b)→j<ops.size-1)∧∀e,e∈o.after→Region.binds .any e=true→e.on<i:=by
  intro i o ho
  have:=hall i (Array.getElem?_eq_some_iff.1 ho).1
  rw[ho] at this
  simp only[Bool.and_eq_true,Bool.or_eq_true,beq_iff_eq] at this
  refine⟨fun hi j b hg=>?_,fun e he hb=>?_⟩
  ·have h1:=this.1.resolve_left (by omega)
   rw[hg] at h1
   simpa using h1
  ·have:=Array.all_eq_true'.1 this.2 e he
   simpa[hb] using this
 have mM:∀(listed:Array Bool) (j:Nat),listed.size=ops.size-1→j<ops.size-1→∀d,(listed.push false).getD j d=listed.getD j false:=by
  intro listed j hs hj d
  simp only[Array.getD_eq_getD_getElem?]
  rw[Array.getElem?_push_lt (by omega)]
  simp[show j<listed.size by omega]
 have ZB:∀(listed:Array Bool),listed.size=ops.size-1→∀d,(listed.push false).getD (ops.size-1) d=false:=by
  intro listed hs d
  simp only[Array.getD_eq_getD_getElem?,←hs,Array.getElem?_push_size]
  rfl
 have afx:∀i,i<ops.size-1→ops.pop[i]? = ops[i]?:=fun i hi=>by rw[Array.getElem?_pop];simp[hi]
 have step:∀(fuel:Nat) (listed:Array Bool) (a:Act) (w:World),listed.size=ops.size-1→jU ops (Qbq listed) →
   wpAnyIn F n P .any ops.pop (fun e a w=>match e with | .normal=>wpOpIn F n P ops Q (ops.size-1) (Q .normal) a w | e=>Q e a w) fuel listed a w →
   (∀f,fuel=f+1→∀(listed:Array Bool) (a:Act) (w:World),listed.size=ops.size-1→jU ops (Qbq listed) →
    wpAnyIn F n P .any ops.pop (fun e a w=>match e with | .normal=>wpOpIn F n P ops Q (ops.size-1) (Q .normal) a w | e=>Q e a w) f listed a w→wpAnyIn F n P .any ops Q (f+1) (listed.push false) a w) →
   wpAnyIn F n P .any ops Q (fuel+1) (listed.push false) a w:=by
  intro fuel listed a w hs dG h ih
  have hgd:∀(j:Nat),j<ops.size-1→listed.getD j true=listed.getD j false:=fun j hj=>by
   simp only[Array.getD_eq_getD_getElem?]
   simp[show j<listed.size by omega]
  refine⟨fun wm=>?_,fun i hi=>?_⟩
  ·exfalso
   have hdone:∀j,j<ops.size→(listed.push false).getD j false=true:=by
    intro j
    induction j using Nat.strongRecOn with
    | _ j ihj=>
     intro hj
     refine Classical.byContradiction fun hnd=>?_
     have hmem:j∈Region.ready .any ops (listed.push false):=by
      refine mem_ready.2 ⟨?_,ops[j],Array.getElem?_eq_getElem hj,fun e he hb=>?_⟩
      ·rcases Nat.lt_or_ge j (ops.size-1) with hlt | hge
       ·rw[mM listed j hs hlt] at hnd ⊢
        simpa using hnd
       ·have:j=ops.size-1:=by omega
        rw[this,ZB listed hs]
      ·have:=(xF j ops[j] (Array.getElem?_eq_getElem hj)).2 e he hb
       exact ihj e.on this (by omega)
     rw[wm] at hmem
     cases hmem
   have:=hdone (ops.size-1) (by omega)
   rw[ZB listed hs] at this
   cases this
  ·obtain⟨h1,o,ho,ha⟩:=mem_ready.1 hi
   have hin:=(Array.getElem?_eq_some_iff.1 ho).1
   rcases Nat.lt_or_ge i (ops.size-1) with hlt | hge
   ·have hia:∀e,e∈o.after→Region.binds .any e=true→listed.getD e.on false=true:=fun e he hb=>by
     have h2:=ha e he hb
     have h3:=(xF i o ho).2 e he hb
     rwa [mM listed e.on hs (by omega)] at h2
    have hi':i∈Region.ready .any ops.pop listed:=by
     refine mem_ready.2 ⟨?_,o,by rw[afx i hlt];exact ho,hia⟩
     rw[mM listed i hs hlt] at h1
     rw[hgd i hlt]
     exact h1
    cases fuel with
    | zero=>rw[h.1] at hi';cases hi'
    | succ f=>
     have h2:=h.2 i hi'
     have kY:(listed.push false).setIfInBounds i true=(listed.setIfInBounds i true).push false:=by
      apply Array.ext'
      rw[Array.toList_setIfInBounds,Array.toList_push,Array.toList_push,Array.toList_setIfInBounds,List.set_append_left _ _ (by simpa using(by omega:i<listed.size))]
     have Vx:jU ops (Qbq (listed.setIfInBounds i true)):=by
      intro k ok hk hok e he hb
      simp only[Qbq,Array.getD_eq_getD_getElem?,Array.getElem?_setIfInBounds] at hk ⊢
      by_cases hki:i=k
      ·subst hki
       rw[ho] at hok
       cases hok
       have:=hia e he hb
       simp only[Array.getD_eq_getD_getElem?] at this
       split
       ·rename_i hh;simp[show i<listed.size by omega]
       ·exact this
      ·rw[if_neg hki] at hk
       have:=dG k ok (by simpa[Qbq,Array.getD_eq_getD_getElem?] using hk) hok e he hb
       simp only[Qbq,Array.getD_eq_getD_getElem?] at this
       split
       ·simp[show i<listed.size by omega]
       ·exact this
     have hnext:=ih f rfl
     unfold wpOpIn at h2 ⊢
     rw[afx i hlt,ho] at h2
     rw[ho]
     simp only at h2 ⊢
     have Qaj:Region.wanted o (yielded ops.pop a.tmps)=Region.wanted o (yielded ops a.tmps):=by
      unfold Region.wanted
      cases hg:o.guard with
      | none=>rfl
      | some g=>
       obtain⟨j,b⟩:=g
       simp only
       rw[JO ((xF i o ho).1 hlt j b hg)]
     rw[Qaj] at h2
     have fin:∀a' w',wpAnyIn F n P .any ops.pop (fun e a w=>match e with | .normal=>wpOpIn F n P ops Q (ops.size-1) (Q .normal) a w | e=>Q e a w) f (listed.setIfInBounds i true) a' w'→wpAnyIn F n P .any ops Q (f+1) ((listed.push false).setIfInBounds i true) a' w':=by
      intro a' w' h3
      rw[kY]
      exact hnext _ a' w' (by simp[hs]) Vx h3
     split
     ·rename_i hw
      rw[if_pos hw] at h2
      exact Oper.wpIn_mono fin (Oper.MI (fun _ _ _ h=>h) (fun _ _ h=>h) h2)
     ·rename_i hw
      rw[if_neg hw] at h2
      exact⟨h2.1,fin _ _ h2.2⟩
   ·obtain rfl:i=ops.size-1:=by omega
    have hia:∀e,e∈o.after→Region.binds .any e=true→Qbq listed e.on=true:=fun e he hb=>by
     have h2:=ha e he hb
     have h3:=(xF _ o ho).2 e he hb
     rwa [mM listed e.on hs h3] at h2
    have hdone:∀j,j<ops.size-1→Qbq listed j=true:=fun j hj=>xo dG ho hia (tJ j hj)
    have wm:Region.ready .any ops.pop listed=[]:=by
     cases hr:Region.ready .any ops.pop listed with
     | nil=>rfl
     | cons j l=>
      have hmem:j∈Region.ready .any ops.pop listed:=by rw[hr];simp
      obtain⟨h3,o',ho',_⟩:=mem_ready.1 hmem
      have hj:j<ops.size-1:=by simpa using(Array.getElem?_eq_some_iff.1 ho').1
      rw[hgd j hj] at h3
      have:=hdone j hj
      simp only[Qbq] at this
      rw[this] at h3
      cases h3
    have hq:wpOpIn F n P ops Q (ops.size-1) (Q .normal) a w:=by
     cases fuel with
     | zero=>exact h.2
     | succ f=>exact h.1 wm
    refine wpOpIn_mono (fun a' w' Yf=>?_) hq
    have Ls:Region.ready .any ops ((listed.push false).setIfInBounds (ops.size-1) true)=[]:=by
     cases hr:Region.ready .any ops ((listed.push false).setIfInBounds (ops.size-1) true) with
     | nil=>rfl
     | cons j l=>
      have hmem:j∈Region.ready .any ops ((listed.push false).setIfInBounds (ops.size-1) true):=by rw[hr];simp
      obtain⟨h3,o',ho',_⟩:=mem_ready.1 hmem
      have hj:j<ops.size:=(Array.getElem?_eq_some_iff.1 ho').1
      simp only[Array.getD_eq_getD_getElem?,Array.getElem?_setIfInBounds] at h3
      split at h3
      ·simp[hs] at h3
      ·rename_i hne
       have hj':j<ops.size-1:=by omega
       have:=hdone j hj'
       have h4:=mM listed j hs hj' true
       simp only[Array.getD_eq_getD_getElem?] at h4
       rw[h4] at h3
       simp only[Qbq,Array.getD_eq_getD_getElem?] at this
       rw[this] at h3
       cases h3
    cases fuel with
    | zero=>exact⟨Ls,Yf⟩
    | succ f=>exact⟨fun _=>Yf,fun j hj=>by rw[Ls] at hj;cases hj⟩
 have hgd:∀(listed:Array Bool) (j:Nat),listed.size=ops.size-1→j<ops.size-1→listed.getD j true=listed.getD j false:=fun listed j hs hj=>by
  simp only[Array.getD_eq_getD_getElem?]
  simp[show j<listed.size by omega]
 intro fuel
 induction fuel with
 | zero=>
  intro listed a w hs dG h
  exact step 0 listed a w hs dG h fun f hf=>by omega
 | succ fuel ih=>
  intro listed a w hs dG h
  exact step (fuel+1) listed a w hs dG h fun f hf=>by
   obtain rfl:f=fuel:=by omega
   exact ih

end
end
end

section
noncomputable section

def E.upto (n:Nat):E→Bool
 | .sym k=>decide (k<n)
 | .const _ | .nil | .ax=>true
 | .bin _ _ a b | .idx a b | .uS _ a b | .cons a b | .app _ _ a b | .bz a b | .gV _ a b | .guard a _ b | .aa a b | .mm _ a b | .aj _ a b | .ld _ _ a b | .cI _ _ a b | .a_ _ _ a b | .bO a b | .ve _ a b | .vf a b=>a.upto n&&b.upto n
 | .un _ a | .conv _ a | .aR a | .uJ a | .bt a | .cell _ a | .cells _ _ a | .bB _ a | .one a | .Qrx _ a | .rep _ a _ | .deref a | .oO _ a | .gE a | .ay _ a | .nn a | .aU a=>a.upto n
 | .sub _ a b c | .ite a b c | .gQ _ a b c | .fU _ _ _ a b c | .apps a b c=>a.upto n&&b.upto n&&c.upto n
 | .set a b _ c=>a.upto n&&b.upto n&&c.upto n
 | .m4 _ a b c d=>a.upto n&&b.upto n&&c.upto n&&d.upto n

theorem E.nE {n : Nat} {env env' : List D} (h : ∀ k, k < n → env[k]? = env'[k]?) : ∀ {x : E}, x.upto n = true → x.eval env = x.eval env' := by
 intro x
 induction x <;> intro hb <;> simp only [E.upto, Bool.and_eq_true, decide_eq_true_eq] at hb <;> simp only [E.eval]
 case sym k => exact h k hb
 all_goals first
  | rfl
  | (rename_i ih; rw [ih hb])
  | (rename_i i1 i2; rw [i1 hb.1, i2 hb.2])
  | (rename_i i1 i2 i3; rw [i1 hb.1.1, i2 hb.1.2, i3 hb.2])
  | (rename_i i1 i2 i3 i4; rw [i1 hb.1.1.1, i2 hb.1.1.2, i3 hb.1.2, i4 hb.2])

mutual
def SV.upto (n:Nat):SV→Bool
 | .cE | .addr _ _ | .oc _=>true
 | .e x _ | .aj _ x _ _ | .iV x _ | .own x _=>x.upto n
 | .agg cs | .bh cs=>SV.qg n cs
 | .func _ cs=>SV.qg n cs
 | .cond act sv=>act.all (fun p=>p.1.upto n)&&sv.upto n
def SV.qg (n:Nat):List SV→Bool
 | []=>true
 | s :: r=>s.upto n&&SV.qg n r
end

theorem SV.qf {n:Nat}:∀{cs:List SV} {i:Nat} {c:SV},SV.qg n cs=true→cs[i]? = some c→c.upto n=true
 | [],i,c,_,h=>by simp at h
 | s :: r,0,c,h,hi=>by simp[SV.qg] at h hi;exact hi ▸ h.1
 | s :: r,i+1,c,h,hi=>by simp[SV.qg] at h hi;exact SV.qf h.2 hi

theorem ef.cut {w:World}{ρ:dJ}{n:Nat}{env env':List D}{v:Value}{sv:SV}(h:ef w ρ env v sv)(he:∀k,k<n→env[k]? = env'[k]?)(hb:sv.upto n=true):ef w ρ env' v sv:=by
 induction h with
 | cE=>exact .cE
 | e hx h h1=>exact .e ((E.nE he (by simpa[SV.upto] using hb)) ▸ hx) h h1
 | agg hl ho _ ih=>exact .agg hl ho fun i v c hv hc=>ih i v c hv hc (SV.qf (by simpa[SV.upto] using hb) hc)
 | bh hl _ ih=>exact .bh hl fun i v c hv hc=>ih i v c hv hc (SV.qf (by simpa[SV.upto] using hb) hc)
 | addr=>exact .addr
 | aj hx=>exact .aj ((E.nE he (by simpa[SV.upto] using hb)) ▸ hx)
 | iV hx h=>exact .iV ((E.nE he (by simpa[SV.upto] using hb)) ▸ hx) h
 | own hx h hv=>exact .own ((E.nE he (by simpa[SV.upto] using hb)) ▸ hx) h hv
 | oc=>exact .oc
 | func hl _ ih=>exact .func hl fun i v c hv hc=>ih i v c hv hc (SV.qf (by simpa[SV.upto] using hb) hc)
 | @cond v act sv hd _ hn ih=>
  simp only[SV.upto,Bool.and_eq_true,List.all_eq_true] at hb
  have cV:∀p,p∈act→p.1.eval env=p.1.eval env':=fun p hp=>E.nE he (hb.1 p hp)
  have hact:bI env act↔bI env' act:=⟨fun h p hp=>(cV p hp) ▸ h p hp,fun h p hp=>(cV p hp).symm ▸ h p hp⟩
  exact .cond (fun p hp=>let ⟨d,h⟩:=hd p hp;⟨d,(cV p hp) ▸ h⟩) (fun ha=>ih (hact.2 ha) hb.2) fun ha=>hn fun h=>ha (hact.1 h)

def GI (base n:Nat):E→Bool
 | .sym k=>decide (k=base+n)
 | _=>false

mutual
def gW (base:Nat):SV→SV→List E→Option (List E)
 | .cE,_,acc=>some acc
 | .e x s,sv,acc=>
  if GI base acc.length x then(match s,sv with
   | true,.e y true=>some (acc++[y])
   | true,.own y _=>some (acc++[y])
   | false,sv=>sv.jx.map fun y=>acc++[y]
   | _,_=>none)
  else if(SV.e x s).same sv&&x.upto base then some acc else none
 | .own x k,sv,acc=>
  if GI base acc.length x then(match sv with
   | .own y k'=>if k=k' then some (acc++[y]) else none
   | _=>none)
  else if(SV.own x k).same sv&&x.upto base then some acc else none
 | .agg ts,sv,acc=>match sv with
  | .agg cs=>ko base ts cs acc
  | _=>none
 | .bh ts,sv,acc=>if(SV.bh ts).same sv&&SV.qg base ts then some acc else none
 | .addr o f,sv,acc=>if(SV.addr o f).same sv then some acc else none
 | .aj o x s f,sv,acc=>if(SV.aj o x s f).same sv&&x.upto base then some acc else none
 | .iV x f,sv,acc=>if(SV.iV x f).same sv&&x.upto base then some acc else none
 | .oc o,sv,acc=>if(SV.oc o).same sv then some acc else none
 | .func fn ts,sv,acc=>if(SV.func fn ts).same sv&&SV.qg base ts then some acc else none
 | .cond _ _,_,_=>none
def ko (base:Nat):List SV→List SV→List E→Option (List E)
 | [],[],acc=>some acc
 | t :: ts,s :: ss,acc=>(gW base t s acc).bind fun acc=>ko base ts ss acc
 | _,_,_=>none
end

def rM (base:Nat):bl→bl→List E→Option (List E)
 | .box ts,.box cs,acc=>ko base ts cs acc
 | .row x sz,.row y sz',acc=>if sz=sz' then(if GI base acc.length x then some (acc++[y]) else if x.same y&&x.upto base then some acc else none) else none
 | .tok e sz,.tok e' sz',acc=>if e=e'∧sz=sz' then some acc else none
 | .store cf x,.store Qdy y,acc=>if cf=Qdy then(if GI base acc.length x then some (acc++[y]) else if x.same y&&x.upto base then some acc else none) else none
 | _,_,_=>none

def gC (base:Nat):List (Option bl)→List (Option bl)→List E→Option (List E)
 | [],[],acc=>some acc
 | none :: ts,_ :: ss,acc=>gC base ts ss acc
 | some t :: ts,some s :: ss,acc=>(rM base t s acc).bind fun acc=>gC base ts ss acc
 | _,_,_=>none

def H_ (base:Nat):Option bl→Option bl→List E→Option (List E)
 | none,_,acc=>some acc
 | some t,some s,acc=>rM base t s acc
 | _,_,_=>none

def Nx (base:Nat)(tm σ:af):Option (List E):=if bN<tm.mem.length then none else
 (ko base tm.tmps σ.tmps []).bind fun acc=>(gC base tm.mem σ.mem acc).bind fun acc=>H_ base tm.hs σ.hs acc

section
variable {w w0:World} {X:kG} {a:Act} {env:List D} {ρ:dJ}

theorem p5:∀{l m:List E} {ds:List D},aM env (l++m)=some ds→∃d1 d2,aM env l=some d1∧aM env m=some d2∧ds=d1++d2
 | [],m,ds,h=>⟨[],ds,rfl,h,rfl⟩
 | x :: r,m,ds,h=>by
  simp only[List.cons_append,aM,Option.bind_eq_some_iff,Option.map_eq_some_iff] at h
  obtain⟨d,h1,ds',h2,rfl⟩:=h
  obtain⟨d1,d2,h3,h4,rfl⟩:=p5 h2
  exact⟨d :: d1,d2,by simp[aM,h1,h3],h4,rfl⟩

theorem vi:∀{l:List E} {ds:List D},aM env l=some ds→ds.length=l.length
 | [],ds,h=>by simp[aM] at h;simp[←h]
 | x :: r,ds,h=>by
  simp only[aM,Option.bind_eq_some_iff,Option.map_eq_some_iff] at h
  obtain⟨d,_,ds',h2,rfl⟩:=h
  simp[vi h2]

abbrev mS (env:List D)(base:Nat)(ds:List D):List D:=env.take base++ds

theorem xO {base:Nat}{ds:List D}(hb:base≤env.length):∀k,k<base→env[k]? = (mS env base ds)[k]?:=by
 intro k hk
 rw[List.getElem?_append_left (by simp;omega),List.getElem?_take,if_pos hk]

theorem rF {base:Nat}{acc zN:List E}{y x:E}{ds:List D}(hb:base≤env.length)(hx:GI base acc.length x=true)(hp:acc++[y] <+: zN)(hd:aM env zN=some ds):x.eval (mS env base ds)=y.eval env:=by
 obtain⟨r,rfl⟩:=hp
 obtain⟨d1,d2,h1,_,rfl⟩:=p5 hd
 obtain⟨d3,d4,h3,h4,rfl⟩:=p5 h1
 simp only[aM,Option.bind_eq_some_iff,Option.map_some,Option.some.injEq] at h4
 obtain⟨d,hy,rfl⟩:=h4
 unfold GI at hx
 split at hx
 ·simp only[decide_eq_true_eq] at hx
  subst hx
  have hl:=vi h3
  simp only[E.eval,mS,hy]
  rw[List.getElem?_append_right (by simp;omega)]
  simp only[List.length_take,Nat.min_eq_left hb,Nat.add_sub_cancel_left,List.append_assoc]
  rw[←hl]
  simp
 ·cases hx

theorem jf {α:Type}(a b:List α):a <+: a++b:=⟨b,rfl⟩

mutual
theorem KC {base:Nat}:∀{t sv:SV} {acc acc':List E},gW base t sv acc=some acc'→acc <+: acc'
 | .cE,sv,acc,acc',h=>by simp[gW] at h;subst h;exact⟨[],by simp⟩
 | .e x s,sv,acc,acc',h=>by
  simp only[gW] at h
  split at h
  ·split at h
   ·cases h;exact jf _ _
   ·cases h;exact jf _ _
   ·obtain⟨y,_,rfl⟩:=Option.map_eq_some_iff.1 h;exact jf _ _
   ·cases h
  ·split at h
   ·cases h;exact⟨[],by simp⟩
   ·cases h
 | .own x k,sv,acc,acc',h=>by
  simp only[gW] at h
  split at h
  ·split at h
   ·split at h
    ·cases h;exact jf _ _
    ·cases h
   ·cases h
  ·split at h
   ·cases h;exact⟨[],by simp⟩
   ·cases h
 | .agg ts,sv,acc,acc',h=>by
  simp only[gW] at h
  split at h
  ·exact oK h
  ·cases h
 | .bh ts,sv,acc,acc',h | .addr _ _,sv,acc,acc',h | .aj _ _ _ _,sv,acc,acc',h | .iV _ _,sv,acc,acc',h | .oc _,sv,acc,acc',h | .func _ _,sv,acc,acc',h=>by
  simp only[gW] at h
  split at h
  ·cases h;exact⟨[],by simp⟩
  ·cases h
 | .cond _ _,sv,acc,acc',h=>by simp[gW] at h
theorem oK {base:Nat}:∀{ts ss:List SV} {acc acc':List E},ko base ts ss acc=some acc'→acc <+: acc'
 | [],[],acc,acc',h=>by simp[ko] at h;subst h;exact⟨[],by simp⟩
 | t :: ts,s :: ss,acc,acc',h=>by
  simp only[ko,Option.bind_eq_some_iff] at h
  obtain⟨Jx,h1,h2⟩:=h
  exact(KC h1).trans (oK h2)
 | [],_ :: _,_,_,h | _ :: _,[],_,_,h=>by simp[ko] at h
end


theorem ef.qm {base:Nat}{ds:List D}{t sv:SV}{v:Value}(hb:base≤env.length)(h:t.same sv=true)(hu:t.upto base=true)(hr:ef w ρ env v sv):ef w ρ (mS env base ds) v t:=by
 have e:=SV.dU h
 subst e
 exact hr.cut (xO hb) hu

mutual
theorem Nw {base:Nat}{zN:List E}{ds:List D}(hb:base≤env.length)(hd:aM env zN=some ds):∀{t sv:SV} {acc acc':List E} {v:Value},gW base t sv acc=some acc'→acc' <+: zN→ef w ρ env v sv→ef w ρ (mS env base ds) v t
 | .cE,sv,acc,acc',v,h,hp,hr=>.cE
 | .e x s,sv,acc,acc',v,h,hp,hr=>by
  simp only[gW] at h
  split at h
  ·rename_i hx
   split at h
   ·cases h
    obtain⟨d,fz,hrd,h1⟩:=hr.kC
    exact .e ((rF hb hx hp hd).trans fz) hrd h1
   ·cases h
    obtain⟨es,fz,hrd,_⟩:=hr.yH
    exact .e ((rF hb hx hp hd).trans fz) hrd fun _=>rfl
   ·obtain⟨y,hy,rfl⟩:=Option.map_eq_some_iff.1 h
    obtain⟨d,fz,hrd⟩:=SV.ck hy hr
    exact .e ((rF hb hx hp hd).trans fz) hrd (by simp)
   ·cases h
  ·split at h
   ·rename_i hc
    simp only[Bool.and_eq_true] at hc
    exact hr.qm hb hc.1 (by simpa[SV.upto] using hc.2)
   ·cases h
 | .own x k,sv,acc,acc',v,h,hp,hr=>by
  simp only[gW] at h
  split at h
  ·rename_i hx
   split at h
   ·split at h
    ·rename_i hk
     cases h
     subst hk
     obtain⟨es,fz,hrd,h1⟩:=hr.yH
     exact .own ((rF hb hx hp hd).trans fz) hrd h1
    ·cases h
   ·cases h
  ·split at h
   ·rename_i hc
    simp only[Bool.and_eq_true] at hc
    exact hr.qm hb hc.1 (by simpa[SV.upto] using hc.2)
   ·cases h
 | .agg ts,sv,acc,acc',v,h,hp,hr=>by
  simp only[gW] at h
  split at h
  ·obtain⟨vs,rfl,hl,ho,hh⟩:=hr.lV
   obtain⟨hlen,hall⟩:=qu (vs:=vs.toList) hb hd h hp (by simpa using hl) (fun i v c hv hc=>hh i v c (by simpa using hv) hc)
   exact .agg (by rw[hl,hlen]) ho fun i v c hv hc=>hall i v c (by simpa using hv) hc
  ·cases h
 | .bh ts,sv,acc,acc',v,h,hp,hr=>by
  simp only[gW] at h
  split at h
  ·rename_i hc
   simp only[Bool.and_eq_true] at hc
   exact hr.qm hb hc.1 (by simpa[SV.upto] using hc.2)
  ·cases h
 | .addr o f,sv,acc,acc',v,h,hp,hr=>by
  simp only[gW] at h
  split at h
  ·rename_i hc
   exact hr.qm hb hc (by simp[SV.upto])
  ·cases h
 | .aj o x s f,sv,acc,acc',v,h,hp,hr=>by
  simp only[gW] at h
  split at h
  ·rename_i hc
   simp only[Bool.and_eq_true] at hc
   exact hr.qm hb hc.1 (by simpa[SV.upto] using hc.2)
  ·cases h
 | .iV x f,sv,acc,acc',v,h,hp,hr=>by
  simp only[gW] at h
  split at h
  ·rename_i hc
   simp only[Bool.and_eq_true] at hc
   exact hr.qm hb hc.1 (by simpa[SV.upto] using hc.2)
  ·cases h
 | .oc o,sv,acc,acc',v,h,hp,hr=>by
  simp only[gW] at h
  split at h
  ·rename_i hc
   exact hr.qm hb hc (by simp[SV.upto])
  ·cases h
 | .func fn ts,sv,acc,acc',v,h,hp,hr=>by
  simp only[gW] at h
  split at h
  ·rename_i hc
   simp only[Bool.and_eq_true] at hc
   exact hr.qm hb hc.1 (by simpa[SV.upto] using hc.2)
  ·cases h
 | .cond _ _,sv,acc,acc',v,h,hp,hr=>by simp[gW] at h
theorem qu {base:Nat}{zN:List E}{ds:List D}(hb:base≤env.length)(hd:aM env zN=some ds):∀{ts ss:List SV} {acc acc':List E} {vs:List Value},ko base ts ss acc=some acc'→acc' <+: zN→vs.length=ss.length →
  (∀(i:Nat) (v:Value) (c:SV),vs[i]? = some v→ss[i]? = some c→ef w ρ env v c)→ss.length=ts.length∧∀(i:Nat) (v:Value) (c:SV),vs[i]? = some v→ts[i]? = some c→ef w ρ (mS env base ds) v c
 | [],[],acc,acc',vs,h,hp,hl,hh=>⟨rfl,by simp⟩
 | t :: ts,s :: ss,acc,acc',vs,h,hp,hl,hh=>by
  match vs,hl with
  | v :: vs,hl=>
   simp only[ko,Option.bind_eq_some_iff] at h
   obtain⟨Jx,h1,h2⟩:=h
   have hr:=Nw hb hd h1 ((oK h2).trans hp) (hh 0 v s rfl rfl)
   obtain⟨hlen,hall⟩:=qu (vs:=vs) hb hd h2 hp (by simpa using hl) (fun i v c hv hc=>hh (i+1) v c (by simpa using hv) (by simpa using hc))
   refine⟨by simp[hlen],fun i v' c hv hc=>?_⟩
   cases i with
   | zero=>simp at hv hc;subst hv hc;exact hr
   | succ i=>exact hall i v' c (by simpa using hv) (by simpa using hc)
 | [],_ :: _,_,_,_,h,_,_,_ | _ :: _,[],_,_,_,h,_,_,_=>by simp[ko] at h
end

theorem yS {base:Nat}{t s:bl}{acc Jx:List E}(h1:rM base t s acc=some Jx):acc <+: Jx:=by
 unfold rM at h1
 split at h1
 ·exact oK h1
 ·split at h1
  ·split at h1
   ·cases h1;exact jf _ _
   ·split at h1
    ·cases h1;exact⟨[],by simp⟩
    ·cases h1
  ·cases h1
 ·split at h1
  ·cases h1;exact⟨[],by simp⟩
  ·cases h1
 ·split at h1
  ·split at h1
   ·cases h1;exact jf _ _
   ·split at h1
    ·cases h1;exact⟨[],by simp⟩
    ·cases h1
  ·cases h1
 ·cases h1

theorem DW {base:Nat}{t s:Option bl}{acc Jx:List E}(h1:H_ base t s acc=some Jx):acc <+: Jx:=by
 unfold H_ at h1
 split at h1
 ·cases h1;exact⟨[],by simp⟩
 ·exact yS h1
 ·cases h1

theorem oL {base:Nat}:∀{ts ss:List (Option bl)} {acc acc':List E},gC base ts ss acc=some acc'→acc <+: acc'
 | [],[],acc,acc',h=>by simp[gC] at h;subst h;exact⟨[],by simp⟩
 | none :: ts,_ :: ss,acc,acc',h=>by simp only[gC] at h;exact oL h
 | some t :: ts,some s :: ss,acc,acc',h=>by
  simp only[gC,Option.bind_eq_some_iff] at h
  obtain⟨Jx,h1,h2⟩:=h
  exact List.IsPrefix.trans (yS h1) (oL h2)
 | some _ :: _,none :: _,_,_,h | [],_ :: _,_,_,h | some _ :: _,[],_,_,h | none :: _,[],_,_,h=>by simp[gC] at h

theorem Br {base o:Nat}{zN:List E}{ds:List D}(hb:base≤env.length)(hd:aM env zN=some ds){t s:bl}{acc acc':List E}(h:rM base t s acc=some acc')(hp:acc' <+: zN)(hok:iB w ρ env o s) :
  iB w ρ (mS env base ds) o t∧bY ρ o t=bY ρ o s∧t.ro=s.ro:=by
 unfold rM at h
 split at h
 ·obtain⟨vs,ty,h1,h2,h3,h4,h5⟩:=hok
  obtain⟨hlen,hall⟩:=qu (w:=w) (ρ:=ρ) (vs:=vs.toList) hb hd h hp (by simpa using h2) (fun i v c hv hc=>h4 i v c (by simpa using hv) hc)
  exact⟨⟨vs,ty,h1,by omega,h3,fun i v c hv hc=>hall i v c (by simpa using hv) hc,h5⟩,rfl,rfl⟩
 ·obtain⟨vs,ty,es,h1,h2,h3⟩:=hok
  split at h
  ·rename_i hsz
   subst hsz
   split at h
   ·rename_i hx
    cases h
    exact⟨⟨vs,ty,es,h1,(rF hb hx hp hd).trans h2,h3⟩,rfl,rfl⟩
   ·split at h
    ·rename_i hc
     simp only[Bool.and_eq_true] at hc
     cases h
     have e:=E.dU hc.1
     subst e
     exact⟨⟨vs,ty,es,h1,(E.nE (xO hb) hc.2) ▸ h2,h3⟩,rfl,rfl⟩
    ·cases h
  ·cases h
 ·split at h
  ·rename_i hc
   obtain⟨rfl,rfl⟩:=hc
   exact⟨hok,rfl,rfl⟩
  ·cases h
 ·obtain⟨bs,h2,h3⟩:=hok
  split at h
  ·rename_i hsz
   subst hsz
   split at h
   ·rename_i hx
    cases h
    exact⟨⟨bs,(rF hb hx hp hd).trans h2,h3⟩,rfl,rfl⟩
   ·split at h
    ·rename_i hc
     simp only[Bool.and_eq_true] at hc
     cases h
     have e:=E.dU hc.1
     subst e
     exact⟨⟨bs,(E.nE (xO hb) hc.2) ▸ h2,h3⟩,rfl,rfl⟩
    ·cases h
  ·cases h
 ·cases h

theorem uG {base:Nat}{zN:List E}{ds:List D}(hb:base≤env.length)(hd:aM env zN=some ds):∀{ts ss:List (Option bl)} {acc acc':List E} {k:Nat},gC base ts ss acc=some acc'→acc' <+: zN →
  (∀i s,ss[i]? = some (some s)→iB w ρ env (k+i) s)→ss.length=ts.length∧∀i t,ts[i]? = some (some t)→∃s,ss[i]? = some (some s)∧iB w ρ (mS env base ds) (k+i) t∧bY ρ (k+i) t=bY ρ (k+i) s∧t.ro=s.ro
 | [],[],acc,acc',k,h,hp,hok=>⟨rfl,by simp⟩
 | none :: ts,s :: ss,acc,acc',k,h,hp,hok=>by
  simp only[gC] at h
  obtain⟨hl,hall⟩:=uG (k:=k+1) hb hd h hp fun i s' hs=>by
   have:=hok (i+1) s' (by simpa using hs)
   rwa [show k+(i+1)=k+1+i from by omega] at this
  refine⟨by simp[hl],fun i t ht=>?_⟩
  cases i with
  | zero=>simp at ht
  | succ i=>
   obtain⟨s',h1,h2⟩:=hall i t (by simpa using ht)
   rw[show k+(i+1)=k+1+i from by omega]
   exact⟨s',by simpa using h1,h2⟩
 | some t :: ts,some s :: ss,acc,acc',k,h,hp,hok=>by
  simp only[gC,Option.bind_eq_some_iff] at h
  obtain⟨Jx,h1,h2⟩:=h
  have h0:=Br (w:=w) (ρ:=ρ) (o:=k) hb hd h1 ((oL h2).trans hp) (by simpa using hok 0 s rfl)
  obtain⟨hl,hall⟩:=uG (k:=k+1) hb hd h2 hp fun i s' hs=>by
   have:=hok (i+1) s' (by simpa using hs)
   rwa [show k+(i+1)=k+1+i from by omega] at this
  refine⟨by simp[hl],fun i t' ht=>?_⟩
  cases i with
  | zero=>simp at ht;subst ht;exact⟨s,rfl,h0⟩
  | succ i=>
   obtain⟨s',h3,h4⟩:=hall i t' (by simpa using ht)
   rw[show k+(i+1)=k+1+i from by omega]
   exact⟨s',by simpa using h3,h4⟩
 | some _ :: _,none :: _,_,_,_,h,_,_ | [],_ :: _,_,_,_,h,_,_ | some _ :: _,[],_,_,_,h,_,_ | none :: _,[],_,_,_,h,_,_=>by simp[gC] at h

theorem Nv {base:Nat}{tm σ:af}{args:List E}{ds:List D}(h:cu w0 X w a σ env ρ)(hb:base≤env.length)(hm:Nx base tm σ=some args)(hd:aM env args=some ds):cu w0 X w a tm (mS env base ds) ρ∧σ.tmps.length=tm.tmps.length∧σ.mem.length=tm.mem.length:=by
 unfold Nx at hm
 split at hm
 ·cases hm
 rename_i hlen
 simp only[Option.bind_eq_some_iff] at hm
 obtain⟨acc,h1,asO,h2,h2'⟩:=hm
 have hsz:=h.size
 obtain⟨W0,af7⟩:=qu (w:=w) (ρ:=ρ) (vs:=a.tmps.toList) hb hd h1 ((oL h2).trans (DW h2')) (by simpa using hsz) (fun i v c hv hc=>by
  have:=h.tmps i
  rw[show σ.tmp i=c by simp[af.gw,hc]] at this
  rwa [show a.tmps.getD i undef=v by simpa using congrArg (·.getD undef) hv] at this)
 have aoP:σ.mem.length=tm.mem.length:=by
  have go:∀{ts ss:List (Option bl)} {acc acc':List E},gC base ts ss acc=some acc'→ss.length=ts.length:=by
   intro ts
   induction ts with
   | nil=>intro ss acc acc' h;cases ss with | nil=>rfl | cons _ _=>simp[gC] at h
   | cons t ts ih=>
    intro ss acc acc' h
    cases ss with
    | nil=>cases t <;> simp[gC] at h
    | cons s ss=>
     cases t with
     | none=>simp only[gC] at h;simp[ih h]
     | some t=>
      cases s with
      | none=>simp[gC] at h
      | some s=>
       simp only[gC,Option.bind_eq_some_iff] at h
       obtain⟨_,_,h⟩:=h
       simp[ih h]
  exact go h2
 obtain⟨uY,VF⟩:=uG (w:=w) (ρ:=ρ) (k:=0) hb hd h2 (DW h2') (fun i s hs=>by
  rw[Nat.zero_add]
  have hi:=(List.getElem?_eq_some_iff.1 hs).1
  refine h.dO i s ?_
  simp only[af.dV]
  rw[if_neg (by omega)]
  simp[hs])
 have fP:∀o x,tm.obj o=some x→∃s,σ.obj o=some s∧iB w ρ (mS env base ds) o x∧bY ρ o x=bY ρ o s∧x.ro=s.ro:=by
  intro o x hx
  simp only[af.dV] at hx
  split at hx
  ·rename_i ho
   subst ho
   rw[hx] at h2'
   unfold H_ at h2'
   split at h2'
   ·rename_i e;cases e
   ·rename_i t s e hs
    cases e
    have WZ:σ.obj bN=some s:=by rw[af.dV,if_pos rfl];exact hs
    exact⟨s,WZ,Br hb hd h2' ⟨[],by simp⟩ (h.dO bN s WZ)⟩
   ·cases h2'
  ·rename_i ho
   have hx':tm.mem[o]? = some (some x):=by
    simp only[List.getD_eq_getElem?_getD] at hx
    cases hto:tm.mem[o]? with
    | none=>rw[hto] at hx;cases hx
    | some y=>rw[hto] at hx;simp at hx;rw[hx]
   obtain⟨s,h3,h4,h5⟩:=VF o x hx'
   rw[Nat.zero_add] at h4 h5
   refine⟨s,?_,h4,h5⟩
   simp only[af.dV]
   rw[if_neg ho]
   simp[h3]
 refine⟨⟨by omega,fun t=>?_,fun o x hx=>(fP o x hx).choose_spec.2.1,?_,?_,h.cells,h.os,h.tape,h.output,h.grown,h.old,h.sub,h.new,h.zT,h.hold⟩,W0,uY⟩
 ·simp only[af.gw]
  rw[List.getD_eq_getElem?_getD]
  cases ht:tm.tmps[t]? with
  | none=>exact .cE
  | some c=>
   have htl:t<a.tmps.size:=by have:=(List.getElem?_eq_some_iff.1 ht).1;omega
   refine af7 t _ c ?_ ht
   simp only[Array.getElem?_toList]
   exact Ew htl
 ·intro o o' x x' b h3 h4 h5 h6
  obtain⟨s,hs,_,e,_⟩:=fP o x h3
  obtain⟨s',hs',_,e',_⟩:=fP o' x' h4
  exact h.inj o o' s s' b hs hs' (e ▸ h5) (e' ▸ h6)
 ·intro o x b h3 h4
  obtain⟨s,hs,_,e,er⟩:=fP o x h3
  rw[er]
  exact h.own o s b hs (e ▸ h4)

end
end
end

section
noncomputable section

mutual
def SV.zR (k' k:Nat):SV→SV
 | .own x o=>if o=k' then .own x k else .own x o
 | .agg cs=>.agg (SV.wi k' k cs)
 | .bh cs=>.bh (SV.wi k' k cs)
 | .func fn cs=>.func fn (SV.wi k' k cs)
 | .cond act sv=>.cond act (sv.zR k' k)
 | .cE=>.cE
 | .e x s=>.e x s
 | .iV x f=>.iV x f
 | .addr o f=>.addr o f
 | .aj o x s f=>.aj o x s f
 | .oc o=>.oc o
def SV.wi (k' k:Nat):List SV→List SV
 | []=>[]
 | s :: r=>s.zR k' k :: SV.wi k' k r
end

theorem SV.uy {k' k:Nat}:∀{cs:List SV} {i:Nat} {c:SV},(SV.wi k' k cs)[i]? = some c→∃c',cs[i]? = some c'∧c=c'.zR k' k
 | [],i,c,h=>by simp[SV.wi] at h
 | s :: r,0,c,h=>by simp[SV.wi] at h;exact⟨s,rfl,h.symm⟩
 | s :: r,i+1,c,h=>by
  simp[SV.wi] at h
  obtain⟨c',h1,h2⟩:=SV.uy h
  exact⟨c',by simpa using h1,h2⟩

theorem SV.j_ {k' k:Nat}:∀(cs:List SV),(SV.wi k' k cs).length=cs.length
 | []=>rfl
 | _ :: r=>by simp[SV.wi,SV.j_ r]

def dJ.je (ρ:dJ)(k' k:Nat):dJ:={ ρ with val:=fun x=>if x=k then ρ.val k' else ρ.val x }

theorem ef.zR {w:World}{ρ:dJ}{env:List D}{v:Value}{sv:SV}{k' k:Nat}(h:ef w ρ env v sv)(ha:sv.aT k=true):ef w (ρ.je k' k) env v (sv.zR k' k):=by
 induction h with
 | cE=>exact .cE
 | e hx h h1=>exact .e hx h h1
 | agg hl ho _ ih=>exact .agg (by rw[SV.j_];exact hl) ho fun i v c hv hc=>by obtain⟨c',h1,rfl⟩:=SV.uy hc;exact ih i v c' hv h1 (SV.fw (by simpa[SV.aT] using ha) h1)
 | bh hl _ ih=>exact .bh (by rw[SV.j_];exact hl) fun i v c hv hc=>by obtain⟨c',h1,rfl⟩:=SV.uy hc;exact ih i v c' hv h1 (SV.fw (by simpa[SV.aT] using ha) h1)
 | @addr o off=>
  have:(.pointer (some ⟨ρ.aE o,off,none⟩):Value)=.pointer (some ⟨(ρ.je k' k).aE o,off,none⟩):=rfl
  rw[this];exact .addr
 | @aj o size off n x kd hx=>
  have:(.pointer (some ⟨ρ.aE o,n*size+off,none⟩):Value)=.pointer (some ⟨(ρ.je k' k).aE o,n*size+off,none⟩):=rfl
  rw[this];exact .aj hx
 | iV hx h=>exact .iV hx h
 | @own v x o es hx h hv=>
  have hne:o≠k:=by simpa[SV.aT] using ha
  simp only[SV.zR]
  split
  ·rename_i e;subst e
   exact .own hx h (by simp[dJ.je,hv])
  ·exact .own hx h (by simp[dJ.je,hne,hv])
 | @oc o=>
  have hne:o≠k:=by simpa[SV.aT] using ha
  have:ρ.val o=(ρ.je k' k).val o:=by simp[dJ.je,hne]
  rw[this];exact .oc
 | func hl _ ih=>exact .func (by rw[SV.j_];exact hl) fun i v c hv hc=>by obtain⟨c',h1,rfl⟩:=SV.uy hc;exact ih i v c' hv h1 (SV.fw (by simpa[SV.aT] using ha) h1)
 | cond hd _ hn ih=>exact .cond hd (fun hh=>ih hh (by simpa[SV.aT] using ha)) hn

def bl.zR (k' k:Nat):bl→bl
 | .box cs=>.box (SV.wi k' k cs)
 | x=>x

def af.zR (k' k:Nat)(σ:af)(x:bl):af:={ tmps:=SV.wi k' k σ.tmps,mem:=((σ.mem.map fun x=>x.map (bl.zR k' k)).set k' none).set k (some x),hs:=σ.hs.map (bl.zR k' k) }

def af.je (σ:af)(k' k:Nat):af:=
 if k'=k∨¬k<σ.mem.length∨k=bN∨k'=bN then σ else match(σ.down k).obj k' with
  | some (.tok e s)=>(σ.down k).zR k' k (.tok e s)
  | _=>σ

section
variable {w w0:World} {X:kG} {a:Act} {σ:af} {env:List D} {ρ:dJ}

theorem af.Cr {k' k o:Nat}{x y:bl}(hk:k<σ.mem.length)(Tb:k≠bN)(RW:k'≠bN)(h:(σ.zR k' k x).obj o=some y):(o=k∧y=x)∨(o≠k∧o≠k'∧∃z,σ.obj o=some z∧y=z.zR k' k):=by
 simp only[af.dV,af.zR] at h ⊢
 by_cases hH:o=bN
 ·subst hH
  simp only[if_true] at h
  obtain⟨z,hz,rfl⟩:=Option.map_eq_some_iff.1 h
  exact .inr ⟨Ne.symm Tb,Ne.symm RW,z,by simpa using hz,rfl⟩
 rw[if_neg hH] at h
 rw[if_neg hH]
 simp only[List.getD_eq_getElem?_getD,List.getElem?_set,List.length_set,List.getElem?_map,List.length_map] at h ⊢
 by_cases h1:k=o
 ·subst h1
  simp[hk] at h
  exact .inl ⟨rfl,h.symm⟩
 ·rw[if_neg h1] at h
  by_cases h2:k'=o
  ·rw[if_pos h2] at h
   split at h <;> simp at h
  ·rw[if_neg h2] at h
   refine .inr ⟨fun e=>h1 e.symm,fun e=>h2 e.symm,?_⟩
   cases ho:σ.mem[o]? with
   | none=>rw[ho] at h;simp at h
   | some z=>
    rw[ho] at h
    cases z with
    | none=>simp at h
    | some z=>simp at h;exact⟨z,rfl,h.symm⟩

theorem af.XL {k' k:Nat}{x:bl}(t:Nat):(σ.zR k' k x).tmp t=(σ.tmp t).zR k' k:=by
 have go:∀(l:List SV) (t:Nat),(SV.wi k' k l).getD t .cE=(l.getD t .cE).zR k' k:=by
  intro l
  induction l with
  | nil=>intro t;simp[SV.wi,SV.zR]
  | cons s r ih=>
   intro t
   cases t with
   | zero=>simp[SV.wi]
   | succ t=>simpa[SV.wi] using ih t
 rw[af.gw,af.gw];exact go σ.tmps t

theorem cu.zR (h:cu w0 X w a σ env ρ){k' k:Nat}{e:TypeId}{s:Nat}(hne:k'≠k)(hk:k<σ.mem.length)(Tb:k≠bN)(RW:k'≠bN)(ox:σ.aT k)(ho:σ.obj k'=some (.tok e s)):cu w0 X w a (σ.zR k' k (.tok e s)) env (ρ.je k' k):=by
 have Qhv:∀(o:Nat) (z:bl),o≠k→bY (ρ.je k' k) o (z.zR k' k)=bY ρ o z:=by
  intro o z hok
  funext b
  cases z <;> simp[bY,dJ.je,bl.zR,hok]
 have VB:bY (ρ.je k' k) k (.tok e s)=bY ρ k' (.tok e s):=by funext b;simp[bY,dJ.je]
 refine⟨by simpa[af.zR,SV.j_] using h.size,fun t=>by rw[af.XL];exact(h.tmps t).zR (ox.1 t),?_,?_,?_,h.cells,h.os,h.tape,h.output,h.grown,h.old,h.sub,h.new,h.zT,h.hold⟩
 ·intro o y hy
  rcases af.Cr hk Tb RW hy with⟨rfl,rfl⟩ | ⟨h1,h2,z,hz,rfl⟩
  ·obtain⟨n,xs,h3,h4⟩:=h.dO k' _ ho
   exact⟨n,xs,by simpa[dJ.je] using h3,by simpa[dJ.je] using h4⟩
  ·have hok:=h.dO o z hz
   cases z with
   | box cs=>
    obtain⟨vs,ty,h3,h4,h5,h6,h7⟩:=hok
    exact⟨vs,ty,h3,by rw[SV.j_];exact h4,h5,fun i v c hv hc=>by obtain⟨c',h8,rfl⟩:=SV.uy hc;exact(h6 i v c' hv h8).zR (SV.fw (by simpa[bl.aT] using ox.2 o _ hz) h8),h7⟩
   | row y sz=>
    obtain⟨vs,ty,es,h3,h4,h5,h6,h7,h8,h9⟩:=hok
    exact⟨vs,ty,es,h3,h4,h5,h6,h7,by simpa[dJ.je,h1] using h8,h9⟩
   | tok e' sz=>
    obtain⟨n,xs,h3,h4⟩:=hok
    exact⟨n,xs,by simpa[dJ.je,h1] using h3,by simpa[dJ.je,h1] using h4⟩
   | store cf x=>exact hok
 ·intro o o' y y' b h1 h2 h3 h4
  rcases af.Cr hk Tb RW h1 with⟨rfl,rfl⟩ | ⟨e1,e2,z,hz,rfl⟩ <;> rcases af.Cr hk Tb RW h2 with⟨rfl,rfl⟩ | ⟨e3,e4,z',My,rfl⟩
  ·rfl
  ·rw[VB] at h3
   rw[Qhv o' z' e3] at h4
   exact absurd (h.inj k' o' _ z' b ho My h3 h4).symm e4
  ·rw[VB] at h4
   rw[Qhv o z e1] at h3
   exact absurd (h.inj o k' z _ b hz ho h3 h4) e2
  ·rw[Qhv o z e1] at h3
   rw[Qhv o' z' e3] at h4
   exact h.inj o o' z z' b hz My h3 h4
 ·intro o y b h1 h2
  rcases af.Cr hk Tb RW h1 with⟨rfl,rfl⟩ | ⟨e1,e2,z,hz,rfl⟩
  ·rw[VB] at h2
   exact h.own k' _ b ho h2
  ·rw[Qhv o z e1] at h2
   (have:=h.own o z b hz h2;cases z <;> simpa[bl.zR,bl.ro] using this)

theorem cu.je (h:cu w0 X w a σ env ρ)(k' k:Nat):∃ρ',cu w0 X w a (σ.je k' k) env ρ':=by
 unfold af.je
 split
 ·exact⟨ρ,h⟩
 ·rename_i hc
  simp only[not_or,Decidable.not_not] at hc
  split
  ·rename_i e s ho
   exact⟨_,(h.down k).zR hc.1 (by rw[(σ.zn k).2];exact hc.2.1) hc.2.2.1 hc.2.2.2 (σ.kD k) ho⟩
  ·exact⟨ρ,h⟩

theorem af.Q_ (σ:af)(k' k:Nat):(σ.je k' k).tmps.length=σ.tmps.length∧(σ.je k' k).mem.length=σ.mem.length:=by
 unfold af.je
 split
 ·exact⟨rfl,rfl⟩
 ·split
  ·simp[af.zR,SV.j_,(σ.zn k).1,(σ.zn k).2]
  ·exact⟨rfl,rfl⟩

end
end
end
end Go.Am
