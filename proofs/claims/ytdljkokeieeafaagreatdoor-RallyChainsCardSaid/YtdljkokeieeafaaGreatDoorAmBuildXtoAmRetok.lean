/-
  Several texts, one behind the other.
-/
import Derived.Test.YtdljkokeieeafaaGreatDoorAmPuretoAmClo
import Derived.Test.YtdljkokeieeafaaGreatDoorAmBasetoAmTok
import Derived.Test.YtdljkokeieeafaaGreatDoorAmMap
import Derived.Defers
import Derived.Lib.SliceRun
import Derived.WalkSpells
set_option linter.unusedSimpArgs false
set_option linter.unusedVariables false
/-
 Struct literals with parts that are no data (rows,pointers to variables,functions) beside parts of several cells.
-/
namespace Go.Am
noncomputable section

abbrev PartX:=Nat×SV×Option SV

def unitX (z:Value)(parts:List PartX)(i off size:Nat)(agg:Bool):Option E:=
 match parts.find? (fun p=>p.1==i) with
 | some p=>(match p.2.1.toE with
  | some x=>if agg=true∨size=1 then some (unitE agg size x) else none
  | none=>if size=1∧p.2.2.isSome=true then some (.const (.v (.bool false))) else none)
 | none=>(D.ofCells true ((z.cells.toList.drop off).take size)).bind fun ds=>if ds.length=size then some (.const (.agg ds)) else none

def chainX (z:Value)(parts:List PartX):Nat→Nat→List ((Nat×Nat)×Bool)→Option E
 | _,off,[]=>if off=z.cells.size then some .nil else none
 | i,off,p :: r=>if p.1.1=off then(match unitX z parts i off p.1.2 p.2,chainX z parts (i+1) (off+p.1.2) r with
   | some x,some y=>some (.cons x y)
   | _,_=>none) else none

def cellX (pl:List (Nat×Nat))(parts:List PartX)(ix k:Nat):SV:=
 match parts.find? (fun p=>p.2.1.toE.isNone&&decide (pl[p.1]? = some (k,1))) with
 | some p=>p.2.2.getD (.e (.const (.v (.bool false))) true)
 | none=>.e (.cell k (.sym ix)) true

def lbuildX (P:Program)(t:TypeId)(parts:List PartX)(ix:Nat):Option LRes:=
 match P.info? t,P.underlying t with
 | some it,some (.struct fields)=>match it.zero,fieldPlaces P fields with
  | some z,some pl=>match chainX z parts 0 0 (pl.zip (fieldAggs P fields)) with
   | some y=>if flatT P t z.cells.size=false∧(parts.map (·.1)).Nodup∧parts.all (fun p=>decide (p.1<pl.length))=true∧allApart pl=true then some { val:=.agg ((List.range z.cells.size).map fun k=>cellX pl parts ix k),bind:=some (.ev y) } else none
   | none=>none
  | _,_=>none
 | _,_=>none

def partsX (obj:Nat→Option SObj)(opv:Operand→SV)(parts:List (Nat×Operand)):List PartX:=parts.map fun p=>(p.1,opv p.2,oneSV obj (opv p.2))

def lbuildXo (P:Program)(o:Oper)(opv:Operand→SV)(obj:Nat→Option SObj)(ix:Nat):Option LRes:=
 match o.op with
 | .build t parts=>lbuildX P t (partsX obj opv parts.toList) ix
 | _=>none

section
variable {P:Program} {w w0:World} {X:Ent} {a:Act} {σ:SState} {env:List D} {ρ:Rho}

theorem chainX_spec {z:Value}{parts:List PartX}(hlen:∀i off size agg x u,unitX z parts i off size agg=some x→x.eval env=some u→u.cells.length=size):∀{l:List ((Nat×Nat)×Bool)} {i off:Nat} {y:E} {d:D},chainX z parts i off l=some y→y.eval env=some d →
  ∃cs,d=.agg cs∧off+cs.length=z.cells.size∧(∀(f:Nat) (q:(Nat×Nat)×Bool),l[f]? = some q→q.1.1+q.1.2≤z.cells.size∧∃x u,unitX z parts (i+f) q.1.1 q.1.2 q.2=some x∧x.eval env=some u) ∧
  ∀k,off≤k→k<z.cells.size→∃f q x u,l[f]? = some q∧q.1.1≤k∧k<q.1.1+q.1.2∧unitX z parts (i+f) q.1.1 q.1.2 q.2=some x∧x.eval env=some u∧cs[k-off]? = u.cells[k-q.1.1]?
 | [],i,off,y,d,h,hd=>by
  simp only[chainX] at h
  split at h
  ·rename_i ho
   cases h
   simp only[E.eval,Option.some.injEq] at hd
   subst hd
   exact⟨[],rfl,by simpa using ho,by simp,fun k h1 h2=>by omega⟩
  ·cases h
 | q :: r,i,off,y,d,h,hd=>by
  simp only[chainX] at h
  split at h
  ·rename_i ho
   split at h
   ·rename_i x y' hx hy
    cases h
    simp only[E.eval,Option.bind_eq_some_iff] at hd
    obtain⟨u,hu,d',hd',hc⟩:=hd
    obtain⟨cs,rfl,hl,h1,h2⟩:=chainX_spec hlen hy hd'
    have hul:=hlen _ _ _ _ _ _ hx hu
    have hd2:d=.agg (u.cells++cs):=by
     unfold D.cons at hc
     split at hc <;> first | cases hc;done | (cases hc;rename_i e1 e2;cases e2;rfl) | skip
     all_goals first | (cases hc;rfl) | cases hc
    refine⟨u.cells++cs,hd2,by simp[hul];omega,fun f q' hq=>?_,fun k hk1 hk2=>?_⟩
    ·cases f with
     | zero=>simp at hq;subst hq;rw[ho];exact⟨by omega,x,u,hx,hu⟩
     | succ f=>
      obtain⟨h5,x',u',h3,h4⟩:=h1 f q' (by simpa using hq)
      exact⟨h5,x',u',by rw[show i+(f+1)=i+1+f from by omega];exact h3,h4⟩
    ·by_cases hk:k<off+q.1.2
     ·refine⟨0,q,x,u,rfl,by omega,by omega,by rw[ho];exact hx,hu,?_⟩
      rw[List.getElem?_append_left (by omega),ho]
     ·obtain⟨f,q',x',u',h3,h4,h5,h6,h7,h8⟩:=h2 k (by omega) hk2
      refine⟨f+1,q',x',u',by simpa using h3,h4,h5,by rw[show i+(f+1)=i+1+f from by omega];exact h6,h7,?_⟩
      rw[List.getElem?_append_right (by omega),hul,show k-off-q.1.2=k-(off+q.1.2) from by omega]
      exact h8
   ·cases h
  ·cases h

theorem lbuildX_sound {o:Oper} {opv:Operand→SV} {ix:Nat} {r:LRes} (hv:∀x,SRd w ρ env (a.eval x) (opv x)) (hl:lbuildXo P o opv σ.obj ix=some r) (h:Rep w0 X w a σ env ρ)
  (hd:∀d,o.dst=some d→d<σ.tmps.length) (hb:BindOk P env ix r.bind):r.upd=none∧OpOk P o a w w0 X (σ.put o.dst r.val) env:=by
 unfold lbuildXo at hl
 split at hl
 case h_2=>cases hl
 rename_i t parts ho
 unfold lbuildX at hl
 split at hl
 ·rename_i it fields hit hu
  split at hl
  ·rename_i z pl hz hpl
   split at hl
   ·rename_i y hy
    split at hl
    ·rename_i hc
     obtain⟨_,hnd,hin,hap⟩:=hc
     have hnd:(parts.toList.map (·.1)).Nodup:=by
      have:(partsX σ.obj opv parts.toList).map (·.1)=parts.toList.map (·.1):=by simp[partsX,Function.comp_def]
      rw[this] at hnd;exact hnd
     have hin:∀p,p∈parts.toList→p.1<pl.length:=fun p hp=>by
      have:=List.all_eq_true.1 hin _ (List.mem_map.2 ⟨p,hp,rfl⟩)
      simpa using this
     cases hl
     refine⟨rfl,?_⟩
     obtain⟨dz,hev,hix⟩:=hb
     have hpll:pl.length=fields.toList.length:=mapM_length hpl
     have unitR:∀i off size agg x u,unitX z (partsX σ.obj opv parts.toList) i off size agg=some x→x.eval env=some u→u.cells.length=size ∧
       ((∃p,p∈parts.toList∧p.1=i∧(opv p.2).toE.isNone=false∧RdD w ρ.S (a.eval p.2) u∧u.notTup=true)∨(∃p s,p∈parts.toList∧p.1=i∧(opv p.2).toE.isNone=true∧size=1∧oneSV σ.obj (opv p.2)=some s) ∨
        ((∀p,p∈parts.toList→p.1≠i)∧∃ds,u=.agg ds∧D.ofCells true ((z.cells.toList.drop off).take size)=some ds)):=by
      intro i off size agg x u hx hu'
      unfold unitX at hx
      split at hx
      ·rename_i p hp
       have hmem:=List.mem_of_find?_eq_some hp
       have hpi:=List.find?_some hp
       simp only[beq_iff_eq] at hpi
       obtain⟨p0,hp0,rfl⟩:=List.mem_map.1 hmem
       split at hx
       ·rename_i x' hx'
        split at hx
        ·rename_i hag
         cases hx
         obtain⟨d,hdx,hrx⟩:=SV.toE_rd hx' (hv p0.2)
         obtain⟨h1,h2,h3⟩:=unit_rd hag hdx hrx hu'
         exact⟨h2,.inl ⟨p0,hp0,hpi,by simp only at hx';rw[hx'];rfl,h1,h3⟩⟩
        ·cases hx
       ·rename_i hx'
        split at hx
        ·rename_i hag
         cases hx
         simp only[E.eval,Option.some.injEq] at hu'
         subst hu'
         obtain⟨s,hs⟩:=Option.isSome_iff_exists.1 hag.2
         exact⟨by rw[hag.1];rfl,.inr (.inl ⟨p0,s,hp0,hpi,by simp only at hx';rw[hx'];rfl,hag.1,hs⟩)⟩
        ·cases hx
      ·rename_i hnone
       obtain⟨ds,hds,hx⟩:=Option.bind_eq_some_iff.1 hx
       split at hx
       ·rename_i hdl
        cases hx
        simp only[E.eval,Option.some.injEq] at hu'
        subst hu'
        refine⟨hdl,.inr (.inr ⟨fun p hp hpi=>?_,ds,rfl,hds⟩)⟩
        have:=List.find?_eq_none.1 hnone _ (List.mem_map.2 ⟨p,hp,rfl⟩)
        simp[hpi] at this
       ·cases hx
     obtain⟨cs,rfl,hcl,hf,hcov⟩:=chainX_spec (fun i off size agg x u h1 h2=>(unitR i off size agg x u h1 h2).1) hy hev
     rw[Nat.zero_add] at hcl
     have hzip:∀(i:Nat) (q:Nat×Nat),pl[i]? = some q→∃b,(pl.zip (fieldAggs P fields))[i]? = some (q,b):=by
      intro i q hq
      have hi:=(List.getElem?_eq_some_iff.1 hq).1
      have hi2:i<(fieldAggs P fields).length:=by simp only[fieldAggs,List.length_map];omega
      exact⟨(fieldAggs P fields)[i],by rw[List.getElem?_zip_eq_some];exact⟨hq,List.getElem?_eq_getElem hi2⟩⟩
     have hunzip:∀(i:Nat) (q:(Nat×Nat)×Bool),(pl.zip (fieldAggs P fields))[i]? = some q→pl[i]? = some q.1:=by
      intro i q hq
      rw[List.getElem?_zip_eq_some] at hq
      exact hq.1
     have hone1:∀{p:Nat×Operand} {s:SV},oneSV σ.obj (opv p.2)=some s→SRd w ρ env (a.eval p.2) s∧(a.eval p.2).oneCell'=true:=fun hs=>oneSV_rd hs (hv _) h.objs
     have hcells1:∀{v:Value},v.oneCell'=true→v.cells=#[v]:=fun {v} h1=>by cases v <;> first | rfl | simp[Value.oneCell'] at h1
     have hpart:∀p,p∈parts.toList→∃off,pl[p.1]? = some (off,(a.eval p.2).cells.size)∧off+(a.eval p.2).cells.size≤z.cells.size:=by
      intro p hp
      have hlt:p.1<pl.length:=hin p hp
      obtain⟨b,hb⟩:=hzip p.1 pl[p.1] (List.getElem?_eq_getElem hlt)
      obtain⟨hle,x,u,h1,h2⟩:=hf p.1 _ hb
      rw[Nat.zero_add] at h1
      obtain⟨h3,h4⟩:=unitR _ _ _ _ _ _ h1 h2
      rcases h4 with⟨p',hp',hpi,_,hr,hnt⟩ | ⟨p',s,hp',hpi,_,hs1,hs⟩ | ⟨hno,_⟩
      ·have:=nodup_fst hnd hp' hp hpi
       subst this
       have hsz:=(hr.cellAt hnt).1
       rw[h3] at hsz
       exact⟨pl[p'.1].1,by rw[hsz];exact List.getElem?_eq_getElem hlt,by rw[hsz];exact hle⟩
      ·have:=nodup_fst hnd hp' hp hpi
       subst this
       have hsz:(a.eval p'.2).cells.size=pl[p'.1].2:=by rw[hcells1 (hone1 hs).2];exact hs1.symm
       exact⟨pl[p'.1].1,by rw[hsz];exact List.getElem?_eq_getElem hlt,by rw[hsz];exact hle⟩
      ·exact absurd rfl (hno p hp)
     obtain⟨r,hr,hrs,hrk⟩:=fill_at (place:=fun i=>pl.toArray[i]?) (parts.toList.map fun p=>(p.1,a.eval p.2)) z.cells (fun p hp=>by
      obtain⟨q,hq,rfl⟩:=List.mem_map.1 hp
      obtain⟨off,h1,h2⟩:=hpart q hq
      exact⟨off,by simpa using h1,h2⟩)
     have hbuilt:P.built t (parts.map fun(x:Nat×Operand)=>(x.1,a.eval x.2)).toList=some r:=by
      unfold Program.built
      simp only[hit,hu,hz]
      unfold fieldPlaces at hpl
      simp only[hpl,Array.toList_map]
      exact hr
     have hcell:∀(k:Nat),k<z.cells.size→∃v,r[k]? = some v∧v.oneCell'=true∧SRd w ρ env v (cellX pl (partsX σ.obj opv parts.toList) ix k):=by
      intro k hkz
      obtain⟨f,q,x,u,h1,h2,h3,h4,h5,h6⟩:=hcov k (Nat.zero_le _) hkz
      rw[Nat.sub_zero] at h6
      rw[Nat.zero_add] at h4
      have hplf:=hunzip f q h1
      obtain⟨h7,h8⟩:=unitR _ _ _ _ _ _ h4 h5
      obtain⟨c,hk⟩:∃c,cs[k]? = some c:=⟨cs[k]'(by omega),List.getElem?_eq_getElem _⟩
      have huc:u.cells[k-q.1.1]? = some c:=h6 ▸ hk
      have hcE:(E.cell k (.sym ix)).eval env=some c:=by simp[E.eval,hix,D.cell,D.cells,hk]
      have hnocov:∀p,p∈parts.toList→p.1≠f→¬Covers (fun i=>pl.toArray[i]?) (p.1,a.eval p.2) k:=by
       rintro p hp hne ⟨off,size,h9,h10,h11⟩
       simp only[List.getElem?_toArray] at h9
       have:=allApart_spec hap h9 hplf hne
       simp only at this
       omega
      have hfind:∀p,p∈parts.toList→pl[p.1]? = some (k,1)→p.1=f:=by
       intro p hp h9
       by_cases hne:p.1=f
       ·exact hne
       ·have:=allApart_spec hap h9 hplf hne
        simp only at this
        omega
      have hnone:(∀p,p∈parts.toList→p.1=f→(opv p.2).toE.isNone=false)→cellX pl (partsX σ.obj opv parts.toList) ix k=.e (.cell k (.sym ix)) true:=by
       intro hne
       unfold cellX
       rw[List.find?_eq_none.2]
       intro p hp
       obtain⟨p0,hp0,rfl⟩:=List.mem_map.1 hp
       simp only[Bool.and_eq_true,decide_eq_true_eq,not_and]
       intro h9 h10
       have:=hne p0 hp0 (hfind p0 hp0 h10)
       rw[h9] at this
       cases this
      rcases h8 with⟨p,hp,hpi,hE,hrd,hnt⟩ | ⟨p,s,hp,hpi,hE,hs1,hs⟩ | ⟨hno,ds,rfl,hds⟩
      ·obtain⟨h9,v,h10,h11⟩:=(hrd.cellAt hnt).2 _ c huc
       have hsz:=(hrd.cellAt hnt).1
       rw[h7] at hsz
       have hrv:r[k]? = some v:=by
        have:=(hrk k hkz).2 (p.1,a.eval p.2) q.1.1 (List.mem_map.2 ⟨p,hp,rfl⟩) (by simp only[List.getElem?_toArray,hpi,hplf,hsz]) h2 (by simp only[hsz];exact h3) fun q' hq' hne=>by
         obtain⟨p',hp',rfl⟩:=List.mem_map.1 hq'
         refine hnocov p' hp' fun e=>hne ?_
         rw[nodup_fst hnd hp' hp (e.trans hpi.symm)]
        rw[this];exact h10
       refine⟨v,hrv,h11.one h9,?_⟩
       rw[hnone fun p' hp' hpi'=>by rw[nodup_fst hnd hp' hp (hpi'.trans hpi.symm)];exact hE]
       exact .e hcE h11 fun _=>h9
      ·have hv1:=hone1 hs
       have hkq:q.1.1=k:=by omega
       have hrv:r[k]? = some (a.eval p.2):=by
        have:=(hrk k hkz).2 (p.1,a.eval p.2) q.1.1 (List.mem_map.2 ⟨p,hp,rfl⟩) (by
          simp only[List.getElem?_toArray,hpi,hplf,hcells1 hv1.2]
          rw[show(q.1:Nat×Nat)=(q.1.1,q.1.2) from rfl,hs1]
          rfl) h2 (by simp only[hcells1 hv1.2];simp;omega) fun q' hq' hne=>by
         obtain⟨p',hp',rfl⟩:=List.mem_map.1 hq'
         refine hnocov p' hp' fun e=>hne ?_
         rw[nodup_fst hnd hp' hp (e.trans hpi.symm)]
        rw[this,hcells1 hv1.2,hkq]
        simp
       refine⟨_,hrv,hv1.2,?_⟩
       have hplp:pl[p.1]? = some (k,1):=by
        rw[hpi,hplf,show(q.1:Nat×Nat)=(q.1.1,q.1.2) from rfl,hs1,hkq]
       have:cellX pl (partsX σ.obj opv parts.toList) ix k=s:=by
        unfold cellX
        obtain⟨x,hx⟩:∃x,(partsX σ.obj opv parts.toList).find? (fun p=>p.2.1.toE.isNone&&decide (pl[p.1]? = some (k,1)))=some x:=by
         refine Option.isSome_iff_exists.1 (List.find?_isSome.2 ⟨_,List.mem_map.2 ⟨p,hp,rfl⟩,?_⟩)
         simp only[hE,hplp,decide_true,Bool.and_true]
        have hmem:=List.mem_of_find?_eq_some hx
        have hpx:=List.find?_some hx
        obtain⟨p',hp',rfl⟩:=List.mem_map.1 hmem
        simp only[Bool.and_eq_true,decide_eq_true_eq] at hpx
        have:=nodup_fst hnd hp' hp ((hfind p' hp' hpx.2).trans hpi.symm)
        subst this
        rw[hx]
        simp only[hs,Option.getD_some]
       rw[this]
       exact hv1.1
      ·have hrv:r[k]? = z.cells[k]?:=(hrk k hkz).1 fun q' hq'=>by
        obtain⟨p',hp',rfl⟩:=List.mem_map.1 hq'
        exact hnocov p' hp' (hno p' hp')
       obtain⟨_,hrd⟩:=D.ofCells_rd (w:=w) (S:=ρ.S) hds
       have hget:((z.cells.toList.drop q.1.1).take q.1.2)[k-q.1.1]? = some z.cells[k]:=by
        rw[List.getElem?_take,if_pos (by omega),List.getElem?_drop,show q.1.1+(k-q.1.1)=k from by omega]
        simp[hkz]
       obtain⟨h9,h10⟩:=hrd _ _ c hget huc
       refine⟨z.cells[k],by rw[hrv];exact Array.getElem?_eq_getElem hkz,h9.one h10,?_⟩
       rw[hnone fun p' hp' hpi'=>absurd hpi' (hno p' hp')]
       exact .e hcE h9 fun _=>h10
     refine opOk_same h hd (v:=.agg r) ?_ (.agg (by rw[hrs];simp) (fun k v hv'=>?_) fun k v c hv' hk=>?_)
     ·unfold execOp
      simp only[ho,Sem.run_bind,run_build w t _ r hbuilt,Result.andThen_ok,Sem.run_pure]
     ·obtain⟨v',h1,h2,_⟩:=hcell k (by rw[←hrs];exact(Array.getElem?_eq_some_iff.1 hv').1)
      rw[hv'] at h1
      cases h1
      exact h2
     ·have hkz:k<z.cells.size:=by rw[←hrs];exact(Array.getElem?_eq_some_iff.1 hv').1
      obtain⟨v',h1,_,h2⟩:=hcell k hkz
      rw[hv'] at h1
      cases h1
      simp only[List.getElem?_map,Option.map_eq_some_iff] at hk
      obtain⟨j,hj,rfl⟩:=hk
      have:=List.getElem?_eq_some_iff.1 hj
      simp only[List.getElem_range] at this
      obtain⟨_,rfl⟩:=this
      exact h2
    ·cases hl
   ·cases hl
  ·cases hl
 ·cases hl

end
end
end Go.Am

/-
 Operations that make or change objects by name;one step with all that it does.
-/
namespace Go.Am
noncomputable section

structure Eff where
 val:SV
 upd:Option (Nat×SObj)
 del:Option Nat
 bind:Option Bind
 deriving Inhabited

def LRes.eff (r:LRes):Eff:=⟨r.val,r.upd,none,r.bind⟩

def SState.dels (σ:SState):Option Nat→SState
 | none=>σ
 | some k=>σ.setObj k none

def SState.sets (σ:SState):Option (Nat×SObj)→SState
 | none=>σ
 | some u=>σ.setObj u.1 (some u.2)

def SState.app (σ:SState)(dst:Option Tmp)(e:Eff):SState:=((σ.dels e.del).sets e.upd).put dst e.val

def isNilSlice:Operand→Bool
 | .const (.slice none 0 0)=>true
 | _=>false

def isNew (o:Oper):Bool:=
 match o.op with
 | .alloc _ | .box _ _ | .buildSlice _ _ _ | .makeSlice _ _ _=>true
 | .assign x=>isNilSlice x
 | .call c=>(match c.callee with | .builtin .append=>true | _=>false)
 | _=>false

def selfOk (o:Oper)(σ:SState)(e:Eff):Bool:=
 !isNew o||match e.upd with | some u=>decide (u.1=HID)||(o.op.operands.all fun x=>(σ.opv [] x).avoids u.1) | none=>true

def notH (e:Eff):Bool:=match e.upd with | some u=>decide (u.1≠HID) | none=>true

theorem notH_spec {e:Eff}(h:notH e=true){u:Nat×SObj}(hu:e.upd=some u):u.1≠HID:=by
 unfold notH at h
 rw[hu] at h
 simpa using h

def freshFor' (σ:SState)(o:Oper)(e:Eff):Prop:=isNew o=true→∀u,e.upd=some u→u.1≠HID→σ.obj u.1=none∧σ.avoids u.1∧∀x,x∈o.op.operands→(σ.opv [] x).avoids u.1=true

theorem selfOk_spec {o:Oper}{σ:SState}{e:Eff}(h:selfOk o σ e=true)(hn:isNew o=true){u:Nat×SObj}(hu:e.upd=some u)(hne:u.1≠HID):∀x,x∈o.op.operands→(σ.opv [] x).avoids u.1=true:=by
 simp only[selfOk,hn,hu,Bool.not_true,Bool.false_or,Bool.or_eq_true,decide_eq_true_eq] at h
 exact fun x hx=>Array.all_eq_true'.1 (h.resolve_left hne) x hx

def lnilTok (P:Program)(t:TypeId)(dst:Option Tmp):Option Eff:=
 match dst,P.underlying t with
 | some d,some (.slice e)=>(szT P e).map fun n=>⟨.own (.const (.lst [])) d,some (d,.tok e n),none,none⟩
 | _,_=>none

def lappend (P:Program)(t:TypeId)(s x:SV)(dst:Option Tmp)(obj:Nat→Option SObj)(ix:Nat):Option Eff:=
 match dst,P.underlying t,s with
 | some d,some (.slice e),.own y k=>match obj k,P.info? e,x.toE with
  | some (.tok e' size),some i,some x'=>match i.zero with
   | some z=>if e=e'∧i.size=size∧z.cells.size=size∧0<size then some ⟨.own (.sym ix) d,some (d,.tok e size),some k,some (.ev (.app size i.bytes y x'))⟩ else none
   | none=>none
  | _,_,_=>none
 | _,_,_=>none

def lappendN (P:Program)(t:TypeId)(x:SV)(dst:Option Tmp)(ix:Nat):Option Eff:=
 match dst,P.underlying t with
 | some d,some (.slice e)=>match P.info? e,x.toE with
  | some i,some x'=>match i.zero with
   | some z=>if z.cells.size=i.size∧0<i.size then some ⟨.own (.sym ix) d,some (d,.tok e i.size),none,some (.ev (.app i.size i.bytes (.const (.lst [])) x'))⟩ else none
   | none=>none
  | _,_=>none
 | _,_=>none

def nilsOf (obj:Nat→Option SObj):Bool:=match cfOf obj with | some cf=>cf.nils | none=>false

def lnew (nz:Bool)(P:Program)(o:Oper)(opv:Operand→SV)(obj:Nat→Option SObj)(ix:Nat):Option Eff:=
 match o.op with
 | .assign x=>if isNilSlice x then lnilTok P o.type o.dst else none
 | .makeSlice t n c=>(lmake nz P t (opv n) (opv c) o.dst ix).map LRes.eff
 | .buildSlice t len parts=>(llit P t len parts.toList opv o.dst ix).map LRes.eff
 | .call c=>match c.callee with
  | .builtin .append=>match c.args.toList,c.argTypes.toList with
   | [s,x],[t,t']=>if t=t' then(if isNilSlice s=true then lappendN P t (opv x) o.dst ix else lappend P t (opv s) (opv x) o.dst obj ix) else none
   | _,_=>none
  | _=>none
 | _=>none

def lpure2 (P:Program)(nz:Bool)(o:Oper)(opv:Operand→SV)(ix:Nat):Option LRes:=
 match o.op with
 | .build t parts=>lbuild nz P t parts.toList opv ix
 | _=>match lext P o opv ix with
  | some r=>some r
  | none=>lpure P o opv ix

def estep (P:Program)(o:Oper)(opv:List (E×Bool)→Operand→SV)(act:List (E×Bool))(obj:Nat→Option SObj)(ix:Nat):Option Eff:=
 match ldat P o (opv act) act obj ix with
 | some r=>some r.eff
 | none=>match lpub P o (opv []) obj ix with
  | some r=>some r.eff
  | none=>match lmap P o (opv act) obj ix with
  | some r=>some r.eff
  | none=>match lnew (nilsOf obj) P o (opv []) obj ix with
   | some e=>if notH e then some e else none
   | none=>match lpure2 P (nilsOf obj) o (opv act) ix with
    | some r=>some r.eff
    | none=>match lbuildXo P o (opv act) obj ix with
    | some r=>some r.eff
    | none=>(lstep P o opv act obj ix).bind fun r=>if !isNew o||notH r.eff then some r.eff else none

section
variable {P:Program} {w w0:World} {X:Ent} {a:Act} {σ:SState} {env:List D} {ρ:Rho}

theorem del_obj {k o:Nat}{y:SObj}(hy:(σ.setObj k none).obj o=some y):o≠k∧σ.obj o=some y:=by
 rcases SState.obj_setObj_some hy with⟨_,h⟩ | h
 ·cases h
 ·exact h

theorem Rep.delObj (h:Rep w0 X w a σ env ρ)(k:Nat):Rep w0 X w a (σ.setObj k none) env ρ:=
 ⟨by rw[SState.tmps_setObj];exact h.size,fun t=>by rw[SState.tmp_setObj];exact h.tmps t,fun o y hy=>h.objs o y (del_obj hy).2,fun o o' y y' b h1 h2=>h.inj o o' y y' b (del_obj h1).2 (del_obj h2).2,fun o y b h1=>h.own o y b (del_obj h1).2,h.cells,h.os,h.tape,h.output,h.grown,h.old,h.sub,h.new,h.nod,h.hold⟩

theorem avoids_delObj {k d:Nat}(h:σ.avoids d):(σ.setObj k none).avoids d:=
 ⟨fun t=>by rw[SState.tmp_setObj];exact h.1 t,fun o y hy=>h.2 o y (del_obj hy).2⟩

theorem lnilTok_sound {o:Oper} {x:Operand} {e:Eff} (ho:o.op=.assign x) (hx:isNilSlice x=true) (hl:lnilTok P o.type o.dst=some e) (h:Rep w0 X w a σ env ρ) (hd:∀d,o.dst=some d→d<σ.tmps.length) (hm:σ.mem.length=σ.tmps.length)
  (hf:∀u,e.upd=some u→σ.obj u.1=none∧σ.avoids u.1):OpOk P o a w w0 X (σ.app o.dst e) env:=by
 unfold lnilTok at hl
 split at hl
 ·rename_i d el hdst hu
  obtain⟨n,hn,rfl⟩:=Option.map_eq_some_iff.1 hl
  obtain⟨hfree,hav⟩:=hf _ rfl
  have hdl:=hd d hdst
  have hxe:a.eval x=.slice none 0 0:=by
   unfold isNilSlice at hx
   split at hx
   ·rfl
   ·cases hx
  have hrep:=h.addTok (w':=w) (k:=d) (by rw[hm];exact hdl) hfree hav (World.ownsRow_nil w 0 el n) (Keeps.refl _ _) (fun _ _ _ _ _=>⟨rfl,by simp[Value.ownBlock]⟩) (fun _ hb=>by simp[Value.ownBlock] at hb) (fun _ hb=>by simp[Value.ownBlock] at hb) rfl ⟨rfl,Nat.le_refl _⟩ rfl (Nat.le_refl _) fun _ _ _=>rfl
  refine opOk_value (v:=.slice none 0 0) (by unfold execOp;simp[ho,hxe]) (hrep.put (by rw[hdst];intro d' e;cases e;rw[SState.tmps_setObj];exact hdl) ?_)
  exact .own (es:=[]) rfl .nil (by simp[Rho.withTok])
 ·cases hl


theorem own_block (h:Rep w0 X w a σ env ρ){k:Nat}{e:TypeId}{size:Nat}(hk:σ.obj k=some (.tok e size)){b:Nat}(hb:(ρ.val k).ownBlock=some b):(w0.heap.size≤b∨X.may b)∧b<w.heap.size:=by
 have:=h.own k _ b hk hb
 exact⟨this.1.resolve_left (by simp[SObj.ro]),this.2⟩

theorem lappend_sound {o:Oper} {t:TypeId} {s x:Operand} {ss sx:SV} {ix:Nat} {e:Eff} (ho:o.op=.call { callee:=.builtin .append,args:=#[s,x],argTypes:=#[t,t] }) (hl:lappend P t ss sx o.dst σ.obj ix=some e) (hs:SRd w ρ env (a.eval s) ss) (hx:SRd w ρ env (a.eval x) sx)
  (h:Rep w0 X w a σ env ρ) (hd:∀d,o.dst=some d→d<σ.tmps.length) (hm:σ.mem.length=σ.tmps.length) (hb:BindOk P env ix e.bind) (hf:∀u,e.upd=some u→σ.obj u.1=none∧σ.avoids u.1):OpOk P o a w w0 X (σ.app o.dst e) env:=by
 unfold lappend at hl
 split at hl
 ·rename_i d el y k hdst hu
  split at hl
  ·rename_i e' size i x' hk hi hx'
   split at hl
   ·rename_i z hz
    split at hl
    ·rename_i hc
     obtain⟨rfl,hsize,hzs,hsz⟩:=hc
     cases hl
     obtain⟨hfree,hav⟩:=hf _ rfl
     have hdl:=hd d hdst
     obtain⟨es,hes,hrd,hval⟩:=hs.own_inv
     obtain⟨dx,hdx,hrx⟩:=SV.toE_rd hx' hx
     obtain⟨dz,hev,hix⟩:=hb
     simp only[E.eval,hes,hdx,Option.bind_some] at hev
     unfold D.app at hev
     split at hev
     ·rename_i xs0 ys heq
      cases heq
      split at hev
      ·rename_i hcond
       cases hev
       obtain⟨hby,hml,hz1,hz2⟩:=hcond
       obtain⟨n,xs,hown,hfreeS⟩:=h.objs k _ hk
       rw[←hval] at hown hfreeS
       obtain⟨hn,hrow⟩:=own_row hown hrd hz1
       have hkd:d≠k:=fun e=>by rw[e,hk] at hfree;cases hfree
       have hdel:=h.delObj k
       have hfree1:(σ.setObj k none).obj d=none:=by
        rw[SState.obj_setObj_ne σ none hkd];exact hfree
       have hother:∀o' y' b,(σ.setObj k none).obj o'=some y'→objBlk ρ o' y' b→b<w.heap.size∧(a.eval s).ownBlock≠some b:=by
        intro o' y' b h1 h2
        have h1':=del_obj h1
        refine⟨(h.own o' y' b h1'.2 h2).2,fun hg=>h1'.1 ?_⟩
        rw[hval] at hg
        exact h.inj o' k y' _ b h1'.2 hk h2 hg
       have fin:∀(v':Value) (w':World) (m:Nat) (news:List Value),(Builtin.append_ #[t,t] o.type #[a.eval s,a.eval x]).run P w=.ok v' w'→ys.length=m→RowRd w ρ.S size news ys→w'.ownsRow 0 el size v' (n+m) (xs++news) →
         ((v'.ownBlock=(a.eval s).ownBlock∧GBy w w' (a.eval s).ownBlock)∨(v'.ownBlock=some w.heap.size∧GBy w w' none))→OpOk P o a w w0 X (σ.app o.dst ⟨.own (.sym ix) d,some (d,.tok el size),some k,some (.ev (.app size i.bytes y x'))⟩) env:=by
        intro v' w' m news hrun hym hnr hown' hcase
        have hmeta:w'.os=w.os∧TL w' w∧w'.output=w.output∧w.heap.size≤w'.heap.size:=by
         rcases hcase with⟨_,hg⟩ | ⟨_,hg⟩ <;> exact⟨hg.os,hg.tape,hg.output,hg.size⟩
        have hblocks:∀b,b<w.heap.size→(a.eval s).ownBlock≠some b→w'.heap[b]? = w.heap[b]?:=by
         intro b hb hne
         rcases hcase with⟨_,hg⟩ | ⟨_,hg⟩
         ·exact hg.block b hb fun e=>hne e.symm
         ·exact hg.block b hb (by simp)
        have hK:Keeps ρ.S w w':=by
         intro b i' hS
         by_cases hg:(a.eval s).ownBlock=some b
         ·rcases hcase with⟨hv',_⟩ | ⟨_,hgr⟩
          ·have hlt:i'<n*size:=Nat.lt_of_not_le fun hle=>hfreeS b hg i' hle hS
           have hix':i'<xs.length:=by rw[hown.1];exact hlt
           have h1:=hown.cells hg i' _ (List.getElem?_eq_getElem hix')
           have h2:=hown'.cells (hv'.trans hg) i' xs[i'] (by rw[List.getElem?_append_left hix'];exact List.getElem?_eq_getElem hix')
           rw[addr_add] at h1 h2
           rw[Nat.zero_add] at h1 h2
           rw[h1,h2]
          ·exact World.cell?_of_block (a:=⟨b,i',none⟩) (hgr.block b (h.cells b i' hS) (by simp))
         ·exact World.cell?_of_block (a:=⟨b,i',none⟩) (hblocks b (h.cells b i' hS) hg)
        have hrep:=hdel.addTok (w':=w') (k:=d) (e:=el) (size:=size) (v:=v') (n:=n+m) (xs:=xs++news) (by rw[SState.mlen_setObj,hm];exact hdl) hfree1 (avoids_delObj hav) hown' hK ?_ ?_ ?_ hmeta.1 hmeta.2.1 hmeta.2.2.1 hmeta.2.2.2 ?_
        ·have hval':(ρ.withTok d v' ((n+m)*size)).val d=v':=by simp[Rho.withTok]
         refine opOk_value (v:=v') ?_ (hrep.put (by rw[hdst];intro d' e;cases e;rw[SState.tmps_setObj,SState.tmps_setObj];exact hdl) ?_)
         ·unfold execOp
          simp only[ho,resolve,invoke,builtin,Sem.run_bind,Sem.run_pure,Result.andThen_ok,List.map_toArray,List.map_cons,List.map_nil,hrun]
         ·refine .own (es:=es++ys) (by simp only[E.eval];exact hix) (own_rd hown' (by simp[hn,hym]) ((hrow.append hnr).keep hK (ρ.S.le_or _)) fun b hb i' hi'=>.inr ⟨hb,hi'⟩) hval'.symm
        ·intro o' y' b h1 h2
         obtain⟨h3,h4⟩:=hother o' y' b h1 h2
         refine⟨hblocks b h3 h4,?_⟩
         rcases hcase with⟨hv',_⟩ | ⟨hv',_⟩
         ·rw[hv'];exact h4
         ·rw[hv'];simp;omega
        ·intro b hb
         rcases hcase with⟨hv',_⟩ | ⟨hv',_⟩
         ·rw[hv',hval] at hb;exact(own_block h hk hb).1
         ·rw[hv'] at hb;cases hb;exact .inl h.grown
        ·intro b hb off hoff hS
         rcases hcase with⟨hv',_⟩ | ⟨hv',_⟩
         ·rw[hv'] at hb
          refine hfreeS b hb off (Nat.le_trans (Nat.mul_le_mul_right _ (Nat.le_add_right n m)) hoff) hS
         ·rw[hv'] at hb;cases hb
          have:=h.cells _ off hS
          omega
        ·intro b hb hnm
         refine hblocks b (Nat.lt_of_lt_of_le hb h.grown) fun hg=>?_
         rw[hval] at hg
         rcases(own_block h hk hg).1 with h1 | h1
         ·omega
         ·exact hnm h1
       rcases news_of hrx hz2 with⟨hvx,rfl⟩ | ⟨ad,m,c,news,hvx,hym,hnl,hcells,hone,hnrow⟩
       ·refine fin (a.eval s) w 0 [] ?_ rfl ⟨by simp,by simp,by simp⟩ (by simpa using hown) (.inl ⟨rfl,⟨rfl,.refl _,rfl,Nat.le_refl _,fun _ _ _=>rfl⟩⟩)
        rw[hvx]
        rcases hown.2 with⟨hv,hn0⟩ | ⟨g,cap,cur,hv,_,_,hnc,_⟩
        ·rw[hv];exact run_append_none w t o.type el i hu hi none 0 0 (Nat.le_refl _)
        ·rw[hv];exact run_append_none w t o.type el i hu hi _ n cap hnc
       ·obtain⟨v',w',hrun,hown',hcase⟩:=run_append_cases (P:=P) w t o.type el i z size i.bytes hu hi hz hsize rfl hzs hsz (a.eval s) n xs hown ad m c news hnl hcells hone (by rw[←hn,←hym];exact hml) (by rw[←hn,←hym];exact hby)
        rw[←hvx] at hrun
        exact fin v' w' m news hrun hym hnrow hown' hcase
      ·cases hev
     ·cases hev
    ·cases hl
   ·cases hl
  ·cases hl
 ·cases hl

theorem lappendN_sound {o:Oper} {t:TypeId} {s x:Operand} {sx:SV} {ix:Nat} {e:Eff} (ho:o.op=.call { callee:=.builtin .append,args:=#[s,x],argTypes:=#[t,t] }) (hn:isNilSlice s=true) (hl:lappendN P t sx o.dst ix=some e) (hx:SRd w ρ env (a.eval x) sx)
  (h:Rep w0 X w a σ env ρ) (hd:∀d,o.dst=some d→d<σ.tmps.length) (hm:σ.mem.length=σ.tmps.length) (hb:BindOk P env ix e.bind) (hf:∀u,e.upd=some u→σ.obj u.1=none∧σ.avoids u.1):OpOk P o a w w0 X (σ.app o.dst e) env:=by
 have hse:a.eval s=.slice none 0 0:=by
  unfold isNilSlice at hn
  split at hn
  ·rfl
  ·cases hn
 unfold lappendN at hl
 split at hl
 ·rename_i d el hdst hu
  split at hl
  ·rename_i i x' hi hx'
   split at hl
   ·rename_i z hz
    split at hl
    ·rename_i hc
     obtain⟨hzs,hsz⟩:=hc
     cases hl
     obtain⟨hfree,hav⟩:=hf _ rfl
     have hdl:=hd d hdst
     obtain⟨dx,hdx,hrx⟩:=SV.toE_rd hx' hx
     obtain⟨dz,hev,hix⟩:=hb
     simp only[E.eval,hdx,Option.bind_some] at hev
     unfold D.app at hev
     split at hev
     ·rename_i xs0 ys heq
      cases heq
      split at hev
      ·rename_i hcond
       cases hev
       obtain⟨hby,hml,_,hz2⟩:=hcond
       have hown:=World.ownsRow_nil w 0 el i.size
       have hob:(Value.slice none 0 0).ownBlock=none:=rfl
       have fin:∀(v':Value) (w':World) (m:Nat) (news:List Value),(Builtin.append_ #[t,t] o.type #[a.eval s,a.eval x]).run P w=.ok v' w'→ys.length=m→RowRd w ρ.S i.size news ys→w'.ownsRow 0 el i.size v' (0+m) ([]++news) →
         ((v'.ownBlock=none∧GBy w w' none)∨(v'.ownBlock=some w.heap.size∧GBy w w' none))→OpOk P o a w w0 X (σ.app o.dst ⟨.own (.sym ix) d,some (d,.tok el i.size),none,some (.ev (.app i.size i.bytes (.const (.lst [])) x'))⟩) env:=by
        intro v' w' m news hrun hym hnr hown' hcase
        have hmeta:w'.os=w.os∧TL w' w∧w'.output=w.output∧w.heap.size≤w'.heap.size:=by
         rcases hcase with⟨_,hg⟩ | ⟨_,hg⟩ <;> exact⟨hg.os,hg.tape,hg.output,hg.size⟩
        have hblocks:∀b,b<w.heap.size→w'.heap[b]? = w.heap[b]?:=by
         intro b hb
         rcases hcase with⟨_,hg⟩ | ⟨_,hg⟩ <;> exact hg.block b hb (by simp)
        have hK:Keeps ρ.S w w':=fun b i' hS=>World.cell?_of_block (a:=⟨b,i',none⟩) (hblocks b (h.cells b i' hS))
        have hrep:=h.addTok (w':=w') (k:=d) (e:=el) (size:=i.size) (v:=v') (n:=0+m) (xs:=[]++news) (by rw[hm];exact hdl) hfree hav hown' hK ?_ ?_ ?_ hmeta.1 hmeta.2.1 hmeta.2.2.1 hmeta.2.2.2 ?_
        ·have hval':(ρ.withTok d v' ((0+m)*i.size)).val d=v':=by simp[Rho.withTok]
         refine opOk_value (v:=v') ?_ (hrep.put (by rw[hdst];intro d' e;cases e;rw[SState.tmps_setObj];exact hdl) ?_)
         ·unfold execOp
          simp only[ho,resolve,invoke,builtin,Sem.run_bind,Sem.run_pure,Result.andThen_ok,List.map_toArray,List.map_cons,List.map_nil,hrun]
         ·refine .own (es:=[]++ys) (by simp only[E.eval];exact hix) (own_rd hown' (by simp[hym]) (RowRd.keep (by simpa using hnr) hK (ρ.S.le_or _)) fun b hb i' hi'=>.inr ⟨hb,hi'⟩) hval'.symm
        ·intro o' y' b h1 h2
         have h3:=(h.own o' y' b h1 h2).2
         refine⟨hblocks b h3,?_⟩
         rcases hcase with⟨hv',_⟩ | ⟨hv',_⟩
         ·rw[hv'];simp
         ·rw[hv'];simp;omega
        ·intro b hb
         rcases hcase with⟨hv',_⟩ | ⟨hv',_⟩
         ·rw[hv'] at hb;cases hb
         ·rw[hv'] at hb;cases hb;exact .inl h.grown
        ·intro b hb off hoff hS
         rcases hcase with⟨hv',_⟩ | ⟨hv',_⟩
         ·rw[hv'] at hb;cases hb
         ·rw[hv'] at hb;cases hb
          have:=h.cells _ off hS
          omega
        ·intro b hb hnm
         exact hblocks b (Nat.lt_of_lt_of_le hb h.grown)
       rcases news_of hrx hz2 with⟨hvx,rfl⟩ | ⟨ad,m,c,news,hvx,hym,hnl,hcells,hone,hnrow⟩
       ·refine fin (.slice none 0 0) w 0 [] ?_ rfl ⟨by simp,by simp,by simp⟩ (by simpa using hown) (.inl ⟨rfl,⟨rfl,.refl _,rfl,Nat.le_refl _,fun _ _ _=>rfl⟩⟩)
        rw[hvx,hse]
        exact run_append_none w t o.type el i hu hi none 0 0 (Nat.le_refl _)
       ·obtain⟨v',w',hrun,hown',hcase⟩:=run_append_cases (P:=P) w t o.type el i z i.size i.bytes hu hi hz rfl rfl hzs hsz (.slice none 0 0) 0 [] hown ad m c news hnl hcells hone (by rw[←hym];simpa using hml) (by rw[←hym];simpa using hby)
        rw[←hvx,←hse] at hrun
        exact fin v' w' m news hrun hym hnrow hown' (by rw[hob] at hcase;exact hcase)
      ·cases hev
     ·cases hev
    ·cases hl
   ·cases hl
  ·cases hl
 ·cases hl

theorem lpure2_sound {nz:Bool}{o:Oper}{opv:Operand→SV}{ix:Nat}{r:LRes}(hv:∀x,SRd w ρ env (a.eval x) (opv x))(hl:lpure2 P nz o opv ix=some r)(h:Rep w0 X w a σ env ρ)(hd:∀d,o.dst=some d→d<σ.tmps.length)(hb:BindOk P env ix r.bind) :
  r.upd=none∧OpOk P o a w w0 X (σ.put o.dst r.val) env:=by
 unfold lpure2 at hl
 split at hl
 ·rename_i ho
  exact lbuild_sound ho hv hl h hd hb
 ·split at hl
  ·rename_i hl'
   cases hl
   exact lext_sound hv hl' h hd hb
  ·exact lpure_sound hv hl h hd hb

theorem estep_sound {o:Oper} {act:List (E×Bool)} {ix:Nat} {e:Eff} (h:Rep w0 X w a σ env ρ) (ha:actHolds env act) (hl:estep P o σ.opv act σ.obj ix=some e) (hd:∀d,o.dst=some d→d<σ.tmps.length) (hm:σ.mem.length=σ.tmps.length)
  (hb:BindOk P env ix e.bind) (hf:freshFor' σ o e) (hact:isNew o=true→¬(e.upd=none∧e.del=none)→act=[]):OpOk P o a w w0 X (σ.app o.dst e) env:=by
 have hv:=fun x=>opv_rd (a:=a) h actHolds_nil x
 unfold estep at hl
 split at hl
 ·rename_i r hr
  cases hl
  obtain⟨hu,hok⟩:=ldat_sound (fun x=>opv_rd (a:=a) h ha x) hr h hd hb
  have:σ.app o.dst r.eff=σ.put o.dst r.val:=by simp[SState.app,LRes.eff,SState.dels,SState.sets,hu]
  rw[this];exact hok
 split at hl
 ·rename_i r hr
  cases hl
  rcases lpub_sound hv hr h hd hb with⟨hu,hok⟩ | ⟨z,hu,hok⟩
  ·have:σ.app o.dst r.eff=σ.put o.dst r.val:=by simp[SState.app,LRes.eff,SState.dels,SState.sets,hu]
   rw[this];exact hok
  ·have:σ.app o.dst r.eff=(σ.setObj HID (some z)).put o.dst r.val:=by simp[SState.app,LRes.eff,SState.dels,SState.sets,hu]
   rw[this];exact hok
 split at hl
 ·rename_i r hr
  cases hl
  rcases lmap_sound (fun x=>opv_rd (a:=a) h ha x) hr h hd hb with⟨hu,hok⟩ | ⟨z,hu,hok⟩
  ·have:σ.app o.dst r.eff=σ.put o.dst r.val:=by simp[SState.app,LRes.eff,SState.dels,SState.sets,hu]
   rw[this];exact hok
  ·have:σ.app o.dst r.eff=(σ.setObj HID (some z)).put o.dst r.val:=by simp[SState.app,LRes.eff,SState.dels,SState.sets,hu]
   rw[this];exact hok
 split at hl
 ·rename_i e' hn
  split at hl
  case isFalse=>cases hl
  rename_i hnH
  cases hl
  have hf:isNew o=true→∀u,e.upd=some u→σ.obj u.1=none∧σ.avoids u.1∧∀x,x∈o.op.operands→(σ.opv [] x).avoids u.1=true:=fun hn u hu=>hf hn u hu (notH_spec hnH hu)
  unfold lnew at hn
  split at hn
  ·rename_i x ho
   split at hn
   ·rename_i hx
    exact lnilTok_sound ho hx hn h hd hm fun u hu=>by
     have:=hf (by simp[isNew,ho,hx]) u hu
     exact⟨this.1,this.2.1⟩
   ·cases hn
  ·rename_i t n c ho
   obtain⟨r,hr,rfl⟩:=Option.map_eq_some_iff.1 hn
   obtain⟨ob,x,hu,hok⟩:=lmake_sound ho hr (hv n) (hv c) h hd hm hb fun u hu=>by
    have:=hf (by simp[isNew,ho]) u hu
    exact⟨this.1,this.2.1⟩
   have:σ.app o.dst r.eff=(σ.setObj ob (some x)).put o.dst r.val:=by simp[SState.app,LRes.eff,SState.dels,SState.sets,hu]
   rw[this];exact hok
  ·rename_i t len parts ho
   obtain⟨r,hr,rfl⟩:=Option.map_eq_some_iff.1 hn
   obtain⟨ob,x,hu,hok⟩:=llit_sound ho hv hr h hd hm hb fun u hu=>by
    have:=hf (by simp[isNew,ho]) u hu
    exact⟨this.1,this.2.1⟩
   have:σ.app o.dst r.eff=(σ.setObj ob (some x)).put o.dst r.val:=by simp[SState.app,LRes.eff,SState.dels,SState.sets,hu]
   rw[this];exact hok
  ·rename_i c ho
   obtain⟨callee,args,ts⟩:=c
   simp only at hn
   split at hn
   ·split at hn
    ·rename_i s x t t' hargs hts
     split at hn
     ·rename_i htt
      subst htt
      have e1:args=#[s,x]:=by rw[←Array.toArray_toList (xs:=args),hargs]
      have e2:ts=#[t,t]:=by rw[←Array.toArray_toList (xs:=ts),hts]
      subst e1 e2
      split at hn
      ·rename_i hnil
       exact lappendN_sound ho hnil hn (hv x) h hd hm hb fun u hu=>by
        have:=hf (by simp[isNew,ho]) u hu
        exact⟨this.1,this.2.1⟩
      ·exact lappend_sound ho hn (hv s) (hv x) h hd hm hb fun u hu=>by
        have:=hf (by simp[isNew,ho]) u hu
        exact⟨this.1,this.2.1⟩
     ·cases hn
    ·cases hn
   ·cases hn
  ·cases hn
 split at hl
 ·rename_i r hr
  cases hl
  obtain⟨hu,hok⟩:=lpure2_sound (fun x=>opv_rd (a:=a) h ha x) hr h hd hb
  have:σ.app o.dst r.eff=σ.put o.dst r.val:=by simp[SState.app,LRes.eff,SState.dels,SState.sets,hu]
  rw[this];exact hok
 split at hl
 ·rename_i r hr
  cases hl
  obtain⟨hu,hok⟩:=lbuildX_sound (fun x=>opv_rd (a:=a) h ha x) hr h hd hb
  have:σ.app o.dst r.eff=σ.put o.dst r.val:=by simp[SState.app,LRes.eff,SState.dels,SState.sets,hu]
  rw[this];exact hok
 ·obtain⟨r,hr,hl⟩:=Option.bind_eq_some_iff.1 hl
  split at hl
  case isFalse=>cases hl
  rename_i hnH
  cases hl
  have hf:isNew o=true→∀u,r.upd=some u→σ.obj u.1=none∧σ.avoids u.1∧∀x,x∈o.op.operands→(σ.opv [] x).avoids u.1=true:=fun hn u hu=>hf hn u hu (notH_spec (by simpa[hn] using hnH) hu)
  have hfo:freshOk σ o r.upd:=by
   intro ob x hu
   split
   ·rename_i t ho
    have:=hf (by simp[isNew,ho]) (ob,x) hu
    exact⟨this.1,this.2.1⟩
   ·rename_i t y ho
    have:=hf (by simp[isNew,ho]) (ob,x) hu
    exact⟨this.1,this.2.1,this.2.2 y (by rw[ho];simp[Op.operands])⟩
   ·trivial
  rcases lstep_sound h ha hr hd hm hb hfo (fun⟨t,x,ho⟩ hu=>hact (by simp[isNew,ho]) fun hh=>hu hh.1) with⟨hu,hok⟩ | ⟨ob,x,hu,hok⟩
  ·have:σ.app o.dst r.eff=σ.put o.dst r.val:=by simp[SState.app,LRes.eff,SState.dels,SState.sets,hu]
   rw[this];exact hok
  ·have:σ.app o.dst r.eff=(σ.setObj ob (some x)).put o.dst r.val:=by simp[SState.app,LRes.eff,SState.dels,SState.sets,hu]
   rw[this];exact hok

end
end
end Go.Am

/-
 A row that is not written any more becomes data.
-/
namespace Go.Am
noncomputable section

def SV.frz (k:Nat)(x:E)(sv:SV):SV:=
 match sv with
 | .slc o=>if o=k then .e x true else .slc o
 | sv=>sv

def SV.frzB (k:Nat)(x:E)(sv:SV):SV:=
 match sv with
 | .addr o 0=>if o=k then .e x true else .addr o 0
 | sv=>sv

def SState.frz (k:Nat)(σ:SState):SState:=
 match σ.obj k with
 | some (.row x _)=>{ (σ.setObj k none) with tmps:=σ.tmps.map (SV.frz k x) }
 | some (.box cs)=>(match SV.toEs cs with
  | some y=>{ (σ.setObj k none) with tmps:=σ.tmps.map (SV.frzB k (.mkptr y)) }
  | none=>σ)
 | _=>σ

def SObj.mapSV (f:SV→SV):SObj→SObj
 | .box cs=>.box (cs.map f)
 | x=>x

def SV.pubR (k:Nat)(y:E)(sv:SV):SV:=
 match sv with
 | .slc o=>if o=k then .e y true else .slc o
 | sv=>sv

def SV.pubB (k:Nat)(y:E)(sv:SV):SV:=
 match sv with
 | .addr o 0=>if o=k then .e y true else .addr o 0
 | sv=>sv

def SState.pubS (σ:SState)(k:Nat)(f:SV→SV)(y:SObj):SState:={ tmps:=σ.tmps.map f,mem:=(σ.mem.map (Option.map (SObj.mapSV f))).set k none,hs:=some y }

def SState.pubz (k:Nat)(σ:SState):SState:=
 match σ.obj HID with
 | some (.store cf h)=>if cf.ro=true then σ else(match σ.obj k with
  | some (.row x sz)=>if 0<sz then σ.pubS k (SV.pubR k (.fstsl h x)) (.store cf (.newv anyT sz h x)) else σ
  | some (.box cs)=>(match SV.toEs cs with
   | some y=>σ.pubS k (SV.pubB k (.fstid h)) (.store cf (.newb anyT cs.length h y))
   | none=>σ)
  | _=>σ)
 | _=>σ

def frzOne (k:Nat)(σ:SState):SState:=if 1000000<k then σ.pubz (k-1000000) else σ.frz k

def frzAll:List Nat→SState→SState
 | [],σ=>σ
 | k :: ks,σ=>frzAll ks (frzOne k σ)

def frzAt (id:Nat)(σ:SState):SState:=
 match σ.obj HID with
 | some (.store cf _)=>frzAll ((cf.frzs.filter fun p=>p.1==id).map (·.2)) σ
 | _=>σ

section
variable {w w0:World} {X:Ent} {a:Act} {σ:SState} {env:List D} {ρ:Rho}

theorem row_rdS {o:Nat}{x:E}{sz:Nat}(h:ObjOk w ρ env o (.row x sz)):∃d,x.eval env=some d∧RdD w (ρ.S.or fun b _=>b=ρ.blk o) (ρ.val o) d∧d.one=true:=by
 obtain⟨vs,ty,es,hh,hx,hz,hsz,hr,hval,hm,_⟩:=h
 refine⟨_,hx,?_,rfl⟩
 rw[hval]
 have hget:∀(i:Nat) (e:D) (j:Nat) (d:D),es[i]? = some e→e.cells[j]? = some d→∃v,vs[i*sz+j]? = some v∧RdD w ρ.S v d∧d.one=true:=by
  intro i e j d he hd
  obtain⟨h1,v,h2,h3⟩:=hr i e j d he hd
  exact⟨v,h2,h3,h1⟩
 refine .lst (size:=sz) (val:=fun i j=>vs.getD (i*sz+j) undef) rfl (Nat.le_refl _) hm hz (fun i e j d he hd=>(hget i e j d he hd).choose_spec.2.2) (fun i e j d he hd=>.inr rfl) (fun i e j d he hd=>?_) fun i e j d he hd=>?_
 ·obtain⟨v,h2,_⟩:=hget i e j d he hd
  rw[cell_heap hh,Nat.zero_add,h2,Array.getD_eq_getD_getElem?,h2]
  rfl
 ·obtain⟨v,h2,h3,_⟩:=hget i e j d he hd
  rw[Array.getD_eq_getD_getElem?,h2]
  exact h3.keep (Keeps.refl _ _) (ρ.S.le_or _)

theorem Rep.frzG (h:Rep w0 X w a σ env ρ){k:Nat}{z:SObj}(hk:σ.obj k=some z)(hz:objBlk ρ k z (ρ.blk k))(hro:z.ro=false){f:SV→SV}(hf:∀v sv,SRd w { ρ with S:=ρ.S.or fun b _=>b=ρ.blk k } env v sv→SRd w { ρ with S:=ρ.S.or fun b _=>b=ρ.blk k } env v (f sv))(hj:f .junk=.junk) :
  Rep w0 X w a { (σ.setObj k none) with tmps:=σ.tmps.map f } env { ρ with S:=ρ.S.or fun b _=>b=ρ.blk k }:=by
 have hle:ρ.S≤ρ.S.or fun b _=>b=ρ.blk k:=ρ.S.le_or _
 have hm:ρ.More { ρ with S:=ρ.S.or fun b _=>b=ρ.blk k } (fun _=>False):=⟨⟨fun _ _=>rfl,fun _ _=>rfl,hle⟩,fun _=>rfl,fun _=>rfl⟩
 have hownk:=h.own k _ (ρ.blk k) hk hz
 refine⟨by simpa using h.size,fun t=>?_,fun o y hy=>?_,fun o o' y y' b h1 h2=>h.inj o o' y y' b (del_obj h1).2 (del_obj h2).2,fun o y b h1=>h.own o y b (del_obj h1).2,fun b o hs=>?_,h.os,h.tape,h.output,h.grown,h.old,Sets.le_trans h.sub hle,fun b o hs=>?_,h.nod,h.hold⟩
 ·have hv:=(h.tmps t).keep (Keeps.refl _ _) hm (fun _ hf=>hf.elim)
  have htmp:SState.tmp { (σ.setObj k none) with tmps:=σ.tmps.map f } t=f (σ.tmp t):=by
   simp only[SState.tmp_def,List.getD_eq_getElem?_getD,List.getElem?_map]
   cases σ.tmps[t]? with
   | none=>exact hj.symm
   | some _=>rfl
  rw[htmp]
  exact hf _ _ hv
 ·obtain⟨hne,hy'⟩:=del_obj hy
  refine(h.objs o y hy').keep (Keeps.refl _ _) hm (fun hf=>hf) (fun _ hf=>hf.elim) (fun _ _=>rfl) fun b off hb hs=>?_
  rcases hs with hs | hs
  ·exact hs
  ·subst hs
   exact absurd (h.inj o k y _ _ hy' hk hb hz) hne
 ·rcases hs with hs | rfl
  ·exact h.cells b o hs
  ·exact hownk.2
 ·rcases hs with hs | rfl
  ·exact h.new b o hs
  ·rcases hownk.1 with g | g | g
   ·exact absurd g.1 (by simp[hro])
   ·exact .inr (.inl g)
   ·exact .inr (.inr g)

theorem Rep.frz (h:Rep w0 X w a σ env ρ)(k:Nat):∃ρ',Rep w0 X w a (σ.frz k) env ρ':=by
 unfold SState.frz
 split
 ·rename_i x sz hk
  refine⟨_,h.frzG hk rfl rfl (fun v sv hv=>?_) rfl⟩
  unfold SV.frz
  split
  ·rename_i o
   split
   ·rename_i e
    subst e
    obtain⟨d,h1,h2,h3⟩:=row_rdS (h.objs _ _ hk)
    rw[hv.slc_inv]
    exact .e h1 h2 fun _=>h3
   ·exact hv
  ·exact hv
 ·rename_i cs hk
  split
  ·rename_i y hy
   refine⟨_,h.frzG hk rfl rfl (fun v sv hv=>?_) rfl⟩
   unfold SV.frzB
   split
   ·rename_i o
    split
    ·rename_i e
     subst e
     obtain⟨vs,ty,hh,hsz,ho,hr,_⟩:=h.objs _ _ hk
     obtain⟨ds,he,hl,hd⟩:=SV.toEs_rd (vs:=vs.toList) hy (by simpa using hsz) (fun i v hv=>ho i v (by simpa using hv)) (fun i v c hv hc=>hr i v c (by simpa using hv) hc)
     rw[hv.addr_inv]
     refine .e (d:=.ptr ds) (by simp[E.eval,he,D.mkptr]) ?_ fun _=>rfl
     have hcell:∀(j:Nat) (c:D),ds[j]? = some c→∃u,vs[j]? = some u:=fun j c hj=>⟨_,Array.getElem?_eq_getElem (by have:=(List.getElem?_eq_some_iff.1 hj).1;simp at hl;omega)⟩
     refine .ptr (val:=fun j=>vs.getD j undef) (fun j c hj=>?_) (fun j c hj=>.inr rfl) (fun j c hj=>?_) fun j c hj=>?_
     ·obtain⟨u,hu⟩:=hcell j c hj
      exact(hd j u c (by simpa using hu) hj).2
     ·obtain⟨u,hu⟩:=hcell j c hj
      rw[cell_heap hh,Nat.zero_add,hu,Array.getD_eq_getD_getElem?,hu]
      rfl
     ·obtain⟨u,hu⟩:=hcell j c hj
      rw[Array.getD_eq_getD_getElem?,hu]
      exact(hd j u c (by simpa using hu) hj).1.keep (Keeps.refl _ _) (ρ.S.le_or _)
    ·exact hv
   ·exact hv
  ·exact⟨ρ,h⟩
 ·exact⟨ρ,h⟩

theorem pubS_obj {k o:Nat}{f:SV→SV}{y z:SObj}(hz:(σ.pubS k f y).obj o=some z):(o=HID∧z=y)∨(o≠HID∧o≠k∧∃x,σ.obj o=some x∧z=x.mapSV f):=by
 simp only[SState.pubS,SState.obj_def] at hz
 by_cases ho:o=HID
 ·simp only[ho,if_true,Option.some.injEq] at hz
  exact .inl ⟨ho,hz.symm⟩
 ·simp only[ho,if_false,List.getD_eq_getElem?_getD,List.getElem?_set,List.length_map] at hz
  by_cases hk:k=o
  ·simp only[hk,if_true] at hz
   split at hz <;> cases hz
  ·simp only[hk,if_false,List.getElem?_map] at hz
   refine .inr ⟨ho,Ne.symm hk,?_⟩
   simp only[SState.obj_def]
   simp only[ho,if_false,List.getD_eq_getElem?_getD]
   cases hm:σ.mem[o]? with
   | none=>rw[hm] at hz;cases hz
   | some x=>
    rw[hm] at hz
    cases x with
    | none=>cases hz
    | some x=>
     simp only[Option.map_some,Option.getD_some,Option.some.injEq] at hz
     exact⟨x,rfl,hz.symm⟩

theorem objBlk_mapSV {ρ:Rho}{o:Nat}{x:SObj}{f:SV→SV}:objBlk ρ o (x.mapSV f)=objBlk ρ o x:=by
 cases x <;> rfl

theorem Rep.pubG (h:Rep w0 X w a σ env ρ) {k:Nat} {z:SObj} (hk:σ.obj k=some z) (hz:objBlk ρ k z (ρ.blk k)) (hro:z.ro=false) (hns:∀off,¬ρ.S (ρ.blk k) off) {cf:StCfg} {x x':E} (hob:σ.obj HID=some (.store cf x)) (hkH:k≠HID) {bs:List D} (hbe:x.eval env=some (.st bs)) {n sz:Nat} {cs:List D}
  (hz1:∃vs:Array Value,CellsAt w (ρ.blk k) vs anyT∧vs.size=n*sz∧cs.length≤vs.size∧(∀(j:Nat) (d:D),cs[j]? = some d→d.one=true)∧∀(j:Nat) (v:Value) (d:D),vs[j]? = some v→cs[j]? = some d→RdD w ρ.S v d)
  (hx':x'.eval env=some (.st (bs++[.blk anyT sz cs]))) {f:SV→SV} (hf:∀v sv,ρ.S.n=bs.length→SRd w { ρ with S:=ρ.S.more (ρ.blk k) n,foot:=fun c=>ρ.foot c∨c=ρ.blk k } env v sv→SRd w { ρ with S:=ρ.S.more (ρ.blk k) n,foot:=fun c=>ρ.foot c∨c=ρ.blk k } env v (f sv)) (hj:f .junk=.junk) :
  Rep w0 X w a (σ.pubS k f (.store cf x')) env { ρ with S:=ρ.S.more (ρ.blk k) n,foot:=fun c=>ρ.foot c∨c=ρ.blk k }:=by
 have hle:=ρ.S.le_more (ρ.blk k) n
 have hle2:ρ.Le { ρ with S:=ρ.S.more (ρ.blk k) n,foot:=fun c=>ρ.foot c∨c=ρ.blk k } (fun _=>False):=⟨fun _ _=>rfl,fun _ _=>rfl,hle⟩
 obtain⟨bs0,hb0,hst,_⟩:=h.objs _ _ hob
 rw[hbe] at hb0
 cases hb0
 have hownk:=h.own k _ (ρ.blk k) hk hz
 have hfoot:∀b,ρ.foot b→b≠ρ.blk k:=fun b hb e=>hkH (h.inj k HID _ _ (ρ.blk k) hk hob hz (e ▸ hb))
 have hblk:∀o y,o≠HID→objBlk { ρ with S:=ρ.S.more (ρ.blk k) n,foot:=fun c=>ρ.foot c∨c=ρ.blk k } o y=objBlk ρ o y∨∃cf x,y=.store cf x:=by
  intro o y ho
  cases y with
  | store cf x=>exact .inr ⟨cf,x,rfl⟩
  | _=>exact .inl rfl
 have hnst:∀o y,o≠HID→σ.obj o=some y→objBlk { ρ with S:=ρ.S.more (ρ.blk k) n,foot:=fun c=>ρ.foot c∨c=ρ.blk k } o y=objBlk ρ o y:=by
  intro o y ho hy
  rcases hblk o y ho with g | ⟨cf,x,rfl⟩
  ·exact g
  ·obtain⟨_,_,_,e⟩:=h.objs o _ hy
   exact absurd e ho
 have hrd:∀v sv,SRd w ρ env v sv→SRd w { ρ with S:=ρ.S.more (ρ.blk k) n,foot:=fun c=>ρ.foot c∨c=ρ.blk k } env v (f sv):=fun v sv hv=>hf v sv hst.n (hv.keepL (Keeps.refl _ _) hle2 fun _ hf=>hf.elim)
 refine⟨by simpa[SState.pubS] using h.size,fun t=>?_,fun o y hy=>?_,fun o o' y y' b h1 h2 hb1 hb2=>?_,fun o y b hy hb=>?_,h.cells,h.os,h.tape,h.output,h.grown,h.old,Sets.le_trans h.sub hle,h.new,h.nod,h.hold⟩
 ·have htmp:(σ.pubS k f (.store cf x')).tmp t=f (σ.tmp t):=by
   simp only[SState.pubS,SState.tmp_def,List.getD_eq_getElem?_getD,List.getElem?_map]
   cases σ.tmps[t]? with
   | none=>exact hj.symm
   | some _=>rfl
  rw[htmp]
  exact hrd _ _ (h.tmps t)
 ·rcases pubS_obj hy with⟨rfl,rfl⟩ | ⟨ho,hok,y1,hy1,rfl⟩
  ·refine⟨_,hx',stOk_moreG hst (Keeps.refl _ _) rfl (fun i x hi hx=>⟨hi,hfoot _ (hst.live_foot hi hx),rfl⟩) (fun _=>Iff.rfl) (fun e sz' cs' he=>?_) (fun kvs he=>by cases he) hns,rfl⟩
   cases he
   exact hz1
  ·have:=(h.objs o y1 hy1).keepL (Keeps.refl _ _) hle2 (fun e=>absurd e ho) (fun hf=>hf) (fun _ hf=>hf.elim) (fun _ _=>rfl) (fun b off _ hs=>hs)
   cases y1 with
   | box cs=>
    obtain⟨vs,ty,g1,g2,g3,g4,g5⟩:=this
    refine⟨vs,ty,g1,by simpa using g2,g3,fun i v c hv hc=>?_,g5⟩
    simp only[List.getElem?_map,Option.map_eq_some_iff] at hc
    obtain⟨c',hc',rfl⟩:=hc
    exact hf _ _ hst.n (g4 i v c' hv hc')
   | _=>exact this
 ·rcases pubS_obj h1 with⟨rfl,rfl⟩ | ⟨ho,hok,y1,hy1,rfl⟩ <;> rcases pubS_obj h2 with⟨rfl,rfl⟩ | ⟨ho',hok',y2,hy2,rfl⟩
  ·rfl
  ·rw[objBlk_mapSV,hnst o' y2 ho' hy2] at hb2
   rcases hb1 with hb1 | rfl
   ·exact h.inj HID o' _ _ b hob hy2 hb1 hb2
   ·exact absurd (h.inj o' k _ _ _ hy2 hk hb2 hz) hok'
  ·rw[objBlk_mapSV,hnst o y1 ho hy1] at hb1
   rcases hb2 with hb2 | rfl
   ·exact h.inj o HID _ _ b hy1 hob hb1 hb2
   ·exact absurd (h.inj o k _ _ _ hy1 hk hb1 hz) hok
  ·rw[objBlk_mapSV,hnst o y1 ho hy1] at hb1
   rw[objBlk_mapSV,hnst o' y2 ho' hy2] at hb2
   exact h.inj o o' _ _ b hy1 hy2 hb1 hb2
 ·rcases pubS_obj hy with⟨rfl,rfl⟩ | ⟨ho,hok,y1,hy1,rfl⟩
  ·rcases hb with hb | rfl
   ·have:=h.own HID (.store cf x) b hob hb
    exact this
   ·refine⟨.inr (hownk.1.resolve_left ?_),hownk.2⟩
    rintro⟨e,_⟩
    rw[hro] at e
    cases e
  ·rw[objBlk_mapSV,hnst o y1 ho hy1] at hb
   have:=h.own o y1 b hy1 hb
   refine⟨?_,this.2⟩
   cases y1 <;> exact this.1

theorem Rep.pubz (h:Rep w0 X w a σ env ρ)(k:Nat):∃ρ',Rep w0 X w a (σ.pubz k) env ρ':=by
 unfold SState.pubz
 split
 ·rename_i cf hx hob
  split
  ·exact⟨ρ,h⟩
  obtain⟨bs,hbe,hst,_⟩:=h.objs _ _ hob
  split
  ·rename_i x sz hk
   split
   ·rename_i hsz
    have hkH:k≠HID:=fun e=>by rw[e,hob] at hk;cases hk
    obtain⟨vs,ty,es,hh,hxe,hz,hvs,hr,hval,hm,hns⟩:=h.objs _ _ hk
    have hrow:RowRd w ρ.S sz vs.toList es:=⟨by simpa using hvs,hz,fun i e j d he hd=>by
     obtain⟨g1,v,g2,g3⟩:=hr i e j d he hd
     exact⟨g1,v,by simpa using g2,g3⟩⟩
    obtain⟨hall,hfl,hfr⟩:=hrow.flat hsz
    have hone:(cellsL es).all (·.one)=true:=List.all_eq_true.2 fun d hd=>by
     obtain⟨j,hj⟩:=List.getElem?_of_mem hd
     have hjl:=(List.getElem?_eq_some_iff.1 hj).1
     exact(hfr j vs.toList[j] d (by rw[List.getElem?_eq_getElem (by rw[←hfl];exact hjl)]) hj).2
    refine⟨_,h.pubG (n:=es.length) (cs:=cellsL es) hk rfl rfl hns hob hkH hbe ⟨vs,⟨ty,hh,.inl rfl⟩,hvs,by rw[hfl];simp,fun j d hj=>List.all_eq_true.1 hone d (List.mem_of_getElem? hj),fun j v d hv hd=>(hfr j v d (by simpa using hv) hd).1⟩ (by simp only[E.eval,hbe,hxe,Option.bind_some,D.newv];rw[if_pos ⟨hall,hone⟩]) (fun v sv hn hv=>?_) rfl⟩
    unfold SV.pubR
    split
    ·rename_i o
     split
     ·rename_i e
      subst e
      rw[hv.slc_inv]
      refine .e (d:=.sl bs.length 0 es.length) (by simp only[E.eval,hbe,hxe];rfl) ?_ fun _=>rfl
      show RdD w _ (ρ.val o) _
      rw[hval]
      have:=RdD.sl (w:=w) (S:=ρ.S.more (ρ.blk o) es.length) (i:=bs.length) (off:=0) (len:=es.length) (c:=es.length) (by simp[Sets.more,hn]) (Nat.le_refl _) hm (fun _=>by simp[Sets.more,hn])
      have hl:(ρ.S.more (ρ.blk o) es.length).loc bs.length=ρ.blk o:=by simp[Sets.more,hn]
      rwa [hl] at this
     ·exact hv
    ·exact hv
   ·exact⟨ρ,h⟩
  ·rename_i cs hk
   split
   ·rename_i y hy
    have hkH:k≠HID:=fun e=>by rw[e,hob] at hk;cases hk
    obtain⟨vs,ty,hh,hsz,ho,hr,hns⟩:=h.objs _ _ hk
    obtain⟨ds,he,hl,hd⟩:=SV.toEs_rd (vs:=vs.toList) hy (by simpa using hsz) (fun i v hv=>ho i v (by simpa using hv)) (fun i v c hv hc=>hr i v c (by simpa using hv) hc)
    have hl':ds.length=vs.size:=by simpa using hl.symm
    have hone:ds.all (·.one)=true:=List.all_eq_true.2 fun d hdm=>by
     obtain⟨j,hj⟩:=List.getElem?_of_mem hdm
     have hjl:=(List.getElem?_eq_some_iff.1 hj).1
     exact(hd j vs.toList[j] d (by rw[List.getElem?_eq_getElem (by simp;omega)]) hj).2
    refine⟨_,h.pubG (n:=1) (cs:=ds) hk rfl rfl hns hob hkH hbe ⟨vs,⟨ty,hh,.inl rfl⟩,by rw[hsz,Nat.one_mul],by omega,fun j d hj=>List.all_eq_true.1 hone d (List.mem_of_getElem? hj),fun j v d hv hdd=>(hd j v d (by simpa using hv) hdd).1⟩ (by simp only[E.eval,hbe,he,Option.bind_some,D.newb];rw[if_pos hone]) (fun v sv hn hv=>?_) rfl⟩
    unfold SV.pubB
    split
    ·rename_i o
     split
     ·rename_i e
      subst e
      rw[hv.addr_inv]
      refine .e (d:=.loc bs.length 0) (by simp only[E.eval,hbe];rfl) ?_ fun _=>rfl
      have:=RdD.loc (w:=w) (S:=ρ.S.more (ρ.blk o) 1) (i:=bs.length) (off:=0) (by simp[Sets.more,hn])
      have hl:(ρ.S.more (ρ.blk o) 1).loc bs.length=ρ.blk o:=by simp[Sets.more,hn]
      rwa [hl] at this
     ·exact hv
    ·exact hv
   ·exact⟨ρ,h⟩
  ·exact⟨ρ,h⟩
 ·exact⟨ρ,h⟩

theorem Rep.frzOne (h:Rep w0 X w a σ env ρ)(k:Nat):∃ρ',Rep w0 X w a (frzOne k σ) env ρ':=by
 unfold Go.Am.frzOne
 split
 ·exact h.pubz _
 ·exact h.frz k

theorem Rep.frzAll:∀(ks:List Nat) {σ:SState} {ρ:Rho},Rep w0 X w a σ env ρ→∃ρ',Rep w0 X w a (frzAll ks σ) env ρ'
 | [],_,ρ,h=>⟨ρ,h⟩
 | k :: ks,_,_,h=>by
  obtain⟨_,h'⟩:=h.frzOne k
  exact Rep.frzAll ks h'

theorem Rep.frzAt (h:Rep w0 X w a σ env ρ)(id:Nat):∃ρ',Rep w0 X w a (frzAt id σ) env ρ':=by
 unfold Go.Am.frzAt
 split
 ·exact h.frzAll _
 ·exact⟨ρ,h⟩

theorem frz_len (k:Nat)(σ:SState):(σ.frz k).tmps.length=σ.tmps.length∧(σ.frz k).mem.length=σ.mem.length:=by
 unfold SState.frz
 split
 ·refine⟨by simp,?_⟩
  show(σ.setObj k none).mem.length=_
  exact SState.mlen_setObj _ _ _
 ·split
  ·refine⟨by simp,?_⟩
   show(σ.setObj k none).mem.length=_
   exact SState.mlen_setObj _ _ _
  ·exact⟨rfl,rfl⟩
 ·exact⟨rfl,rfl⟩

theorem pubS_len (k:Nat)(f:SV→SV)(y:SObj)(σ:SState):(σ.pubS k f y).tmps.length=σ.tmps.length∧(σ.pubS k f y).mem.length=σ.mem.length:=by
 simp[SState.pubS]

theorem frzOne_len (k:Nat)(σ:SState):(frzOne k σ).tmps.length=σ.tmps.length∧(frzOne k σ).mem.length=σ.mem.length:=by
 unfold frzOne
 split
 ·unfold SState.pubz
  split
  ·split
   ·exact⟨rfl,rfl⟩
   split
   ·split
    ·exact pubS_len _ _ _ _
    ·exact⟨rfl,rfl⟩
   ·split
    ·exact pubS_len _ _ _ _
    ·exact⟨rfl,rfl⟩
   ·exact⟨rfl,rfl⟩
  ·exact⟨rfl,rfl⟩
 ·exact frz_len k σ

theorem frzAll_len:∀(ks:List Nat) (σ:SState),(frzAll ks σ).tmps.length=σ.tmps.length∧(frzAll ks σ).mem.length=σ.mem.length
 | [],_=>⟨rfl,rfl⟩
 | k :: ks,σ=>by
  have h1:=frzAll_len ks (frzOne k σ)
  have h2:=frzOne_len k σ
  exact⟨h1.1.trans h2.1,h1.2.trans h2.2⟩

theorem frzAt_len (id:Nat)(σ:SState):(frzAt id σ).tmps.length=σ.tmps.length∧(frzAt id σ).mem.length=σ.mem.length:=by
 unfold frzAt
 split
 ·exact frzAll_len _ _
 ·exact⟨rfl,rfl⟩

end
end
end Go.Am

/-
 The operations of a region one after the other,guards and all.
-/
namespace Go.Am
noncomputable section

/-! ## evaluation ahead of use (for the kernel: the functions change nothing) -/

def atomV (act:List (E×Bool))(ix:Nat)(e:Eff):SV×Option Bind:=
 match act,e.bind,e.val with
 | _ :: _,none,.e x s=>if isAtom ix x then(e.val,none) else(.e (.sym ix) s,some (.ev x))
 | _,b,v=>(v,b)

def isCallV (o:Oper):Bool:=match o.op with | .call c=>(match c.callee with | .value _=>true | _=>false) | _=>false

def locOp (o:Oper)(cf:Option StCfg):Bool:=match o.op with | .call c=>locCall cf c.callee | _=>false

def callWrites (o:Oper)(hO:Option SObj)(ix:Nat)(e:Eff):Bool:=
 !locOp o (cfO hO)&&(isCallV o&&e.del.isNone&&match hO,e.upd with
  | some (.store cf h),some (k,.store cf' (.tget 1 (.sym j)))=>!cf.ro&&decide (k=HID)&&decide (cf=cf')&&decide (j=ix)&&(match e.bind with
   | some (.wcall [] _ h' _ _)=>h'.same h
   | some (.wcallv [] _ h' _ _)=>h'.same h
   | _=>false)
  | _,_=>false)

def gtok (P:Program)(o:Oper)(σ:SState)(act:List (E×Bool))(ix:Nat):Option Eff:=
 match act with
 | []=>none
 | act=>match o.op with
  | .call c=>(match c.callee with
   | .builtin .append=>(match lnew false P o (σ.opv act) σ.obj ix with
    | some e=>(match e.upd with
     | some (d,.tok _ _)=>if d≠HID∧o.dst=some d then some ⟨.cond act e.val,e.upd,e.del,guardBind act e.bind⟩ else none
     | _=>none)
    | none=>none)
   | _=>none)
  | _=>none

def reff (P:Program)(ops:Array Oper)(o:Oper)(σ:SState)(ix:Nat):Option Eff:=
 match actOf ops σ ix o.guard with
 | none=>none
 | some act=>match gtok P o σ act ix with
  | some e=>some e
  | none=>match estep P o σ.opv act σ.obj ix with
  | none=>none
  | some e=>if e.upd.isNone&&e.del.isNone then some ⟨wrapSV act (atomV act ix e).1,none,none,guardBind act (atomV act ix e).2⟩ else match act with
   | []=>if selfOk o σ e then some e else none
   | act=>if callWrites o (σ.obj HID) ix e then some ⟨.cond act e.val,e.upd,none,guardBind act e.bind⟩ else none

def freshAt (σ:SState)(ob:Nat):Prop:=(σ.obj ob).isNone=true∧σ.avoidsB ob=true

def freshFor (σ:SState)(o:Oper)(e:Eff):Bool:=!isNew o||match e.upd with | some u=>decide (u.1=HID)||((σ.obj u.1).isNone&&σ.avoidsB u.1) | none=>true

def rstep (P:Program)(ops:Array Oper)(o:Oper)(σ:SState)(ix:Nat):Option (SState×Option Bind):=
 match reff P ops o σ ix with
 | some e=>if dstOk σ o&&freshFor σ o e then some (σ.app o.dst e,e.bind) else none
 | none=>none

theorem rstep_of_reff {P:Program}{ops:Array Oper}{o:Oper}{σ:SState}{ix:Nat}{e:Eff}(h:reff P ops o σ ix=some e)(hd:dstOk σ o=true)(hf:isNew o=true→∀u,e.upd=some u→u.1=HID∨freshAt σ u.1) :
  rstep P ops o σ ix=some (σ.app o.dst e,e.bind):=by
 have:freshFor σ o e=true:=by
  unfold freshFor
  cases hn:isNew o with
  | false=>rfl
  | true=>
   cases hu:e.upd with
   | none=>rfl
   | some u=>
    rcases hf hn u hu with h1 | h1
    ·simp[h1]
    ·simp[h1.1,h1.2]
 unfold rstep
 rw[h]
 simp[hd,this]

section
variable {P:Program} {w w0:World} {X:Ent} {a:Act} {σ:SState} {env:List D} {ρ:Rho}

theorem atomV_ok {act:List (E×Bool)}{ix:Nat}{e:Eff}(h:BindOk P env ix (atomV act ix e).2):BindOk P env ix e.bind∧∀(w:World) (ρ:Rho) (v:Value),SRd w ρ env v e.val→SRd w ρ env v (atomV act ix e).1:=by
 unfold atomV at h ⊢
 split at h
 ·rename_i hb hv
  split at h
  ·rename_i hat
   rw[if_pos hat]
   exact⟨by rw[hb];trivial,fun _ _ _ h=>h⟩
  ·rename_i hat
   rw[if_neg hat]
   refine⟨by rw[hb];trivial,fun w ρ v hs=>?_⟩
   rw[hv] at hs
   obtain⟨d,hx,hix⟩:=h
   obtain⟨d',hx',hr,h1⟩:=hs.e_inv
   rw[hx] at hx'
   cases hx'
   exact .e (by simp only[E.eval];exact hix) hr h1
 ·exact⟨h,fun _ _ _ h=>h⟩

theorem gtok_sound {o:Oper}{act:List (E×Bool)}{ix:Nat}{e:Eff}(h:Rep w0 X w a σ env ρ)(hm:σ.mem.length=σ.tmps.length)(hd:∀d,o.dst=some d→d<σ.tmps.length)(hg:gtok P o σ act ix=some e)(hf:freshFor σ o e=true)(hb:BindOk P env ix e.bind)(hdef:∀p,p∈act→∃d,p.1.eval env=some d) :
  (actHolds env act→OpOk P o a w w0 X (σ.app o.dst e) env)∧(¬actHolds env act→∃ρ',Rep w0 X w (a.put o.dst undef) (σ.app o.dst e) env ρ'):=by
 unfold gtok at hg
 split at hg
 ·cases hg
 rename_i hact
 split at hg
 ·rename_i c ho
  split at hg
  ·rename_i hcal
   split at hg
   ·rename_i e0 hl
    split at hg
    ·rename_i d ty sz hupd
     split at hg
     ·rename_i hc
      obtain⟨hne,hdst⟩:=hc
      cases hg
      have hdl:=hd d hdst
      have hnew:isNew o=true:=by simp[isNew,ho,hcal]
      simp only[freshFor,hnew,hupd,Bool.not_true,Bool.false_or,Bool.or_eq_true,decide_eq_true_eq,Bool.and_eq_true,Option.isNone_iff_eq_none] at hf
      obtain⟨hfree,hav⟩:=hf.resolve_left hne
      have hav:=avoidsB_spec hav
      refine⟨fun ha=>?_,fun ha=>?_⟩
      ·have hv:=fun x=>opv_rd (a:=a) h ha x
       have hf':∀u,e0.upd=some u→σ.obj u.1=none∧σ.avoids u.1:=fun u hu=>by
        rw[hupd] at hu
        cases hu
        exact⟨hfree,hav⟩
       have hb0:=guardBind_ok ha hb
       have hok:OpOk P o a w w0 X (σ.app o.dst e0) env:=by
        unfold lnew at hl
        rw[ho] at hl
        obtain⟨callee,args,ts⟩:=c
        simp only at hcal
        subst hcal
        simp only at hl
        split at hl
        ·rename_i s x t t' hargs hts
         split at hl
         ·rename_i htt
          subst htt
          have e1:args=#[s,x]:=by rw[←Array.toArray_toList (xs:=args),hargs]
          have e2:ts=#[t,t]:=by rw[←Array.toArray_toList (xs:=ts),hts]
          subst e1 e2
          split at hl
          ·rename_i hnil
           exact lappendN_sound ho hnil hl (hv x) h hd hm hb0 hf'
          ·exact lappend_sound ho hl (hv s) (hv x) h hd hm hb0 hf'
         ·cases hl
        ·cases hl
       intro Q
       refine upon_mono (hok Q) ?_
       rintro a' w' ⟨ρ',hrep⟩
       refine⟨ρ',?_⟩
       unfold SState.app at hrep ⊢
       rw[hdst] at hrep ⊢
       simp only at hrep ⊢
       generalize hσ:(σ.dels e0.del).sets e0.upd=σ1 at hrep ⊢
       have hl1:d<σ1.tmps.length:=by
        rw[←hσ]
        unfold SState.dels SState.sets
        cases e0.del <;> cases e0.upd <;> simpa[SState.tmps_setObj] using hdl
       refine⟨by simpa[SState.put_def] using hrep.size,fun t=>?_,hrep.objs,hrep.inj,hrep.own,hrep.cells,hrep.os,hrep.tape,hrep.output,hrep.grown,hrep.old,hrep.sub,hrep.new,hrep.nod,hrep.hold⟩
       have:=hrep.tmps t
       rw[SState.tmp_put hl1] at this ⊢
       split
       ·rename_i e;rw[if_pos e] at this;exact .cond hdef (fun _=>this) fun hn=>absurd ha hn
       ·rename_i e;rw[if_neg e] at this;exact this
      ·have hdel:Rep w0 X w a (σ.dels e0.del) env ρ∧(σ.dels e0.del).obj d=none∧(σ.dels e0.del).avoids d∧(σ.dels e0.del).tmps.length=σ.tmps.length∧(σ.dels e0.del).mem.length=σ.mem.length:=by
        cases e0.del with
        | none=>exact⟨h,hfree,hav,rfl,rfl⟩
        | some k=>
         refine⟨h.delObj k,?_,avoids_delObj hav,by rw[SState.dels,SState.tmps_setObj],by rw[SState.dels,SState.mlen_setObj]⟩
         cases hx:(σ.setObj k none).obj d with
         | none=>exact hx
         | some y=>
          have:=(del_obj hx).2
          rw[hfree] at this
          cases this
       obtain⟨d1,d2,d3,d4,d5⟩:=hdel
       have hrep:=d1.addTok (w':=w) (k:=d) (by rw[d5,hm];exact hdl) d2 d3 (World.ownsRow_nil w 0 ty sz) (Keeps.refl _ _) (fun _ _ _ _ _=>⟨rfl,by simp[Value.ownBlock]⟩) (fun _ hb=>by simp[Value.ownBlock] at hb) (fun _ hb=>by simp[Value.ownBlock] at hb) rfl ⟨rfl,Nat.le_refl _⟩ rfl (Nat.le_refl _) fun _ _ _=>rfl
       refine⟨ρ.withTok d (.slice none 0 0) (0*sz),?_⟩
       unfold SState.app
       rw[hupd]
       exact hrep.put (by intro d' e;rw[SState.tmps_setObj,d4];exact hd d' e) (.cond hdef (fun hh=>absurd hh ha) fun _=>rfl)
     ·cases hg
    ·cases hg
   ·cases hg
  ·cases hg
 ·cases hg

theorem rstep_sound {ops:Array Oper} {o:Oper} {ix:Nat} {σ':SState} {b:Option Bind} (h:Rep w0 X w a σ env ρ) (hm:σ.mem.length=σ.tmps.length) (hix:ix≤env.length) (hsz:∀(j d:Nat),(ops[j]?).bind (fun(o:Oper)=>o.dst)=some d→d<σ.tmps.length)
  (hs:rstep P ops o σ ix=some (σ',b)) (hb:BindOk P env ix b):(Region.wanted o (yielded ops a.tmps)=true∧OpOk P o a w w0 X σ' env)∨(Region.wanted o (yielded ops a.tmps)=false∧∃ρ',Rep w0 X w (a.put o.dst undef) σ' env ρ'):=by
 unfold rstep at hs
 split at hs
 ·rename_i e he
  split at hs
  ·rename_i hc
   simp only[Bool.and_eq_true] at hc
   cases hs
   have hd:=dstOk_spec hc.1
   unfold reff at he
   split at he
   ·cases he
   ·rename_i act hact
    obtain⟨hdef,hwant⟩:=wanted_iff h hix hsz hact
    split at he
    ·rename_i eg hg
     cases he
     obtain⟨k1,k2⟩:=gtok_sound h hm hd hg hc.2 hb hdef
     by_cases ha:actHolds env act
     ·exact .inl ⟨hwant.2 ha,k1 ha⟩
     ·exact .inr ⟨by rw[←Bool.not_eq_true,hwant];exact ha,k2 ha⟩
    split at he
    ·cases he
    ·rename_i e0 hl
     split at he
     ·rename_i hn
      simp only[Bool.and_eq_true,Option.isNone_iff_eq_none] at hn
      cases he
      have happ:∀sv,σ.app o.dst ⟨sv,none,none,guardBind act (atomV act ix e0).2⟩=σ.put o.dst sv:=fun _=>rfl
      rw[happ]
      by_cases ha:actHolds env act
      ·refine .inl ⟨hwant.2 ha,?_⟩
       obtain⟨hbb,hatom⟩:=atomV_ok (guardBind_ok ha hb)
       have hok:=estep_sound h ha hl hd hm hbb (by simp[freshFor',hn.1]) (fun _=>by simp[hn.1,hn.2])
       have happ0:σ.app o.dst e0=σ.put o.dst e0.val:=by simp[SState.app,SState.dels,SState.sets,hn.1,hn.2]
       rw[happ0] at hok
       intro Q
       refine upon_mono (hok Q) ?_
       rintro a' w' ⟨ρ',hrep⟩
       refine⟨ρ',?_⟩
       cases hdo:o.dst with
       | none=>rw[hdo] at hrep;exact hrep
       | some d=>
        rw[hdo] at hrep
        have hdl:=hd d hdo
        refine⟨by simpa[SState.put_def] using hrep.size,fun t=>?_,hrep.objs,hrep.inj,hrep.own,hrep.cells,hrep.os,hrep.tape,hrep.output,hrep.grown,hrep.old,hrep.sub,hrep.new,hrep.nod,hrep.hold⟩
        have:=hrep.tmps t
        rw[SState.tmp_put hdl] at this ⊢
        split
        ·rename_i e;rw[if_pos e] at this;exact wrap_rd hdef ha (hatom _ _ _ this)
        ·rename_i e;rw[if_neg e] at this;exact this
      ·refine .inr ⟨by rw[←Bool.not_eq_true,hwant];exact ha,ρ,h.put hd ?_⟩
       cases act with
       | nil=>exact absurd actHolds_nil ha
       | cons p r=>exact .cond hdef (fun hh=>absurd hh ha) fun _=>rfl
     ·split at he
      ·split at he
       ·rename_i hself
        cases he
        have ha:actHolds env []:=actHolds_nil
        refine .inl ⟨hwant.2 ha,estep_sound h ha hl hd hm hb ?_ fun _ _=>rfl⟩
        intro hnew u hu hne
        have hf:=hc.2
        simp only[freshFor,hnew,hu,Bool.not_true,Bool.false_or,Bool.or_eq_true,decide_eq_true_eq,Bool.and_eq_true,Option.isNone_iff_eq_none] at hf
        have hf:=hf.resolve_left hne
        exact⟨hf.1,avoidsB_spec hf.2,selfOk_spec hself hnew hu hne⟩
       ·cases he
      ·rename_i hne
       split at he
       ·rename_i hcw
        cases he
        unfold callWrites at hcw
        simp only[Bool.and_eq_true] at hcw
        obtain⟨_,⟨hcv,hdel⟩,hcw⟩:=hcw
        split at hcw
        ·rename_i cf hE k cf' j hob hup
         simp only[Bool.and_eq_true,Bool.not_eq_true',decide_eq_true_eq] at hcw
         obtain⟨⟨⟨⟨hro,rfl⟩,rfl⟩,rfl⟩,hbm⟩:=hcw
         have hdel:e0.del=none:=by simpa using hdel
         have happ:∀sv b,σ.app o.dst ⟨sv,e0.upd,none,b⟩=(σ.setObj HID (some (.store cf (.tget 1 (.sym j))))).put o.dst sv:=fun sv b=>by simp[SState.app,SState.dels,SState.sets,hup]
         rw[happ]
         have hnew:isNew o=false:=by
          unfold isCallV at hcv
          unfold isNew
          split at hcv
          ·rename_i c hop
           rw[hop]
           split at hcv
           ·rename_i g hc
            simp[hc]
           ·cases hcv
          ·cases hcv
         by_cases ha:actHolds env act
         ·refine .inl ⟨hwant.2 ha,?_⟩
          have hok:=estep_sound h ha hl hd hm (guardBind_ok ha hb) (by simp[freshFor',hnew]) (fun hn=>by rw[hnew] at hn;cases hn)
          have happ0:σ.app o.dst e0=(σ.setObj HID (some (.store cf (.tget 1 (.sym j))))).put o.dst e0.val:=by rw[←happ e0.val e0.bind,←hdel]
          rw[happ0] at hok
          intro Q
          refine upon_mono (hok Q) ?_
          rintro a' w' ⟨ρ',hrep⟩
          refine⟨ρ',?_⟩
          cases hdo:o.dst with
          | none=>rw[hdo] at hrep;exact hrep
          | some d=>
           rw[hdo] at hrep
           have hdl:d<(σ.setObj HID (some (.store cf (.tget 1 (.sym j))))).tmps.length:=by rw[SState.tmps_setObj];exact hd d hdo
           refine⟨by simpa[SState.put_def] using hrep.size,fun t=>?_,hrep.objs,hrep.inj,hrep.own,hrep.cells,hrep.os,hrep.tape,hrep.output,hrep.grown,hrep.old,hrep.sub,hrep.new,hrep.nod,hrep.hold⟩
           have:=hrep.tmps t
           rw[SState.tmp_put hdl] at this ⊢
           split
           ·rename_i e;rw[if_pos e] at this;exact .cond hdef (fun _=>this) fun hn=>absurd ha hn
           ·rename_i e;rw[if_neg e] at this;exact this
         ·refine .inr ⟨by rw[←Bool.not_eq_true,hwant];exact ha,?_⟩
          obtain⟨bs,hbe,hst,_⟩:=h.objs _ _ hob
          have hna:¬actHolds env (act++[]):=by rw[List.append_nil];exact ha
          have hix:(E.tget 1 (.sym j)).eval env=some (.st bs):=by
           split at hbm
           ·rename_i g h' args rs hbe'
            rw[hbe'] at hb
            obtain⟨st,d,h2,g0,g1,_,g3⟩:=hb
            have:=E.same_eq hbm
            subst this
            rw[hbe] at g0
            cases g0
            simp only[E.eval,g1,Option.bind_some,D.tget,g3 hna]
            rfl
           ·rename_i x h' args rs hbe'
            rw[hbe'] at hb
            obtain⟨st,d,h2,g0,g1,_,g3⟩:=hb
            have:=E.same_eq hbm
            subst this
            rw[hbe] at g0
            cases g0
            simp only[E.eval,g1,Option.bind_some,D.tget,g3 hna]
            rfl
           ·cases hbm
          have hrep:=h.setStore (x':=.tget 1 (.sym j)) hob hro hix hst (Keeps.refl _ _) (Sets.le_refl _) rfl ⟨rfl,Nat.le_refl _⟩ rfl (Nat.le_refl _) (fun _ _ _=>rfl) (fun b hb=>⟨.inl hb,foot_lt h hob b hb⟩) (fun b o hs=>.inl hs) h.cells
          exact⟨_,hrep.put (by rw[SState.tmps_setObj];exact hd) (.cond hdef (fun hh=>absurd hh ha) fun _=>rfl)⟩
        ·cases hcw
       ·cases he
  ·cases hs
 ·cases hs

theorem rstep_defer {ops:Array Oper}{o:Oper}{ix:Nat}{x:SState×Option Bind}(hs:rstep P ops o σ ix=some x):noDefer o=true:=by
 unfold rstep at hs
 split at hs
 ·split at hs
  ·rename_i hc
   simp only[Bool.and_eq_true] at hc
   exact dstOk_defer hc.1
  ·cases hs
 ·cases hs

theorem app_len (σ:SState)(dst:Option Tmp)(e:Eff):(σ.app dst e).tmps.length=σ.tmps.length∧(σ.app dst e).mem.length=σ.mem.length:=by
 unfold SState.app SState.dels SState.sets
 cases e.del <;> cases e.upd <;> cases dst <;> simp[SState.put_def,SState.tmps_setObj,SState.mlen_setObj]

theorem rstep_len {ops:Array Oper}{o:Oper}{ix:Nat}{σ':SState}{b:Option Bind}(hs:rstep P ops o σ ix=some (σ',b)):σ'.tmps.length=σ.tmps.length∧σ'.mem.length=σ.mem.length:=by
 unfold rstep at hs
 split at hs
 ·split at hs
  ·cases hs;exact app_len _ _ _
  ·cases hs
 ·cases hs

def BindsOk (P:Program)(env:List D)(ix:Nat)(bs:List Bind):Prop:=∀i b,bs[i]? = some b→BindOk P env (ix+i) (some b)

end
end
end Go.Am

/-
 A region whose order is drawn: whatever the order,the state in the end is that of the text's order.
-/
namespace Go.Am
noncomputable section

/-! ## what an operation looks at -/

section congr
variable {P:Program} {obj obj':Nat→Option SObj} {ix:Nat}

theorem cellsOf_congr {agg:Bool}{n:Nat}{x:SV}(h:∀ob,x.avoids ob=false→obj ob=obj' ob):x.cellsOf agg n ix obj=x.cellsOf agg n ix obj':=by
 unfold SV.cellsOf
 split
 ·rfl
 ·cases x <;> try rfl
  ·rename_i y s;cases s <;> rfl
  ·rename_i o
   simp only
   rw[h o (by simp[SV.avoids])]

theorem lload_congr {t:TypeId}{x:SV}(h:∀ob,x.avoids ob=false→obj ob=obj' ob)(hh:(∃e s,x=.e e s)→obj HID=obj' HID):lload P t x obj ix=lload P t x obj' ix:=by
 unfold lload hOf
 cases x <;> try rfl
 ·rw[hh ⟨_,_,rfl⟩]
 ·rename_i ob off
  simp only
  rw[h ob (by simp[SV.avoids])]
 ·rename_i ob i sz off
  simp only
  rw[h ob (by simp[SV.avoids])]

theorem lstore_congr {t:TypeId}{x y:SV}(h:∀ob,x.avoids ob=false→obj ob=obj' ob)(h':∀ob,y.avoids ob=false→obj ob=obj' ob)(hh:(∃e s,x=.e e s)→obj HID=obj' HID):lstore P t x y obj ix=lstore P t x y obj' ix:=by
 unfold lstore
 have hc:∀agg n,y.cellsOf agg n ix obj=y.cellsOf agg n ix obj':=fun agg n=>cellsOf_congr h'
 cases x <;> try rfl
 ·rw[hh ⟨_,_,rfl⟩]
 ·rename_i ob off
  simp only[hc]
  rw[h ob (by simp[SV.avoids])]
 ·rename_i ob i sz off
  simp only
  rw[h ob (by simp[SV.avoids])]

theorem lindexAddr_congr {t:TypeId}{x i:SV}(h:∀ob,x.avoids ob=false→obj ob=obj' ob):lindexAddr P t x i obj ix=lindexAddr P t x i obj' ix:=by
 unfold lindexAddr
 cases x <;> try rfl
 rename_i ob
 simp only
 rw[h ob (by simp[SV.avoids])]

theorem llen_congr {t:TypeId}{x:SV}(h:∀ob,x.avoids ob=false→obj ob=obj' ob):llen P t x obj ix=llen P t x obj' ix:=by
 unfold llen
 cases x <;> try rfl
 rename_i ob
 simp only
 rw[h ob (by simp[SV.avoids])]

theorem lbox_congr {t:TypeId}{x:SV}{dst:Option Tmp}(h:∀ob,x.avoids ob=false→obj ob=obj' ob):lbox P t x dst obj ix=lbox P t x dst obj' ix:=by
 unfold lbox
 split
 ·rw[cellsOf_congr h]
 ·rfl

theorem cfOf_some {obj:Nat→Option SObj}{cf:StCfg}(h:cfOf obj=some cf):∃x,obj HID=some (.store cf x):=by
 unfold cfOf at h
 split at h
 ·rename_i x hx
  cases h
  exact⟨_,hx⟩
 ·cases h

theorem lstep_congr {o:Oper} {opv opv':List (E×Bool)→Operand→SV} {act:List (E×Bool)} (hv:∀act x,x∈o.op.operands→opv' act x=opv act x)
  (ho:∀x ob,x∈o.op.operands→(opv act x).avoids ob=false→obj ob=obj' ob) {m:Operand→Bool} (hM:∀act x,x∈o.op.operands→(∃e s,opv act x=.e e s)→m x=true) (hF:∀act g,opv act (.func g)=.func (.func g) []) (hC:cfOf obj=cfOf obj') (hH:usesHr o m (cfOf obj)=true→obj HID=obj' HID):lstep P o opv' act obj' ix=lstep P o opv act obj ix:=by
 unfold lstep
 unfold usesHr at hH
 generalize hop:o.op=op at *
 cases op <;> try rfl
 all_goals try simp only[Op.operands] at hv ho hM
 case move x=>simp[hv]
 case assign x=>simp[hv]
 case pick c a b=>simp[hv]
 case box t x=>simp only;rw[hv act x (by simp),lbox_congr (fun ob h=>ho x ob (by simp) h)]
 case load t x=>simp only;rw[hv act x (by simp),lload_congr (fun ob h=>ho x ob (by simp) h) (fun he=>hH (hM act x (by simp) he))]
 case store t x y=>simp only;rw[hv act x (by simp),hv act y (by simp),lstore_congr (fun ob h=>ho x ob (by simp) h) (fun ob h=>ho y ob (by simp) h) (fun he=>hH (hM act x (by simp) he))]
 case nilCheck x=>simp[hv]
 case binOp=>simp[hv]
 case unOp=>simp[hv]
 case convert=>simp[hv]
 case fieldAddr=>simp[hv]
 case indexAddr t x i=>simp only;rw[hv act x (by simp),hv act i (by simp),lindexAddr_congr (fun ob h=>ho x ob (by simp) h)]
 case extract=>simp[hv]
 case call c=>
  obtain⟨callee,args,ts⟩:=c
  simp only
  have hargs:∀x,x∈args→x∈(Call.mk callee args ts).operands:=by
   intro x hx
   unfold Call.operands
   simp
   cases callee <;> simp[hx]
  split
  ·split
   ·rename_i x t hx ht
    have:x∈args:=by
     have:x∈args.toList:=by rw[hx];simp
     simpa using this
    rw[hv act x (hargs x this),llen_congr (fun ob h=>ho x ob (hargs x this) h)]
   ·rfl
  rotate_left
  ·rename_i rc name
   have hr:rc∈(Call.mk (.invoke rc name) args ts).operands:=by
    unfold Call.operands
    simp
   rw[hv act rc hr]
   have:args.toList.map (opv' act)=args.toList.map (opv act):=List.map_congr_left fun x hx=>hv act x (hargs x (by simpa using hx))
   rw[this]
   have hHH:=hH rfl
   unfold linv lcall
   rw[hHH]
  rotate_left
  ·rename_i f
   have hf:f∈(Call.mk (.value f) args ts).operands:=by
    unfold Call.operands
    simp
   rw[hv act f hf]
   have:args.toList.map (opv' act)=args.toList.map (opv act):=List.map_congr_left fun x hx=>hv act x (hargs x (by simpa using hx))
   rw[this]
   cases hloc:locCall (cfOf obj) (.value f) with
   | false=>
    have hHH:=hH (by simp only[hloc];rfl)
    unfold lcall lcallv
    rw[hHH]
   | true=>
    unfold locCall at hloc
    split at hloc
    ·rename_i g hg
     cases hg
     split at hloc
     ·rename_i cf hcf
      rw[hF act g]
      simp only
      obtain⟨h1,e1⟩:=cfOf_some hcf
      obtain⟨h2,e2⟩:=cfOf_some (hC ▸ hcf)
      unfold lcall
      rw[e1,e2]
      split
      ·split
       ·rfl
       ·cases scalars P _ with
        | none=>rfl
        | some rs=>
         cases toEAll (List.map (opv act) args.toList) with
         | none=>rfl
         | some xs=>simp only[hloc,if_true]
      ·rfl
     ·cases hloc
    ·cases hloc
  ·rfl
 case build t parts=>
  simp only
  have h1:parts.toList.map (fun p=>(p.1,oneSV obj' (opv' act p.2)))=parts.toList.map fun p=>(p.1,oneSV obj (opv act p.2)):=List.map_congr_left fun p hp=>by
   have hm:p.2∈(parts.toList.map (·.2)).toArray:=by simp;exact⟨p.1,by simpa using hp⟩
   rw[hv act p.2 hm]
   congr 1
   unfold oneSV
   split <;> try rfl
   rename_i k hk
   rw[ho p.2 k hm (by rw[hk];simp[SV.avoids])]
  unfold lbuildS
  rw[h1]
 case makeFunc fn first caps=>
  simp only
  have h1:first.toList.map (opv' act)=first.toList.map (opv act):=List.map_congr_left fun x hx=>hv act x (by simp;exact .inl (by simpa using hx))
  have h2:caps.toList.map (opv' act)=caps.toList.map (opv act):=List.map_congr_left fun x hx=>hv act x (by simp;exact .inr (by simpa using hx))
  rw[h1,h2]

theorem lappend_congr {t:TypeId}{s x:SV}{dst:Option Tmp}(h:∀ob,s.avoids ob=false→obj ob=obj' ob):lappend P t s x dst obj ix=lappend P t s x dst obj' ix:=by
 unfold lappend
 split
 ·rename_i k _
  rw[h k (by simp[SV.avoids])]
 ·rfl

theorem lnew_congr {nz:Bool}{o:Oper}{opv opv':Operand→SV}(hv:∀x,x∈o.op.operands→opv' x=opv x)(ho:∀x ob,x∈o.op.operands→(opv x).avoids ob=false→obj ob=obj' ob):lnew nz P o opv' obj' ix=lnew nz P o opv obj ix:=by
 unfold lnew
 generalize hop:o.op=op at *
 cases op <;> try rfl
 case buildSlice t len parts=>
  simp only
  have:parts.toList.map (fun p=>opv' p.2)=parts.toList.map fun p=>opv p.2:=List.map_congr_left fun p hp=>hv p.2 (by simp only[Op.operands,List.mem_toArray,List.mem_map];exact⟨p,hp,rfl⟩)
  unfold llit
  rw[this]
 case makeSlice t n c=>simp only;rw[hv n (by simp[Op.operands]),hv c (by simp[Op.operands])]
 case call c=>
  obtain⟨callee,args,ts⟩:=c
  simp only[Op.operands] at hv ho ⊢
  have hargs:∀x,x∈args→x∈(Call.mk callee args ts).operands:=by
   intro x hx
   unfold Call.operands
   simp
   cases callee <;> simp[hx]
  split
  ·split
   ·rename_i s x t t' hx ht
    have h1:s∈args:=by
     have:s∈args.toList:=by rw[hx];simp
     simpa using this
    have h2:x∈args:=by
     have:x∈args.toList:=by rw[hx];simp
     simpa using this
    rw[hv s (hargs s h1),hv x (hargs x h2),lappend_congr (fun ob h=>ho s ob (hargs s h1) h)]
   ·rfl
  ·rfl

theorem nilsOf_congr (hC:cfOf obj=cfOf obj'):nilsOf obj'=nilsOf obj:=by unfold nilsOf;rw[hC]

theorem lpure2_congr {nz:Bool}{o:Oper}{opv opv':Operand→SV}(hv:∀x,x∈o.op.operands→opv' x=opv x):lpure2 P nz o opv' ix=lpure2 P nz o opv ix:=by
 unfold lpure2
 split
 ·rename_i t parts ho
  have:parts.toList.map (fun p=>(p.1,opv' p.2))=parts.toList.map fun p=>(p.1,opv p.2):=List.map_congr_left fun p hp=>by
   rw[hv p.2 (by rw[ho];simp only[Op.operands,List.mem_toArray,List.mem_map];exact⟨p,hp,rfl⟩)]
  unfold lbuild
  rw[this]
 ·rw[lext_congr hv,lpure_congr hv]

theorem ldat_congr {o:Oper}{opv opv':Operand→SV}{act:List (E×Bool)}(hv:∀x,x∈o.op.operands→opv' x=opv x)(hC:cfOf obj=cfOf obj'):ldat P o opv' act obj' ix=ldat P o opv act obj ix:=by
 unfold ldat
 generalize hop:o.op=op at *
 cases op <;> try (simp;done)
 case box t x=>
  have h2:=hv x (by simp[Op.operands])
  simp only[isDat,hC,h2]
 case buildSlice t len parts=>
  have:parts.toList.map (fun p=>opv' p.2)=parts.toList.map fun p=>opv p.2:=List.map_congr_left fun p hp=>hv p.2 (by simp only[Op.operands,List.mem_toArray,List.mem_map];exact⟨p,hp,rfl⟩)
  simp only[isDat,hC,llit,this]

theorem cfOf_eq (obj:Nat→Option SObj):cfOf obj=cfO (obj HID):=by
 unfold cfOf cfO
 split <;> rfl

theorem lpubC_congr {o:Oper}{opv opv':Operand→SV}{hO:Option SObj}(hv:∀x,x∈o.op.operands→opv' x=opv x):lpubC P o opv' hO ix=lpubC P o opv hO ix:=by
 unfold lpubC
 generalize hop:o.op=op at *
 cases op <;> try rfl
 case box t x=>simp only[hv x (by simp[Op.operands])]
 case makeSlice t n c=>simp only[hv n (by simp[Op.operands]),hv c (by simp[Op.operands])]
 case buildSlice t len parts=>
  have:parts.toList.map (fun p=>opv' p.2)=parts.toList.map fun p=>opv p.2:=List.map_congr_left fun p hp=>hv p.2 (by simp only[Op.operands,List.mem_toArray,List.mem_map];exact⟨p,hp,rfl⟩)
  simp only[llit,this]
 case call c=>
  obtain⟨callee,args,ts⟩:=c
  have hargs:∀x,x∈args.toList→opv' x=opv x:=fun x hx=>hv x (by
   have:x∈args:=by simpa using hx
   simp only[Op.operands,Call.operands]
   simp
   cases callee <;> simp[this])
  simp only
  split
  ·split
   ·rfl
   ·split
    ·split
     ·rename_i s x t t' hx _
      rw[hargs s (by rw[hx];simp),hargs x (by rw[hx];simp)]
     ·rfl
    ·rfl
  ·rfl

theorem lpubC_store {o:Oper}{opv:Operand→SV}{hO hO':Option SObj}{m:Operand→Bool}(hC:cfO hO=cfO hO')(hM:∀x,x∈o.op.operands→(∃e s,opv x=.e e s)→m x=true)(hH:usesHr o m (cfO hO)=true→hO=hO'):lpubC P o opv hO' ix=lpubC P o opv hO ix:=by
 have other:∀{hO:Option SObj},cfO hO=none→lpubC P o opv hO ix=none:=by
  intro hO h
  unfold lpubC
  split
  ·simp[cfO] at h
  ·rfl
 cases hc:cfO hO with
 | none=>rw[other hc,other (hC ▸ hc)]
 | some cf=>
  obtain⟨h1,rfl⟩:∃h1,hO=some (.store cf h1):=by
   unfold cfO at hc
   split at hc
   ·cases hc;exact⟨_,rfl⟩
   ·cases hc
  obtain⟨h2,rfl⟩:∃h2,hO'=some (.store cf h2):=by
   rw[hc] at hC
   unfold cfO at hC
   split at hC
   ·cases hC;exact⟨_,rfl⟩
   ·cases hC
  simp only[cfO] at hH
  unfold lpubC
  unfold usesHr at hH
  generalize hop:o.op=op at *
  cases hd:o.dst with
  | none=>rfl
  | some d=>
   rw[hd] at hH
   have pub:∀{α:Type} {A B:Option α},(cf.pubs.contains d=true→(some (SObj.store cf h1)=some (SObj.store cf h2)))→(h1=h2→A=B)→(if cf.pubs.contains d=true then A else none)=(if cf.pubs.contains d=true then B else none):=by
    intro α A B h3 h4
    split
    ·rename_i hp
     have:=h3 hp
     simp only[Option.some.injEq,SObj.store.injEq,true_and] at this
     exact h4 this
    ·rfl
   by_cases hro:cf.ro=true
   ·simp only[hro,if_true]
   simp only[hro]
   cases op <;> try rfl
   case alloc t=>exact pub hH fun e=>by subst e;rfl
   case box t x=>exact pub hH fun e=>by subst e;rfl
   case makeSlice t n c=>exact pub hH fun e=>by subst e;rfl
   case buildSlice t len parts=>exact pub hH fun e=>by subst e;rfl
   case call c=>
    obtain⟨callee,args,ts⟩:=c
    cases callee <;> try rfl
    rename_i b
    cases b <;> try rfl
    simp only at hH ⊢
    have key:∀s r,args.toList=s :: r→(∃e q,nilS s (opv s)=.e e q)→h1=h2:=by
     intro s r hx he
     have hm:(m s||nilOp s)=true:=by
      by_cases hn:nilOp s=true
      ·simp[hn]
      ·rw[nilS,if_neg hn] at he
       rw[hM s (by
        have:s∈args:=by
         have:s∈args.toList:=by rw[hx];simp
         simpa using this
        simp only[Op.operands,Call.operands]
        simp[this]) he]
       rfl
     rw[hx] at hH
     have:=hH hm
     simpa using this
    clear hH
    cases hx:args.toList with
    | nil=>rfl
    | cons s r=>
     have key:=key s r hx
     cases hs:nilS s (opv s) with
     | e e q=>
      have:=key ⟨_,_,hs⟩
      subst this
      rfl
     | _=>
      cases r with
      | nil=>rfl
      | cons x r=>
       cases r with
       | cons _ _=>rfl
       | nil=>
        cases ht:ts.toList with
        | nil=>rfl
        | cons t q=>
         cases q with
         | nil=>rfl
         | cons t' q=>
          cases q with
          | cons _ _=>rfl
          | nil=>simp only[hs]

theorem lpub_congr {o:Oper}{opv opv':Operand→SV}(hv:∀x,x∈o.op.operands→opv' x=opv x){m:Operand→Bool}(hM:∀x,x∈o.op.operands→(∃e s,opv x=.e e s)→m x=true)(hC:cfOf obj=cfOf obj')(hH:usesHr o m (cfOf obj)=true→obj HID=obj' HID):lpub P o opv' obj' ix=lpub P o opv obj ix:=by
 unfold lpub
 split
 ·rw[lpubC_congr hv]
  rw[cfOf_eq,cfOf_eq] at hC
  rw[cfOf_eq] at hH
  exact lpubC_store hC hM hH
 ·rfl

theorem lmapC_congr {o:Oper}{opv opv':Operand→SV}(hv:∀x,x∈o.op.operands→opv' x=opv x){m:Operand→Bool}(hC:cfOf obj=cfOf obj')(hH:usesHr o m (cfOf obj)=true→obj HID=obj' HID):lmapC P o opv' (obj' HID) ix=lmapC P o opv (obj HID) ix:=by
 have none2:∀{hO hO':Option SObj},cfO hO=cfO hO'→(∀cf h,hO=some (.store cf h)→∀h',lmapC P o opv' (some (.store cf h')) ix=lmapC P o opv (some (.store cf h)) ix)→lmapC P o opv' hO' ix=lmapC P o opv hO ix:=by
  intro hO hO' hc hs
  cases hcf:cfO hO with
  | none=>
   have other:∀{opv:Operand→SV} {hO:Option SObj},cfO hO=none→lmapC P o opv hO ix=none:=by
    intro opv hO h
    unfold lmapC
    split
    ·simp[cfO] at h
    ·rfl
   rw[other hcf,other (hc ▸ hcf)]
  | some cf=>
   obtain⟨h1,rfl⟩:∃h1,hO=some (.store cf h1):=by
    unfold cfO at hcf
    split at hcf
    ·cases hcf;exact⟨_,rfl⟩
    ·cases hcf
   obtain⟨h2,rfl⟩:∃h2,hO'=some (.store cf h2):=by
    rw[hcf] at hc
    unfold cfO at hc
    split at hc
    ·cases hc;exact⟨_,rfl⟩
    ·cases hc
   exact hs cf h1 rfl h2
 have same:usesHr o m (cfOf obj)=true→lmapC P o opv' (obj' HID) ix=lmapC P o opv (obj HID) ix:=by
  intro hu
  rw[hH hu]
  unfold lmapC
  generalize hop:o.op=op at *
  cases op <;> try rfl
  case mapUpdate t m k x=>simp only[hv m (by simp[Op.operands]),hv k (by simp[Op.operands]),hv x (by simp[Op.operands])]
  case insert t m k x=>simp only[hv m (by simp[Op.operands]),hv k (by simp[Op.operands]),hv x (by simp[Op.operands])]
  case makeMap t r=>cases r <;> rfl
  case lookup t m k ok=>simp only[hv m (by simp[Op.operands]),hv k (by simp[Op.operands])]
  case range t m=>simp only[hv m (by simp[Op.operands])]
  case entry it=>simp only[hv it (by simp[Op.operands])]
  case mapEntry t m k=>simp only[hv m (by simp[Op.operands]),hv k (by simp[Op.operands])]
  case entryStore t m s x=>simp only[hv m (by simp[Op.operands]),hv s (by simp[Op.operands]),hv x (by simp[Op.operands])]
  case call c=>
   obtain⟨callee,args,ts⟩:=c
   cases callee <;> try rfl
   rename_i b
   cases b <;> try rfl
   case delete=>
    simp only
    match hx:args.toList with
    | [x,y]=>
     have mem:∀z,z∈[x,y]→z∈(Op.call ⟨.builtin .delete,args,ts⟩).operands:=fun z hz=>by
      have:z∈args:=by
       have:z∈args.toList:=by rw[hx];exact hz
       simpa using this
      simp only[Op.operands,Call.operands]
      simp[this]
     have hvx:=hv x (mem x (by simp))
     have hvy:=hv y (mem y (by simp))
     match ts.toList with
     | t :: _=>simp only[hvx,hvy]
     | []=>rfl
    | []=>rfl
    | [_]=>rfl
    | _ :: _ :: _ :: _=>rfl
   simp only
   match hx:args.toList with
   | [x]=>
    have hvx:=hv x (by
     have:x∈args:=by
      have:x∈args.toList:=by rw[hx];simp
      simpa using this
     simp only[Op.operands,Call.operands]
     simp[this])
    match ts.toList with
    | [t]=>simp only[hvx]
    | []=>rfl
    | _ :: _ :: _=>rfl
   | []=>rfl
   | _ :: _ :: _=>rfl
 rw[cfOf_eq,cfOf_eq] at hC
 cases hop:o.op
 case makeMap=>exact same (by unfold usesHr;rw[hop])
 case mapUpdate=>exact same (by unfold usesHr;rw[hop])
 case insert=>exact same (by unfold usesHr;rw[hop])
 case lookup=>exact same (by unfold usesHr;rw[hop])
 case range=>exact same (by unfold usesHr;rw[hop])
 case entry=>exact same (by unfold usesHr;rw[hop])
 case mapEntry=>exact same (by unfold usesHr;rw[hop])
 case entryStore=>exact same (by unfold usesHr;rw[hop])
 case call c=>
  by_cases hu:usesHr o m (cfOf obj)=true
  ·exact same hu
  ·refine none2 hC fun cf' h e h'=>?_
   unfold usesHr at hu
   rw[hop,cfOf_eq,e] at hu
   have off:∀{opv:Operand→SV} {h:E},lmapC P o opv (some (.store cf' h)) ix=none:=by
    intro opv h
    unfold lmapC
    rw[hop]
    simp only
    split
    ·rename_i hb
     simp only[hb,cfO,Bool.not_eq_true] at hu
     split
     ·rename_i x t _ ht
      rw[ht] at hu
      simp only[List.any_cons,List.any_nil,Bool.or_false] at hu
      rw[if_neg (by rw[hu];simp)]
     ·rfl
    ·rename_i hb
     simp[hb] at hu
    ·rfl
   rw[off,off]
 all_goals exact none2 hC fun cf h _ h'=>by unfold lmapC;rw[hop]

theorem lstrC_congr {o:Oper}{opv opv':Operand→SV}(hv:∀x,x∈o.op.operands→opv' x=opv x){m:Operand→Bool}(hH:usesHr o m (cfOf obj)=true→obj HID=obj' HID):lstrC P o opv' (obj' HID) ix=lstrC P o opv (obj HID) ix:=by
 have off:∀{opv:Operand→SV} {hO:Option SObj},(∀t m,o.op≠.range t m)→(∀it,o.op≠.next it true)→lstrC P o opv hO ix=none:=by
  intro opv hO h1 h2
  unfold lstrC
  split
  ·split
   ·rfl
   ·split
    ·rename_i h;exact absurd h (h1 _ _)
    ·rename_i h;exact absurd h (h2 _)
    ·rfl
  ·rfl
 by_cases h1:∃t x,o.op=.range t x
 ·obtain⟨t,x,h1⟩:=h1
  rw[hH (by unfold usesHr;rw[h1])]
  unfold lstrC
  rw[h1]
  simp only[hv x (by rw[h1];simp[Op.operands])]
 ·by_cases h2:∃x,o.op=.next x true
  ·obtain⟨x,h2⟩:=h2
   rw[hH (by unfold usesHr;rw[h2])]
   unfold lstrC
   rw[h2]
   simp only[hv x (by rw[h2];simp[Op.operands])]
  ·rw[off (fun t x h=>h1 ⟨t,x,h⟩) (fun x h=>h2 ⟨x,h⟩),off (fun t x h=>h1 ⟨t,x,h⟩) (fun x h=>h2 ⟨x,h⟩)]

theorem lextC_congr {o:Oper}{opv opv':Operand→SV}(hv:∀x,x∈o.op.operands→opv' x=opv x){m:Operand→Bool}(hM:∀x,x∈o.op.operands→(∃e s,opv x=.e e s)→m x=true)(hC:cfOf obj=cfOf obj')(hH:usesHr o m (cfOf obj)=true→obj HID=obj' HID):lextC P o opv' (obj' HID) ix=lextC P o opv (obj HID) ix:=by
 have sameO:∀hO:Option SObj,lextC P o opv' hO ix=lextC P o opv hO ix:=by
  intro hO
  unfold lextC
  generalize hop:o.op=op at *
  split
  ·cases op <;> try rfl
   case convert s t x=>simp only[hv x (by simp[Op.operands])]
   case indexAddr t x i=>cases x <;> first | rfl | simp only[hv i (by simp[Op.operands])]
   case call c=>
    obtain⟨callee,args,ts⟩:=c
    have hargs:∀x,x∈args.toList→opv' x=opv x:=fun x hx=>hv x (by
     simp only[Op.operands,Call.operands]
     have:x∈args:=by simpa using hx
     simp[this])
    cases callee <;> try rfl
    rename_i b
    cases b <;> try rfl
    all_goals
     simp only
     cases hl:args.toList with
     | nil=>rfl
     | cons x r=>
      cases r with
      | nil=>rfl
      | cons y r=>
       cases r with
       | cons _ _=>rfl
       | nil=>
        have hx:=hargs x (by rw[hl];simp)
        have hy:=hargs y (by rw[hl];simp)
        have hap:∀cf h t t',lappS P cf h x opv' (opv' y) t t' ix=lappS P cf h x opv (opv y) t t' ix:=by
         intro cf h t t'
         unfold lappS
         rw[hx,hy]
        cases ts.toList with
        | nil=>rfl
        | cons t q=>
         cases q with
         | nil=>rfl
         | cons t' q=>
          cases q with
          | cons _ _=>rfl
          | nil=>first | (simp only[hx,hy];done) | exact hap _ _ _ _
  ·rfl
 rw[sameO]
 by_cases hu:usesHr o m (cfOf obj)=true
 ·rw[hH hu]
 ·rw[cfOf_eq,cfOf_eq] at hC
  rw[cfOf_eq] at hu
  cases hcf:cfO (obj HID) with
  | none=>
   have other:∀{hO:Option SObj},cfO hO=none→lextC P o opv hO ix=none:=by
    intro hO h
    unfold lextC
    split
    ·simp[cfO] at h
    ·rfl
   rw[other hcf,other (hC ▸ hcf)]
  | some cf=>
   obtain⟨h1,e1⟩:∃h1,obj HID=some (.store cf h1):=by
    unfold cfO at hcf
    split at hcf
    ·rename_i e;cases hcf;exact⟨_,e⟩
    ·cases hcf
   obtain⟨h2,e2⟩:∃h2,obj' HID=some (.store cf h2):=by
    rw[hcf] at hC
    unfold cfO at hC
    split at hC
    ·rename_i e;cases hC;exact⟨_,e⟩
    ·cases hC
   rw[e1,e2]
   rw[hcf] at hu
   unfold usesHr at hu
   unfold lextC
   generalize hop:o.op=op at *
   cases op <;> try rfl
   case convert s t x=>
    simp only at hu ⊢
    have:pubD cf o=false:=by
     unfold pubD
     cases hd:o.dst with
     | none=>rfl
     | some d=>rw[hd] at hu;simpa using hu
    simp only[this]
    rfl
   case indexAddr t x i=>
    cases x <;> first | rfl | exact absurd rfl hu
   case call c=>
    obtain⟨callee,args,ts⟩:=c
    cases callee <;> try rfl
    rename_i b
    cases b <;> first | rfl | exact absurd rfl hu | skip
    simp only at hu ⊢
    cases hl:args.toList with
    | nil=>rfl
    | cons s r=>
     rw[hl] at hu
     simp only[Bool.or_eq_true,not_or,Bool.not_eq_true] at hu
     have hn:∀h,∀x t t',lappS P cf h s opv x t t' ix=none:=by
      intro h x t t'
      unfold lappS
      split
      ·rfl
      ·split
       ·rename_i s' sb _ _ hs _ _ _
        rw[nilS,if_neg (by simp[hu.2])] at hs
        have:=hM s (by
         simp only[Op.operands,Call.operands]
         have:s∈args:=by
          have:s∈args.toList:=by rw[hl];simp
          simpa using this
         simp[this]) ⟨_,_,hs⟩
        rw[hu.1] at this
        cases this
       ·rfl
     cases r with
     | nil=>rfl
     | cons x r=>
      cases r with
      | cons _ _=>rfl
      | nil=>
       cases ts.toList with
       | nil=>rfl
       | cons t q=>
        cases q with
        | nil=>rfl
        | cons t' q=>
         cases q with
         | cons _ _=>rfl
         | nil=>simp only[hn]

theorem lcloO_congr {o:Oper}{opv opv':Operand→SV}(hv:∀x,x∈o.op.operands→opv' x=opv x){m:Operand→Bool}(hC:cfOf obj=cfOf obj')(hH:usesHr o m (cfOf obj)=true→obj HID=obj' HID):lclo P o opv' (obj' HID) ix=lclo P o opv (obj HID) ix:=by
 rw[lclo_congr hv]
 by_cases hu:usesHr o m (cfOf obj)=true
 ·rw[hH hu]
 ·rw[cfOf_eq,cfOf_eq] at hC
  rw[cfOf_eq] at hu
  have none1:∀hO:Option SObj,usesHr o m (cfO hO)≠true→lclo P o opv hO ix=none:=by
   intro hO hn
   unfold lclo
   split
   ·rename_i cf h
    split
    ·rename_i c ho
     obtain⟨callee,args,ts⟩:=c
     split
     ·rename_i f x hcal _
      simp only at hcal
      subst hcal
      split
      ·rename_i hc
       refine absurd ?_ hn
       unfold usesHr
       rw[ho]
       have:=hc.2.2
       simp only[cfO,locCall,this]
       rfl
      ·rfl
     ·rfl
    ·rfl
   ·rfl
  rw[none1 _ hu,none1 _ (hC ▸ hu)]

theorem lmap_congr {o:Oper}{opv opv':Operand→SV}(hv:∀x,x∈o.op.operands→opv' x=opv x){m:Operand→Bool}(hM:∀x,x∈o.op.operands→(∃e s,opv x=.e e s)→m x=true)(hC:cfOf obj=cfOf obj')(hH:usesHr o m (cfOf obj)=true→obj HID=obj' HID):lmap P o opv' obj' ix=lmap P o opv obj ix:=by
 unfold lmap
 split
 ·rw[lmapC_congr hv hC hH,lstrC_congr hv hH,lextC_congr hv hM hC hH,lcloO_congr hv hC hH]
 ·rfl

theorem lbuildXo_congr {o:Oper}{opv opv':Operand→SV}(hv:∀x,x∈o.op.operands→opv' x=opv x)(ho:∀x ob,x∈o.op.operands→(opv x).avoids ob=false→obj ob=obj' ob):lbuildXo P o opv' obj' ix=lbuildXo P o opv obj ix:=by
 unfold lbuildXo
 split
 ·rename_i t parts hop
  have h1:partsX obj' opv' parts.toList=partsX obj opv parts.toList:=List.map_congr_left fun p hp=>by
   have hm:p.2∈o.op.operands:=by rw[hop];simp only[Op.operands,List.mem_toArray,List.mem_map];exact⟨p,hp,rfl⟩
   rw[hv p.2 hm]
   congr 2
   unfold oneSV
   split <;> try rfl
   rename_i k hk
   rw[ho p.2 k hm (by rw[hk];simp[SV.avoids])]
  rw[h1]
 ·rfl

theorem estep_congr {o:Oper} {opv opv':List (E×Bool)→Operand→SV} {act:List (E×Bool)} (hv:∀act x,x∈o.op.operands→opv' act x=opv act x)
  (ho:∀act x ob,x∈o.op.operands→(opv act x).avoids ob=false→obj ob=obj' ob) {m:Operand→Bool} (hM:∀act x,x∈o.op.operands→(∃e s,opv act x=.e e s)→m x=true) (hF:∀act g,opv act (.func g)=.func (.func g) []) (hC:cfOf obj=cfOf obj') (hH:usesHr o m (cfOf obj)=true→obj HID=obj' HID):estep P o opv' act obj' ix=estep P o opv act obj ix:=by
 unfold estep
 rw[ldat_congr (hv act) hC,lpub_congr (hv []) (hM []) hC hH,lmap_congr (hv act) (hM act) hC hH,nilsOf_congr hC,lnew_congr (hv []) (ho []),lpure2_congr (hv act),lbuildXo_congr (hv act) (ho act),lstep_congr hv (ho act) hM hF hC hH]

end congr

end
end Go.Am

/-
 A region whose order is drawn: states by the set of what is done.
-/
namespace Go.Am
noncomputable section

structure Rec where
 eff:Eff
 seen:List SV
 ix:Nat
 deriving Inhabited

def dstAt (ops:Array Oper)(j:Nat):Option Tmp:=(ops[j]?).bind (·.dst)
def effAt (R:List Rec)(j:Nat):Eff:=((R[j]?).map (·.eff)).getD ⟨.junk,none,none,none⟩

def Eff.targets (e:Eff):List Nat:=(match e.upd with | some u=>[u.1] | none=>[])++(match e.del with | some k=>[k] | none=>[])

def runTo (ops:Array Oper)(R:List Rec)(D:Nat→Bool)(σ:SState):Nat→SState
 | 0=>σ
 | n+1=>if D n=true then(runTo ops R D σ n).app (dstAt ops n) (effAt R n) else runTo ops R D σ n

def seenOf (ops:Array Oper)(o:Oper)(σ:SState):List SV:=(o.looksAt ops).map σ.tmp++(if usesHr o (fun x=>(σ.opd x).mayE) (cfOf σ.obj) then[.slc HID] else[])

def drun (P:Program)(ops:Array Oper):List Oper→SState→Nat→Option (SState×List Bind×List Rec)
 | [],σ,_=>some (σ,[],[])
 | o :: r,σ,ix=>match reff P ops o σ ix with
  | none=>none
  | some e=>match e.bind with
   | none=>(drun P ops r (σ.app o.dst e) ix).map fun x=>(x.1,x.2.1,⟨e,seenOf ops o σ,ix⟩ :: x.2.2)
   | some b=>(drun P ops r (σ.app o.dst e) (ix+1)).map fun x=>(x.1,b :: x.2.1,⟨e,seenOf ops o σ,ix⟩ :: x.2.2)

/-! ## states -/

theorem runTo_len (ops:Array Oper)(R:List Rec)(D:Nat→Bool)(σ:SState):∀n,(runTo ops R D σ n).tmps.length=σ.tmps.length∧(runTo ops R D σ n).mem.length=σ.mem.length
 | 0=>⟨rfl,rfl⟩
 | n+1=>by
  have h:=runTo_len ops R D σ n
  unfold runTo
  split
  ·have:=app_len (runTo ops R D σ n) (dstAt ops n) (effAt R n)
   exact⟨this.1.trans h.1,this.2.trans h.2⟩
  ·exact h

theorem tmp_put_ne {σ:SState}{dst:Option Tmp}{sv:SV}{t:Nat}(h:dst≠some t):(σ.put dst sv).tmp t=σ.tmp t:=by
 cases dst with
 | none=>rfl
 | some d=>
  have:d≠t:=fun e=>h (by rw[e])
  simp[SState.put_def,SState.tmp_def,List.getD_eq_getElem?_getD,this]

theorem tmp_put_eq {σ:SState}{sv:SV}{t:Nat}:(σ.put (some t) sv).tmp t=if t<σ.tmps.length then sv else .junk:=by
 simp only[SState.put_def,SState.tmp_def,List.getD_eq_getElem?_getD,List.getElem?_set]
 simp only[if_true]
 split <;> rfl

theorem dels_tmp (σ:SState)(k:Option Nat)(t:Nat):(σ.dels k).tmp t=σ.tmp t:=by cases k;rfl;exact σ.tmp_setObj _ _ t
theorem sets_tmp (σ:SState)(u:Option (Nat×SObj))(t:Nat):(σ.sets u).tmp t=σ.tmp t:=by cases u;rfl;exact σ.tmp_setObj _ _ t
theorem dels_tmps (σ:SState)(k:Option Nat):(σ.dels k).tmps=σ.tmps:=by cases k;rfl;exact σ.tmps_setObj _ _
theorem sets_tmps (σ:SState)(u:Option (Nat×SObj)):(σ.sets u).tmps=σ.tmps:=by cases u;rfl;exact σ.tmps_setObj _ _

theorem app_tmp_ne {σ:SState}{dst:Option Tmp}{e:Eff}{t:Nat}(h:dst≠some t):(σ.app dst e).tmp t=σ.tmp t:=by
 unfold SState.app
 rw[tmp_put_ne h,sets_tmp,dels_tmp]

theorem app_tmp_eq {σ:SState}{e:Eff}{t:Nat}:(σ.app (some t) e).tmp t=if t<σ.tmps.length then e.val else .junk:=by
 unfold SState.app
 rw[tmp_put_eq,sets_tmps,dels_tmps]

theorem obj_setObj_ne {σ:SState}{o o':Nat}{x:Option SObj}(h:o≠o'):(σ.setObj o x).obj o'=σ.obj o':=σ.obj_setObj_ne x (Ne.symm h)

theorem obj_setObj_eq {σ:SState}{o:Nat}{x:Option SObj}:(σ.setObj o x).obj o=if o=HID∨o<σ.mem.length then x else none:=by
 split
 ·rename_i h;rw[SState.obj_setObj' h,if_pos rfl]
 ·rename_i h
  rw[not_or] at h
  simp only[SState.setObj_def,SState.obj_def]
  simp only[h.1,if_false,List.getD_eq_getElem?_getD]
  rw[List.getElem?_eq_none (by simpa using h.2)]
  rfl

theorem setObj_len (σ:SState)(o:Nat)(x:Option SObj):(σ.setObj o x).mem.length=σ.mem.length:=σ.mlen_setObj o x
theorem dels_len (σ:SState)(k:Option Nat):(σ.dels k).mem.length=σ.mem.length:=by cases k <;> simp[SState.dels,SState.mlen_setObj]

theorem app_obj_ne {σ:SState}{dst:Option Tmp}{e:Eff}{ob:Nat}(h:ob∉e.targets):(σ.app dst e).obj ob=σ.obj ob:=by
 unfold SState.app
 rw[SState.obj_put]
 unfold Eff.targets at h
 cases hu:e.upd with
 | none=>
  cases hk:e.del with
  | none=>rfl
  | some k=>
   rw[hu,hk] at h
   simp only[SState.sets,SState.dels]
   exact obj_setObj_ne fun e=>h (by simp[e])
 | some u=>
  rw[hu] at h
  simp only[SState.sets]
  rw[obj_setObj_ne fun e=>h (by simp[e])]
  cases hk:e.del with
  | none=>rfl
  | some k=>
   rw[hk] at h
   simp only[SState.dels]
   exact obj_setObj_ne fun e=>h (by simp[e])

theorem app_obj_eq {σ τ:SState}{dst:Option Tmp}{e:Eff}{ob:Nat}(h:ob∈e.targets)(hl:σ.mem.length=τ.mem.length):(σ.app dst e).obj ob=(τ.app dst e).obj ob:=by
 unfold SState.app
 rw[SState.obj_put,SState.obj_put]
 unfold Eff.targets at h
 have hdel:∀(e':Eff),e'.del=e.del→(∃k,e.del=some k∧k=ob)→(σ.dels e.del).obj ob=(τ.dels e.del).obj ob:=by
  rintro _ _ ⟨k,hk,rfl⟩
  rw[hk]
  simp only[SState.dels]
  rw[obj_setObj_eq,obj_setObj_eq,hl]
 cases hu:e.upd with
 | none=>
  rw[hu] at h
  cases hk:e.del with
  | none=>rw[hk] at h;simp at h
  | some k=>
   rw[hk] at h
   simp only[SState.sets]
   have:=hdel e rfl ⟨k,hk,by simp at h;exact h.symm⟩
   rwa [hk] at this
 | some u=>
  rw[hu] at h
  simp only[SState.sets]
  by_cases hob:u.1=ob
  ·subst hob
   rw[obj_setObj_eq,obj_setObj_eq,dels_len,dels_len,hl]
  ·rw[obj_setObj_ne hob,obj_setObj_ne hob]
   cases hk:e.del with
   | none=>rw[hk] at h;simp at h;exact absurd h.symm hob
   | some k=>
    rw[hk] at h
    have:=hdel e rfl ⟨k,hk,by simp at h;exact(h.resolve_left fun e=>hob e.symm).symm⟩
    rwa [hk] at this

section
variable {ops:Array Oper} {R:List Rec} {D D':Nat→Bool} {σ:SState}

theorem runTo_tmp {t:Nat}:∀n,(∀j,j<n→dstAt ops j=some t→D j=D' j)→(runTo ops R D σ n).tmp t=(runTo ops R D' σ n).tmp t
 | 0,_=>rfl
 | n+1,h=>by
  have ih:=runTo_tmp n fun j hj=>h j (by omega)
  unfold runTo
  by_cases hd:dstAt ops n=some t
  ·rw[←h n (by omega) hd]
   split
   ·rw[hd,app_tmp_eq,app_tmp_eq,(runTo_len ..).1,(runTo_len ..).1]
   ·exact ih
  ·split <;> split <;> (try simp only[app_tmp_ne hd]) <;> exact ih

theorem runTo_obj {ob:Nat}:∀n,(∀j,j<n→ob∈(effAt R j).targets→D j=D' j)→(runTo ops R D σ n).obj ob=(runTo ops R D' σ n).obj ob
 | 0,_=>rfl
 | n+1,h=>by
  have ih:=runTo_obj n fun j hj=>h j (by omega)
  unfold runTo
  by_cases hd:ob∈(effAt R n).targets
  ·rw[←h n (by omega) hd]
   split
   ·exact app_obj_eq hd (by rw[(runTo_len ..).2,(runTo_len ..).2])
   ·exact ih
  ·split <;> split <;> (try simp only[app_obj_ne hd]) <;> exact ih

theorem runTo_congr:∀n,(∀j,j<n→D j=D' j)→runTo ops R D σ n=runTo ops R D' σ n
 | 0,_=>rfl
 | n+1,h=>by
  unfold runTo
  rw[runTo_congr n fun j hj=>h j (by omega),h n (by omega)]

theorem runTo_below {i : Nat} : ∀ n, i ≤ n → (∀ j, j < n → i ≤ j → D j = false) → runTo ops R D σ n = runTo ops R D σ i
  | 0, h, _ => by have : i = 0 := by omega
                  subst this; rfl
  | n + 1, h, hD => by
    rcases Nat.lt_or_ge i (n + 1) with hlt | hge
    · unfold runTo
      rw [hD n (by omega) (by omega)]
      simp only [Bool.false_eq_true, if_false]
      rw [runTo_below n (by omega) fun j hj => hD j (by omega)]
      cases i <;> rfl
    · have : i = n + 1 := by omega
      subst this; rfl

theorem runTo_tmp_at {i n t:Nat}(hi:i≤n)(h:∀j,j<n→dstAt ops j=some t→D j=decide (j<i)):(runTo ops R D σ n).tmp t=(runTo ops R (fun _=>true) σ i).tmp t:=by
 rw[runTo_tmp (D':=fun j=>decide (j<i)) n h,runTo_below n hi (fun j _ hj=>by simp;omega),runTo_congr (D':=fun _=>true) i (fun j hj=>by simp[hj])]

theorem runTo_obj_at {i n ob:Nat}(hi:i≤n)(h:∀j,j<n→ob∈(effAt R j).targets→D j=decide (j<i)):(runTo ops R D σ n).obj ob=(runTo ops R (fun _=>true) σ i).obj ob:=by
 rw[runTo_obj (D':=fun j=>decide (j<i)) n h,runTo_below n hi (fun j _ hj=>by simp;omega),runTo_congr (D':=fun _=>true) i (fun j hj=>by simp[hj])]

theorem setObj_comm (σ:SState){o o':Nat}(x y:Option SObj)(h:o≠o'):(σ.setObj o x).setObj o' y=(σ.setObj o' y).setObj o x:=by
 simp only[SState.setObj_def]
 by_cases h1:o=HID <;> by_cases h2:o'=HID
 ·exact absurd (h1.trans h2.symm) h
 ·simp[h1,h2]
 ·simp[h1,h2]
 ·simp only[h1,h2,if_false]
  rw[List.set_comm _ _ h]

theorem put_comm (σ:SState){d d':Option Tmp}(x y:SV)(h:∀t,d=some t→d'≠some t):(σ.put d x).put d' y=(σ.put d' y).put d x:=by
 cases d with
 | none=>rfl
 | some t=>cases d' with
  | none=>rfl
  | some t'=>
   have:t≠t':=fun e=>h t rfl (by rw[e])
   simp[SState.put_def,List.set_comm _ _ this]

theorem put_setObj (σ:SState)(d:Option Tmp)(x:SV)(o:Nat)(y:Option SObj):(σ.put d x).setObj o y=(σ.setObj o y).put d x:=by
 simp only[SState.setObj_def]
 cases d <;> simp only[SState.put_def] <;> split <;> rfl

def setsL (σ:SState)(l:List (Nat×Option SObj)):SState:=l.foldl (fun σ u=>σ.setObj u.1 u.2) σ

theorem setsL_setObj {o:Nat}{x:Option SObj}:∀{l:List (Nat×Option SObj)} {σ:SState},(∀u,u∈l→u.1≠o)→(setsL σ l).setObj o x=setsL (σ.setObj o x) l
 | [],_,_=>rfl
 | u :: l,σ,h=>by
  have:=setsL_setObj (o:=o) (x:=x) (l:=l) (σ:=σ.setObj u.1 u.2) fun v hv=>h v (by simp[hv])
  simp only[setsL,List.foldl_cons] at this ⊢
  rw[this,setObj_comm _ _ _ (h u (by simp))]

theorem setsL_comm:∀{l l':List (Nat×Option SObj)} {σ:SState},(∀u u',u∈l→u'∈l'→u.1≠u'.1)→setsL (setsL σ l) l'=setsL (setsL σ l') l
 | l,[],_,_=>rfl
 | l,u :: l',σ,h=>by
  have h1:setsL (setsL σ l) (u :: l')=setsL ((setsL σ l).setObj u.1 u.2) l':=rfl
  have h2:setsL σ (u :: l')=setsL (σ.setObj u.1 u.2) l':=rfl
  rw[h1,h2,setsL_setObj fun v hv=>h v u hv (by simp),setsL_comm fun v v' hv hv'=>h v v' hv (by simp[hv'])]

def Eff.list (e:Eff):List (Nat×Option SObj):=(match e.del with | some k=>[(k,none)] | none=>[])++(match e.upd with | some u=>[(u.1,some u.2)] | none=>[])

theorem app_list (σ:SState)(dst:Option Tmp)(e:Eff):σ.app dst e=(setsL σ e.list).put dst e.val:=by
 unfold SState.app Eff.list
 cases e.del <;> cases e.upd <;> rfl

theorem list_targets {e:Eff}{u:Nat×Option SObj}(h:u∈e.list):u.1∈e.targets:=by
 unfold Eff.list at h
 unfold Eff.targets
 cases hd:e.del <;> cases hu:e.upd <;> rw[hd,hu] at h <;> simp at h ⊢
 ·rw[h]
 ·rw[h]
 ·rcases h with h | h <;> rw[h] <;> simp

theorem setsL_put (d:Option Tmp)(x:SV):∀(l:List (Nat×Option SObj)) (σ:SState),setsL (σ.put d x) l=(setsL σ l).put d x
 | [],_=>rfl
 | u :: l,σ=>by
  have:=setsL_put d x l (σ.setObj u.1 u.2)
  simp only[setsL,List.foldl_cons] at this ⊢
  rw[put_setObj,this]

theorem app_comm (σ:SState){d d':Option Tmp}{e e':Eff}(hd:∀t,d=some t→d'≠some t)(hu:∀ob,ob∈e.targets→ob∉e'.targets):(σ.app d e).app d' e'=(σ.app d' e').app d e:=by
 rw[app_list,app_list,app_list,app_list,setsL_put,setsL_put,put_comm _ _ _ hd,setsL_comm fun u u' h1 h2 h3=>hu u.1 (list_targets h1) (h3 ▸ list_targets h2)]

theorem runTo_add {i:Nat}(hi:D i=false):∀n,i<n→(∀j,j<n→i<j→D j=true→(∀t,dstAt ops i=some t→dstAt ops j≠some t)∧∀ob,ob∈(effAt R i).targets→ob∉(effAt R j).targets) →
  runTo ops R (fun j=>D j||j==i) σ n=(runTo ops R D σ n).app (dstAt ops i) (effAt R i)
 | 0,h,_=>by omega
 | n+1,h,hc=>by
  unfold runTo
  rcases Nat.lt_or_ge i n with hlt | hge
  ·have ih:=runTo_add hi n hlt fun j hj=>hc j (by omega)
   have hne:(n==i)=false:=by simp;omega
   rw[ih]
   simp only[hne,Bool.or_false]
   split
   ·rename_i hD
    obtain⟨h1,h2⟩:=hc n (by omega) hlt hD
    exact app_comm _ h1 h2
   ·rfl
  ·have:n=i:=by omega
   subst this
   simp only[hi,BEq.rfl,Bool.or_true,if_true,Bool.false_eq_true,if_false]
   rw[runTo_congr (D':=D) n fun j hj=>by simp;omega]

end

end
end Go.Am

/-
 A region whose order is drawn: the check,and what it shows.
-/
namespace Go.Am
noncomputable section

def Rec.touches (r:Rec)(ob:Nat):Bool:=
 r.seen.any (fun sv=>!sv.avoids ob)||!r.eff.val.avoids ob||r.eff.targets.contains ob||(match r.eff.upd with | some u=>!u.2.avoids ob | none=>false)

def Rec.reader (r:Rec):Bool:=r.eff.upd.isNone&&r.eff.del.isNone

def blindO (o:Oper):Bool:=o.guard.isNone&&match o.op with | .move _ | .nilCheck _ | .fieldAddr _ _ _=>true | _=>false

def blindX (ow oy:Oper)(ry:Rec)(ob:Nat):Bool:=blindO oy&&ry.reader&&decide (ob≠HID)&&!isNew ow

def conf (ops:Array Oper)(oj oi:Oper)(rj ri:Rec):Bool:=
 !oj.apart ops oi||rj.eff.targets.any (fun ob=>ri.touches ob&&!blindX oj oi ri ob)||ri.eff.targets.any (fun ob=>rj.touches ob&&!blindX oi oj rj ob)

def maskOf (ms:List Nat)(o:Oper):Nat:=o.after.toList.foldl (fun s e=>if Region.binds .any e=true then s ||| 2 ^ e.on ||| ms.getD e.on 0 else s) 0

def masks:List Oper→List Nat→List Nat
 | [],ms=>ms
 | o :: r,ms=>masks r (ms++[maskOf ms o])

def Rec.storer (r:Rec):Bool:=match r.eff.targets with | [k]=>decide (k=HID) | _=>false

def softP (ops:Array Oper)(oj oi:Oper)(rj ri:Rec):Bool:=oj.apart ops oi&&((rj.reader&&ri.storer)||(ri.reader&&rj.storer))

def pairOk (ops:Array Oper)(m:Nat)(oi:Oper)(ri:Rec)(j:Nat)(oj:Oper)(rj:Rec):Bool:=
 (!conf ops oj oi rj ri||m.testBit j||softP ops oj oi rj ri)&&(!isNew oi||match ri.eff.upd with | some u=>decide (u.1=HID)||!rj.touches u.1 | none=>true)

def opOk (ops:Array Oper)(R:List Rec)(σ:SState)(m i:Nat):Bool:=
 match ops[i]?,R[i]? with
 | some oi,some ri=>oi.after.all (fun e=>!Region.binds .any e||decide (e.on<i))&&dstOk σ oi &&
   (!isNew oi||match ri.eff.upd with | some u=>decide (u.1=HID)||((σ.obj u.1).isNone&&σ.avoidsB u.1) | none=>true) &&
   (List.range i).all fun j=>match ops[j]?,R[j]? with
    | some oj,some rj=>pairOk ops m oi ri j oj rj
    | _,_=>true
 | _,_=>false

def cfKept (R:List Rec)(σ:SState):Bool:=
 R.all fun r=>decide (r.eff.del≠some HID)&&match r.eff.upd with
  | some u=>decide (u.1=HID→cfO (some u.2)=cfOf σ.obj)
  | none=>true

def orderOk (ops:Array Oper)(R:List Rec)(σ:SState):Bool:=cfKept R σ &&
 (List.range ops.size).all fun i=>opOk ops R σ ((masks ops.toList []).getD i 0) i

def softs (ops:Array Oper)(R:List Rec)(ms:List Nat)(i:Nat):List Nat:=
 (List.range ops.size).filter fun j=>(match R[j]? with | some rj=>rj.storer | none=>false)&&!(decide (j<i)&&(ms.getD i 0).testBit j)&&!(decide (i<j)&&(ms.getD j 0).testBit i)&&decide (j≠i)

def altObj (ops:Array Oper)(R:List Rec)(σ:SState)(i j:Nat):Option SObj:=(runTo ops R (fun k=>decide (k<i) != (k==j)) σ ops.size).obj HID

def altOk (P:Program)(ops:Array Oper)(R:List Rec)(σ:SState)(ms:List Nat)(i:Nat):Option (List E):=
 match ops[i]?,R[i]? with
 | some o,some r=>if r.reader&&r.touches HID then(match softs ops R ms i with
   | []=>some []
   | [j]=>(match reff P ops o ((runTo ops R (fun _=>true) σ i).setObj HID (altObj ops R σ i j)) r.ix with
    | some e=>if e.val.same r.eff.val&&e.upd.isNone&&e.del.isNone then(match e.bind,r.eff.bind with
      | some (.ev b),some (.ev a)=>some [.m4 .same a b .nil .nil]
      | none,none=>some []
      | _,_=>none) else none
    | none=>none)
   | _=>none) else some []
 | _,_=>none

def extrasTo (P:Program)(ops:Array Oper)(R:List Rec)(σ:SState)(ms:List Nat):Nat→Option (List E)
 | 0=>some []
 | n+1=>(extrasTo P ops R σ ms n).bind fun xs=>(altOk P ops R σ ms n).map (xs++·)

def extras (P:Program)(ops:Array Oper)(R:List Rec)(σ:SState):Option (List E):=extrasTo P ops R σ (masks ops.toList []) ops.size

theorem extras_at {P:Program}{ops:Array Oper}{R:List Rec}{σ:SState}{ms:List Nat}:∀{n:Nat} {xs:List E},extrasTo P ops R σ ms n=some xs→∀i,i<n→∃ys,altOk P ops R σ ms i=some ys∧∀y,y∈ys→y∈xs
 | 0,_,_,i,hi=>by omega
 | n+1,xs,h,i,hi=>by
  simp only[extrasTo,Option.bind_eq_some_iff,Option.map_eq_some_iff] at h
  obtain⟨zs,h1,ys,h2,rfl⟩:=h
  rcases Nat.lt_or_ge i n with hlt | hge
  ·obtain⟨ys',h3,h4⟩:=extras_at h1 i hlt
   exact⟨ys',h3,fun y hy=>List.mem_append.2 (.inl (h4 y hy))⟩
  ·obtain rfl:i=n:=by omega
   exact⟨ys,h2,fun y hy=>List.mem_append.2 (.inr hy)⟩

theorem storer_targets {r:Rec}(h:r.storer=true):r.eff.targets=[HID]:=by
 unfold Rec.storer at h
 split at h
 ·rename_i k hk
  simp only[decide_eq_true_eq] at h
  rw[hk,h]
 ·cases h

theorem reader_targets {r:Rec}(h:r.reader=true):r.eff.targets=[]:=by
 unfold Rec.reader at h
 simp only[Bool.and_eq_true,Option.isNone_iff_eq_none] at h
 unfold Eff.targets
 rw[h.1,h.2]
 rfl

section
variable {P:Program} {ops:Array Oper} {R:List Rec} {σ:SState} {D:Nat→Bool}

theorem strip_avoids {act:List (E×Bool)}{sv:SV}{ob:Nat}(h:(sv.strip act).avoids ob=false):sv.avoids ob=false:=by
 unfold SV.strip at h
 split at h
 ·split at h
  ·exact h
  ·simp[SV.avoids] at h
 ·exact h

theorem opv_avoids {act:List (E×Bool)}{x:Operand}{ob:Nat}(h:(σ.opv act x).avoids ob=false):∃t,x=.tmp t∧(σ.tmp t).avoids ob=false:=by
 have h:=strip_avoids h
 cases x with
 | tmp t=>exact⟨t,rfl,h⟩
 | const v=>
  simp only[SState.opd,constSV] at h
  split at h <;> simp[SV.avoids] at h
 | global g=>simp[SState.opd,SV.avoids] at h
 | func f=>simp[SState.opd,SV.avoids,SV.avoidsAll] at h

theorem mem_looksAt {o:Oper}{t:Tmp}(h:Operand.tmp t∈o.op.operands):t∈o.looksAt ops:=by
 unfold Oper.looksAt
 refine List.mem_append.2 (.inl (List.mem_filterMap.2 ⟨.tmp t,by simpa using h,rfl⟩))

theorem runTo_cf (h:cfKept R σ=true):∀n,cfOf (runTo ops R D σ n).obj=cfOf σ.obj
 | 0=>rfl
 | n+1=>by
  have ih:=runTo_cf h n
  unfold runTo
  split
  ·have key:∀e:Eff,(e.del≠some HID∧∀u,e.upd=some u→u.1=HID→cfO (some u.2)=cfOf σ.obj)→cfOf ((runTo ops R D σ n).app (dstAt ops n) e).obj=cfOf σ.obj:=by
    rintro e ⟨h1,h2⟩
    by_cases ht:HID∈e.targets
    ·unfold Eff.targets at ht
     cases hu:e.upd with
     | none=>
      rw[hu] at ht
      cases hk:e.del with
      | none=>rw[hk] at ht;simp at ht
      | some k=>rw[hk] at ht;simp at ht;exact absurd (by rw[hk,←ht]) h1
     | some u=>
      by_cases hu1:u.1=HID
      ·have hobj:((runTo ops R D σ n).app (dstAt ops n) e).obj HID=some u.2:=by
        unfold SState.app
        rw[SState.obj_put,hu]
        simp only[SState.sets]
        rw[hu1,obj_setObj_eq,if_pos (.inl rfl)]
       rw[cfOf_eq,hobj]
       exact h2 u hu hu1
      ·rw[hu] at ht
       cases hk:e.del with
       | none=>rw[hk] at ht;simp at ht;exact absurd ht.symm hu1
       | some k=>
        rw[hk] at ht
        simp at ht
        rcases ht with ht | ht
        ·exact absurd ht.symm hu1
        ·exact absurd (by rw[hk,←ht]) h1
    ·rw[cfOf_eq,app_obj_ne ht,←cfOf_eq]
     exact ih
   refine key _ ?_
   unfold effAt
   cases hr:R[n]? with
   | none=>exact⟨by simp,by simp⟩
   | some r=>
    have:=List.all_eq_true.1 h r (List.mem_of_getElem? hr)
    simp only[Bool.and_eq_true,decide_eq_true_eq] at this
    refine⟨this.1,fun u hu hh=>?_⟩
    have h2:=this.2
    simp only[Option.map_some,Option.getD_some] at hu
    rw[hu] at h2
    exact(of_decide_eq_true h2) hh
  ·exact ih

theorem reff_congr {σ':SState}{o:Oper}{ix:Nat}(ht:∀t,t∈o.looksAt ops→σ'.tmp t=σ.tmp t)(ho:∀t ob,t∈o.looksAt ops→(σ.tmp t).avoids ob=false→σ'.obj ob=σ.obj ob)(hC:cfOf σ'.obj=cfOf σ.obj)(hH:usesHr o (fun x=>(σ.opd x).mayE) (cfOf σ.obj)=true→σ'.obj HID=σ.obj HID):reff P ops o σ' ix=reff P ops o σ ix:=by
 have hact:actOf ops σ' ix o.guard=actOf ops σ ix o.guard:=by
  unfold actOf
  split
  ·rfl
  ·rename_i j want hg
   split
   ·rename_i d hd
    rw[ht d (by unfold Oper.looksAt;rw[hg];simp[hd])]
   ·rfl
 have hv:∀act x,x∈o.op.operands→σ'.opv act x=σ.opv act x:=by
  intro act x hx
  unfold SState.opv
  cases x with
  | tmp t=>simp only[SState.opd];rw[ht t (mem_looksAt hx)]
  | _=>rfl
 have hself:∀e,selfOk o σ' e=selfOk o σ e:=by
  intro e
  unfold selfOk
  cases e.upd with
  | none=>rfl
  | some u=>
   simp only
   congr 1
   congr 1
   rw[Bool.eq_iff_iff,Array.all_eq_true_iff_forall_mem,Array.all_eq_true_iff_forall_mem]
   exact⟨fun h x hx=>by rw[←hv [] x hx];exact h x hx,fun h x hx=>by rw[hv [] x hx];exact h x hx⟩
 have hstep:∀act,estep P o σ'.opv act σ'.obj ix=estep P o σ.opv act σ.obj ix:=fun act=>estep_congr (opv:=σ.opv) (obj:=σ.obj) hv (fun act x ob hx hav=>by
  obtain⟨t,rfl,hav'⟩:=opv_avoids hav
  exact(ho t ob (mem_looksAt hx) hav').symm) (m:=fun x=>(σ.opd x).mayE) (fun act x _ he=>by obtain⟨e,s,he⟩:=he;exact strip_mayE he) (fun act g=>rfl) hC.symm fun h=>(hH h).symm
 have hcw:∀e,callWrites o (σ'.obj HID) ix e=callWrites o (σ.obj HID) ix e:=by
  intro e
  have hC':cfO (σ'.obj HID)=cfO (σ.obj HID):=by rw[←cfOf_eq,←cfOf_eq];exact hC
  cases hl:locOp o (cfO (σ.obj HID)) with
  | true=>simp[callWrites,hl,hC']
  | false=>
  cases hc:isCallV o with
  | false=>simp[callWrites,hc]
  | true=>
   rw[hH ?_]
   unfold isCallV at hc
   unfold usesHr
   unfold locOp at hl
   rw[←cfOf_eq] at hl
   split at hc
   ·rename_i c hop
    rw[hop] at hl ⊢
    simp only at hl ⊢
    split at hc
    ·rename_i g hcc
     rw[hcc] at hl ⊢
     simp only
     rw[hl]
     rfl
    ·cases hc
   ·cases hc
 have hln:∀act,lnew false P o (σ'.opv act) σ'.obj ix=lnew false P o (σ.opv act) σ.obj ix:=fun act=>lnew_congr (opv:=σ.opv act) (opv':=σ'.opv act) (obj:=σ.obj) (obj':=σ'.obj) (hv act) fun x ob hx hav=>by
  obtain⟨t,rfl,hav'⟩:=opv_avoids hav
  exact(ho t ob (mem_looksAt hx) hav').symm
 have hgt:∀act,gtok P o σ' act ix=gtok P o σ act ix:=fun act=>by
  cases act with
  | nil=>rfl
  | cons p r=>simp only[gtok,hln]
 unfold reff
 rw[hact]
 split
 ·rfl
 ·rename_i act _
  rw[hgt act,hstep act]
  simp only[hself,hcw]

theorem reff_blind {σ':SState}{o:Oper}{ix:Nat}{e:Eff}(hb:blindO o=true)(ht:∀t,t∈o.looksAt ops→σ'.tmp t=σ.tmp t)(hC:cfOf σ'.obj=cfOf σ.obj)(he:reff P ops o σ ix=some e)(hr:e.upd.isNone=true∧e.del.isNone=true):reff P ops o σ' ix=some e:=by
 unfold blindO at hb
 simp only[Bool.and_eq_true,Option.isNone_iff_eq_none] at hb
 obtain⟨hg,hb⟩:=hb
 have hv:∀act x,x∈o.op.operands→σ'.opv act x=σ.opv act x:=by
  intro act x hx
  unfold SState.opv
  cases x with
  | tmp t=>simp only[SState.opd];rw[ht t (mem_looksAt hx)]
  | _=>rfl
 have hstep:∀act,estep P o σ'.opv act σ'.obj ix=estep P o σ.opv act σ.obj ix:=fun act=>by
  unfold estep
  rw[ldat_congr (hv act) hC.symm,lpure2_congr (hv act),nilsOf_congr hC.symm]
  have h1:∀opv obj,lpub P o opv obj ix=none:=fun opv obj=>by
   unfold lpub
   unfold lpubC
   split at hb <;> rename_i hop <;> (try cases hb) <;> simp only[hop] <;> (repeat' split) <;> first | rfl | simp_all
  have h2:∀opv obj,lmap P o opv obj ix=none:=fun opv obj=>by
   have hU:usesH o=false:=by
    unfold usesH
    split at hb <;> rename_i hop <;> (try cases hb) <;> simp only[hop]
   unfold lmap
   rw[hU]
   simp
  have h3:∀nz opv obj,lnew nz P o opv obj ix=none:=fun nz opv obj=>by
   unfold lnew
   split at hb <;> rename_i hop <;> (try cases hb) <;> simp only[hop]
  have h4:∀opv obj,lbuildXo P o opv obj ix=none:=fun opv obj=>by
   unfold lbuildXo
   split at hb <;> rename_i hop <;> (try cases hb) <;> simp only[hop]
  simp only[h1,h2,h3,h4]
  have h5:lstep P o σ'.opv act σ'.obj ix=lstep P o σ.opv act σ.obj ix:=by
   unfold lstep
   split at hb <;> rename_i hop <;> (try cases hb) <;> simp only[hop]
   ·rw[hv act _ (by rw[hop];simp[Op.operands])]
   ·rw[hv act _ (by rw[hop];simp[Op.operands])]
   ·rw[hv act _ (by rw[hop];simp[Op.operands])]
  rw[h5]
 unfold reff at he ⊢
 have ha:∀σ:SState,actOf ops σ ix o.guard=some []:=fun σ=>by unfold actOf;rw[hg]
 simp only[ha,gtok,hstep] at he ⊢
 split at he
 ·cases he
 ·rename_i e' he'
  split at he
  ·rename_i hy
   rw[if_pos hy]
   exact he
  ·rename_i hn
   split at he
   ·cases he
    exact absurd (by rw[hr.1,hr.2];rfl) hn
   ·cases he

/-! ## masks -/

def Closed (ops:Array Oper)(D:Nat→Bool):Prop:=∀k o,D k=true→ops[k]? = some o→∀e,e∈o.after→Region.binds .any e=true→D e.on=true

def GoodMs (ops:Array Oper)(D:Nat→Bool)(ms:List Nat):Prop:=
 ∀(i m:Nat),ms[i]? = some m→∃o:Oper,ops[i]? = some o∧((∀e,e∈o.after→Region.binds .any e=true→D e.on=true)→∀j,m.testBit j=true→D j=true)

theorem maskOf_spec (hD:Closed ops D){ms:List Nat}(hg:GoodMs ops D ms){o:Oper}(ho:∀e,e∈o.after→Region.binds .any e=true→D e.on=true):∀j,(maskOf ms o).testBit j=true→D j=true:=by
 have go:∀(l:List Edge) (s:Nat),(∀e,e∈l→Region.binds .any e=true→D e.on=true)→(∀j,s.testBit j=true→D j=true)→∀j,(l.foldl (fun s e=>if Region.binds .any e=true then s ||| 2 ^ e.on ||| ms.getD e.on 0 else s) s).testBit j=true→D j=true:=by
  intro l
  induction l with
  | nil=>intro s _ hs;exact hs
  | cons e l ih=>
   intro s hl hs
   refine ih _ (fun e' he'=>hl e' (by simp[he'])) fun j hj=>?_
   dsimp only at hj
   split at hj
   ·rename_i hb
    have hon:=hl e (by simp) hb
    simp only[Nat.testBit_or,Bool.or_eq_true] at hj
    rcases hj with(hj | hj) | hj
    ·exact hs j hj
    ·rw[Nat.testBit_two_pow] at hj
     simp at hj
     rw[←hj];exact hon
    ·rw[List.getD_eq_getElem?_getD] at hj
     cases hm:ms[e.on]? with
     | none=>rw[hm] at hj;simp at hj
     | some m=>
      rw[hm] at hj
      obtain⟨o',ho',h'⟩:=hg e.on m hm
      exact h' (hD e.on o' hon ho') j hj
   ·exact hs j hj
 exact go o.after.toList 0 (fun e he=>ho e (by simpa using he)) (by simp)

theorem masks_good (hD:Closed ops D):∀{l:List Oper} {ms:List Nat},ops.toList.drop ms.length=l→GoodMs ops D ms→GoodMs ops D (masks l ms)
 | [],ms,_,hg=>hg
 | o :: r,ms,hl,hg=>by
  unfold masks
  have hat:ops[ms.length]? = some o:=by
   have:=congrArg (fun l=>l[0]?) hl
   simpa using this
  refine masks_good hD ?_ ?_
  ·have:ops.toList.drop (ms.length+1)=r:=by
    rw[←List.drop_drop,hl];rfl
   simpa using this
  ·show ∀(i m:Nat),_
   intro i m hi
   rcases Nat.lt_or_ge i ms.length with h | h
   ·rw[List.getElem?_append_left h] at hi
    exact hg i m hi
   ·rw[List.getElem?_append_right h] at hi
    have hi0:i=ms.length:=by
     rcases Nat.eq_or_lt_of_le h with h | h
     ·exact h.symm
     ·rw[List.getElem?_eq_none (by simp;omega)] at hi;cases hi
    subst hi0
    simp at hi
    subst hi
    exact⟨o,hat,fun ho=>maskOf_spec hD hg ho⟩

theorem masks_spec (hD:Closed ops D){i:Nat}{o:Oper}(ho:ops[i]? = some o)(ha:∀e,e∈o.after→Region.binds .any e=true→D e.on=true){j:Nat}(hj:((masks ops.toList []).getD i 0).testBit j=true):D j=true:=by
 have hg:=masks_good hD (l:=ops.toList) (ms:=[]) rfl (fun i m hi=>by simp at hi)
 rw[List.getD_eq_getElem?_getD] at hj
 cases hm:(masks ops.toList [])[i]? with
 | none=>rw[hm] at hj;simp at hj
 | some m=>
  rw[hm] at hj
  obtain⟨o',ho',h'⟩:=hg i m hm
  rw[ho] at ho'
  cases ho'
  exact h' ha j hj

/-! ## the run in the text's order -/

abbrev lex (ops:Array Oper)(R:List Rec)(σ:SState)(i:Nat):SState:=runTo ops R (fun _=>true) σ i

theorem drun_spec {env:List Am.D}:∀{l:List Oper} {k:Nat} {σk:SState} {ix:Nat} {σ':SState} {bs:List Bind} {rs:List Rec},drun P ops l σk ix=some (σ',bs,rs)→ops.toList.drop k=l→R.drop k=rs→k≤ops.size →
  lex ops R σ k=σk→BindsOk P env ix bs→ix+bs.length≤env.length →
  lex ops R σ ops.size=σ'∧∀(i:Nat) (o:Oper),k≤i→ops[i]? = some o→∃r,R[i]? = some r∧reff P ops o (lex ops R σ i) r.ix=some r.eff∧r.seen=seenOf ops o (lex ops R σ i)∧BindOk P env r.ix r.eff.bind∧r.ix≤env.length
 | [],k,σk,ix,σ',bs,rs,h,hl,_,hk,hσ,_,_=>by
  simp[drun] at h
  have:k=ops.size:=by
   have:=congrArg List.length hl
   simp at this
   omega
  subst this
  refine⟨hσ.trans h.1,fun i o hi ho=>?_⟩
  have:=(Array.getElem?_eq_some_iff.1 ho).1
  omega
 | o :: l,k,σk,ix,σ',bs,rs,h,hl,hr,hk,hσ,hb,hix=>by
  have hat:ops[k]? = some o:=by
   have:=congrArg (fun l=>l[0]?) hl
   simpa using this
  have hk1:k+1≤ops.size:=(Array.getElem?_eq_some_iff.1 hat).1
  have hl':ops.toList.drop (k+1)=l:=by rw[←List.drop_drop,hl];rfl
  have go:∀{e:Eff} {ix':Nat} {bs':List Bind} {rs':List Rec},reff P ops o σk ix=some e→drun P ops l (σk.app o.dst e) ix'=some (σ',bs',rs')→rs=⟨e,seenOf ops o σk,ix⟩ :: rs'→BindOk P env ix e.bind→ix≤env.length→BindsOk P env ix' bs'→ix'+bs'.length≤env.length →
    lex ops R σ ops.size=σ'∧∀(i:Nat) (o:Oper),k≤i→ops[i]? = some o→∃r,R[i]? = some r∧reff P ops o (lex ops R σ i) r.ix=some r.eff∧r.seen=seenOf ops o (lex ops R σ i)∧BindOk P env r.ix r.eff.bind∧r.ix≤env.length:=by
   intro e ix' bs' rs' he hd hrs hbo hixl hb' hix'
   have hRk:R[k]? = some ⟨e,seenOf ops o σk,ix⟩:=by
    have:=congrArg (fun l=>l[0]?) (hr.trans hrs)
    simpa using this
   have hr':R.drop (k+1)=rs':=by rw[←List.drop_drop,hr,hrs];rfl
   have hσ':lex ops R σ (k+1)=σk.app o.dst e:=by
    unfold lex runTo
    simp only[if_true,dstAt,hat,effAt,hRk,Option.bind_some,Option.map_some,Option.getD_some]
    rw[show runTo ops R (fun _=>true) σ k=σk from hσ]
   obtain⟨h1,h2⟩:=drun_spec hd hl' hr' hk1 hσ' hb' hix'
   refine⟨h1,fun i o' hi ho'=>?_⟩
   rcases Nat.eq_or_lt_of_le hi with heq | hlt
   ·subst heq
    rw[hat] at ho'
    cases ho'
    exact⟨_,hRk,by rw[hσ];exact he,by rw[hσ],hbo,hixl⟩
   ·exact h2 i o' hlt ho'
  simp only[drun] at h
  split at h
  ·cases h
  ·rename_i e he
   split at h
   ·rename_i hbe
    obtain⟨⟨τ,bs',rs'⟩,h2,h3⟩:=Option.map_eq_some_iff.1 h
    cases h3
    exact go he h2 rfl (by rw[hbe];trivial) (by omega) hb hix
   ·rename_i b hbe
    obtain⟨⟨τ,bs',rs'⟩,h2,h3⟩:=Option.map_eq_some_iff.1 h
    cases h3
    simp only[List.length_cons] at hix
    refine go he h2 rfl (by rw[hbe];simpa using hb 0 b rfl) (by omega) (fun i b' hi=>?_) (by omega)
    have:=hb (i+1) b' (by simpa using hi)
    rwa [show ix+(i+1)=ix+1+i from by omega] at this

/-! ## fresh names -/

theorem avoidsAll_iff {ob:Nat}:∀{l:List SV},SV.avoidsAll ob l=true↔∀x,x∈l→x.avoids ob=true
 | []=>by simp[SV.avoidsAll]
 | a :: l=>by simp[SV.avoidsAll,avoidsAll_iff (l:=l)]

theorem freshAt_app {ob:Nat}{τ:SState}{dst:Option Tmp}{e:Eff}(h:freshAt τ ob)(hv:e.val.avoids ob=true)(ht:ob∉e.targets)(hu:∀u,e.upd=some u→u.2.avoids ob=true):freshAt (τ.app dst e) ob:=by
 obtain⟨h1,h2⟩:=h
 refine⟨by rw[app_obj_ne ht];exact h1,?_⟩
 have hset:∀(τ:SState) (k:Nat) (x:Option SObj),τ.avoidsB ob=true→(∀y,x=some y→y.avoids ob=true)→(τ.setObj k x).avoidsB ob=true:=by
  intro τ k x ht hx
  simp only[SState.setObj_def]
  simp only[SState.avoidsB,Bool.and_eq_true,List.all_eq_true] at ht ⊢
  split
  ·refine⟨ht.1,?_⟩
   cases x with
   | none=>rfl
   | some z=>exact hx z rfl
  ·refine⟨⟨ht.1.1,fun y hy=>?_⟩,ht.2⟩
   rcases List.mem_or_eq_of_mem_set hy with hy | rfl
   ·exact ht.1.2 y hy
   ·cases y with
    | none=>rfl
    | some z=>exact hx z rfl
 have h3:(τ.dels e.del).avoidsB ob=true:=by
  cases e.del with
  | none=>exact h2
  | some k=>exact hset τ k none h2 fun y hy=>by cases hy
 have h4:((τ.dels e.del).sets e.upd).avoidsB ob=true:=by
  cases hu':e.upd with
  | none=>exact h3
  | some u=>exact hset _ _ _ h3 fun y hy=>by cases hy;exact hu u hu'
 unfold SState.app
 cases dst with
 | none=>exact h4
 | some d=>
  simp only[SState.avoidsB,Bool.and_eq_true,SState.put_def] at h4 ⊢
  refine⟨⟨avoidsAll_iff.2 fun x hx=>?_,h4.1.2⟩,h4.2⟩
  rcases List.mem_or_eq_of_mem_set hx with hx | rfl
  ·exact avoidsAll_iff.1 h4.1.1 x hx
  ·exact hv

theorem touches_false {r:Rec}{ob:Nat}(h:r.touches ob=false):r.eff.val.avoids ob=true∧ob∉r.eff.targets∧∀u,r.eff.upd=some u→u.2.avoids ob=true:=by
 simp only[Rec.touches,Bool.or_eq_false_iff,Bool.not_eq_false'] at h
 refine⟨h.1.1.2,by simpa using h.1.2,fun u hu=>?_⟩
 have:=h.2
 rw[hu] at this
 simpa using this

theorem runTo_fresh {ob:Nat}(h:freshAt σ ob):∀n,(∀j,j<n→D j=true→∃r,R[j]? = some r∧r.touches ob=false)→freshAt (runTo ops R D σ n) ob
 | 0,_=>h
 | n+1,hj=>by
  have ih:=runTo_fresh h n fun j hjn=>hj j (by omega)
  unfold runTo
  split
  ·rename_i hD
   obtain⟨r,hr,ht⟩:=hj n (by omega) hD
   obtain⟨h2,h3,h4⟩:=touches_false ht
   have he:effAt R n=r.eff:=by simp[effAt,hr]
   rw[he]
   exact freshAt_app ih h2 h3 h4
  ·exact ih

end
end
end Go.Am

/-
 A region whose order is drawn: every order leads to the state of the text's order.
-/
namespace Go.Am
noncomputable section

section
variable {P:Program} {ops:Array Oper} {R:List Rec} {σ:SState} {w0:World} {X:Ent} {env:List D}

structure Facts (P:Program)(ops:Array Oper)(R:List Rec)(σ:SState)(env:List D)(i:Nat)(o:Oper)(r:Rec):Prop where
 at_:R[i]? = some r
 eff:reff P ops o (lex ops R σ i) r.ix=some r.eff
 seen:r.seen=seenOf ops o (lex ops R σ i)
 bind:BindOk P env r.ix r.eff.bind
 ix:r.ix≤env.length
 alt:∃ys,altOk P ops R σ (masks ops.toList []) i=some ys∧∀y,y∈ys→∃d,y.eval env=some d

theorem orderOk_at (h:orderOk ops R σ=true){i:Nat}{o:Oper}{r:Rec}(ho:ops[i]? = some o)(hr:R[i]? = some r) :
  (∀e,e∈o.after→Region.binds .any e=true→e.on<i)∧dstOk σ o=true∧(isNew o=true→∀u,r.eff.upd=some u→u.1=HID∨freshAt σ u.1) ∧
  ∀(j:Nat) (oj:Oper) (rj:Rec),j<i→ops[j]? = some oj→R[j]? = some rj→(conf ops oj o rj r=true→softP ops oj o rj r=false→((masks ops.toList []).getD i 0).testBit j=true)∧(isNew o=true→∀u,r.eff.upd=some u→u.1=HID∨rj.touches u.1=false):=by
 have hi:=(Array.getElem?_eq_some_iff.1 ho).1
 unfold orderOk at h
 rw[Bool.and_eq_true] at h
 replace h:=h.2
 have h:=List.all_eq_true.1 h i (List.mem_range.2 hi)
 unfold opOk at h
 rw[ho,hr] at h
 simp only[Bool.and_eq_true,List.all_eq_true,List.mem_range] at h
 obtain⟨⟨⟨h1,h2⟩,h3⟩,h4⟩:=h
 refine⟨fun e he hb=>?_,h2,fun hn u hu=>?_,fun j oj rj hj hoj hrj=>?_⟩
 ·have:=Array.all_eq_true'.1 h1 e he
  simpa[hb] using this
 ·rw[hn,hu] at h3
  simpa[freshAt] using h3
 ·have:=h4 j hj
  rw[hoj,hrj] at this
  simp only[pairOk,Bool.and_eq_true,Bool.or_eq_true,Bool.not_eq_true'] at this
  refine⟨fun hc hs=>by rw[hc,hs] at this;simpa using this.1,fun hn u hu=>?_⟩
  have:=this.2
  rw[hn,hu] at this
  simpa using this

theorem conf_read {oj oi:Oper}{rj ri:Rec}{t:Tmp}(hd:oj.dst=some t)(ht:t∈oi.looksAt ops):conf ops oj oi rj ri=true:=by
 have:oj.apart ops oi=false:=by
  rw[←Bool.not_eq_true]
  intro h
  exact(Oper.apart_spec h).1 t hd ht
 simp[conf,this]

theorem conf_read' {oj oi:Oper}{rj ri:Rec}{t:Tmp}(hd:oi.dst=some t)(ht:t∈oj.looksAt ops):conf ops oj oi rj ri=true:=by
 have:oj.apart ops oi=false:=by
  rw[←Bool.not_eq_true]
  intro h
  exact(Oper.apart_spec h).2.2 t hd ht
 simp[conf,this]

theorem conf_dst {oj oi:Oper}{rj ri:Rec}{t:Tmp}(hd:oj.dst=some t)(ht:oi.dst=some t):conf ops oj oi rj ri=true:=by
 have:oj.apart ops oi=false:=by
  rw[←Bool.not_eq_true]
  intro h
  exact(Oper.apart_spec h).2.1 t hd ht
 simp[conf,this]

theorem conf_upd {oj oi:Oper}{rj ri:Rec}{ob:Nat}(hu:ob∈rj.eff.targets)(ht:ri.touches ob=true)(hx:blindX oj oi ri ob=false):conf ops oj oi rj ri=true:=by
 have:rj.eff.targets.any (fun ob=>ri.touches ob&&!blindX oj oi ri ob)=true:=List.any_eq_true.2 ⟨ob,hu,by simp[ht,hx]⟩
 unfold conf
 rw[this]
 simp

theorem conf_upd' {oj oi:Oper}{rj ri:Rec}{ob:Nat}(hu:ob∈ri.eff.targets)(ht:rj.touches ob=true)(hx:blindX oi oj rj ob=false):conf ops oj oi rj ri=true:=by
 have:ri.eff.targets.any (fun ob=>rj.touches ob&&!blindX oi oj rj ob)=true:=List.any_eq_true.2 ⟨ob,hu,by simp[ht,hx]⟩
 unfold conf
 rw[this]
 simp

theorem blindX_hid {ow oy:Oper}{ry:Rec}:blindX ow oy ry HID=false:=by simp[blindX]
theorem blindX_new {ow oy:Oper}{ry:Rec}{ob:Nat}(h:isNew ow=true):blindX ow oy ry ob=false:=by simp[blindX,h]
theorem blindX_tg {ow oy:Oper}{ry:Rec}{ob ob':Nat}(h:ob'∈ry.eff.targets):blindX ow oy ry ob=false:=by
 have:ry.reader=false:=by
  rw[←Bool.not_eq_true];intro hr
  rw[reader_targets hr] at h;cases h
 simp[blindX,this]
theorem blindX_not {ow oy:Oper}{ry:Rec}{ob:Nat}(h:¬(blindO oy=true∧ry.reader=true)):blindX ow oy ry ob=false:=by
 have:(blindO oy&&ry.reader)=false:=by rw[←Bool.not_eq_true,Bool.and_eq_true];exact h
 simp[blindX,this]

theorem touches_seen {r:Rec}{sv:SV}{ob:Nat}(h:sv∈r.seen)(ha:sv.avoids ob=false):r.touches ob=true:=by
 have:r.seen.any (fun sv=>!sv.avoids ob)=true:=List.any_eq_true.2 ⟨sv,h,by simp[ha]⟩
 simp[Rec.touches,this]

theorem touches_upd {r:Rec}{ob:Nat}(h:ob∈r.eff.targets):r.touches ob=true:=by
 simp[Rec.touches,h]

theorem upd_target {e:Eff}{u:Nat×SObj}(h:e.upd=some u):u.1∈e.targets:=by simp[Eff.targets,h]

theorem dstAt_some {j:Nat}{t:Tmp}(h:dstAt ops j=some t):∃o,ops[j]? = some o∧o.dst=some t:=Option.bind_eq_some_iff.1 h

theorem order_mask {D:Nat→Bool} (hD:Closed ops D) {i:Nat} {o:Oper} (ho:ops[i]? = some o) (hi:D i=false)
  (ha:∀e,e∈o.after→Region.binds .any e=true→D e.on=true) {j:Nat} {oj:Oper} (hoj:ops[j]? = some oj) (h1:j<i→((masks ops.toList []).getD i 0).testBit j=true) (h2:i<j→((masks ops.toList []).getD j 0).testBit i=true):D j=decide (j<i):=by
 rcases Nat.lt_trichotomy j i with h | h | h
 ·rw[masks_spec hD ho ha (h1 h)]
  simp[h]
 ·subst h;rw[hi];simp
 ·have hm:=h2 h
  have:D j=false:=by
   rw[←Bool.not_eq_true]
   intro hDj
   have:=masks_spec hD hoj (hD j oj hDj hoj) hm
   rw[hi] at this
   cases this
  rw[this];simp;omega

theorem order_done (hok:orderOk ops R σ=true) {D:Nat→Bool} (hD:Closed ops D) {i:Nat} {o:Oper} {r:Rec} (ho:ops[i]? = some o) (hr:R[i]? = some r) (hi:D i=false)
  (ha:∀e,e∈o.after→Region.binds .any e=true→D e.on=true) {j:Nat} {oj:Oper} {rj:Rec} (hoj:ops[j]? = some oj) (hrj:R[j]? = some rj) (hc:(conf ops oj o rj r=true∧softP ops oj o rj r=false)∧conf ops o oj r rj=true∧softP ops o oj r rj=false):D j=decide (j<i):=
 order_mask hD ho hi ha hoj (fun h=>(orderOk_at hok ho hr).2.2.2 j oj rj h hoj hrj |>.1 hc.1.1 hc.1.2) fun h=>(orderOk_at hok hoj hrj).2.2.2 i o r h ho hr |>.1 hc.2.1 hc.2.2

theorem soft_apart {oj oi:Oper}{rj ri:Rec}(h:oj.apart ops oi=false):softP ops oj oi rj ri=false:=by simp[softP,h]

theorem apart_read {oj oi:Oper}{t:Tmp}(hd:oj.dst=some t)(ht:t∈oi.looksAt ops):oj.apart ops oi=false:=by
 rw[←Bool.not_eq_true]
 intro h
 exact(Oper.apart_spec h).1 t hd ht

theorem apart_read' {oj oi:Oper}{t:Tmp}(hd:oi.dst=some t)(ht:t∈oj.looksAt ops):oj.apart ops oi=false:=by
 rw[←Bool.not_eq_true]
 intro h
 exact(Oper.apart_spec h).2.2 t hd ht

theorem apart_dst {oj oi:Oper}{t:Tmp}(hd:oj.dst=some t)(ht:oi.dst=some t):oj.apart ops oi=false:=by
 rw[←Bool.not_eq_true]
 intro h
 exact(Oper.apart_spec h).2.1 t hd ht

theorem soft_ne {oj oi:Oper}{rj ri:Rec}{ob:Nat}(h:ob∈rj.eff.targets)(hne:ob≠HID):softP ops oj oi rj ri=false∧softP ops oi oj ri rj=false:=by
 have h1:rj.reader=false:=by
  rw[←Bool.not_eq_true];intro hr
  rw[reader_targets hr] at h;cases h
 have h2:rj.storer=false:=by
  rw[←Bool.not_eq_true];intro hr
  rw[storer_targets hr] at h;simp at h;exact hne h
 simp[softP,h1,h2]

theorem soft_two {oj oi:Oper}{rj ri:Rec}{ob ob':Nat}(h:ob∈rj.eff.targets)(h':ob'∈ri.eff.targets):softP ops oj oi rj ri=false∧softP ops oi oj ri rj=false:=by
 have h1:rj.reader=false:=by
  rw[←Bool.not_eq_true];intro hr
  rw[reader_targets hr] at h;cases h
 have h2:ri.reader=false:=by
  rw[←Bool.not_eq_true];intro hr
  rw[reader_targets hr] at h';cases h'
 simp[softP,h1,h2]

theorem mem_softs {ms:List Nat}{i j:Nat}{rj:Rec}(hj:j<ops.size)(hrj:R[j]? = some rj)(hs:rj.storer=true)(hne:j≠i)(h:j∉softs ops R ms i):(j<i→(ms.getD i 0).testBit j=true)∧(i<j→(ms.getD j 0).testBit i=true):=by
 unfold softs at h
 rw[List.mem_filter] at h
 simp only[List.mem_range,hj,true_and,hrj,hs,Bool.true_and,Bool.and_eq_true,Bool.not_eq_true',decide_eq_true_eq,Bool.and_eq_false_iff,decide_eq_false_iff_not] at h
 refine⟨fun hlt=>Classical.byContradiction fun hb=>h ⟨⟨.inr (by simpa using hb),.inl (by omega)⟩,hne⟩,fun hlt=>Classical.byContradiction fun hb=>h ⟨⟨.inl (by omega),.inr (by simpa using hb)⟩,hne⟩⟩

theorem wanted_step {D:Nat→Bool} (hok:orderOk ops R σ=true) (hF:∀(i:Nat) (o:Oper),ops[i]? = some o→∃r,Facts P ops R σ env i o r) (hD:Closed ops D) {i:Nat} {o:Oper} (ho:ops[i]? = some o) (hi:D i=false)
  (ha:∀e,e∈o.after→Region.binds .any e=true→D e.on=true):∃r:Rec,BindOk P env r.ix r.eff.bind∧r.ix≤env.length∧rstep P ops o (runTo ops R D σ ops.size) r.ix=some (runTo ops R (fun j=>D j||j==i) σ ops.size,r.eff.bind):=by
 obtain⟨r,f⟩:=hF i o ho
 have hin:=(Array.getElem?_eq_some_iff.1 ho).1
 obtain⟨_,hdst,hfr,hpair⟩:=orderOk_at hok ho f.at_
 have hrec:∀(j:Nat),j<ops.size→∃oj rj,ops[j]? = some oj∧R[j]? = some rj:=fun j hj=>by
  obtain⟨rj,fj⟩:=hF j ops[j] (Array.getElem?_eq_getElem hj)
  exact⟨_,rj,Array.getElem?_eq_getElem hj,fj.at_⟩
 have hdone:=fun {j:Nat} {oj:Oper} {rj:Rec}=>order_done (j:=j) (oj:=oj) (rj:=rj) hok hD ho f.at_ hi ha
 have htmp:∀t,t∈o.looksAt ops→(runTo ops R D σ ops.size).tmp t=(lex ops R σ i).tmp t:=by
  intro t ht
  refine runTo_tmp_at (Nat.le_of_lt hin) fun j hj hjt=>?_
  obtain⟨oj,hoj,hdj⟩:=dstAt_some hjt
  obtain⟨rj,fj⟩:=hF j oj hoj
  exact hdone hoj fj.at_ ⟨⟨conf_read hdj ht,soft_apart (apart_read hdj ht)⟩,conf_read' hdj ht,soft_apart (apart_read' hdj ht)⟩
 have hobj:¬(blindO o=true∧r.reader=true)→∀ob,ob≠HID→r.touches ob=true→(runTo ops R D σ ops.size).obj ob=(lex ops R σ i).obj ob:=by
  intro hnb ob hne htouch
  refine runTo_obj_at (Nat.le_of_lt hin) fun j hj hju=>?_
  obtain⟨oj,rj,hoj,hrj⟩:=hrec j hj
  have huj:ob∈rj.eff.targets:=by simpa[effAt,hrj] using hju
  obtain⟨hs1,hs2⟩:=soft_ne (ops:=ops) (oj:=oj) (oi:=o) (ri:=r) huj hne
  exact hdone hoj hrj ⟨⟨conf_upd huj htouch (blindX_not hnb),hs1⟩,conf_upd' huj htouch (blindX_not hnb),hs2⟩
 have htouchT:∀t ob,t∈o.looksAt ops→((lex ops R σ i).tmp t).avoids ob=false→r.touches ob=true:=fun t ob ht hav=>touches_seen (sv:=(lex ops R σ i).tmp t) (by rw[f.seen];exact List.mem_append.2 (.inl (List.mem_map_of_mem ht))) hav
 have htouchH:usesHr o (fun x=>((lex ops R σ i).opd x).mayE) (cfOf (lex ops R σ i).obj)=true→r.touches HID=true:=fun hu=>touches_seen (sv:=.slc HID) (by rw[f.seen];refine List.mem_append.2 (.inr ?_);rw[hu];simp) (by simp[SV.avoids])
 have hkept:cfKept R σ=true:=by
  unfold orderOk at hok
  rw[Bool.and_eq_true] at hok
  exact hok.1
 have hC:cfOf (runTo ops R D σ ops.size).obj=cfOf (lex ops R σ i).obj:=(runTo_cf hkept _).trans (runTo_cf hkept _).symm
 have hadd0:runTo ops R (fun j=>D j||j==i) σ ops.size=(runTo ops R D σ ops.size).app o.dst r.eff:=by
  rw[runTo_add hi ops.size hin fun j hj hij hDj=>?_]
  ·have h1:dstAt ops i=o.dst:=by simp[dstAt,ho]
   have h2:effAt R i=r.eff:=by simp[effAt,f.at_]
   rw[h1,h2]
  ·obtain⟨oj,rj,hoj,hrj⟩:=hrec j hj
   have hno:¬((conf ops oj o rj r=true∧softP ops oj o rj r=false)∧conf ops o oj r rj=true∧softP ops o oj r rj=false):=by
    intro hc
    have:=hdone hoj hrj hc
    rw[hDj] at this
    simp at this
    omega
   refine⟨fun t h1 h2=>hno ?_,fun ob h1 h2=>hno ?_⟩
   ·obtain⟨o1,ho1,hd1⟩:=dstAt_some h1
    obtain⟨o2,ho2,hd2⟩:=dstAt_some h2
    rw[ho] at ho1;rw[hoj] at ho2
    cases ho1;cases ho2
    exact⟨⟨conf_dst hd2 hd1,soft_apart (apart_dst hd2 hd1)⟩,conf_dst hd1 hd2,soft_apart (apart_dst hd1 hd2)⟩
   ·have hu1:ob∈r.eff.targets:=by simpa[effAt,f.at_] using h1
    have hu2:ob∈rj.eff.targets:=by simpa[effAt,hrj] using h2
    obtain⟨hs1,hs2⟩:=soft_two (ops:=ops) (oj:=oj) (oi:=o) hu2 hu1
    exact⟨⟨conf_upd' hu1 (touches_upd hu2) (blindX_tg hu2),hs1⟩,conf_upd hu1 (touches_upd hu2) (blindX_tg hu2),hs2⟩
 have fin:∀e:Eff,reff P ops o (runTo ops R D σ ops.size) r.ix=some e→BindOk P env r.ix e.bind→e.val=r.eff.val→e.upd=r.eff.upd→e.del=r.eff.del→∃r:Rec,BindOk P env r.ix r.eff.bind∧r.ix≤env.length∧rstep P ops o (runTo ops R D σ ops.size) r.ix=some (runTo ops R (fun j=>D j||j==i) σ ops.size,r.eff.bind):=by
  intro e heff hbind h1 h2 h3
  refine⟨⟨e,[],r.ix⟩,hbind,f.ix,?_⟩
  have hadd:runTo ops R (fun j=>D j||j==i) σ ops.size=(runTo ops R D σ ops.size).app o.dst e:=by
   rw[hadd0]
   simp only[SState.app,h1,h2,h3]
  rw[hadd]
  refine rstep_of_reff heff ?_ fun hn u hu=>?_
  ·unfold dstOk at hdst ⊢
   rw[(runTo_len ..).1]
   exact hdst
  ·have hu:=h2 ▸ hu
   rcases hfr hn u hu with hH1 | hfr
   ·exact .inl hH1
   by_cases hne:u.1=HID
   ·exact .inl hne
   refine .inr (runTo_fresh hfr ops.size fun j hj hDj=>?_)
   obtain⟨oj,rj,hoj,hrj⟩:=hrec j hj
   refine⟨rj,hrj,?_⟩
   rcases Nat.lt_trichotomy j i with h | h | h
   ·exact((hpair j oj rj h hoj hrj).2 hn u hu).resolve_left hne
   ·subst h;rw[hi] at hDj;cases hDj
   ·rw[←Bool.not_eq_true]
    intro ht
    obtain⟨hs1,hs2⟩:=soft_ne (ops:=ops) (oj:=o) (oi:=oj) (ri:=rj) (upd_target hu) hne
    have:=hdone hoj hrj ⟨⟨conf_upd' (upd_target hu) ht (blindX_new hn),hs2⟩,conf_upd (upd_target hu) ht (blindX_new hn),hs1⟩
    rw[hDj] at this
    simp at this
    omega
 by_cases hbl:blindO o=true∧r.reader=true
 ·have hrd:=hbl.2
  unfold Rec.reader at hrd
  rw[Bool.and_eq_true] at hrd
  exact fin r.eff (reff_blind hbl.1 htmp hC f.eff hrd) f.bind rfl rfl rfl
 have hobj:=hobj hbl
 by_cases hkeep:r.touches HID=true→(runTo ops R D σ ops.size).obj HID=(lex ops R σ i).obj HID
 ·have heff:reff P ops o (runTo ops R D σ ops.size) r.ix=some r.eff:=by
   rw[reff_congr htmp (fun t ob ht hav=>?_) hC (fun hu=>hkeep (htouchH hu))]
   ·exact f.eff
   ·by_cases hne:ob=HID
    ·subst hne;exact hkeep (htouchT t _ ht hav)
    ·exact hobj ob hne (htouchT t ob ht hav)
  exact fin r.eff heff f.bind rfl rfl rfl
 ·-- a writer of the store has another place
  rw[Classical.not_imp] at hkeep
  obtain⟨htouch,hkeep⟩:=hkeep
  have hw:∀j,j<ops.size→HID∈(effAt R j).targets→D j=decide (j<i)∨(r.reader=true∧j∈softs ops R (masks ops.toList []) i):=by
   intro j hj hju
   obtain⟨oj,rj,hoj,hrj⟩:=hrec j hj
   have huj:HID∈rj.eff.targets:=by simpa[effAt,hrj] using hju
   by_cases hji:j=i
   ·subst hji;left;rw[hi];simp
   by_cases hsoft:r.reader=true∧rj.storer=true
   ·by_cases hm:j∈softs ops R (masks ops.toList []) i
    ·exact .inr ⟨hsoft.1,hm⟩
    ·obtain⟨m1,m2⟩:=mem_softs hj hrj hsoft.2 hji hm
     exact .inl (order_mask hD ho hi ha hoj m1 m2)
   ·have hnr:rj.reader=false:=by
     rw[←Bool.not_eq_true];intro hr
     rw[reader_targets hr] at huj;cases huj
    have hs:∀{o1 o2:Oper},softP ops o1 o2 rj r=false∧softP ops o2 o1 r rj=false:=by
     intro o1 o2
     have:(r.reader&&rj.storer)=false:=by
      rw[←Bool.not_eq_true,Bool.and_eq_true];exact hsoft
     simp only[softP,hnr,this,Bool.false_and,Bool.or_false,Bool.and_false,and_self]
    exact .inl (hdone hoj hrj ⟨⟨conf_upd huj htouch blindX_hid,hs.1⟩,conf_upd' huj htouch blindX_hid,hs.2⟩)
  have hsame:(∀j,j<ops.size→HID∈(effAt R j).targets→D j=decide (j<i))→False:=fun h=>hkeep (runTo_obj_at (Nat.le_of_lt hin) h)
  have hread:r.reader=true:=by
   refine Classical.byContradiction fun hn=>hsame fun j hj hju=>?_
   exact(hw j hj hju).resolve_right fun h=>hn h.1
  obtain⟨ys,hys,hev⟩:=f.alt
  unfold altOk at hys
  simp only[ho,f.at_,hread,htouch,Bool.and_self,if_true] at hys
  split at hys
  ·rename_i hs
   exact(hsame fun j hj hju=>(hw j hj hju).resolve_right fun h=>by rw[hs] at h;cases h.2).elim
  ·rename_i j0 hs
   have hD0:D j0≠decide (j0<i):=by
    intro h
    refine hsame fun j hj hju=>(hw j hj hju).elim id fun h'=>?_
    rw[hs] at h'
    have:=h'.2
    simp at this
    rw[this];exact h
   have halt:(runTo ops R D σ ops.size).obj HID=altObj ops R σ i j0:=by
    refine runTo_obj ops.size fun j hj hju=>?_
    by_cases hj0:j=j0
    ·subst hj0
     cases hDj:D j <;> cases hdj:decide (j<i) <;> simp_all
    ·have:D j=decide (j<i):=(hw j hj hju).resolve_right fun h=>by rw[hs] at h;simp at h;exact hj0 h.2
     show D j=(decide (j<i) != (j==j0))
     rw[this,show(j==j0)=false from by simpa using hj0]
     cases decide (j<i) <;> rfl
   split at hys
   ·rename_i e he
    split at hys
    ·rename_i hc
     simp only[Bool.and_eq_true,Option.isNone_iff_eq_none] at hc
     have hrd:=hread
     unfold Rec.reader at hrd
     simp only[Bool.and_eq_true,Option.isNone_iff_eq_none] at hrd
     have heff:reff P ops o (runTo ops R D σ ops.size) r.ix=some e:=by
      rw[←he]
      have hH:((lex ops R σ i).setObj HID (altObj ops R σ i j0)).obj HID=altObj ops R σ i j0:=by rw[obj_setObj_eq,if_pos (.inl rfl)]
      refine reff_congr (fun t ht=>?_) (fun t ob ht hav=>?_) ?_ fun _=>by rw[hH];exact halt
      ·rw[SState.tmp_setObj];exact htmp t ht
      ·rw[SState.tmp_setObj] at hav
       by_cases hne:ob=HID
       ·subst hne;rw[hH];exact halt
       ·rw[obj_setObj_ne (Ne.symm hne)];exact hobj ob hne (htouchT t ob ht hav)
      ·rw[cfOf_eq,cfOf_eq,hH,halt]
     have hb:BindOk P env r.ix e.bind:=by
      split at hys
      ·rename_i b a hbe hba
       cases hys
       obtain⟨d,hd⟩:=hev _ (List.mem_singleton_self _)
       have h0:=f.bind
       rw[hba] at h0
       obtain⟨da,h1,h2⟩:=h0
       rw[hbe]
       simp only[E.eval,h1,Option.bind_some,Option.bind_eq_some_iff] at hd
       obtain⟨db,h3,h4⟩:=hd
       simp only[Am.D.m4] at h4
       split at h4
       ·rename_i hsm
        have:=Am.D.same_eq hsm
        subst this
        exact⟨da,h3,h2⟩
       ·cases h4
      ·rename_i hbe hba
       rw[hbe];trivial
      ·cases hys
     exact fin e heff hb (SV.same_eq hc.1.1) (hc.1.2.trans hrd.1.symm) (hc.2.trans hrd.2.symm)
    ·cases hys
   ·cases hys
  ·cases hys

abbrev doneOf (listed:Array Bool):Nat→Bool:=fun j=>listed.getD j false

theorem countP_drop {p q:Nat→Bool}{i:Nat}:∀{l:List Nat},(∀j,q j=true→p j=true)→i∈l→p i=true→q i=false→l.countP q<l.countP p
 | [],_,h,_,_=>by cases h
 | j :: l,hpq,hm,hp,hq=>by
  have hle:l.countP q≤l.countP p:=List.countP_mono_left fun x _ hx=>hpq x hx
  rw[List.countP_cons,List.countP_cons]
  rcases List.mem_cons.1 hm with rfl | hm
  ·rw[hp,hq];simp;omega
  ·have ih:=countP_drop hpq hm hp hq
   cases hqj:q j with
   | false=>cases p j <;> simp <;> omega
   | true=>rw[hpq j hqj];simp;omega

theorem wpAny_gen {rd:Option Nat} {n:Nat} {Q:Exit→Act→World→Prop} {st:(Nat→Bool)→SState} (hafter:∀(i:Nat) (o:Oper),ops[i]? = some o→∀e,e∈o.after→Region.binds .any e=true→e.on<i)
  (hst:∀(D:Nat→Bool) (i:Nat) (o:Oper),Closed ops D→ops[i]? = some o→D i=false→(∀e,e∈o.after→Region.binds .any e=true→D e.on=true)→∃r:Rec,BindOk P env r.ix r.eff.bind∧r.ix≤env.length∧rstep P ops o (st D) r.ix=some (st (fun j=>D j||j==i),r.eff.bind))
  (hlen:∀D,(st D).tmps.length=σ.tmps.length∧(st D).mem.length=σ.mem.length) (hcongr:∀D D':Nat→Bool,(∀j,j<ops.size→D j=D' j)→st D=st D') (hm:σ.mem.length=σ.tmps.length)
  (hsz:∀(j d:Nat),(ops[j]?).bind (fun(o:Oper)=>o.dst)=some d→d<σ.tmps.length) (hQ:∀a' w' ρ',Rep w0 X w' a' (st fun _=>true) env ρ'→Q .normal a' w') :
  ∀(fuel:Nat) (listed:Array Bool) (a:Act) (w:World) (ρ:Rho),listed.size=ops.size→Closed ops (doneOf listed)→(List.range ops.size).countP (fun j=>!doneOf listed j)≤fuel →
   Rep w0 X w a (st (doneOf listed)) env ρ→wpAnyIn (FW rd) n P .any ops Q fuel listed a w:=by
 have hall:∀(listed:Array Bool),listed.size=ops.size→Region.ready .any ops listed=[]→∀j,j<ops.size→doneOf listed j=true:=by
  intro listed hs hr j
  induction j using Nat.strongRecOn with
  | _ j ih=>
   intro hj
   refine Classical.byContradiction fun hnd=>?_
   have hmem:j∈Region.ready .any ops listed:=by
    refine mem_ready.2 ⟨?_,ops[j],Array.getElem?_eq_getElem hj,fun e he hb=>?_⟩
    ·simp only[doneOf,Array.getD_eq_getD_getElem?,Array.getElem?_eq_getElem (show j<listed.size by omega),Option.getD_some] at hnd ⊢
     simpa using hnd
    ·have:=hafter j ops[j] (Array.getElem?_eq_getElem hj) e he hb
     exact ih e.on this (by omega)
   rw[hr] at hmem
   cases hmem
 have hend:∀(listed:Array Bool) (a:Act) (w:World) (ρ:Rho),listed.size=ops.size→Region.ready .any ops listed=[]→Rep w0 X w a (st (doneOf listed)) env ρ→Q .normal a w:=by
  intro listed a w ρ hs hr hrep
  rw[hcongr _ (fun _=>true) fun j hj=>hall listed hs hr j hj] at hrep
  exact hQ a w ρ hrep
 intro fuel
 induction fuel with
 | zero=>
  intro listed a w ρ hs hD hc hrep
  have hnil:Region.ready .any ops listed=[]:=by
   cases hr:Region.ready .any ops listed with
   | nil=>rfl
   | cons j l=>
    have hmem:j∈Region.ready .any ops listed:=by rw[hr];simp
    obtain⟨h1,o,ho,_⟩:=mem_ready.1 hmem
    have hj:=(Array.getElem?_eq_some_iff.1 ho).1
    have hpos:0<(List.range ops.size).countP (fun j=>!doneOf listed j):=List.countP_pos_iff.2 ⟨j,List.mem_range.2 hj,by
     simp only[doneOf,Array.getD_eq_getD_getElem?,Array.getElem?_eq_getElem (show j<listed.size by omega),Option.getD_some] at h1 ⊢
     simpa using h1⟩
    omega
  exact⟨hnil,hend listed a w ρ hs hnil hrep⟩
 | succ fuel ih=>
  intro listed a w ρ hs hD hc hrep
  refine⟨fun hnil=>hend listed a w ρ hs hnil hrep,fun i hi=>?_⟩
  obtain⟨h1,o,ho,ha⟩:=mem_ready.1 hi
  have hin:=(Array.getElem?_eq_some_iff.1 ho).1
  have hil:i<listed.size:=by omega
  have hDi:doneOf listed i=false:=by
   simp only[doneOf,Array.getD_eq_getD_getElem?,Array.getElem?_eq_getElem hil,Option.getD_some] at h1 ⊢
   exact h1
  have hset:doneOf (listed.setIfInBounds i true)=fun j=>doneOf listed j||j==i:=by
   funext j
   simp only[doneOf,Array.getD_eq_getD_getElem?,Array.getElem?_setIfInBounds]
   by_cases hij:i=j
   ·subst hij;simp[hil]
   ·have:(j==i)=false:=by simp;omega
    simp[hij,this]
  obtain⟨r,hbind,hix,hstep⟩:=hst _ i o hD ho hDi ha
  have hD':Closed ops (doneOf (listed.setIfInBounds i true)):=by
   rw[hset]
   intro k ok hk hok' e he hb
   simp only[Bool.or_eq_true,beq_iff_eq] at hk ⊢
   rcases hk with hk | rfl
   ·exact .inl (hD k ok hk hok' e he hb)
   ·rw[ho] at hok';cases hok'
    exact .inl (ha e he hb)
  have hcount:(List.range ops.size).countP (fun j=>!doneOf (listed.setIfInBounds i true) j)≤fuel:=by
   have:=countP_drop (p:=fun j=>!doneOf listed j) (q:=fun j=>!doneOf (listed.setIfInBounds i true) j) (i:=i) (l:=List.range ops.size) (fun j hj=>by rw[hset] at hj;simp at hj ⊢;exact hj.1) (List.mem_range.2 hin) (by simp[hDi]) (by rw[hset];simp)
   omega
  have hnext:∀a' w' ρ',Rep w0 X w' a' (st (fun j=>doneOf listed j||j==i)) env ρ'→wpAnyIn (FW rd) n P .any ops Q fuel (listed.setIfInBounds i true) a' w':=by
   intro a' w' ρ' hr'
   exact ih _ a' w' ρ' (by simp[hs]) hD' hcount (by rw[hset];exact hr')
  have hlen:=hlen (doneOf listed)
  unfold wpOpIn
  rw[ho]
  simp only
  rcases rstep_sound hrep (by rw[hlen.1,hlen.2];exact hm) hix (fun j d hjd=>by rw[hlen.1];exact hsz j d hjd) hstep hbind with⟨hw,hopok⟩ | ⟨hw,ρ'',hr'⟩
  ·rw[if_pos hw]
   refine wpIn_of_upon (rstep_defer hstep) (hopok Q) ?_
   rintro a' w' ⟨ρ',hr'⟩
   exact hnext a' w' ρ' hr'
  ·rw[if_neg (by rw[hw];simp)]
   exact⟨fun _ _=>trivial,hnext _ _ _ hr'⟩

theorem wpAny_draw {rd:Option Nat} {n:Nat} {Q:Exit→Act→World→Prop} (hok:orderOk ops R σ=true) (hF:∀(i:Nat) (o:Oper),ops[i]? = some o→∃r,Facts P ops R σ env i o r) (hm:σ.mem.length=σ.tmps.length)
  (hsz:∀(j d:Nat),(ops[j]?).bind (fun(o:Oper)=>o.dst)=some d→d<σ.tmps.length) (hQ:∀a' w' ρ',Rep w0 X w' a' (lex ops R σ ops.size) env ρ'→Q .normal a' w') :
  ∀(fuel:Nat) (listed:Array Bool) (a:Act) (w:World) (ρ:Rho),listed.size=ops.size→Closed ops (doneOf listed)→(List.range ops.size).countP (fun j=>!doneOf listed j)≤fuel →
   Rep w0 X w a (runTo ops R (doneOf listed) σ ops.size) env ρ→wpAnyIn (FW rd) n P .any ops Q fuel listed a w:=
 wpAny_gen (st:=fun D=>runTo ops R D σ ops.size) (fun i o ho=>by
  obtain⟨r,f⟩:=hF i o ho
  exact(orderOk_at hok ho f.at_).1) (fun D i o hD ho hi ha=>wanted_step hok hF hD ho hi ha) (fun D=>runTo_len ops R D σ ops.size) (fun D D' h=>runTo_congr ops.size h) hm hsz hQ

end
end
end Go.Am

/-
 A region whose order is drawn,in which two operations write the store,whichever comes first.
-/
namespace Go.Am
noncomputable section

def storeIx (cf:StCfg)(e:Eff):Option Nat:=
 match e.upd with
 | some (k,.store cf' (.sym n))=>if k=HID∧cf'=cf then some n else none
 | _=>none

theorem storeIx_some {cf:StCfg}{e:Eff}{n:Nat}(h:storeIx cf e=some n):e.upd=some (HID,.store cf (.sym n)):=by
 unfold storeIx at h
 split at h
 ·rename_i k cf' n' hu
  split at h
  ·rename_i hc
   cases h
   rw[hu,hc.1,hc.2]
  ·cases h
 ·cases h

def Eff.bare (e:Eff):Eff:=match e.upd with | some u=>if u.1=HID then { e with upd:=none } else e | none=>e

def bareR (R:List Rec):List Rec:=R.map fun r=>{ r with eff:=r.eff.bare }

structure Two where
 i:Nat
 j:Nat
 ni:Nat
 nj:Nat
 ja:Nat

def hobj (σ:SState)(cf:StCfg)(t:Two):Bool→Bool→Option SObj
 | false,false=>σ.obj HID
 | true,false=>some (.store cf (.sym t.ni))
 | false,true=>some (.store cf (.sym t.ja))
 | true,true=>some (.store cf (.sym t.nj))

def conf0 (ops:Array Oper)(oj oi:Oper)(rj ri:Rec):Bool:=
 !oj.apart ops oi||rj.eff.bare.targets.any ri.touches||ri.eff.bare.targets.any rj.touches

def opOk2 (ops:Array Oper)(R:List Rec)(σ:SState)(m i:Nat):Bool:=
 match ops[i]?,R[i]? with
 | some oi,some ri=>oi.after.all (fun e=>!Region.binds .any e||decide (e.on<i))&&dstOk σ oi &&
   (!isNew oi||match ri.eff.upd with | some u=>decide (u.1=HID)||((σ.obj u.1).isNone&&σ.avoidsB u.1) | none=>true) &&
   (List.range i).all fun j=>match ops[j]?,R[j]? with
    | some oj,some rj=>(!conf0 ops oj oi rj ri||m.testBit j)&&(!isNew oi||match ri.eff.upd with | some u=>decide (u.1=HID)||!rj.touches u.1 | none=>true)
    | _,_=>true
 | _,_=>false

def onlyTwo (R:List Rec)(cf:StCfg)(t:Two):Bool:=
 decide (t.i<t.j)&&(List.range R.length).all fun k=>match R[k]? with
  | some r=>decide (r.eff.del≠some HID)&&(if k=t.i then decide (storeIx cf r.eff=some t.ni) else if k=t.j then decide (storeIx cf r.eff=some t.nj) else match r.eff.upd with
   | some u=>decide (u.1≠HID)
   | none=>true)
  | none=>true

def orderOk2 (ops:Array Oper)(R:List Rec)(σ:SState)(cf:StCfg)(t:Two):Bool:=
 decide (ops.size=R.length)&&decide (cfO (σ.obj HID)=some cf)&&onlyTwo R cf t&&(List.range ops.size).all fun i=>opOk2 ops R σ ((masks ops.toList []).getD i 0) i

def free2 (ms:List Nat)(k w:Nat):Bool:=!(decide (w<k)&&(ms.getD k 0).testBit w)&&!(decide (k<w)&&(ms.getD w 0).testBit k)

def doneIf (ms:List Nat)(k w:Nat):List Bool:=if free2 ms k w then[false,true] else[decide (w<k)]

def reffAt (P:Program)(ops:Array Oper)(R:List Rec)(σ:SState)(cf:StCfg)(t:Two)(k:Nat)(o:Oper)(a b:Bool)(ix:Nat):Option Eff:=
 reff P ops o ((lex ops R σ k).setObj HID (hobj σ cf t a b)) ix

def altRd (P:Program)(ops:Array Oper)(R:List Rec)(σ:SState)(cf:StCfg)(t:Two)(k:Nat)(o:Oper)(r:Rec)(a b:Bool):Option (List E):=
 if a=decide (t.i<k)∧b=decide (t.j<k) then some [] else match reffAt P ops R σ cf t k o a b r.ix with
 | some e=>if e.val.same r.eff.val&&e.upd.isNone&&r.eff.upd.isNone&&e.del.isNone&&r.eff.del.isNone then(match e.bind,r.eff.bind with
   | some (.ev b),some (.ev a)=>some [.m4 .same a b .nil .nil]
   | none,none=>some []
   | _,_=>none) else none
 | none=>none

def catO:List (Option (List E))→Option (List E)
 | []=>some []
 | x :: r=>x.bind fun xs=>(catO r).map (xs++·)

def alt2 (P:Program)(ops:Array Oper)(R:List Rec)(σ:SState)(cf:StCfg)(t:Two)(ms:List Nat)(k:Nat):Option (List E):=
 match ops[k]?,R[k]? with
 | some o,some r=>
  if k=t.i then(match reffAt P ops R σ cf t k o false true t.nj with
   | some e=>if e.val.same r.eff.val&&decide (storeIx cf e=some t.nj)&&e.del.isNone&&r.eff.del.isNone then(match e.bind with
    | some (.ev b)=>some [.m4 .same b (.sym t.nj) .nil .nil]
    | _=>none) else none
   | none=>none)
  else if k=t.j then(match reffAt P ops R σ cf t k o false false t.ja with
   | some e=>if e.val.same r.eff.val&&decide (storeIx cf e=some t.ja)&&e.del.isNone&&r.eff.del.isNone then(match e.bind with
    | some (.ev b)=>some [.m4 .same (.sym t.ja) b .nil .nil]
    | _=>none) else none
   | none=>none)
  else if r.touches HID then catO ((doneIf ms k t.i).flatMap fun a=>(doneIf ms k t.j).map fun b=>altRd P ops R σ cf t k o r a b)
  else some []
 | _,_=>none

def altJ (P:Program)(ops:Array Oper)(R:List Rec)(σ:SState)(cf:StCfg)(t:Two):Option E:=
 match ops[t.j]? with
 | some o=>(match reffAt P ops R σ cf t t.j o false false t.ja with
  | some e=>(match e.bind with
   | some (.ev b)=>some b
   | _=>none)
  | none=>none)
 | none=>none

def twoOf (R:List Rec)(cf:StCfg)(ja:Nat):Option Two:=
 match(List.range R.length).filterMap fun k=>(R[k]?).bind fun r=>(storeIx cf r.eff).map fun n=>(k,n) with
 | [(i,ni),(j,nj)]=>some ⟨i,j,ni,nj,ja⟩
 | _=>none

def extras2 (P:Program)(ops:Array Oper)(R:List Rec)(σ:SState)(ja:Nat):Option (List E):=
 match cfO (σ.obj HID) with
 | some cf=>(twoOf R cf ja).bind fun t=>if orderOk2 ops R σ cf t=true then(altJ P ops R σ cf t).bind fun b=>
   (catO ((List.range ops.size).map (alt2 P ops R σ cf t (masks ops.toList [])))).map (b :: ·) else none
 | none=>none

/-! ## states -/

section
variable {P:Program} {ops:Array Oper} {R:List Rec} {σ:SState} {D:Nat→Bool} {cf:StCfg} {t:Two} {env:List Am.D}

theorem bare_val (e:Eff):e.bare.val=e.val:=by
 unfold Eff.bare;split
 ·split <;> rfl
 ·rfl

theorem bare_del (e:Eff):e.bare.del=e.del:=by
 unfold Eff.bare;split
 ·split <;> rfl
 ·rfl

theorem bare_upd (e:Eff):e.bare.upd=match e.upd with | some u=>if u.1=HID then none else some u | none=>none:=by
 unfold Eff.bare
 split
 ·rename_i u hu
  split
  ·rfl
  ·exact hu
 ·rename_i hu;exact hu

theorem bare_sub {e:Eff}{ob:Nat}(h:ob∈e.bare.targets)(hd:e.del≠some HID):ob∈e.targets∧ob≠HID:=by
 unfold Eff.targets at h ⊢
 rw[bare_upd,bare_del] at h
 rcases List.mem_append.1 h with h | h
 ·cases hu:e.upd with
  | none=>rw[hu] at h;simp at h
  | some u=>
   rw[hu] at h
   by_cases hh:u.1=HID
   ·simp[hh] at h
   ·simp[hh] at h
    subst h
    exact⟨by simp,hh⟩
 ·cases hk:e.del with
  | none=>rw[hk] at h;simp at h
  | some k=>
   rw[hk] at h
   simp at h
   subst h
   exact⟨by simp,fun e=>hd (by rw[hk,e])⟩

def leftObj (e:Eff)(z:Option SObj):Option SObj:=match e.upd with | some u=>if u.1=HID then some u.2 else z | none=>z

theorem app_bare {τ:SState}{dst:Option Tmp}{e:Eff}{z:Option SObj}(hd:e.del≠some HID):(τ.setObj HID z).app dst e=(τ.app dst e.bare).setObj HID (leftObj e z):=by
 have two:∀(τ:SState) (x y:Option SObj),(τ.setObj HID x).setObj HID y=τ.setObj HID y:=by
  intro τ x y
  simp[SState.setObj_def]
 unfold SState.app leftObj
 rw[bare_upd,bare_del,bare_val,put_setObj]
 congr 1
 cases hk:e.del with
 | none=>
  cases hu:e.upd with
  | none=>rfl
  | some u=>
   by_cases hh:u.1=HID
   ·simp only[hh,if_true,SState.dels,SState.sets,two]
   ·simp only[hh,if_false,SState.dels,SState.sets]
    exact setObj_comm _ _ _ (Ne.symm hh)
 | some k=>
  have hkk:HID≠k:=fun e=>hd (by rw[hk,e])
  cases hu:e.upd with
  | none=>
   simp only[SState.dels,SState.sets]
   exact setObj_comm _ _ _ hkk
  | some u=>
   simp only[SState.dels]
   rw[setObj_comm _ _ _ hkk]
   by_cases hh:u.1=HID
   ·simp only[hh,if_true,SState.sets,two]
   ·simp only[hh,if_false,SState.sets]
    exact setObj_comm _ _ _ (Ne.symm hh)

theorem effAt_bare (k:Nat):effAt (bareR R) k=(effAt R k).bare:=by
 unfold effAt bareR
 rw[List.getElem?_map]
 cases R[k]? <;> rfl

theorem setObj_self (σ:SState):σ.setObj HID (σ.obj HID)=σ:=by
 simp[SState.setObj_def,SState.obj_def]

theorem runTo_bare (hdel:∀k,(effAt R k).del≠some HID):∀n,∃z,runTo ops R D σ n=(runTo ops (bareR R) D σ n).setObj HID z
 | 0=>⟨σ.obj HID,(setObj_self σ).symm⟩
 | n+1=>by
  obtain⟨z,hz⟩:=runTo_bare hdel n
  unfold runTo
  split
  ·rw[hz,app_bare (hdel n),effAt_bare]
   exact⟨_,rfl⟩
  ·exact⟨z,hz⟩

structure TwoOk (R:List Rec)(cf:StCfg)(t:Two):Prop where
 lt:t.i<t.j
 del:∀k,(effAt R k).del≠some HID
 at_i:∀r,R[t.i]? = some r→r.eff.upd=some (HID,.store cf (.sym t.ni))
 at_j:∀r,R[t.j]? = some r→r.eff.upd=some (HID,.store cf (.sym t.nj))
 other:∀k r,R[k]? = some r→k≠t.i→k≠t.j→∀u,r.eff.upd=some u→u.1≠HID

theorem twoOk (h:onlyTwo R cf t=true):TwoOk R cf t:=by
 unfold onlyTwo at h
 simp only[Bool.and_eq_true,decide_eq_true_eq,List.all_eq_true,List.mem_range] at h
 obtain⟨hlt,h⟩:=h
 have at_:∀{k:Nat} {r:Rec},R[k]? = some r→r.eff.del≠some HID∧((k=t.i→storeIx cf r.eff=some t.ni)∧(k≠t.i→k=t.j→storeIx cf r.eff=some t.nj)∧(k≠t.i→k≠t.j→∀u,r.eff.upd=some u→u.1≠HID)):=by
  intro k r hk
  have:=h k (List.getElem?_eq_some_iff.1 hk).1
  rw[hk] at this
  simp only[Bool.and_eq_true,decide_eq_true_eq] at this
  refine⟨this.1,fun e=>?_,fun e1 e2=>?_,fun e1 e2 u hu=>?_⟩
  ·rw[if_pos e] at this;simpa using this.2
  ·rw[if_neg e1,if_pos e2] at this;simpa using this.2
  ·rw[if_neg e1,if_neg e2,hu] at this;simpa using this.2
 refine⟨hlt,fun k=>?_,fun r hr=>storeIx_some ((at_ hr).2.1 rfl),fun r hr=>storeIx_some ((at_ hr).2.2.1 (by omega) rfl),fun k r hr e1 e2=>(at_ hr).2.2.2 e1 e2⟩
 unfold effAt
 cases hr:R[k]? with
 | none=>simp
 | some r=>exact(at_ hr).1

theorem TwoOk.eff_i (ht:TwoOk R cf t)(hl:t.i<R.length):(effAt R t.i).upd=some (HID,.store cf (.sym t.ni)):=by
 have hr:R[t.i]? = some R[t.i]:=List.getElem?_eq_getElem hl
 unfold effAt
 rw[hr]
 exact ht.at_i _ hr

theorem TwoOk.eff_j (ht:TwoOk R cf t)(hl:t.j<R.length):(effAt R t.j).upd=some (HID,.store cf (.sym t.nj)):=by
 have hr:R[t.j]? = some R[t.j]:=List.getElem?_eq_getElem hl
 unfold effAt
 rw[hr]
 exact ht.at_j _ hr

theorem TwoOk.eff_ne (ht:TwoOk R cf t){k:Nat}(h1:k≠t.i)(h2:k≠t.j){u:Nat×SObj}(hu:(effAt R k).upd=some u):u.1≠HID:=by
 unfold effAt at hu
 cases hr:R[k]? with
 | none=>rw[hr] at hu;cases hu
 | some r=>rw[hr] at hu;exact ht.other k r hr h1 h2 u hu

theorem lex_succ (n:Nat):lex ops R σ (n+1)=(lex ops R σ n).app (dstAt ops n) (effAt R n):=rfl

theorem lex_obj (ht:TwoOk R cf t)(hlen:t.j<R.length):∀n,(lex ops R σ n).obj HID=hobj σ cf t (decide (t.i<n)) (decide (t.j<n))
 | 0=>by simp[hobj,runTo]
 | n+1=>by
  have ih:=lex_obj ht hlen n
  have hlt:=ht.lt
  rw[lex_succ]
  generalize lex ops R σ n=τ at ih
  have hd:=ht.del n
  have key:∀e:Eff,e.del≠some HID→(τ.app (dstAt ops n) e).obj HID=leftObj e (τ.obj HID):=by
   intro e hd
   have:=app_bare (τ:=τ) (dst:=dstAt ops n) (z:=τ.obj HID) hd
   rw[setObj_self] at this
   rw[this,obj_setObj_eq,if_pos (.inl rfl)]
  rw[key _ hd,ih]
  by_cases h1:n=t.i
  ·subst h1
   rw[leftObj,ht.eff_i (by omega)]
   have e1:decide (t.i<t.i+1)=true:=by simp
   have e2:decide (t.j<t.i+1)=false:=by simp;omega
   rw[e1,e2]
   rfl
  ·by_cases h2:n=t.j
   ·subst h2
    rw[leftObj,ht.eff_j hlen]
    have e1:decide (t.i<t.j+1)=true:=by simp;omega
    have e2:decide (t.j<t.j+1)=true:=by simp
    rw[e1,e2]
    rfl
   ·have e1:decide (t.i<n+1)=decide (t.i<n):=decide_eq_decide.2 (by omega)
    have e2:decide (t.j<n+1)=decide (t.j<n):=decide_eq_decide.2 (by omega)
    rw[e1,e2]
    unfold leftObj
    split
    ·rename_i u hu
     rw[if_neg (ht.eff_ne h1 h2 hu)]
    ·rfl

def st2 (ops:Array Oper)(R:List Rec)(σ:SState)(cf:StCfg)(t:Two)(D:Nat→Bool):SState:=
 (runTo ops (bareR R) D σ ops.size).setObj HID (hobj σ cf t (D t.i) (D t.j))

theorem catO_mem:∀{l:List (Option (List E))} {xs:List E},catO l=some xs→∀x,x∈l→∃ys,x=some ys∧∀y,y∈ys→y∈xs
 | [],_,_,x,hx=>by cases hx
 | a :: l,xs,h,x,hx=>by
  simp only[catO,Option.bind_eq_some_iff,Option.map_eq_some_iff] at h
  obtain⟨ys,h1,zs,h2,rfl⟩:=h
  rcases List.mem_cons.1 hx with rfl | hx
  ·exact⟨ys,h1,fun y hy=>List.mem_append.2 (.inl hy)⟩
  ·obtain⟨ys',g1,g2⟩:=catO_mem h2 x hx
   exact⟨ys',g1,fun y hy=>List.mem_append.2 (.inr (g2 y hy))⟩

structure Facts2 (P:Program)(ops:Array Oper)(R:List Rec)(σ:SState)(env:List Am.D)(cf:StCfg)(t:Two)(i:Nat)(o:Oper)(r:Rec):Prop where
 at_:R[i]? = some r
 eff:reff P ops o (lex ops R σ i) r.ix=some r.eff
 seen:r.seen=seenOf ops o (lex ops R σ i)
 bind:BindOk P env r.ix r.eff.bind
 ix:r.ix≤env.length
 alt:∃ys,alt2 P ops R σ cf t (masks ops.toList []) i=some ys∧∀y,y∈ys→∃d,y.eval env=some d

theorem same_bind {a b:E}{n:Nat}(hd:∃d,(E.m4 .same a b .nil .nil).eval env=some d)(hb:b.eval env=env[n]?):BindOk P env n (some (.ev a)):=by
 obtain⟨d,hd⟩:=hd
 simp only[E.eval,Option.bind_eq_some_iff] at hd
 obtain⟨x,h1,y,h2,_,_,_,_,h3⟩:=hd
 simp only[Am.D.m4] at h3
 split at h3
 ·rename_i hs
  have:=Am.D.same_eq hs
  subst this
  exact⟨x,h1,by rw[←hb,h2]⟩
 ·cases h3

theorem same_bind' {a b:E}{n:Nat}(hd:∃d,(E.m4 .same b a .nil .nil).eval env=some d)(hb:b.eval env=env[n]?):BindOk P env n (some (.ev a)):=by
 obtain⟨d,hd⟩:=hd
 simp only[E.eval,Option.bind_eq_some_iff] at hd
 obtain⟨x,h1,y,h2,_,_,_,_,h3⟩:=hd
 simp only[Am.D.m4] at h3
 split at h3
 ·rename_i hs
  have:=Am.D.same_eq hs
  subst this
  exact⟨x,h2,by rw[←hb,h1]⟩
 ·cases h3

theorem sym_lt {n:Nat}{a:E}(hb:BindOk P env n (some (.ev a))):n≤env.length:=by
 obtain⟨d,_,h⟩:=hb
 exact Nat.le_of_lt (List.getElem?_eq_some_iff.1 h).1

theorem doneIf_mem (hD:Closed ops D){k w:Nat}{o:Oper}(ho:ops[k]? = some o)(hk:D k=false)(ha:∀e,e∈o.after→Region.binds .any e=true→D e.on=true)(hw:w<ops.size)(hne:k≠w):D w∈doneIf (masks ops.toList []) k w:=by
 unfold doneIf
 split
 ·cases D w <;> simp
 ·rename_i hf
  simp only[free2,Bool.and_eq_true,Bool.not_eq_true',Bool.and_eq_false_iff,decide_eq_false_iff_not] at hf
  rw[List.mem_singleton]
  exact order_mask hD ho hk ha (Array.getElem?_eq_getElem hw) (fun h=>Classical.byContradiction fun hb=>hf ⟨.inr (by simpa using hb),.inl (by omega)⟩) fun h=>Classical.byContradiction fun hb=>hf ⟨.inl (by omega),.inr (by simpa using hb)⟩

theorem step2 (hok:orderOk2 ops R σ cf t=true) (hF:∀(i:Nat) (o:Oper),ops[i]? = some o→∃r,Facts2 P ops R σ env cf t i o r) (hj:t.j<ops.size) (hD:Closed ops D) {i:Nat} {o:Oper} (ho:ops[i]? = some o) (hi:D i=false)
  (ha:∀e,e∈o.after→Region.binds .any e=true→D e.on=true):∃r:Rec,BindOk P env r.ix r.eff.bind∧r.ix≤env.length∧rstep P ops o (st2 ops R σ cf t D) r.ix=some (st2 ops R σ cf t (fun j=>D j||j==i),r.eff.bind):=by
 unfold orderOk2 at hok
 simp only[Bool.and_eq_true,decide_eq_true_eq,List.all_eq_true,List.mem_range] at hok
 obtain⟨⟨⟨hsize,hcf⟩,htwo⟩,hall⟩:=hok
 have ht:=twoOk htwo
 obtain⟨r,f⟩:=hF i o ho
 have hin:=(Array.getElem?_eq_some_iff.1 ho).1
 have hrec:∀(j:Nat),j<ops.size→∃oj rj,ops[j]? = some oj∧R[j]? = some rj:=fun j hj=>by
  obtain⟨rj,fj⟩:=hF j ops[j] (Array.getElem?_eq_getElem hj)
  exact⟨_,rj,Array.getElem?_eq_getElem hj,fj.at_⟩
 have hopk:∀{k:Nat} {ok:Oper} {rk:Rec},ops[k]? = some ok→R[k]? = some rk→dstOk σ ok=true∧(isNew ok=true→∀u,rk.eff.upd=some u→u.1=HID∨freshAt σ u.1) ∧
   ∀(j:Nat) (oj:Oper) (rj:Rec),j<k→ops[j]? = some oj→R[j]? = some rj→(conf0 ops oj ok rj rk=true→((masks ops.toList []).getD k 0).testBit j=true)∧(isNew ok=true→∀u,rk.eff.upd=some u→u.1=HID∨rj.touches u.1=false):=by
  intro k ok rk hk hrk
  have h:=hall k (Array.getElem?_eq_some_iff.1 hk).1
  unfold opOk2 at h
  rw[hk,hrk] at h
  simp only[Bool.and_eq_true,List.all_eq_true,List.mem_range] at h
  obtain⟨⟨⟨_,h2⟩,h3⟩,h4⟩:=h
  refine⟨h2,fun hn u hu=>?_,fun j oj rj hj hoj hrj=>?_⟩
  ·rw[hn,hu] at h3
   simpa[freshAt] using h3
  ·have:=h4 j hj
   rw[hoj,hrj] at this
   simp only[Bool.and_eq_true,Bool.or_eq_true,Bool.not_eq_true'] at this
   refine⟨fun hc=>by rw[hc] at this;simpa using this.1,fun hn u hu=>?_⟩
   have:=this.2
   rw[hn,hu] at this
   simpa using this
 obtain⟨hdst,hfr,hpair⟩:=hopk ho f.at_
 have hdone:∀{j:Nat} {oj:Oper} {rj:Rec},ops[j]? = some oj→R[j]? = some rj→conf0 ops oj o rj r=true→conf0 ops o oj r rj=true→D j=decide (j<i):=fun {j oj rj} hoj hrj h1 h2=>
  order_mask hD ho hi ha hoj (fun h=>(hpair j oj rj h hoj hrj).1 h1) fun h=>((hopk hoj hrj).2.2 i o r h ho f.at_).1 h2
 have ap:∀{j:Nat} {oj:Oper} {rj:Rec},oj.apart ops o=false→o.apart ops oj=false→ops[j]? = some oj→R[j]? = some rj→D j=decide (j<i):=fun h1 h2 hoj hrj=>
  hdone hoj hrj (by simp[conf0,h1]) (by simp[conf0,h2])
 have eAt:∀{k:Nat} {rk:Rec},R[k]? = some rk→effAt R k=rk.eff:=fun hk=>by simp[effAt,hk]
 obtain⟨zD,hzD⟩:=runTo_bare (ops:=ops) (σ:=σ) (D:=D) ht.del ops.size
 obtain⟨zL,hzL⟩:=runTo_bare (ops:=ops) (σ:=σ) (D:=fun _=>true) ht.del i
 have htmp:∀s,s∈o.looksAt ops→(st2 ops R σ cf t D).tmp s=(lex ops R σ i).tmp s:=by
  intro s hs
  have h1:(runTo ops R D σ ops.size).tmp s=(lex ops R σ i).tmp s:=by
   refine runTo_tmp_at (Nat.le_of_lt hin) fun j hj hjt=>?_
   obtain⟨oj,hoj,hdj⟩:=dstAt_some hjt
   obtain⟨rj,fj⟩:=hF j oj hoj
   exact ap (apart_read hdj hs) (apart_read' hdj hs) hoj fj.at_
  rw[←h1,hzD]
  unfold st2
  rw[SState.tmp_setObj,SState.tmp_setObj]
 have hobj0:∀ob,ob≠HID→r.touches ob=true→(st2 ops R σ cf t D).obj ob=(lex ops R σ i).obj ob:=by
  intro ob hne htouch
  have h1:(runTo ops (bareR R) D σ ops.size).obj ob=(runTo ops (bareR R) (fun _=>true) σ i).obj ob:=by
   refine runTo_obj_at (Nat.le_of_lt hin) fun j hj hju=>?_
   obtain⟨oj,rj,hoj,hrj⟩:=hrec j hj
   rw[effAt_bare,eAt hrj] at hju
   refine hdone hoj hrj ?_ ?_
   ·have:rj.eff.bare.targets.any r.touches=true:=List.any_eq_true.2 ⟨ob,hju,htouch⟩
    simp[conf0,this]
   ·have:rj.eff.bare.targets.any r.touches=true:=List.any_eq_true.2 ⟨ob,hju,htouch⟩
    simp[conf0,this]
  have h2:(lex ops R σ i).obj ob=(runTo ops (bareR R) (fun _=>true) σ i).obj ob:=by
   show(runTo ops R (fun _=>true) σ i).obj ob=_
   rw[hzL,obj_setObj_ne (Ne.symm hne)]
  unfold st2
  rw[obj_setObj_ne (Ne.symm hne),h1,h2]
 have htouchT:∀s ob,s∈o.looksAt ops→((lex ops R σ i).tmp s).avoids ob=false→r.touches ob=true:=fun s ob hs hav=>touches_seen (sv:=(lex ops R σ i).tmp s) (by rw[f.seen];exact List.mem_append.2 (.inl (List.mem_map_of_mem hs))) hav
 have htouchH:usesHr o (fun x=>((lex ops R σ i).opd x).mayE) (cfOf (lex ops R σ i).obj)=true→r.touches HID=true:=fun hu=>touches_seen (sv:=.slc HID) (by rw[f.seen];refine List.mem_append.2 (.inr ?_);rw[hu];simp) (by simp[SV.avoids])
 have hstH:(st2 ops R σ cf t D).obj HID=hobj σ cf t (D t.i) (D t.j):=by
  unfold st2
  rw[obj_setObj_eq,if_pos (.inl rfl)]
 have hcfO:∀a b,cfO (hobj σ cf t a b)=some cf:=by
  intro a b
  cases a <;> cases b <;> first | exact hcf | rfl
 have hlexH:=lex_obj (ops:=ops) (σ:=σ) ht (by omega) i
 have hcfL:cfOf (lex ops R σ i).obj=some cf:=by rw[cfOf_eq,hlexH,hcfO]
 have hat:∀ix,reff P ops o (st2 ops R σ cf t D) ix=reffAt P ops R σ cf t i o (D t.i) (D t.j) ix:=by
  intro ix
  unfold reffAt
  have hH:((lex ops R σ i).setObj HID (hobj σ cf t (D t.i) (D t.j))).obj HID=hobj σ cf t (D t.i) (D t.j):=by rw[obj_setObj_eq,if_pos (.inl rfl)]
  refine reff_congr (fun s hs=>?_) (fun s ob hs hav=>?_) ?_ fun _=>by rw[hstH,hH]
  ·rw[SState.tmp_setObj];exact htmp s hs
  ·rw[SState.tmp_setObj] at hav
   by_cases hne:ob=HID
   ·subst hne;rw[hstH,hH]
   ·rw[obj_setObj_ne (Ne.symm hne)];exact hobj0 ob hne (htouchT s ob hs hav)
  ·rw[cfOf_eq,cfOf_eq,hstH,hH]
 have hrunadd:runTo ops (bareR R) (fun j=>D j||j==i) σ ops.size=(runTo ops (bareR R) D σ ops.size).app o.dst r.eff.bare:=by
  rw[runTo_add hi ops.size hin fun j hj hij hDj=>?_]
  ·rw[effAt_bare,eAt f.at_]
   congr 1
   simp[dstAt,ho]
  ·obtain⟨oj,rj,hoj,hrj⟩:=hrec j hj
   have hno:D j≠decide (j<i):=by rw[hDj];simp;omega
   refine⟨fun s h1 h2=>hno ?_,fun ob h1 h2=>hno ?_⟩
   ·obtain⟨o1,ho1,hd1⟩:=dstAt_some h1
    obtain⟨o2,ho2,hd2⟩:=dstAt_some h2
    rw[ho] at ho1;rw[hoj] at ho2
    cases ho1;cases ho2
    exact ap (apart_dst hd2 hd1) (apart_dst hd1 hd2) hoj hrj
   ·rw[effAt_bare,eAt f.at_] at h1
    rw[effAt_bare,eAt hrj] at h2
    have hd:=ht.del i
    rw[eAt f.at_] at hd
    obtain⟨g1,g2⟩:=bare_sub h1 hd
    refine hdone hoj hrj ?_ ?_
    ·have:r.eff.bare.targets.any rj.touches=true:=List.any_eq_true.2 ⟨ob,h1,by
      have hdj:=ht.del j
      rw[eAt hrj] at hdj
      exact touches_upd (bare_sub h2 hdj).1⟩
     simp[conf0,this]
    ·have:r.eff.bare.targets.any rj.touches=true:=List.any_eq_true.2 ⟨ob,h1,by
      have hdj:=ht.del j
      rw[eAt hrj] at hdj
      exact touches_upd (bare_sub h2 hdj).1⟩
     simp[conf0,this]
 have hrd:r.eff.del≠some HID:=by have:=ht.del i;rwa [eAt f.at_] at this
 have fin:∀(e:Eff) (ix:Nat),reff P ops o (st2 ops R σ cf t D) ix=some e→BindOk P env ix e.bind→ix≤env.length→e.val=r.eff.val→e.bare.upd=r.eff.bare.upd→e.del=r.eff.del→(∀u,e.upd=some u→u.1=HID→some u.2=hobj σ cf t (D t.i||t.i==i) (D t.j||t.j==i))→((∀u,e.upd=some u→u.1≠HID)→i≠t.i∧i≠t.j) →
   (isNew o=true→∀u,e.upd=some u→u.1=HID∨r.eff.upd=some u)→∃r:Rec,BindOk P env r.ix r.eff.bind∧r.ix≤env.length∧rstep P ops o (st2 ops R σ cf t D) r.ix=some (st2 ops R σ cf t (fun j=>D j||j==i),r.eff.bind):=by
  intro e ix heff hbind hix h1 h2 h3 h4 h5 h6
  refine⟨⟨e,[],ix⟩,hbind,hix,?_⟩
  have hbare:e.bare={ e.bare with val:=r.eff.bare.val,upd:=r.eff.bare.upd,del:=r.eff.bare.del }:=by
   rw[←h2,bare_val,bare_del,←h1,←h3,←bare_val e,←bare_del e]
  have hnew:st2 ops R σ cf t (fun j=>D j||j==i)=(st2 ops R σ cf t D).app o.dst e:=by
   unfold st2
   rw[app_bare (by rw[h3];exact hrd),hrunadd]
   have happ:∀τ:SState,τ.app o.dst e.bare=τ.app o.dst r.eff.bare:=fun τ=>by
    unfold SState.app
    rw[h2,bare_del,bare_del,bare_val,bare_val,h1,h3]
   rw[happ]
   congr 1
   unfold leftObj
   cases hu:e.upd with
   | none=>
    obtain⟨g1,g2⟩:=h5 fun u hu'=>by rw[hu] at hu';cases hu'
    have e1:(t.i==i)=false:=by simpa using Ne.symm g1
    have e2:(t.j==i)=false:=by simpa using Ne.symm g2
    simp only[e1,e2,Bool.or_false]
   | some u=>
    by_cases hh:u.1=HID
    ·simp only[hh,if_true]
     exact(h4 u hu hh).symm
    ·simp only[hh,if_false]
     obtain⟨g1,g2⟩:=h5 fun u' hu'=>by rw[hu] at hu';cases hu';exact hh
     have e1:(t.i==i)=false:=by simpa using Ne.symm g1
     have e2:(t.j==i)=false:=by simpa using Ne.symm g2
     simp only[e1,e2,Bool.or_false]
  rw[hnew]
  refine rstep_of_reff heff ?_ fun hn u hu=>?_
  ·unfold dstOk at hdst ⊢
   unfold st2
   rw[SState.tmps_setObj,(runTo_len ..).1]
   exact hdst
  ·rcases h6 hn u hu with hH1 | hu
   ·exact .inl hH1
   rcases hfr hn u hu with hH1 | hfr
   ·exact .inl hH1
   by_cases hne:u.1=HID
   ·exact .inl hne
   right
   have hbt:∀{k:Nat} {rk:Rec},R[k]? = some rk→rk.touches u.1=false→({ rk with eff:=rk.eff.bare }:Rec).touches u.1=false:=by
    intro k rk hk hrk
    obtain⟨g1,g2,g3⟩:=touches_false hrk
    have hdk:=ht.del k
    rw[eAt hk] at hdk
    have hseen:rk.seen.any (fun sv=>!sv.avoids u.1)=false:=by
     simp only[Rec.touches,Bool.or_eq_false_iff] at hrk
     exact hrk.1.1.1
    have ht1:rk.eff.bare.targets.contains u.1=false:=by
     rw[←Bool.not_eq_true]
     intro hc
     exact g2 (bare_sub (by simpa using hc) hdk).1
    have hup:∀u',rk.eff.bare.upd=some u'→u'.2.avoids u.1=true:=by
     intro u' hu'
     rw[bare_upd] at hu'
     split at hu'
     ·rename_i u0 hu0
      split at hu'
      ·cases hu'
      ·cases hu';exact g3 _ hu0
     ·cases hu'
    unfold Rec.touches
    simp only[hseen,bare_val,g1,ht1,Bool.not_true,Bool.or_false,Bool.false_or]
    split
    ·rename_i u' hu'
     rw[hup u' hu']
     rfl
    ·rfl
   have hfr2:=runTo_fresh (R:=bareR R) (ops:=ops) (D:=D) hfr ops.size fun j hj hDj=>by
    obtain⟨oj,rj,hoj,hrj⟩:=hrec j hj
    refine⟨{ rj with eff:=rj.eff.bare },by unfold bareR;rw[List.getElem?_map,hrj];rfl,?_⟩
    refine hbt hrj ?_
    rcases Nat.lt_trichotomy j i with h | h | h
    ·exact((hpair j oj rj h hoj hrj).2 hn u hu).resolve_left hne
    ·subst h;rw[hi] at hDj;cases hDj
    ·rw[←Bool.not_eq_true]
     intro htt
     have hub:u.1∈r.eff.bare.targets:=by
      unfold Eff.targets
      rw[bare_upd,hu]
      simp[hne]
     have:=hdone hoj hrj (by
      have:r.eff.bare.targets.any rj.touches=true:=List.any_eq_true.2 ⟨_,hub,htt⟩
      simp[conf0,this]) (by
      have:r.eff.bare.targets.any rj.touches=true:=List.any_eq_true.2 ⟨_,hub,htt⟩
      simp[conf0,this])
     rw[hDj] at this
     simp at this
     omega
   obtain⟨q1,q2⟩:=hfr2
   refine⟨by unfold st2;rw[obj_setObj_ne (Ne.symm hne)];exact q1,?_⟩
   unfold st2
   simp only[SState.avoidsB,SState.setObj_def,if_true,Bool.and_eq_true] at q2 ⊢
   refine⟨q2.1,?_⟩
   have:=hcfO (D t.i) (D t.j)
   cases hh:hobj σ cf t (D t.i) (D t.j) with
   | none=>rfl
   | some z=>
    rw[hh] at this
    cases z <;> simp[cfO] at this
    rfl
 obtain⟨ys,hys,hev⟩:=f.alt
 by_cases hki:i=t.i
 ·have hru:=ht.at_i r (hki ▸ f.at_)
  have hbr:r.eff.bare.upd=none:=by rw[bare_upd,hru];simp
  cases hDj:D t.j with
  | false=>
   have heff:reff P ops o (st2 ops R σ cf t D) r.ix=some r.eff:=by
    rw[hat,←f.eff]
    unfold reffAt
    have e1:hobj σ cf t (D t.i) (D t.j)=(lex ops R σ i).obj HID:=by
     rw[hlexH,hDj,←hki,hi]
     have h1:decide (i<i)=false:=by simp
     have h2:decide (t.j<i)=false:=by simp;have:=ht.lt;omega
     rw[h1,h2]
    rw[e1,setObj_self]
   refine fin r.eff r.ix heff f.bind f.ix rfl rfl rfl (fun u hu hh=>?_) (fun h=>absurd rfl (h _ hru)) fun _ u hu=>.inr hu
   rw[hru] at hu
   cases hu
   have e1:(t.i==i)=true:=by simp[hki]
   have e2:(t.j==i)=false:=by simp;have:=ht.lt;omega
   rw[hDj,e1,e2,Bool.or_true,Bool.or_false]
   rfl
  | true=>
   unfold alt2 at hys
   rw[hki] at ho
   have hat':=f.at_
   rw[hki] at hat'
   simp only[hki,ho,hat',if_true] at hys
   split at hys
   ·rename_i e he
    split at hys
    ·rename_i hc
     simp only[Bool.and_eq_true,decide_eq_true_eq,Option.isNone_iff_eq_none] at hc
     obtain⟨⟨⟨c1,c2⟩,c3⟩,c4⟩:=hc
     split at hys
     ·rename_i b hb
      cases hys
      have hup:=storeIx_some c2
      have hbok:=same_bind (P:=P) (n:=t.nj) (hev _ (List.mem_singleton_self _)) rfl
      refine fin e t.nj ?_ (by rw[hb];exact hbok) (sym_lt hbok) (SV.same_eq c1) (by rw[bare_upd,hup,hbr];simp) (c3.trans c4.symm) (fun u hu hh=>?_) (fun h=>absurd rfl (h _ hup)) fun _ u hu=>by rw[hup] at hu;cases hu;exact .inl rfl
      ·rw[hat,←hki,hi,hDj,hki]
       exact he
      ·rw[hup] at hu
       cases hu
       have e1:(t.i==i)=true:=by simp[hki]
       rw[hDj,e1,Bool.or_true,Bool.true_or]
       rfl
     ·cases hys
    ·cases hys
   ·cases hys
 by_cases hkj:i=t.j
 ·have hru:=ht.at_j r (hkj ▸ f.at_)
  have hbr:r.eff.bare.upd=none:=by rw[bare_upd,hru];simp
  cases hDi:D t.i with
  | true=>
   have heff:reff P ops o (st2 ops R σ cf t D) r.ix=some r.eff:=by
    rw[hat,←f.eff]
    unfold reffAt
    have e1:hobj σ cf t (D t.i) (D t.j)=(lex ops R σ i).obj HID:=by
     rw[hlexH,hDi,←hkj,hi]
     have h1:decide (t.i<i)=true:=by simp;have:=ht.lt;omega
     have h2:decide (i<i)=false:=by simp
     rw[h1,h2]
    rw[e1,setObj_self]
   refine fin r.eff r.ix heff f.bind f.ix rfl rfl rfl (fun u hu hh=>?_) (fun h=>absurd rfl (h _ hru)) fun _ u hu=>.inr hu
   rw[hru] at hu
   cases hu
   have e1:(t.j==i)=true:=by simp[hkj]
   rw[hDi,e1,Bool.or_true,Bool.true_or]
   rfl
  | false=>
   unfold alt2 at hys
   have hne:¬t.j=t.i:=by have:=ht.lt;omega
   rw[hkj] at ho
   have hat':=f.at_
   rw[hkj] at hat'
   simp only[hkj,ho,hat',hne,if_false,if_true] at hys
   split at hys
   ·rename_i e he
    split at hys
    ·rename_i hc
     simp only[Bool.and_eq_true,decide_eq_true_eq,Option.isNone_iff_eq_none] at hc
     obtain⟨⟨⟨c1,c2⟩,c3⟩,c4⟩:=hc
     split at hys
     ·rename_i b hb
      cases hys
      have hup:=storeIx_some c2
      have hbok:=same_bind' (P:=P) (n:=t.ja) (hev _ (List.mem_singleton_self _)) rfl
      refine fin e t.ja ?_ (by rw[hb];exact hbok) (sym_lt hbok) (SV.same_eq c1) (by rw[bare_upd,hup,hbr];simp) (c3.trans c4.symm) (fun u hu hh=>?_) (fun h=>absurd rfl (h _ hup)) fun _ u hu=>by rw[hup] at hu;cases hu;exact .inl rfl
      ·rw[hat,hDi,←hkj,hi,hkj]
       exact he
      ·rw[hup] at hu
       cases hu
       have e1:(t.j==i)=true:=by simp[hkj]
       have e2:(t.i==i)=false:=by simp;have:=ht.lt;omega
       rw[hDi,e1,e2,Bool.or_true,Bool.or_false]
       rfl
     ·cases hys
    ·cases hys
   ·cases hys
 have hother:=ht.other i r f.at_ hki hkj
 have hiT:t.i<ops.size:=by have:=ht.lt;omega
 have done:∀e,reff P ops o (st2 ops R σ cf t D) r.ix=some e→BindOk P env r.ix e.bind→e.val=r.eff.val→e.upd=r.eff.upd→e.del=r.eff.del→∃r:Rec,BindOk P env r.ix r.eff.bind∧r.ix≤env.length∧rstep P ops o (st2 ops R σ cf t D) r.ix=some (st2 ops R σ cf t (fun j=>D j||j==i),r.eff.bind):=by
  intro e heff hbind h1 h2 h3
  exact fin e r.ix heff hbind f.ix h1 (by rw[bare_upd,bare_upd,h2]) h3 (fun u hu hh=>absurd hh (hother u (h2 ▸ hu))) (fun _=>⟨hki,hkj⟩) fun _ u hu=>.inr (h2 ▸ hu)
 by_cases htouch:r.touches HID=true
 ·unfold alt2 at hys
  simp only[ho,f.at_,hki,hkj,if_false,htouch,if_true] at hys
  obtain⟨zs,hzs,hsub⟩:=catO_mem hys (altRd P ops R σ cf t i o r (D t.i) (D t.j)) (List.mem_flatMap.2 ⟨D t.i,doneIf_mem hD ho hi ha hiT hki,List.mem_map.2 ⟨D t.j,doneIf_mem hD ho hi ha hj hkj,rfl⟩⟩)
  unfold altRd at hzs
  split at hzs
  ·rename_i hc
   have heff:reff P ops o (st2 ops R σ cf t D) r.ix=some r.eff:=by
    rw[hat,←f.eff]
    unfold reffAt
    have e1:hobj σ cf t (D t.i) (D t.j)=(lex ops R σ i).obj HID:=by rw[hlexH,hc.1,hc.2]
    rw[e1,setObj_self]
   exact done r.eff heff f.bind rfl rfl rfl
  ·split at hzs
   ·rename_i e he
    split at hzs
    ·rename_i hc
     simp only[Bool.and_eq_true,Option.isNone_iff_eq_none] at hc
     obtain⟨⟨⟨⟨c1,c2⟩,c3⟩,c4⟩,c5⟩:=hc
     refine done e (by rw[hat];exact he) ?_ (SV.same_eq c1) (c2.trans c3.symm) (c4.trans c5.symm)
     split at hzs
     ·rename_i b a' hbe hba
      cases hzs
      have h0:=f.bind
      rw[hba] at h0
      obtain⟨da,k1,k2⟩:=h0
      rw[hbe]
      exact same_bind' (hev _ (hsub _ (List.mem_singleton_self _))) (by rw[k1,k2])
     ·rename_i hbe hba
      rw[hbe];trivial
     ·cases hzs
    ·cases hzs
   ·cases hzs
 ·have heff:reff P ops o (st2 ops R σ cf t D) r.ix=some r.eff:=by
   rw[←f.eff]
   refine reff_congr htmp (fun s ob hs hav=>?_) ?_ fun hu=>absurd (htouchH hu) htouch
   ·by_cases hne:ob=HID
    ·subst hne;exact absurd (htouchT s _ hs hav) htouch
    ·exact hobj0 ob hne (htouchT s ob hs hav)
   ·rw[cfOf_eq,hstH,hcfO,hcfL]
  exact done r.eff heff f.bind rfl rfl rfl

theorem st2_all (ht:TwoOk R cf t)(hlen:ops.size=R.length)(hj:t.j<ops.size):st2 ops R σ cf t (fun _=>true)=lex ops R σ ops.size:=by
 obtain⟨z,hz⟩:=runTo_bare (ops:=ops) (σ:=σ) (D:=fun _=>true) ht.del ops.size
 have h1:=lex_obj (ops:=ops) (σ:=σ) ht (by omega) ops.size
 have e1:decide (t.i<ops.size)=true:=by simp;have:=ht.lt;omega
 have e2:decide (t.j<ops.size)=true:=by simp;omega
 rw[e1,e2] at h1
 unfold st2
 show _=runTo ops R (fun _=>true) σ ops.size
 rw[←h1]
 show _=runTo ops R (fun _=>true) σ ops.size
 have h2:(lex ops R σ ops.size).obj HID=z:=by
  show(runTo ops R (fun _=>true) σ ops.size).obj HID=z
  rw[hz,obj_setObj_eq,if_pos (.inl rfl)]
 rw[h2,hz]

theorem extras2_some {ja:Nat}{xs:List E}(h:extras2 P ops R σ ja=some xs):∃cf t,orderOk2 ops R σ cf t=true∧t.j<ops.size∧∀i,i<ops.size→∃ys,alt2 P ops R σ cf t (masks ops.toList []) i=some ys∧∀y,y∈ys→y∈xs:=by
 unfold extras2 at h
 split at h
 ·rename_i cf hcf
  obtain⟨t,ht,h⟩:=Option.bind_eq_some_iff.1 h
  split at h
  ·rename_i hok
   obtain⟨b,hb,h⟩:=Option.bind_eq_some_iff.1 h
   obtain⟨zs,hzs,rfl⟩:=Option.map_eq_some_iff.1 h
   refine⟨cf,t,hok,?_,fun i hi=>?_⟩
   ·unfold altJ at hb
    split at hb
    ·rename_i o ho
     exact(Array.getElem?_eq_some_iff.1 ho).1
    ·cases hb
   ·obtain⟨ys,h1,h2⟩:=catO_mem hzs (alt2 P ops R σ cf t (masks ops.toList []) i) (List.mem_map.2 ⟨i,List.mem_range.2 hi,rfl⟩)
    exact⟨ys,h1,fun y hy=>List.mem_cons_of_mem _ (h2 y hy)⟩
  ·cases h
 ·cases h

theorem wpAny_draw2 {w0:World} {X:Ent} {rd:Option Nat} {n:Nat} {Q:Exit→Act→World→Prop} (hok:orderOk2 ops R σ cf t=true) (hF:∀(i:Nat) (o:Oper),ops[i]? = some o→∃r,Facts2 P ops R σ env cf t i o r) (hj:t.j<ops.size) (hm:σ.mem.length=σ.tmps.length)
  (hsz:∀(j d:Nat),(ops[j]?).bind (fun(o:Oper)=>o.dst)=some d→d<σ.tmps.length) (hQ:∀a' w' ρ',Rep w0 X w' a' (lex ops R σ ops.size) env ρ'→Q .normal a' w') :
  ∀(fuel:Nat) (listed:Array Bool) (a:Act) (w:World) (ρ:Rho),listed.size=ops.size→Closed ops (doneOf listed)→(List.range ops.size).countP (fun j=>!doneOf listed j)≤fuel →
   Rep w0 X w a (st2 ops R σ cf t (doneOf listed)) env ρ→wpAnyIn (FW rd) n P .any ops Q fuel listed a w:=by
 have hok0:=hok
 unfold orderOk2 at hok
 simp only[Bool.and_eq_true,decide_eq_true_eq,List.all_eq_true,List.mem_range] at hok
 obtain⟨⟨⟨hsize,hcf⟩,htwo⟩,hall⟩:=hok
 have ht:=twoOk htwo
 refine wpAny_gen (st:=st2 ops R σ cf t) (fun i o ho e he hb=>?_) (fun D i o hD ho hi ha=>step2 hok0 hF hj hD ho hi ha) (fun D=>?_) (fun D D' h=>?_) hm hsz (fun a' w' ρ' hr=>hQ a' w' ρ' (by rw[←st2_all ht hsize hj];exact hr))
 ·obtain⟨r,f⟩:=hF i o ho
  have h:=hall i (Array.getElem?_eq_some_iff.1 ho).1
  unfold opOk2 at h
  rw[ho,f.at_] at h
  simp only[Bool.and_eq_true] at h
  have:=Array.all_eq_true'.1 h.1.1.1 e he
  simpa[hb] using this
 ·unfold st2
  rw[SState.tmps_setObj,SState.mlen_setObj]
  exact runTo_len ops (bareR R) D σ ops.size
 ·unfold st2
  rw[runTo_congr ops.size h,h t.i (by have:=ht.lt;omega),h t.j hj]

theorem st2_none:st2 ops R σ cf t (fun _=>false)=σ:=by
 unfold st2
 rw[runTo_below (i:=0) ops.size (Nat.zero_le _) fun _ _ _=>rfl]
 exact setObj_self σ

end
end
end Go.Am

/-
 The small language that Go functions are turned into,and what its texts mean.
-/
namespace Go.Am
noncomputable section

structure Left (w:World)(S:Sets)(foot may:Nat→Prop)(w':World)(S':Sets)(foot':Nat→Prop)(bs':List D):Prop where
 st:StOk w' S' foot' bs'
 le:S≤S'
 os:w'.os=w.os
 tape:TL w' w
 output:w'.output=w.output
 size:w.heap.size≤w'.heap.size
 old:∀b,b<w.heap.size→¬may b→w'.heap[b]? = w.heap[b]?
 ft:∀b,foot' b→(foot b∨w.heap.size≤b)∧b<w'.heap.size
 new:∀b o,S' b o→S b o∨may b∨w.heap.size≤b
 lt:∀b o,S' b o→b<w'.heap.size

def FSpecD (P:Program)(f:FuncId)(st:D)(cs:List D)(m:Option D)(st':D):Prop:=
 ∀(w:World) (S:Sets) (foot:Nat→Prop) (bs:List D) (vs:Array Value) (u:FrameMode),st=.st bs→StOk w S foot bs→HoldOk w S foot→(∀b,foot b→b<w.heap.size)→(∀b o,S b o→b<w.heap.size)→vs.size=cs.length→(∀(i:Nat) (v:Value) (x:D),vs[i]? = some v→cs[i]? = some x→RdD w S v x) →
  (match m with | none=>u=.returning | some d=>∃v,RdD w S v d∧u=.panicking [{ v,recovered:=false }]) →
  CallsD P f vs u w fun e u' w'=>∃(v:Value) (S':Sets) (foot':Nat→Prop) (bs':List D),e=.returned v∧settle u'=.returning∧st'=.st bs'∧Left w S foot foot w' S' foot' bs'


inductive T where
 | bind (b:Bind) (t:T)
 | ite (c:E) (a b:T)
 | loop (l:Nat) (inits:List E) (body:T)
 | join (l n:Nat) (body rest:T)
 | jump (l:Nat) (vals:List E)
 | ret (x:E)
 | pan (x h:E) (sl:List Nat) (ks:List E)
 | nilq (x:E) (neg:Bool) (t:T)
 | pick (x:E) (t:T)
 | dfr (f:FuncId) (keep:List Nat) (caps:List E) (res:E) (t:T)
 | pcall (f:FuncId) (h:E) (args:List E) (rs:List Bool) (sl:List Nat) (ks:List E) (t:T)
 | wpcall (f:FuncId) (h:E) (args:List E) (rs:List Bool) (sl:List Nat) (ks:List E) (t:T)
 | wpcallv (x h:E) (args:List E) (rs:List Bool) (sl:List Nat) (ks:List E) (t:T)
 | rfor (x h:E) (sl:List Nat) (caps:List E) (n l:Nat) (body rest:T)
 | rforx (x h:E) (sl:List Nat) (caps:List E) (n l:Nat) (q:Option Nat) (body rest quit:T)
 deriving Inhabited

inductive Sig where
 | jump (l:Nat) (ds:List D)
 | ret (d:D)
 | pan (d st:D) (sl:List Nat) (kd:List D)

def D.isNil (x:D):Option (List Bool):=
 match x with
 | .lst []=>some [true,false]
 | .lst _ | .sl _ _ _=>some [false]
 | .snil=>some [true]
 | _=>none

def rsig (l:Nat)(q:Option Nat)(b:Bool)(st:D):Sig:=bif b then .jump l [st] else match q with | none=>.ret st | some _=>.jump (l+1) [st]

def catchL (l:Nat)(K:List D→Prop)(Q:Sig→Prop):Sig→Prop
 | .jump l' ds=>if l'=l then K ds else Q (.jump l' ds)
 | .ret d=>Q (.ret d)
 | .pan d st sl kd=>Q (.pan d st sl kd)

def rounds (l:Nat)(body:List D→(Sig→Prop)→Prop)(Q:Sig→Prop):Nat→List D→Prop
 | 0,_=>False
 | n+1,ds=>body ds (catchL l (rounds l body Q n) Q)

def D.isLoc:D→Bool
 | .loc _ _=>true
 | _=>false

def DfrQ (P:Program)(f:FuncId)(keep:List Nat)(cds:List D)(res:E)(Q:Sig→Prop):Sig→Prop
 | .ret (.tup [.tup kd,st])=>∃st' d',FSpecD P f st cds none st'∧res.eval (kd++[st'])=some d'∧Q (.ret (.tup [d',st']))
 | .pan d st sl kd=>sl=keep∧∃st' d',FSpecD P f st cds (some d) st'∧res.eval (kd++[st'])=some d'∧Q (.ret (.tup [d',st']))
 | _=>False

theorem DfrQ_mono {P:Program}{f:FuncId}{keep:List Nat}{cds:List D}{res:E}{Q Q':Sig→Prop}(hq:∀s,Q s→Q' s){s:Sig}(h:DfrQ P f keep cds res Q s):DfrQ P f keep cds res Q' s:=by
 unfold DfrQ at h ⊢
 split at h
 ·obtain⟨st',d',h1,h2,h3⟩:=h;exact⟨st',d',h1,h2,hq _ h3⟩
 ·obtain⟨h0,st',d',h1,h2,h3⟩:=h;exact⟨h0,st',d',h1,h2,hq _ h3⟩
 ·exact h

def den (P:Program):T→List D→(Sig→Prop)→Prop
 | .bind (.ev x) t,env,Q=>∃d,x.eval env=some d∧den P t (env++[d]) Q
 | .bind (.call act f h args rs) t,env,Q=>(∀p,p∈act→∃d,p.1.eval env=some d)∧∃d,(actHolds env act→∃st ds,h.eval env=some st∧evalAll env args=some ds∧FSpecR P f st ds d∧d.fits rs=true)∧den P t (env++[d]) Q
 | .bind (.wcall act f h args rs) t,env,Q=>(∀p,p∈act→∃d,p.1.eval env=some d)∧∃st d h',h.eval env=some st∧(actHolds env act→∃ds,evalAll env args=some ds∧FSpecW P f st ds d h'∧d.fits rs=true)∧(¬actHolds env act→h'=st)∧den P t (env++[.tup [d,h']]) Q
 | .bind (.callv act x h args rs) t,env,Q=>(∀p,p∈act→∃d,p.1.eval env=some d)∧∃d,(actHolds env act→∃f us cs st ds,x.eval env=some (.fn f us cs)∧callable P f=true∧h.eval env=some st∧evalAll env args=some ds∧FSpecR P f st (us++ds++cs) d∧d.fits rs=true)∧den P t (env++[d]) Q
 | .bind (.wcallv act x h args rs) t,env,Q=>(∀p,p∈act→∃d,p.1.eval env=some d)∧∃st d h',h.eval env=some st∧(actHolds env act→∃xd ds,x.eval env=some xd∧evalAll env args=some ds∧CallV P xd st ds d h'∧d.fits rs=true)∧(¬actHolds env act→h'=st)∧den P t (env++[.tup [d,h']]) Q
 | .ite c a b,env,Q=>∃v,c.eval env=some (.v (.bool v))∧(v=true→den P a env Q)∧(v=false→den P b env Q)
 | .loop l inits body,env,Q=>∃ds,evalAll env inits=some ds∧∃n,rounds l (fun ds Q=>ds.length=inits.length∧den P body (env++ds) Q) Q n ds
 | .join l n body rest,env,Q=>den P body env (catchL l (fun ds=>ds.length=n∧den P rest (env++ds) Q) Q)
 | .jump l vals,env,Q=>∃ds,evalAll env vals=some ds∧Q (.jump l ds)
 | .ret x,env,Q=>∃d,x.eval env=some d∧Q (.ret d)
 | .pan x h sl ks,env,Q=>∃d st kd,x.eval env=some d∧h.eval env=some st∧evalAll env ks=some kd∧Q (.pan d st sl kd)
 | .nilq x neg t,env,Q=>∃d bs,x.eval env=some d∧d.isNil=some bs∧∀b,b∈bs→den P t (env++[.v (.bool (b != neg))]) Q
 | .pick x t,env,Q=>∃ys,x.eval env=some (.lst ys)∧∀d st,.tup [d,st]∈ys→den P t (env++[.tup [d,st]]) Q
 | .dfr f keep caps res t,env,Q=>∃cds,evalAll env caps=some cds∧cds.all D.isLoc=true∧den P t env (DfrQ P f keep cds res Q)
 | .pcall f h args rs sl ks t,env,Q=>∃st ds o,h.eval env=some st∧evalAll env args=some ds∧FSpecO P f st ds o∧match o with
  | .ret d=>d.fits rs=true∧den P t (env++[d]) Q
  | .pan d=>∃kd,evalAll env ks=some kd∧Q (.pan d st sl kd)
 | .wpcall f h args rs sl ks t,env,Q=>∃st ds o h',h.eval env=some st∧evalAll env args=some ds∧FSpecWO P f st ds o h'∧match o with
  | .ret d=>d.fits rs=true∧den P t (env++[.tup [d,h']]) Q
  | .pan d=>∃kd,evalAll env ks=some kd∧Q (.pan d h' sl kd)
 | .wpcallv x h args rs sl ks t,env,Q=>∃f us cs st ds o h',x.eval env=some (.fn f us cs)∧callable P f=true∧h.eval env=some st∧evalAll env args=some ds∧FSpecWO P f st (us++ds++cs) o h'∧match o with
  | .ret d=>d.fits rs=true∧den P t (env++[.tup [d,h']]) Q
  | .pan d=>∃kd,evalAll env ks=some kd∧Q (.pan d h' sl kd)
 | .rfor x h sl caps n l body rest,env,Q=>∃f us cs st cds d st',x.eval env=some (.fn f us cs)∧callable P f=true∧h.eval env=some st∧evalAll env caps=some cds∧noyls cds=true∧st'.noyl=true ∧
   (∀(m:Nat) (rec:Loop),(∀st1 ds st2,st1.noyl=true→noyls ds=true→ds.length=n→den P body (env++[st1]++ds) (fun s=>s=.jump l [st2])→YSpec P (.yl m rec sl cds) st1 ds st2)→FSpecW P f st (us++[.yl m rec sl cds]++cs) d st')∧den P rest (env++[st']) Q
 | .rforx x h sl caps n l q body rest quit,env,Q=>∃f us cs bs cds d bs' stop,x.eval env=some (.fn f us cs)∧callable P f=true∧h.eval env=some (.st bs)∧evalAll env caps=some cds∧bs'[bs.length]? = some (.tup []) ∧
   (∀(rec:Loop×Code),(∀bs1 ds b bs2,bs1[bs.length]? = some (.lpb false)→ds.length=n→bs2[bs.length]? = some (.tup [])→den P body (env++[.st (bs1.set bs.length (.tup []))]++ds) (fun s=>s=rsig l q b (.st bs2))→YSpecB P (.ylb bs.length rec sl cds) (.st bs1) ds b (.st (bs2.set bs.length (.lpb !b)))) →
    FSpecW P f (.st (bs++[.lpb false])) (us++[.ylb bs.length rec sl cds]++cs) d (.st (bs'.set bs.length (.lpb stop))))∧(stop=false→den P rest (env++[.st bs']) Q)∧(stop=true→den P quit (env++[.st bs']) Q)

theorem rounds_mono {l:Nat}{body body':List D→(Sig→Prop)→Prop}{Q Q':Sig→Prop}(hb:∀ds (R R':Sig→Prop),(∀s,R s→R' s)→body ds R→body' ds R')(hQ:∀s,Q s→Q' s):∀(n:Nat) (ds:List D),rounds l body Q n ds→rounds l body' Q' n ds
 | 0,_,h=>h
 | n+1,ds,h=>hb ds _ _ (fun s hs=>by
   cases s with
   | jump l' ds'=>
    simp only[catchL] at hs ⊢
    split
    ·rename_i e;rw[if_pos e] at hs;exact rounds_mono hb hQ n ds' hs
    ·rename_i e;rw[if_neg e] at hs;exact hQ _ hs
   | ret d=>exact hQ _ hs
   | pan d st sl kd=>exact hQ _ hs) h

theorem den_mono {P:Program}:∀{t:T} {env:List D} {Q Q':Sig→Prop},(∀s,Q s→Q' s)→den P t env Q→den P t env Q'
 | .bind (.ev x) t,env,Q,Q',hq,⟨d,h1,h2⟩=>⟨d,h1,den_mono hq h2⟩
 | .bind (.call act f h args rs) t,env,Q,Q',hq,⟨h0,d,h1,h2⟩=>⟨h0,d,h1,den_mono hq h2⟩
 | .bind (.wcall act f h args rs) t,env,Q,Q',hq,⟨h0,st,d,h',h1,h2,h3,h5⟩=>⟨h0,st,d,h',h1,h2,h3,den_mono hq h5⟩
 | .bind (.callv act x h args rs) t,env,Q,Q',hq,⟨h0,d,h1,h2⟩=>⟨h0,d,h1,den_mono hq h2⟩
 | .bind (.wcallv act x h args rs) t,env,Q,Q',hq,⟨h0,st,d,h',h1,h2,h3,h5⟩=>⟨h0,st,d,h',h1,h2,h3,den_mono hq h5⟩
 | .ite c a b,env,Q,Q',hq,⟨v,h1,h2,h3⟩=>⟨v,h1,fun e=>den_mono hq (h2 e),fun e=>den_mono hq (h3 e)⟩
 | .loop l inits body,env,Q,Q',hq,⟨ds,h1,n,h2⟩=>⟨ds,h1,n,rounds_mono (fun ds R R' hR h=>⟨h.1,den_mono hR h.2⟩) hq n ds h2⟩
 | .join l n body rest,env,Q,Q',hq,h=>den_mono (t:=body) (fun s hs=>by
   cases s with
   | jump l' ds'=>
    simp only[catchL] at hs ⊢
    split
    ·rename_i e;rw[if_pos e] at hs;exact⟨hs.1,den_mono hq hs.2⟩
    ·rename_i e;rw[if_neg e] at hs;exact hq _ hs
   | ret d=>exact hq _ hs
   | pan d st sl kd=>exact hq _ hs) h
 | .jump l vals,env,Q,Q',hq,⟨ds,h1,h2⟩=>⟨ds,h1,hq _ h2⟩
 | .ret x,env,Q,Q',hq,⟨d,h1,h2⟩=>⟨d,h1,hq _ h2⟩
 | .pan x h sl ks,env,Q,Q',hq,⟨d,st,kd,h1,h2,h3,h4⟩=>⟨d,st,kd,h1,h2,h3,hq _ h4⟩
 | .nilq x neg t,env,Q,Q',hq,⟨d,bs,h1,h2,h3⟩=>⟨d,bs,h1,h2,fun b hb=>den_mono hq (h3 b hb)⟩
 | .pick x t,env,Q,Q',hq,⟨ys,h1,h2⟩=>⟨ys,h1,fun d st hy=>den_mono hq (h2 d st hy)⟩
 | .dfr f keep caps res t,env,Q,Q',hq,⟨cds,h1,h2,h3⟩=>⟨cds,h1,h2,den_mono (fun _=>DfrQ_mono hq) h3⟩
 | .pcall f h args rs sl ks t,env,Q,Q',hq,⟨st,ds,.ret d,h1,h2,h3,h4,h5⟩=>⟨st,ds,.ret d,h1,h2,h3,h4,den_mono hq h5⟩
 | .pcall f h args rs sl ks t,env,Q,Q',hq,⟨st,ds,.pan d,h1,h2,h3,kd,h4,h5⟩=>⟨st,ds,.pan d,h1,h2,h3,kd,h4,hq _ h5⟩
 | .wpcall f h args rs sl ks t,env,Q,Q',hq,⟨st,ds,.ret d,h',h1,h2,h3,h4,h5⟩=>⟨st,ds,.ret d,h',h1,h2,h3,h4,den_mono hq h5⟩
 | .wpcall f h args rs sl ks t,env,Q,Q',hq,⟨st,ds,.pan d,h',h1,h2,h3,kd,h4,h5⟩=>⟨st,ds,.pan d,h',h1,h2,h3,kd,h4,hq _ h5⟩
 | .wpcallv x h args rs sl ks t,env,Q,Q',hq,⟨f,us,cs,st,ds,.ret d,h',g1,g2,h1,h2,h3,h4,h5⟩=>⟨f,us,cs,st,ds,.ret d,h',g1,g2,h1,h2,h3,h4,den_mono hq h5⟩
 | .wpcallv x h args rs sl ks t,env,Q,Q',hq,⟨f,us,cs,st,ds,.pan d,h',g1,g2,h1,h2,h3,kd,h4,h5⟩=>⟨f,us,cs,st,ds,.pan d,h',g1,g2,h1,h2,h3,kd,h4,hq _ h5⟩
 | .rfor x h sl caps n l body rest,env,Q,Q',hq,⟨f,us,cs,st,cds,d,st',h1,h2,h3,h4,h5,h6,h7,h8⟩=>⟨f,us,cs,st,cds,d,st',h1,h2,h3,h4,h5,h6,h7,den_mono hq h8⟩
 | .rforx x h sl caps n l q body rest quit,env,Q,Q',hq,⟨f,us,cs,bs,cds,d,bs',stop,h1,h2,h3,h4,h5,h6,h7,h8⟩=>⟨f,us,cs,bs,cds,d,bs',stop,h1,h2,h3,h4,h5,h6,fun e=>den_mono hq (h7 e),fun e=>den_mono hq (h8 e)⟩

def wrapBinds (bs:List Bind)(t:T):T:=bs.foldr T.bind t

theorem evalAll_mono {env env':List D}(h:env <+: env'):∀{l:List E} {ds:List D},evalAll env l=some ds→evalAll env' l=some ds
 | [],ds,hd=>hd
 | x :: r,ds,hd=>by
  simp only[evalAll,Option.bind_eq_some_iff,Option.map_eq_some_iff] at hd ⊢
  obtain⟨d,h1,ds',h2,h3⟩:=hd
  exact⟨d,E.eval_mono h x h1,ds',evalAll_mono h h2,h3⟩

theorem prefix_append (env ds:List D):env <+: env++ds:=⟨ds,rfl⟩

theorem den_binds {P:Program}{t:T}{Q:Sig→Prop}:∀{bs:List Bind} {env:List D},den P (wrapBinds bs t) env Q→∃ds,ds.length=bs.length∧den P t (env++ds) Q∧BindsOk P (env++ds) env.length bs
 | [],env,h=>⟨[],rfl,by simpa[wrapBinds] using h,fun i b hi=>by simp at hi⟩
 | b :: bs,env,h=>by
  have go:∀{d:D},den P (wrapBinds bs t) (env++[d]) Q→(∀ds,BindOk P (env++[d]++ds) env.length (some b))→∃ds,ds.length=(b :: bs).length∧den P t (env++ds) Q∧BindsOk P (env++ds) env.length (b :: bs):=by
   intro d hd hb
   obtain⟨ds,hl,h1,h2⟩:=den_binds hd
   refine⟨d :: ds,by simp[hl],by simpa using h1,fun i b' hi=>?_⟩
   cases i with
   | zero=>simp at hi;subst hi;simpa using hb ds
   | succ i=>
    have:=h2 i b' (by simpa using hi)
    simp only[List.length_append,List.length_cons,List.length_nil,List.append_assoc,List.cons_append,List.nil_append] at this
    rwa [show env.length+(i+1)=env.length+(0+1)+i from by omega]
  have hat:∀(d:D) (ds:List D),(env++[d]++ds)[env.length]? = some d:=by
   intro d ds
   simp
  cases b with
  | ev x=>
   obtain⟨d,hx,hd⟩:=h
   exact go hd fun ds=>⟨d,E.eval_mono (by rw[List.append_assoc];exact prefix_append _ _) _ hx,hat d ds⟩
  | call act f hx args rs=>
   obtain⟨hdef,d,hx,hd⟩:=h
   refine go hd fun ds=>⟨d,hat d ds,fun ha=>?_⟩
   obtain⟨st,as,h0,h1,h2⟩:=hx (actHolds_mono (by rw[List.append_assoc];exact prefix_append _ _) hdef ha)
   exact⟨st,as,E.eval_mono (by rw[List.append_assoc];exact prefix_append _ _) _ h0,evalAll_mono (by rw[List.append_assoc];exact prefix_append _ _) h1,h2⟩
  | callv act x hx args rs=>
   obtain⟨hdef,d,hx,hd⟩:=h
   refine go hd fun ds=>⟨d,hat d ds,fun ha=>?_⟩
   have hp:env <+: env++[d]++ds:=by rw[List.append_assoc];exact prefix_append _ _
   obtain⟨f,us,cs,st,as,g0,g1,g2,g3,g4⟩:=hx (actHolds_mono hp hdef ha)
   exact⟨f,us,cs,st,as,E.eval_mono hp _ g0,g1,E.eval_mono hp _ g2,evalAll_mono hp g3,g4⟩
  | wcallv act x hx args rs=>
   obtain⟨hdef,st,d,h',g0,g1,g2,hd⟩:=h
   refine go hd fun ds=>?_
   have hp:env <+: env++[.tup [d,h']]++ds:=by rw[List.append_assoc];exact prefix_append _ _
   refine⟨st,d,h',E.eval_mono hp _ g0,hat _ ds,fun ha=>?_,fun hn=>g2 fun ha=>hn (actHolds_up hp ha)⟩
   obtain⟨xd,as,k1,k2,k3⟩:=g1 (actHolds_mono hp hdef ha)
   exact⟨xd,as,E.eval_mono hp _ k1,evalAll_mono hp k2,k3⟩
  | wcall act f hx args rs=>
   obtain⟨hdef,st,d,h',g0,g1,g2,hd⟩:=h
   refine go hd fun ds=>?_
   have hp:env <+: env++[.tup [d,h']]++ds:=by rw[List.append_assoc];exact prefix_append _ _
   refine⟨st,d,h',E.eval_mono hp _ g0,hat _ ds,fun ha=>?_,fun hn=>g2 fun ha=>hn (actHolds_up hp ha)⟩
   obtain⟨as,k2,k3⟩:=g1 (actHolds_mono hp hdef ha)
   exact⟨as,evalAll_mono hp k2,k3⟩

end
end Go.Am

/-
 Operations after which the text of the small language branches: a panic,a call that may panic,the question whether a slice is nil.
-/
namespace Go.Am
noncomputable section

inductive Sop where
 | pan (x:E)
 | nilq (x:E) (neg:Bool)
 | call (f:FuncId) (args:List E) (rs:List Bool)
 | wcall (f:FuncId) (args:List E) (rs:List Bool)
 | wcallv (x:E) (args:List E) (rs:List Bool)
 | next (p:E)
 deriving Inhabited

def isNilS:Operand→Bool
 | .const (.slice none 0 0)=>true
 | _=>false

def sopOf (P:Program)(o:Oper)(σ:SState):Option Sop:=
 match o.guard with
 | some _=>none
 | none=>match o.op with
  | .panic x=>(match(σ.opd x).toE,σ.hs with
   | some y,some (.store _ _)=>some (.pan (.m4 .isifc y .nil .nil .nil))
   | _,_=>none)
  | .next it false=>(match(σ.opd it).toE,σ.hs with
   | some p,some (.store cf _)=>if cf.ro then none else some (.next p)
   | _,_=>none)
  | .binOp .eql t x y _=>(match P.underlying t with
   | some (.slice _)=>if isNilS y then(σ.opd x).toE.map (.nilq · false) else none
   | _=>none)
  | .binOp .neq t x y _=>(match P.underlying t with
   | some (.slice _)=>if isNilS y then(σ.opd x).toE.map (.nilq · true) else none
   | _=>none)
  | .call c=>(match c.callee with
   | .value f=>match σ.opd f,σ.hs with
    | .func (.func f) [],some (.store cf _)=>if cf.pan.contains f then(match P.funcs[f]?,toEAll (c.args.toList.map σ.opd) with
      | some fn,some xs=>(match scalars P fn.resultTypes.toList with
       | some rs=>if callable P f=false then none else if cf.wr.contains f then(if cf.ro then none else some (.wcall f xs rs)) else some (.call f xs rs)
       | none=>none)
      | _,_=>none) else none
    | .e x _,some (.store cf _)=>if cf.pan.contains (1000000+o.dst.getD 999999) then(match rsOfType P o.type,toEAll (c.args.toList.map σ.opd) with
      | some rs,some xs=>if cf.ro then none else some (.wcallv x xs rs)
      | _,_=>none) else none
    | _,_=>none
   | _=>none)
  | _=>none

abbrev SKont:=SState→Nat→Option T

def hsOf (σ:SState):E:=match σ.hs with | some (.store _ h)=>h | _=>.const (.st [])

def setH (σ:SState)(x:E):SState:=match σ.hs with | some (.store cf _)=>σ.setObj HID (some (.store cf x)) | _=>σ

def keepOf (σ:SState):List Nat:=match σ.hs with | some (.store cf _)=>cf.keep | _=>[]

def keepE (σ:SState):Option (List E):=toEAll ((keepOf σ).map σ.tmp)

def KeepRd (w:World)(S:Sets)(a:Act)(slots:List Nat)(kd:List D):Prop:=
 kd.length=slots.length∧∀(i s:Nat) (d:D),slots[i]? = some s→kd[i]? = some d→RdD w S (a.tmps.getD s undef) d

def sopT (s:Sop)(o:Oper)(σ:SState)(u:Nat)(rest:SState→Nat→Option T):Option T:=
 match s with
 | .pan x=>(keepE σ).map (.pan x (hsOf σ) (keepOf σ))
 | .nilq x neg=>(rest (σ.put o.dst (.e (.sym u) true)) (u+1)).map (.nilq x neg)
 | .next p=>(rest ((setH σ (.tget 1 (.sym u))).put o.dst (.e (.tget 0 (.sym u)) false)) (u+1)).map (.pick (.m4 .next (hsOf σ) p .nil .nil))
 | .call f xs rs=>(keepE σ).bind fun ks=>(rest (σ.put o.dst (resSV (.sym u) rs)) (u+1)).map (.pcall f (hsOf σ) xs rs (keepOf σ) ks)
 | .wcall f xs rs=>(keepE σ).bind fun ks=>(rest ((setH σ (.tget 1 (.sym u))).put o.dst (resSV (.tget 0 (.sym u)) rs)) (u+1)).map (.wpcall f (hsOf σ) xs rs (keepOf σ) ks)
 | .wcallv x xs rs=>(keepE σ).bind fun ks=>(rest ((setH σ (.tget 1 (.sym u))).put o.dst (resSV (.tget 0 (.sym u)) rs)) (u+1)).map (.wpcallv x (hsOf σ) xs rs (keepOf σ) ks)

def segs (P:Program)(ops:Array Oper):List Oper→SState→Nat→SKont→Option T
 | [],σ,u,k=>k σ u
 | o :: r,σ,u,k=>match sopOf P o σ with
  | some s=>if dstOk σ o then sopT s o σ u fun σ u=>segs P ops r σ u k else none
  | none=>match rstep P ops o σ u with
   | some (σ',none)=>segs P ops r σ' u k
   | some (σ',some b)=>(segs P ops r σ' (u+1) k).map (.bind b)
   | none=>none

def segsC (P:Program)(ops:Array Oper):List Oper→SState→Nat→Option (Option (Nat×SState))
 | [],σ,u=>some (some (u,σ))
 | o :: r,σ,u=>match sopOf P o σ with
  | some (.pan _)=>some none
  | some (.nilq _ _)=>segsC P ops r (σ.put o.dst (.e (.sym u) true)) (u+1)
  | some (.next _)=>segsC P ops r ((setH σ (.tget 1 (.sym u))).put o.dst (.e (.tget 0 (.sym u)) false)) (u+1)
  | some (.call _ _ rs)=>segsC P ops r (σ.put o.dst (resSV (.sym u) rs)) (u+1)
  | some (.wcallv _ _ rs)=>segsC P ops r ((setH σ (.tget 1 (.sym u))).put o.dst (resSV (.tget 0 (.sym u)) rs)) (u+1)
  | some (.wcall _ _ rs)=>segsC P ops r ((setH σ (.tget 1 (.sym u))).put o.dst (resSV (.tget 0 (.sym u)) rs)) (u+1)
  | none=>match rstep P ops o σ u with
   | some (σ',none)=>segsC P ops r σ' u
   | some (σ',some _)=>segsC P ops r σ' (u+1)
   | none=>none

section
variable {P:Program} {w0:World} {X:Ent}

theorem run_eqNil {t e:TypeId}{v:Value}{w:World}(ht:P.underlying t=some (.slice e))(hv:∃ad n c,v=.slice ad n c):∃b,(binOp .eql t v (.slice none 0 0)).run P w=.ok (.bool b) w∧(binOp .neq t v (.slice none 0 0)).run P w=.ok (.bool (!b)) w∧(b=true↔∃n c,v=.slice none n c):=by
 obtain⟨ad,n,c,rfl⟩:=hv
 exact⟨ad.isNone,Lib.run_eql_slice_nil w t e ad n c 0 0 ht,run_neq_slice_nil_any w t e ad n c 0 0 ht,by cases ad <;> simp⟩

theorem isNil_rd {w:World}{S:Sets}{v:Value}{d:D}{bs:List Bool}(h:RdD w S v d)(hb:d.isNil=some bs):(∃ad n c,v=.slice ad n c)∧∀b:Bool,(b=true↔∃n c,v=.slice none n c)→b∈bs:=by
 unfold D.isNil at hb
 split at hb
 ·cases hb
  obtain⟨ad,n,c,hv,_⟩:=h.lst_form
  exact⟨⟨ad,n,c,hv⟩,fun b _=>by cases b <;> simp⟩
 ·cases hb
  rename_i hne
  cases h with
  | nil=>exact absurd rfl hne
  | emp _=>exact absurd rfl hne
  | lst=>exact⟨⟨_,_,_,rfl⟩,fun b hb=>by cases b <;> simp at hb ⊢⟩
 ·cases hb
  cases h
  exact⟨⟨_,_,_,rfl⟩,fun b hb=>by cases b <;> simp at hb ⊢⟩
 ·cases hb
  cases h
  exact⟨⟨_,_,_,rfl⟩,fun b hb=>by cases b <;> simp at hb ⊢⟩
 ·cases hb

theorem hsOf_eval {w:World}{a:Act}{σ:SState}{env:List D}{ρ:Rho}(h:Rep w0 X w a σ env ρ){cf:StCfg}{x:E}(hx:σ.hs=some (.store cf x)):hsOf σ=x∧σ.obj HID=some (.store cf x)∧∃bs,x.eval env=some (.st bs)∧StOk w ρ.S ρ.foot bs:=by
 have hob:σ.obj HID=some (.store cf x):=by rw[SState.obj_def,if_pos rfl];exact hx
 obtain⟨bs,h1,h2,_⟩:=h.objs _ _ hob
 exact⟨by simp[hsOf,hx],hob,bs,h1,h2⟩

def PanQ (w0:World)(X:Ent)(Q:Sig→Prop)(Q':Exit→Act→World→Prop):Prop:=
 ∀(w:World) (a:Act) (σ:SState) (env:List D) (ρ:Rho) (v:Value) (d:D) (bs:List D),Rep w0 X w a σ env ρ→RdD w ρ.S v d→StOk w ρ.S ρ.foot bs→(∃cf x,σ.obj HID=some (.store cf x))→(∃kd,KeepRd w ρ.S a (keepOf σ) kd∧Q (.pan d (.st bs) (keepOf σ) kd))→Q' (.panic [{ v,recovered:=false }]) a w

theorem keepE_rd {w:World}{a:Act}{σ:SState}{env:List D}{ρ:Rho}(h:Rep w0 X w a σ env ρ){ks:List E}(hk:keepE σ=some ks){env0:List D}{kd:List D}(he:evalAll env0 ks=some kd)(hp:env0 <+: env):KeepRd w ρ.S a (keepOf σ) kd:=by
 obtain⟨ds,hev,hl,hrd⟩:=toEAll_rd (w:=w) (ρ:=ρ) (env:=env) (vs:=(keepOf σ).map fun s=>a.tmps.getD s undef) hk (by simp) (fun i v s hv hs=>by
  simp only[List.getElem?_map,Option.map_eq_some_iff] at hv hs
  obtain⟨x,hx,rfl⟩:=hv
  obtain⟨y,hy,rfl⟩:=hs
  rw[hx] at hy
  cases hy
  exact h.tmps x)
 have:=evalAll_mono hp he
 rw[hev] at this
 cases this
 exact⟨by simpa using hl.symm,fun i s d hs hd=>hrd i _ d (by simp[hs]) hd⟩

theorem callable_run {f:FuncId}{o:Oper}{a:Act}{w:World}{c:Operand}{args:Array Operand}{ts:Array TypeId}(hcl:callable P f=true)(ho:o.op=.call { callee:=.value c,args:=args,argTypes:=ts })(hc:a.eval c=.func (.func f) #[] #[]) :
  (execOp a.eval o).run P w=.ok (.enter f (args.map a.eval)) w:=by
 unfold callable at hcl
 split at hcl
 ·rename_i fn hf
  simp only[Bool.and_eq_true,Bool.not_eq_true',Option.isSome_iff_ne_none] at hcl
  have hbn:fn.body.isNone=false:=by
   cases hb:fn.body with
   | none=>exact absurd hb hcl.2
   | some _=>rfl
  unfold execOp
  simp only[ho,resolve,hc,Deferred.ofValue,invoke,Sem.run_bind,Sem.run_pure,Result.andThen_ok,callFunc,run_program,hf,hcl.1,hbn,Bool.false_eq_true,if_false]
  simp
 ·cases hcl

theorem sop_sound {rd:Option Nat} {nd:Nat} {ops:Array Oper} {o:Oper} {s:Sop} {σ:SState} {rest:SState→Nat→Option T} {t:T} {env:List D} {Q:Sig→Prop} {Q':Exit→Act→World→Prop} {K:Act→World→Prop} {a:Act} {w:World} {ρ:Rho}
  (hs:sopOf P o σ=some s) (hnd:noDefer o=true) (hd:∀d,o.dst=some d→d<σ.tmps.length) (ht:sopT s o σ env.length rest=some t) (hden:den P t env Q) (hr:Rep w0 X w a σ env ρ) (hp:PanQ w0 X Q Q')
  (hK:∀(σ':SState) (env':List D) (t':T) (a':Act) (w':World) (ρ':Rho),env <+: env'→rest σ' env'.length=some t'→den P t' env' Q→Rep w0 X w' a' σ' env' ρ'→σ'.tmps.length=σ.tmps.length→σ'.mem.length=σ.mem.length→K a' w') :
  Region.wanted o (yielded ops a.tmps)=true∧o.wpIn (FW rd) nd P a w K Q':=by
 unfold sopOf at hs
 split at hs
 ·cases hs
 rename_i hg
 refine⟨by simp[Region.wanted,hg],?_⟩
 have hv:=fun x=>opd_rd (a:=a) hr x
 have hplen:∀sv,(σ.put o.dst sv).tmps.length=σ.tmps.length∧(σ.put o.dst sv).mem.length=σ.mem.length:=fun sv=>by cases o.dst <;> simp[SState.put_def]
 have nil:∀{op:BinOp} {ty yt:TypeId} {x y:Operand} {x':E} {neg:Bool},o.op=.binOp op ty x y yt→(op=.eql∧neg=false∨op=.neq∧neg=true)→(∃e,P.underlying ty=some (.slice e))→isNilS y=true→(σ.opd x).toE=some x'→s=.nilq x' neg→o.wpIn (FW rd) nd P a w K Q':=by
  intro op ty yt x y x' neg ho hop ⟨e,hu⟩ hy hx hs
  subst hs
  simp only[sopT] at ht
  obtain⟨t',ht',rfl⟩:=Option.map_eq_some_iff.1 ht
  obtain⟨d,bs,he,hb,hall⟩:=hden
  obtain⟨d',he',hrd⟩:=SV.toE_rd hx (hv x)
  rw[he] at he'
  cases he'
  obtain⟨hform,hmem⟩:=isNil_rd hrd hb
  obtain⟨b,h1,h2,h3⟩:=run_eqNil (P:=P) (w:=w) hu hform
  have hye:a.eval y=.slice none 0 0:=by
   unfold isNilS at hy
   split at hy
   ·rfl
   ·cases hy
  have hd':=hall b (hmem b h3)
  have hguard:(eqGuard op ty x y (a.eval x) (.slice none 0 0)).run P w=.ok () w:=by
   obtain⟨ad,n,c,hvx⟩:=hform
   rw[hvx]
   rcases hop with⟨rfl,_⟩ | ⟨rfl,_⟩ <;> simp[eqGuard]
  refine wpIn_of_upon (K:=K) hnd ?_ fun _ _ h=>h
  have hrun:(execOp a.eval o).run P w=.ok (.value (.bool (b != neg))) w:=by
   unfold execOp
   rcases hop with⟨rfl,rfl⟩ | ⟨rfl,rfl⟩
   ·simp only[ho,hye,Sem.run_bind,hguard,Result.andThen_ok,h1,Sem.run_pure];simp
   ·simp only[ho,hye,Sem.run_bind,hguard,Result.andThen_ok,h2,Sem.run_pure];simp
  rw[hrun]
  have hrep:=(hr.env (prefix_append env [.v (.bool (b != neg))])).put (dst:=o.dst) (v:=.bool (b != neg)) (sv:=.e (.sym env.length) true) hd (.e (d:=.v (.bool (b != neg))) (by simp[E.eval]) (.v rfl) fun _=>rfl)
  exact hK _ _ t' _ _ _ (prefix_append env _) (by rw[List.length_append];exact ht') hd' hrep (hplen _).1 (hplen _).2
 split at hs
 ·rename_i x ho
  split at hs
  ·rename_i y cf hx0 hx hhs
   cases hs
   simp only[sopT] at ht
   obtain⟨ks,hks,rfl⟩:=Option.map_eq_some_iff.1 ht
   obtain⟨d,st,kd,he,hh,hkd,hq⟩:=hden
   obtain⟨d',he',hrd⟩:=SV.toE_rd hx (hv x)
   simp only[E.eval,he',Option.bind_some,D.m4] at he
   obtain⟨h1,hob,bs,h2,h3⟩:=hsOf_eval hr hhs
   rw[h1,h2] at hh
   cases hh
   split at he
   case h_2=>cases he
   cases he
   have hrd0:=hrd
   generalize hve:a.eval x=v at hrd
   cases hrd with
   | ifc hd0=>
    refine wpIn_of_upon (K:=K) hnd ?_ fun _ _ h=>h
    have hrun:(execOp a.eval o).run P w=.halt (.panic (a.eval x)) w:=by
     unfold execOp
     simp only[ho,hve,Instr.panic,goPanic,Sem.run_bind]
     rfl
    rw[hrun]
    exact hp w a σ env ρ _ _ bs hr hrd0 h3 ⟨cf,_,hob⟩ ⟨kd,keepE_rd hr hks hkd (List.prefix_refl _),hq⟩
  ·cases hs
 ·rename_i it ho
  split at hs
  ·rename_i p cf hx0 hx hhs
   split at hs
   ·cases hs
   rename_i hro
   cases hs
   simp only[sopT] at ht
   obtain⟨t',ht',rfl⟩:=Option.map_eq_some_iff.1 ht
   obtain⟨ys,he,hall⟩:=hden
   obtain⟨dp,hdp,hrp⟩:=SV.toE_rd hx (hv it)
   obtain⟨h1,hob,bs,h2,h3⟩:=hsOf_eval hr hhs
   simp only[E.eval,h1,h2,hdp,Option.bind_some,D.m4] at he
   obtain⟨v,w',d,bs',hmem,hrun,hrv,hst',hK',hos,htp,hout,hsz,hbl⟩:=next_run (P:=P) (ty:=o.type) h3 hrp he
   have hd':=hall _ _ hmem
   have hexec:(execOp a.eval o).run P w=.ok (.value v) w':=by
    unfold execOp
    simp only[ho,Sem.run_bind,hrun,Result.andThen_ok,Sem.run_pure]
   refine wpIn_of_upon (K:=K) hnd ?_ fun _ _ h=>h
   rw[hexec]
   have hpre:=prefix_append env [.tup [d,.st bs']]
   have hix:(E.sym env.length).eval (env++[.tup [d,.st bs']])=some (.tup [d,.st bs']):=by simp[E.eval]
   have hrep:=(hr.env hpre).setStore (x':=.tget 1 (.sym env.length)) hob (by simpa using hro) (by simp only[E.eval] at hix ⊢;rw[hix];rfl) hst' hK' (Sets.le_refl _) hos htp hout (by omega) (fun b _ hb=>hbl b hb) (fun b hb=>⟨.inl hb,by rw[hsz];exact foot_lt hr hob b hb⟩) (fun b o hs=>.inl hs) (fun b o hs=>by rw[hsz];exact hr.cells b o hs)
   have hset:setH σ (.tget 1 (.sym env.length))=σ.setObj HID (some (.store cf (.tget 1 (.sym env.length)))):=by unfold setH;rw[hhs]
   refine hK _ _ t' _ _ _ hpre (by rw[List.length_append];exact ht') hd' (hset ▸ hrep.put (dst:=o.dst) (by rw[SState.tmps_setObj];exact hd) (.e (d:=d) (by simp only[E.eval] at hix ⊢;rw[hix];rfl) hrv (by simp))) ?_ ?_
   ·rw[hset];cases o.dst <;> simp[SState.put_def,SState.tmps_setObj]
   ·rw[hset];cases o.dst <;> simp[SState.put_def,SState.mlen_setObj]
  ·cases hs
 ·rename_i ty x y yt ho
  split at hs
  ·rename_i e hu
   split at hs
   ·rename_i hy
    obtain⟨x',hx,rfl⟩:=Option.map_eq_some_iff.1 hs
    exact nil ho (.inl ⟨rfl,rfl⟩) ⟨e,hu⟩ hy hx rfl
   ·cases hs
  ·cases hs
 ·rename_i ty x y yt ho
  split at hs
  ·rename_i e hu
   split at hs
   ·rename_i hy
    obtain⟨x',hx,rfl⟩:=Option.map_eq_some_iff.1 hs
    exact nil ho (.inr ⟨rfl,rfl⟩) ⟨e,hu⟩ hy hx rfl
   ·cases hs
  ·cases hs
 ·rename_i c ho
  obtain⟨callee,args,ts⟩:=c
  simp only at hs
  split at hs
  ·rename_i c
   split at hs
   ·rename_i f cf hE hfv hhs
    split at hs
    ·split at hs
     ·rename_i fn xs hfn hxs
      split at hs
      ·rename_i rs hrs
       split at hs
       ·cases hs
       ·rename_i hcl
        have hcl:callable P f=true:=by simpa using hcl
        obtain⟨h1,hob,bs,h2,h3⟩:=hsOf_eval hr hhs
        have hc:a.eval c=.func (.func f) #[] #[]:=by
         have:=hv c
         rw[hfv] at this
         obtain⟨vs,he,hl',_⟩:=this.func_inv
         rw[he]
         have:vs=#[]:=by simpa using hl'
         rw[this]
        have hrun:=callable_run (w:=w) hcl ho hc
        obtain⟨ds',hev',hdl,hrd⟩:=toEAll_rd (w:=w) (ρ:=ρ) (vs:=(args.map a.eval).toList) hxs (by simp) (fun i v s hv' hs'=>by
         simp only[Array.toList_map,List.getElem?_map,Option.map_eq_some_iff] at hv' hs'
         obtain⟨x,hx',rfl⟩:=hv'
         obtain⟨y,hy',rfl⟩:=hs'
         rw[hx'] at hy'
         cases hy'
         exact hv x)
        split at hs
        ·split at hs
         ·cases hs
         ·rename_i hro
          cases hs
          simp only[sopT] at ht
          obtain⟨ks,hks,ht⟩:=Option.bind_eq_some_iff.1 ht
          obtain⟨t',ht',rfl⟩:=Option.map_eq_some_iff.1 ht
          obtain⟨st,ds,oo,h',hse,hev,hspec,hoo⟩:=hden
          rw[h1,h2] at hse
          cases hse
          rw[hev] at hev'
          cases hev'
          refine wpIn_of_upon (K:=K) hnd ?_ fun _ _ h=>h
          rw[hrun]
          refine⟨fun e=>(by cases e),callsIn_wide.2 ?_⟩
          refine(hspec w ρ.S ρ.foot bs (args.map a.eval) rfl h3 (hr.holdOk hob) (foot_lt hr hob) hr.cells (by simpa using hdl) (fun i v x hv hx'=>hrd i v x (by simpa using hv) hx')).mono ?_
          rintro e w' ⟨v,S',foot',bs',hends,rfl,hst',hk,hS,hos,htp,hout,hsz,hbl,hf',hS2,hS3⟩
          cases oo with
          | ret d=>
           obtain⟨rfl,hrv⟩:=hends
           have hpre:=prefix_append env [.tup [d,.st bs']]
           have hix:(E.sym env.length).eval (env++[.tup [d,.st bs']])=some (.tup [d,.st bs']):=by simp[E.eval]
           have hrep:=(hr.env hpre).setStore (x':=.tget 1 (.sym env.length)) hob (by simpa using hro) (by simp only[E.eval] at hix ⊢;rw[hix];rfl) hst' hk hS hos htp hout hsz hbl hf' hS2 hS3
           have hset:setH σ (.tget 1 (.sym env.length))=σ.setObj HID (some (.store cf (.tget 1 (.sym env.length)))):=by unfold setH;rw[hhs]
           refine hK _ _ t' _ _ _ hpre (by rw[List.length_append];exact ht') hoo.2 (hset ▸ hrep.put (dst:=o.dst) (by rw[SState.tmps_setObj];exact hd) (resSV_rd (by simp only[E.eval] at hix ⊢;rw[hix];rfl) hrv hoo.1)) ?_ ?_
           ·rw[hset];cases o.dst <;> simp[SState.put_def,SState.tmps_setObj]
           ·rw[hset];cases o.dst <;> simp[SState.put_def,SState.mlen_setObj]
          | pan d=>
           obtain⟨rfl,hrv⟩:=hends
           have hrep:=(hr.env (prefix_append env [.st bs'])).setStore (x':=.sym env.length) hob (by simpa using hro) (by simp[E.eval]) hst' hk hS hos htp hout hsz hbl hf' hS2 hS3
           obtain⟨kd,hkd,hq⟩:=hoo
           have hko:keepOf (σ.setObj HID (some (.store cf (.sym env.length))))=keepOf σ:=by
            unfold keepOf
            rw[hhs]
            simp[SState.setObj_def]
           have hke:keepE (σ.setObj HID (some (.store cf (.sym env.length))))=some ks:=by
            unfold keepE at hks ⊢
            rw[hko]
            rw[←hks]
            congr 1
           exact hp w' a _ _ _ v d bs' hrep hrv hst' ⟨cf,_,by rw[SState.obj_setObj' (.inl rfl),if_pos rfl]⟩ ⟨kd,keepE_rd hrep hke hkd (prefix_append env _),by rw[hko];exact hq⟩
        ·cases hs
         simp only[sopT] at ht
         obtain⟨ks,hks,ht⟩:=Option.bind_eq_some_iff.1 ht
         obtain⟨t',ht',rfl⟩:=Option.map_eq_some_iff.1 ht
         obtain⟨st,ds,oo,hse,hev,hspec,hoo⟩:=hden
         rw[h1,h2] at hse
         cases hse
         rw[hev] at hev'
         cases hev'
         refine wpIn_of_upon (K:=K) hnd ?_ fun _ _ h=>h
         rw[hrun]
         refine⟨fun e=>(by cases e),callsIn_wide.2 ?_⟩
         refine(hspec w ρ.S ρ.foot bs (args.map a.eval) rfl h3 (hr.holdOk hob) (foot_lt hr hob) hr.cells (by simpa using hdl) (fun i v x hv hx'=>hrd i v x (by simpa using hv) hx')).mono ?_
         rintro e w' ⟨v,S',hends,hbelow,hs1,hsn,hs2,hs3⟩
         have hrep:=hr.behind hbelow hs1 hsn hs2 hs3
         cases oo with
         | ret d=>
          obtain⟨rfl,hrv⟩:=hends
          have hpre:=prefix_append env [d]
          exact hK _ _ t' _ _ _ hpre (by rw[List.length_append];exact ht') hoo.2 ((hrep.env hpre).put (dst:=o.dst) hd (resSV_rd (by simp[E.eval]) hrv hoo.1)) (hplen _).1 (hplen _).2
         | pan d=>
          obtain⟨rfl,hrv⟩:=hends
          obtain⟨bs2,h4,h5,_⟩:=hrep.objs _ _ hob
          rw[h2] at h4
          cases h4
          obtain⟨kd,hkd,hq⟩:=hoo
          exact hp w' a _ _ _ v d bs hrep hrv h5 ⟨cf,_,hob⟩ ⟨kd,keepE_rd hrep hks hkd (List.prefix_refl _),hq⟩
      ·cases hs
     ·cases hs
    ·cases hs
   ·rename_i xe sb cf hE hfv hhs
    split at hs
    ·split at hs
     ·rename_i rs xs hrs hxs
      split at hs
      ·cases hs
      ·rename_i hro
       cases hs
       obtain⟨h1,hob,bs,h2,h3⟩:=hsOf_eval hr hhs
       have hcv:=hv c
       rw[hfv] at hcv
       obtain⟨dc,hdc,hrc,_⟩:=hcv.e_inv
       obtain⟨ds',hev',hdl,hrd⟩:=toEAll_rd (w:=w) (ρ:=ρ) (vs:=(args.map a.eval).toList) hxs (by simp) (fun i v s hv' hs'=>by
        simp only[Array.toList_map,List.getElem?_map,Option.map_eq_some_iff] at hv' hs'
        obtain⟨x,hx',rfl⟩:=hv'
        obtain⟨y,hy',rfl⟩:=hs'
        rw[hx'] at hy'
        cases hy'
        exact hv x)
       simp only[sopT] at ht
       obtain⟨ks,hks,ht⟩:=Option.bind_eq_some_iff.1 ht
       obtain⟨t',ht',rfl⟩:=Option.map_eq_some_iff.1 ht
       obtain⟨f,us,cs,st,ds,oo,h',hxe,hcl,hse,hev,hspec,hoo⟩:=hden
       rw[hdc] at hxe
       cases hxe
       rw[h1,h2] at hse
       cases hse
       rw[hev] at hev'
       cases hev'
       generalize hvc:a.eval c=vc at hrc
       cases hrc with
       | @fn _ uv cv _ _ hul hcll hur hcr=>
       have hrun:(execOp a.eval o).run P w=.ok (.enter f (uv++args.map a.eval++cv)) w:=by
        unfold callable at hcl
        split at hcl
        ·rename_i fn hf
         simp only[Bool.and_eq_true,Bool.not_eq_true',Option.isSome_iff_ne_none] at hcl
         have hbn:fn.body.isNone=false:=by
          cases hb:fn.body with
          | none=>exact absurd hb hcl.2
          | some _=>rfl
         unfold execOp
         simp only[ho,resolve,hvc,Deferred.ofValue,invoke,Sem.run_bind,Sem.run_pure,Result.andThen_ok,callFunc,run_program,hf,hcl.1,hbn,Bool.false_eq_true,if_false]
        ·cases hcl
       refine wpIn_of_upon (K:=K) hnd ?_ fun _ _ h=>h
       rw[hrun]
       refine⟨fun e=>(by cases e),callsIn_wide.2 ?_⟩
       refine(hspec w ρ.S ρ.foot bs _ rfl h3 (hr.holdOk hob) (foot_lt hr hob) hr.cells (by simp at hdl;simp[hul,hcll,hdl]) (fun i v x hv hx'=>get3 (us:=uv.toList) (vs:=(args.map a.eval).toList) (ws:=cv.toList) (R:=fun v x=>RdD w ρ.S v x) (by simpa using hul) hdl (fun i u x hu hx=>hur i u x (by simpa using hu) hx) hrd (fun i u x hu hx=>hcr i u x (by simpa using hu) hx) i v x (by rw[←Array.toList_append,←Array.toList_append,Array.getElem?_toList];exact hv) hx')).mono ?_
       rintro e w' ⟨v,S',foot',bs',hends,rfl,hst',hk,hS,hos,htp,hout,hsz,hbl,hf',hS2,hS3⟩
       cases oo with
       | ret d=>
        obtain⟨rfl,hrv⟩:=hends
        have hpre:=prefix_append env [.tup [d,.st bs']]
        have hix:(E.sym env.length).eval (env++[.tup [d,.st bs']])=some (.tup [d,.st bs']):=by simp[E.eval]
        have hrep:=(hr.env hpre).setStore (x':=.tget 1 (.sym env.length)) hob (by simpa using hro) (by simp only[E.eval] at hix ⊢;rw[hix];rfl) hst' hk hS hos htp hout hsz hbl hf' hS2 hS3
        have hset:setH σ (.tget 1 (.sym env.length))=σ.setObj HID (some (.store cf (.tget 1 (.sym env.length)))):=by unfold setH;rw[hhs]
        refine hK _ _ t' _ _ _ hpre (by rw[List.length_append];exact ht') hoo.2 (hset ▸ hrep.put (dst:=o.dst) (by rw[SState.tmps_setObj];exact hd) (resSV_rd (by simp only[E.eval] at hix ⊢;rw[hix];rfl) hrv hoo.1)) ?_ ?_
        ·rw[hset];cases o.dst <;> simp[SState.put_def,SState.tmps_setObj]
        ·rw[hset];cases o.dst <;> simp[SState.put_def,SState.mlen_setObj]
       | pan d=>
        obtain⟨rfl,hrv⟩:=hends
        have hrep:=(hr.env (prefix_append env [.st bs'])).setStore (x':=.sym env.length) hob (by simpa using hro) (by simp[E.eval]) hst' hk hS hos htp hout hsz hbl hf' hS2 hS3
        obtain⟨kd,hkd,hq⟩:=hoo
        have hko:keepOf (σ.setObj HID (some (.store cf (.sym env.length))))=keepOf σ:=by
         unfold keepOf
         rw[hhs]
         simp[SState.setObj_def]
        have hke:keepE (σ.setObj HID (some (.store cf (.sym env.length))))=some ks:=by
         unfold keepE at hks ⊢
         rw[hko]
         rw[←hks]
         congr 1
        exact hp w' a _ _ _ v d bs' hrep hrv hst' ⟨cf,_,by rw[SState.obj_setObj' (.inl rfl),if_pos rfl]⟩ ⟨kd,keepE_rd hrep hke hkd (prefix_append env _),by rw[hko];exact hq⟩
     ·cases hs
    ·cases hs
   ·cases hs
  ·cases hs
 ·cases hs

theorem den_bind1 {b:Bind}{t:T}{env:List D}{Q:Sig→Prop}(h:den P (.bind b t) env Q):∃d,den P t (env++[d]) Q∧BindOk P (env++[d]) env.length (some b):=by
 obtain⟨ds,hl,h1,h2⟩:=den_binds (bs:=[b]) (t:=t) h
 match ds,hl with
 | [d],_=>exact⟨d,h1,h2 0 b rfl⟩

theorem segs_sound {rd:Option Nat} {nd:Nat} {ops:Array Oper} {Q:Sig→Prop} {Q':Exit→Act→World→Prop} {k:SKont} (hp:PanQ w0 X Q Q') {N:Nat}
  (hsz:∀(j d:Nat),(ops[j]?).bind (fun(o:Oper)=>o.dst)=some d→d<N) :
  ∀{l:List Oper} {σ:SState} {t:T} {env:List D} {a:Act} {w:World} {ρ:Rho},segs P ops l σ env.length k=some t→den P t env Q→Rep w0 X w a σ env ρ→σ.tmps.length=N→σ.mem.length=N →
   (∀(σ':SState) (env':List D) (t':T) (a':Act) (w':World) (ρ':Rho),env <+: env'→k σ' env'.length=some t'→den P t' env' Q→Rep w0 X w' a' σ' env' ρ'→σ'.tmps.length=N→σ'.mem.length=N→Q' .normal a' w')→wpListIn (FW rd) nd P ops Q' l a w
 | [],σ,t,env,a,w,ρ,hs,hd,hr,h1,h2,hQ=>hQ σ env t a w ρ (List.prefix_refl _) hs hd hr h1 h2
 | o :: r,σ,t,env,a,w,ρ,hs,hd,hr,h1,h2,hQ=>by
  simp only[segs] at hs
  have next:∀{σ':SState} {env':List D} {t':T} {a':Act} {w':World} {ρ':Rho},env <+: env'→segs P ops r σ' env'.length k=some t'→den P t' env' Q→Rep w0 X w' a' σ' env' ρ'→σ'.tmps.length=N→σ'.mem.length=N→wpListIn (FW rd) nd P ops Q' r a' w':=by
   intro σ' env' t' a' w' ρ' hpre hs' hd' hr' h1' h2'
   exact segs_sound hp hsz hs' hd' hr' h1' h2' fun σ2 env2 t2 a2 w2 ρ2 hp2=>hQ σ2 env2 t2 a2 w2 ρ2 (hpre.trans hp2)
  split at hs
  ·rename_i s hso
   split at hs
   ·rename_i hdst
    obtain⟨hw,hwp⟩:=sop_sound (ops:=ops) hso (dstOk_defer hdst) (dstOk_spec hdst) hs hd hr hp (K:=wpListIn (FW rd) nd P ops Q' r) fun σ' env' t' a' w' ρ' hpre hk hd' hr' e1 e2=>next hpre hk hd' hr' (e1.trans h1) (e2.trans h2)
    unfold wpListIn
    rw[if_pos hw]
    exact hwp
   ·cases hs
  ·have go:∀{σ':SState} {b:Option Bind} {env':List D} {t':T},rstep P ops o σ env.length=some (σ',b)→env <+: env'→BindOk P env' env.length b→segs P ops r σ' env'.length k=some t'→den P t' env' Q→wpListIn (FW rd) nd P ops Q' (o :: r) a w:=by
    intro σ' b env' t' hst hpre hb hs' hd'
    have hlen:=rstep_len hst
    unfold wpListIn
    rcases rstep_sound (hr.env hpre) (by rw[h1,h2]) (List.IsPrefix.length_le hpre) (fun j d hjd=>by rw[h1];exact hsz j d hjd) hst hb with⟨hw,hok⟩ | ⟨hw,ρ'',hrep⟩
    ·rw[if_pos hw]
     refine wpIn_of_upon (rstep_defer hst) (hok Q') ?_
     rintro a' w' ⟨ρ',hrep⟩
     exact next hpre hs' hd' hrep (hlen.1.trans h1) (hlen.2.trans h2)
    ·rw[if_neg (by rw[hw];simp)]
     refine⟨fun _ _=>trivial,?_⟩
     exact next hpre hs' hd' hrep (hlen.1.trans h1) (hlen.2.trans h2)
   split at hs
   ·rename_i σ' hst
    exact go hst (List.prefix_refl _) trivial hs hd
   ·rename_i σ' b hst
    obtain⟨t',hs',rfl⟩:=Option.map_eq_some_iff.1 hs
    obtain⟨d,hd',hb⟩:=den_bind1 hd
    exact go hst (prefix_append env [d]) hb (by rw[List.length_append];exact hs') hd'
   ·cases hs

/-! ## a region whose order is drawn,with a special operation at its end -/

theorem Oper.wpIn_monoQ {F:Fence}{n:Nat}{o:Oper}{a:Act}{w:World}{K:Act→World→Prop}{Q1 Q2:Exit→Act→World→Prop}(h1:∀c a w,Q1 (.panic c) a w→Q2 (.panic c) a w)(h2:∀a w,Q1 .outgrown a w→Q2 .outgrown a w)(h:o.wpIn F n P a w K Q1):o.wpIn F n P a w K Q2:=by
 unfold Oper.wpIn at *
 refine⟨h.1,?_⟩
 have h:=h.2
 have hl:LetsOut Q1→LetsOut Q2:=fun⟨a,w,h⟩=>⟨a,w,h2 a w h⟩
 generalize(o.semAt F.round a.eval).run P w=r at *
 cases r with
 | ok n w'=>
  cases n <;> simp only[Oper.uponIn] at h ⊢ <;>
   first
    | exact h
    | exact⟨h.1,CallsIn.mono h.2 (fun e w'' he=>by cases e <;> first | exact he | exact h1 _ _ _ he | exact hl he)⟩
    | exact⟨h.1,RowsIn.mono h.2 (fun _ _ he=>he)⟩
    | exact⟨h.1,RoundIn.mono h.2 (fun e w'' he=>by cases e <;> first | exact he | exact h1 _ _ _ he | exact hl he)⟩
 | halt x w'=>cases x <;> simp only[Oper.uponIn] at h ⊢ <;> first | exact h1 _ _ _ h | exact h

def lastOk (ops:Array Oper):Bool:=
 (List.range (ops.size-1)).all (fun j=>((masks ops.toList []).getD (ops.size-1) 0).testBit j)&&(List.range ops.size).all fun i=>match ops[i]? with
  | some o=>(i==ops.size-1||match o.guard with | some (j,_)=>decide (j<ops.size-1) | none=>true)&&o.after.all fun e=>!Region.binds .any e||decide (e.on<i)
  | none=>false

theorem yielded_pop {ops:Array Oper}{tmps:Array Value}{j:Nat}(hj:j<ops.size-1):yielded ops.pop tmps j=yielded ops tmps j:=by
 unfold yielded
 rw[Array.getElem?_pop]
 simp[hj]

theorem wpAny_last {F:Fence}{n:Nat}{ops:Array Oper}{Q:Exit→Act→World→Prop}(h0:0<ops.size)(hl:lastOk ops=true) :
  ∀(fuel:Nat) (listed:Array Bool) (a:Act) (w:World),listed.size=ops.size-1→Closed ops (doneOf listed) →
   wpAnyIn F n P .any ops.pop (fun e a w=>match e with | .normal=>wpOpIn F n P ops Q (ops.size-1) (Q .normal) a w | e=>Q e a w) fuel listed a w→wpAnyIn F n P .any ops Q (fuel+1) (listed.push false) a w:=by
 simp only[lastOk,Bool.and_eq_true,List.all_eq_true,List.mem_range] at hl
 obtain⟨hlast,hall⟩:=hl
 have hat:∀(i:Nat) (o:Oper),ops[i]? = some o→(i<ops.size-1→∀j b,o.guard=some (j,b)→j<ops.size-1)∧∀e,e∈o.after→Region.binds .any e=true→e.on<i:=by
  intro i o ho
  have:=hall i (Array.getElem?_eq_some_iff.1 ho).1
  rw[ho] at this
  simp only[Bool.and_eq_true,Bool.or_eq_true,beq_iff_eq] at this
  refine⟨fun hi j b hg=>?_,fun e he hb=>?_⟩
  ·have h1:=this.1.resolve_left (by omega)
   rw[hg] at h1
   simpa using h1
  ·have:=Array.all_eq_true'.1 this.2 e he
   simpa[hb] using this
 have hget:∀(listed:Array Bool) (j:Nat),listed.size=ops.size-1→j<ops.size-1→∀d,(listed.push false).getD j d=listed.getD j false:=by
  intro listed j hs hj d
  simp only[Array.getD_eq_getD_getElem?]
  rw[Array.getElem?_push_lt (by omega)]
  simp[show j<listed.size by omega]
 have hgetm:∀(listed:Array Bool),listed.size=ops.size-1→∀d,(listed.push false).getD (ops.size-1) d=false:=by
  intro listed hs d
  simp only[Array.getD_eq_getD_getElem?,←hs,Array.getElem?_push_size]
  rfl
 have hpop:∀i,i<ops.size-1→ops.pop[i]? = ops[i]?:=fun i hi=>by rw[Array.getElem?_pop];simp[hi]
 have step:∀(fuel:Nat) (listed:Array Bool) (a:Act) (w:World),listed.size=ops.size-1→Closed ops (doneOf listed) →
   wpAnyIn F n P .any ops.pop (fun e a w=>match e with | .normal=>wpOpIn F n P ops Q (ops.size-1) (Q .normal) a w | e=>Q e a w) fuel listed a w →
   (∀f,fuel=f+1→∀(listed:Array Bool) (a:Act) (w:World),listed.size=ops.size-1→Closed ops (doneOf listed) →
    wpAnyIn F n P .any ops.pop (fun e a w=>match e with | .normal=>wpOpIn F n P ops Q (ops.size-1) (Q .normal) a w | e=>Q e a w) f listed a w→wpAnyIn F n P .any ops Q (f+1) (listed.push false) a w) →
   wpAnyIn F n P .any ops Q (fuel+1) (listed.push false) a w:=by
  intro fuel listed a w hs hcl h ih
  have hgd:∀(j:Nat),j<ops.size-1→listed.getD j true=listed.getD j false:=fun j hj=>by
   simp only[Array.getD_eq_getD_getElem?]
   simp[show j<listed.size by omega]
  refine⟨fun hnil=>?_,fun i hi=>?_⟩
  ·exfalso
   have hdone:∀j,j<ops.size→(listed.push false).getD j false=true:=by
    intro j
    induction j using Nat.strongRecOn with
    | _ j ihj=>
     intro hj
     refine Classical.byContradiction fun hnd=>?_
     have hmem:j∈Region.ready .any ops (listed.push false):=by
      refine mem_ready.2 ⟨?_,ops[j],Array.getElem?_eq_getElem hj,fun e he hb=>?_⟩
      ·rcases Nat.lt_or_ge j (ops.size-1) with hlt | hge
       ·rw[hget listed j hs hlt] at hnd ⊢
        simpa using hnd
       ·have:j=ops.size-1:=by omega
        rw[this,hgetm listed hs]
      ·have:=(hat j ops[j] (Array.getElem?_eq_getElem hj)).2 e he hb
       exact ihj e.on this (by omega)
     rw[hnil] at hmem
     cases hmem
   have:=hdone (ops.size-1) (by omega)
   rw[hgetm listed hs] at this
   cases this
  ·obtain⟨h1,o,ho,ha⟩:=mem_ready.1 hi
   have hin:=(Array.getElem?_eq_some_iff.1 ho).1
   rcases Nat.lt_or_ge i (ops.size-1) with hlt | hge
   ·have hia:∀e,e∈o.after→Region.binds .any e=true→listed.getD e.on false=true:=fun e he hb=>by
     have h2:=ha e he hb
     have h3:=(hat i o ho).2 e he hb
     rwa [hget listed e.on hs (by omega)] at h2
    have hi':i∈Region.ready .any ops.pop listed:=by
     refine mem_ready.2 ⟨?_,o,by rw[hpop i hlt];exact ho,hia⟩
     rw[hget listed i hs hlt] at h1
     rw[hgd i hlt]
     exact h1
    cases fuel with
    | zero=>rw[h.1] at hi';cases hi'
    | succ f=>
     have h2:=h.2 i hi'
     have hset:(listed.push false).setIfInBounds i true=(listed.setIfInBounds i true).push false:=by
      apply Array.ext'
      rw[Array.toList_setIfInBounds,Array.toList_push,Array.toList_push,Array.toList_setIfInBounds,List.set_append_left _ _ (by simpa using(by omega:i<listed.size))]
     have hcl':Closed ops (doneOf (listed.setIfInBounds i true)):=by
      intro k ok hk hok e he hb
      simp only[doneOf,Array.getD_eq_getD_getElem?,Array.getElem?_setIfInBounds] at hk ⊢
      by_cases hki:i=k
      ·subst hki
       rw[ho] at hok
       cases hok
       have:=hia e he hb
       simp only[Array.getD_eq_getD_getElem?] at this
       split
       ·rename_i hh;simp[show i<listed.size by omega]
       ·exact this
      ·rw[if_neg hki] at hk
       have:=hcl k ok (by simpa[doneOf,Array.getD_eq_getD_getElem?] using hk) hok e he hb
       simp only[doneOf,Array.getD_eq_getD_getElem?] at this
       split
       ·simp[show i<listed.size by omega]
       ·exact this
     have hnext:=ih f rfl
     unfold wpOpIn at h2 ⊢
     rw[hpop i hlt,ho] at h2
     rw[ho]
     simp only at h2 ⊢
     have hwant:Region.wanted o (yielded ops.pop a.tmps)=Region.wanted o (yielded ops a.tmps):=by
      unfold Region.wanted
      cases hg:o.guard with
      | none=>rfl
      | some g=>
       obtain⟨j,b⟩:=g
       simp only
       rw[yielded_pop ((hat i o ho).1 hlt j b hg)]
     rw[hwant] at h2
     have fin:∀a' w',wpAnyIn F n P .any ops.pop (fun e a w=>match e with | .normal=>wpOpIn F n P ops Q (ops.size-1) (Q .normal) a w | e=>Q e a w) f (listed.setIfInBounds i true) a' w'→wpAnyIn F n P .any ops Q (f+1) ((listed.push false).setIfInBounds i true) a' w':=by
      intro a' w' h3
      rw[hset]
      exact hnext _ a' w' (by simp[hs]) hcl' h3
     split
     ·rename_i hw
      rw[if_pos hw] at h2
      exact Oper.wpIn_mono fin (Oper.wpIn_monoQ (fun _ _ _ h=>h) (fun _ _ h=>h) h2)
     ·rename_i hw
      rw[if_neg hw] at h2
      exact⟨h2.1,fin _ _ h2.2⟩
   ·obtain rfl:i=ops.size-1:=by omega
    have hia:∀e,e∈o.after→Region.binds .any e=true→doneOf listed e.on=true:=fun e he hb=>by
     have h2:=ha e he hb
     have h3:=(hat _ o ho).2 e he hb
     rwa [hget listed e.on hs h3] at h2
    have hdone:∀j,j<ops.size-1→doneOf listed j=true:=fun j hj=>masks_spec hcl ho hia (hlast j hj)
    have hnil:Region.ready .any ops.pop listed=[]:=by
     cases hr:Region.ready .any ops.pop listed with
     | nil=>rfl
     | cons j l=>
      have hmem:j∈Region.ready .any ops.pop listed:=by rw[hr];simp
      obtain⟨h3,o',ho',_⟩:=mem_ready.1 hmem
      have hj:j<ops.size-1:=by simpa using(Array.getElem?_eq_some_iff.1 ho').1
      rw[hgd j hj] at h3
      have:=hdone j hj
      simp only[doneOf] at this
      rw[this] at h3
      cases h3
    have hq:wpOpIn F n P ops Q (ops.size-1) (Q .normal) a w:=by
     cases fuel with
     | zero=>exact h.2
     | succ f=>exact h.1 hnil
    refine wpOpIn_mono (fun a' w' hq'=>?_) hq
    have hall':Region.ready .any ops ((listed.push false).setIfInBounds (ops.size-1) true)=[]:=by
     cases hr:Region.ready .any ops ((listed.push false).setIfInBounds (ops.size-1) true) with
     | nil=>rfl
     | cons j l=>
      have hmem:j∈Region.ready .any ops ((listed.push false).setIfInBounds (ops.size-1) true):=by rw[hr];simp
      obtain⟨h3,o',ho',_⟩:=mem_ready.1 hmem
      have hj:j<ops.size:=(Array.getElem?_eq_some_iff.1 ho').1
      simp only[Array.getD_eq_getD_getElem?,Array.getElem?_setIfInBounds] at h3
      split at h3
      ·simp[hs] at h3
      ·rename_i hne
       have hj':j<ops.size-1:=by omega
       have:=hdone j hj'
       have h4:=hget listed j hs hj' true
       simp only[Array.getD_eq_getD_getElem?] at h4
       rw[h4] at h3
       simp only[doneOf,Array.getD_eq_getD_getElem?] at this
       rw[this] at h3
       cases h3
    cases fuel with
    | zero=>exact⟨hall',hq'⟩
    | succ f=>exact⟨fun _=>hq',fun j hj=>by rw[hall'] at hj;cases hj⟩
 have hgd:∀(listed:Array Bool) (j:Nat),listed.size=ops.size-1→j<ops.size-1→listed.getD j true=listed.getD j false:=fun listed j hs hj=>by
  simp only[Array.getD_eq_getD_getElem?]
  simp[show j<listed.size by omega]
 intro fuel
 induction fuel with
 | zero=>
  intro listed a w hs hcl h
  exact step 0 listed a w hs hcl h fun f hf=>by omega
 | succ fuel ih=>
  intro listed a w hs hcl h
  exact step (fuel+1) listed a w hs hcl h fun f hf=>by
   obtain rfl:f=fuel:=by omega
   exact ih

end
end
end Go.Am

/-
 Where ways meet: one symbolic state fits a more general one,whose new names stand for data.
-/
namespace Go.Am
noncomputable section

def E.upto (n:Nat):E→Bool
 | .sym k=>decide (k<n)
 | .const _ | .nil | .tnil=>true
 | .bin _ _ a b | .idx a b | .idxN _ a b | .cons a b | .app _ _ a b | .lcons a b | .mkfn _ a b | .guard a _ b | .tcons a b | .mm _ a b | .eaddr _ a b | .ld _ _ a b | .newb _ _ a b | .newv _ _ a b | .fstsl a b | .frzv _ a b | .frzh a b=>a.upto n&&b.upto n
 | .un _ a | .conv _ a | .lenL a | .lenS a | .scal a | .cell _ a | .cells _ _ a | .aggN _ a | .one a | .tget _ a | .rep _ a _ | .deref a | .ifc _ a | .mkptr a | .padd _ a | .nn a | .fstid a=>a.upto n
 | .sub _ a b c | .ite a b c | .sto _ a b c | .apph _ _ _ a b c | .apps a b c=>a.upto n&&b.upto n&&c.upto n
 | .set a b _ c=>a.upto n&&b.upto n&&c.upto n
 | .m4 _ a b c d=>a.upto n&&b.upto n&&c.upto n&&d.upto n

theorem E.eval_upto {n : Nat} {env env' : List D} (h : ∀ k, k < n → env[k]? = env'[k]?) : ∀ {x : E}, x.upto n = true → x.eval env = x.eval env' := by
 intro x
 induction x <;> intro hb <;> simp only [E.upto, Bool.and_eq_true, decide_eq_true_eq] at hb <;> simp only [E.eval]
 case sym k => exact h k hb
 all_goals first
  | rfl
  | (rename_i ih; rw [ih hb])
  | (rename_i i1 i2; rw [i1 hb.1, i2 hb.2])
  | (rename_i i1 i2 i3; rw [i1 hb.1.1, i2 hb.1.2, i3 hb.2])
  | (rename_i i1 i2 i3 i4; rw [i1 hb.1.1.1, i2 hb.1.1.2, i3 hb.1.2, i4 hb.2])

mutual
def SV.upto (n:Nat):SV→Bool
 | .junk | .addr _ _ | .slc _=>true
 | .e x _ | .eaddr _ x _ _ | .iptr x _ | .own x _=>x.upto n
 | .agg cs | .tup cs=>SV.uptoAll n cs
 | .func _ cs=>SV.uptoAll n cs
 | .cond act sv=>act.all (fun p=>p.1.upto n)&&sv.upto n
def SV.uptoAll (n:Nat):List SV→Bool
 | []=>true
 | s :: r=>s.upto n&&SV.uptoAll n r
end

theorem SV.uptoAll_get {n:Nat}:∀{cs:List SV} {i:Nat} {c:SV},SV.uptoAll n cs=true→cs[i]? = some c→c.upto n=true
 | [],i,c,_,h=>by simp at h
 | s :: r,0,c,h,hi=>by simp[SV.uptoAll] at h hi;exact hi ▸ h.1
 | s :: r,i+1,c,h,hi=>by simp[SV.uptoAll] at h hi;exact SV.uptoAll_get h.2 hi

theorem SRd.cut {w:World}{ρ:Rho}{n:Nat}{env env':List D}{v:Value}{sv:SV}(h:SRd w ρ env v sv)(he:∀k,k<n→env[k]? = env'[k]?)(hb:sv.upto n=true):SRd w ρ env' v sv:=by
 induction h with
 | junk=>exact .junk
 | e hx h h1=>exact .e ((E.eval_upto he (by simpa[SV.upto] using hb)) ▸ hx) h h1
 | agg hl ho _ ih=>exact .agg hl ho fun i v c hv hc=>ih i v c hv hc (SV.uptoAll_get (by simpa[SV.upto] using hb) hc)
 | tup hl _ ih=>exact .tup hl fun i v c hv hc=>ih i v c hv hc (SV.uptoAll_get (by simpa[SV.upto] using hb) hc)
 | addr=>exact .addr
 | eaddr hx=>exact .eaddr ((E.eval_upto he (by simpa[SV.upto] using hb)) ▸ hx)
 | iptr hx h=>exact .iptr ((E.eval_upto he (by simpa[SV.upto] using hb)) ▸ hx) h
 | own hx h hv=>exact .own ((E.eval_upto he (by simpa[SV.upto] using hb)) ▸ hx) h hv
 | slc=>exact .slc
 | func hl _ ih=>exact .func hl fun i v c hv hc=>ih i v c hv hc (SV.uptoAll_get (by simpa[SV.upto] using hb) hc)
 | @cond v act sv hd _ hn ih=>
  simp only[SV.upto,Bool.and_eq_true,List.all_eq_true] at hb
  have hev:∀p,p∈act→p.1.eval env=p.1.eval env':=fun p hp=>E.eval_upto he (hb.1 p hp)
  have hact:actHolds env act↔actHolds env' act:=⟨fun h p hp=>(hev p hp) ▸ h p hp,fun h p hp=>(hev p hp).symm ▸ h p hp⟩
  exact .cond (fun p hp=>let ⟨d,h⟩:=hd p hp;⟨d,(hev p hp) ▸ h⟩) (fun ha=>ih (hact.2 ha) hb.2) fun ha=>hn fun h=>ha (hact.1 h)

def isPhi (base n:Nat):E→Bool
 | .sym k=>decide (k=base+n)
 | _=>false

mutual
def matchSV (base:Nat):SV→SV→List E→Option (List E)
 | .junk,_,acc=>some acc
 | .e x s,sv,acc=>
  if isPhi base acc.length x then(match s,sv with
   | true,.e y true=>some (acc++[y])
   | true,.own y _=>some (acc++[y])
   | false,sv=>sv.toE.map fun y=>acc++[y]
   | _,_=>none)
  else if(SV.e x s).same sv&&x.upto base then some acc else none
 | .own x k,sv,acc=>
  if isPhi base acc.length x then(match sv with
   | .own y k'=>if k=k' then some (acc++[y]) else none
   | _=>none)
  else if(SV.own x k).same sv&&x.upto base then some acc else none
 | .agg ts,sv,acc=>match sv with
  | .agg cs=>matchSVs base ts cs acc
  | _=>none
 | .tup ts,sv,acc=>if(SV.tup ts).same sv&&SV.uptoAll base ts then some acc else none
 | .addr o f,sv,acc=>if(SV.addr o f).same sv then some acc else none
 | .eaddr o x s f,sv,acc=>if(SV.eaddr o x s f).same sv&&x.upto base then some acc else none
 | .iptr x f,sv,acc=>if(SV.iptr x f).same sv&&x.upto base then some acc else none
 | .slc o,sv,acc=>if(SV.slc o).same sv then some acc else none
 | .func fn ts,sv,acc=>if(SV.func fn ts).same sv&&SV.uptoAll base ts then some acc else none
 | .cond _ _,_,_=>none
def matchSVs (base:Nat):List SV→List SV→List E→Option (List E)
 | [],[],acc=>some acc
 | t :: ts,s :: ss,acc=>(matchSV base t s acc).bind fun acc=>matchSVs base ts ss acc
 | _,_,_=>none
end

def matchObj (base:Nat):SObj→SObj→List E→Option (List E)
 | .box ts,.box cs,acc=>matchSVs base ts cs acc
 | .row x sz,.row y sz',acc=>if sz=sz' then(if isPhi base acc.length x then some (acc++[y]) else if x.same y&&x.upto base then some acc else none) else none
 | .tok e sz,.tok e' sz',acc=>if e=e'∧sz=sz' then some acc else none
 | .store cf x,.store cf' y,acc=>if cf=cf' then(if isPhi base acc.length x then some (acc++[y]) else if x.same y&&x.upto base then some acc else none) else none
 | _,_,_=>none

def matchMem (base:Nat):List (Option SObj)→List (Option SObj)→List E→Option (List E)
 | [],[],acc=>some acc
 | none :: ts,_ :: ss,acc=>matchMem base ts ss acc
 | some t :: ts,some s :: ss,acc=>(matchObj base t s acc).bind fun acc=>matchMem base ts ss acc
 | _,_,_=>none

def matchH (base:Nat):Option SObj→Option SObj→List E→Option (List E)
 | none,_,acc=>some acc
 | some t,some s,acc=>matchObj base t s acc
 | _,_,_=>none

def matchS (base:Nat)(tm σ:SState):Option (List E):=if HID<tm.mem.length then none else
 (matchSVs base tm.tmps σ.tmps []).bind fun acc=>(matchMem base tm.mem σ.mem acc).bind fun acc=>matchH base tm.hs σ.hs acc

section
variable {w w0:World} {X:Ent} {a:Act} {env:List D} {ρ:Rho}

theorem evalAll_append:∀{l m:List E} {ds:List D},evalAll env (l++m)=some ds→∃d1 d2,evalAll env l=some d1∧evalAll env m=some d2∧ds=d1++d2
 | [],m,ds,h=>⟨[],ds,rfl,h,rfl⟩
 | x :: r,m,ds,h=>by
  simp only[List.cons_append,evalAll,Option.bind_eq_some_iff,Option.map_eq_some_iff] at h
  obtain⟨d,h1,ds',h2,rfl⟩:=h
  obtain⟨d1,d2,h3,h4,rfl⟩:=evalAll_append h2
  exact⟨d :: d1,d2,by simp[evalAll,h1,h3],h4,rfl⟩

theorem evalAll_length:∀{l:List E} {ds:List D},evalAll env l=some ds→ds.length=l.length
 | [],ds,h=>by simp[evalAll] at h;simp[←h]
 | x :: r,ds,h=>by
  simp only[evalAll,Option.bind_eq_some_iff,Option.map_eq_some_iff] at h
  obtain⟨d,_,ds',h2,rfl⟩:=h
  simp[evalAll_length h2]

abbrev cutEnv (env:List D)(base:Nat)(ds:List D):List D:=env.take base++ds

theorem cutEnv_old {base:Nat}{ds:List D}(hb:base≤env.length):∀k,k<base→env[k]? = (cutEnv env base ds)[k]?:=by
 intro k hk
 rw[List.getElem?_append_left (by simp;omega),List.getElem?_take,if_pos hk]

theorem phi_eval {base:Nat}{acc accF:List E}{y x:E}{ds:List D}(hb:base≤env.length)(hx:isPhi base acc.length x=true)(hp:acc++[y] <+: accF)(hd:evalAll env accF=some ds):x.eval (cutEnv env base ds)=y.eval env:=by
 obtain⟨r,rfl⟩:=hp
 obtain⟨d1,d2,h1,_,rfl⟩:=evalAll_append hd
 obtain⟨d3,d4,h3,h4,rfl⟩:=evalAll_append h1
 simp only[evalAll,Option.bind_eq_some_iff,Option.map_some,Option.some.injEq] at h4
 obtain⟨d,hy,rfl⟩:=h4
 unfold isPhi at hx
 split at hx
 ·simp only[decide_eq_true_eq] at hx
  subst hx
  have hl:=evalAll_length h3
  simp only[E.eval,cutEnv,hy]
  rw[List.getElem?_append_right (by simp;omega)]
  simp only[List.length_take,Nat.min_eq_left hb,Nat.add_sub_cancel_left,List.append_assoc]
  rw[←hl]
  simp
 ·cases hx

theorem prefix_append' {α:Type}(a b:List α):a <+: a++b:=⟨b,rfl⟩

mutual
theorem matchSV_pre {base:Nat}:∀{t sv:SV} {acc acc':List E},matchSV base t sv acc=some acc'→acc <+: acc'
 | .junk,sv,acc,acc',h=>by simp[matchSV] at h;subst h;exact⟨[],by simp⟩
 | .e x s,sv,acc,acc',h=>by
  simp only[matchSV] at h
  split at h
  ·split at h
   ·cases h;exact prefix_append' _ _
   ·cases h;exact prefix_append' _ _
   ·obtain⟨y,_,rfl⟩:=Option.map_eq_some_iff.1 h;exact prefix_append' _ _
   ·cases h
  ·split at h
   ·cases h;exact⟨[],by simp⟩
   ·cases h
 | .own x k,sv,acc,acc',h=>by
  simp only[matchSV] at h
  split at h
  ·split at h
   ·split at h
    ·cases h;exact prefix_append' _ _
    ·cases h
   ·cases h
  ·split at h
   ·cases h;exact⟨[],by simp⟩
   ·cases h
 | .agg ts,sv,acc,acc',h=>by
  simp only[matchSV] at h
  split at h
  ·exact matchSVs_pre h
  ·cases h
 | .tup ts,sv,acc,acc',h | .addr _ _,sv,acc,acc',h | .eaddr _ _ _ _,sv,acc,acc',h | .iptr _ _,sv,acc,acc',h | .slc _,sv,acc,acc',h | .func _ _,sv,acc,acc',h=>by
  simp only[matchSV] at h
  split at h
  ·cases h;exact⟨[],by simp⟩
  ·cases h
 | .cond _ _,sv,acc,acc',h=>by simp[matchSV] at h
theorem matchSVs_pre {base:Nat}:∀{ts ss:List SV} {acc acc':List E},matchSVs base ts ss acc=some acc'→acc <+: acc'
 | [],[],acc,acc',h=>by simp[matchSVs] at h;subst h;exact⟨[],by simp⟩
 | t :: ts,s :: ss,acc,acc',h=>by
  simp only[matchSVs,Option.bind_eq_some_iff] at h
  obtain⟨acc1,h1,h2⟩:=h
  exact(matchSV_pre h1).trans (matchSVs_pre h2)
 | [],_ :: _,_,_,h | _ :: _,[],_,_,h=>by simp[matchSVs] at h
end


theorem SRd.same_rd {base:Nat}{ds:List D}{t sv:SV}{v:Value}(hb:base≤env.length)(h:t.same sv=true)(hu:t.upto base=true)(hr:SRd w ρ env v sv):SRd w ρ (cutEnv env base ds) v t:=by
 have e:=SV.same_eq h
 subst e
 exact hr.cut (cutEnv_old hb) hu

mutual
theorem matchSV_rd {base:Nat}{accF:List E}{ds:List D}(hb:base≤env.length)(hd:evalAll env accF=some ds):∀{t sv:SV} {acc acc':List E} {v:Value},matchSV base t sv acc=some acc'→acc' <+: accF→SRd w ρ env v sv→SRd w ρ (cutEnv env base ds) v t
 | .junk,sv,acc,acc',v,h,hp,hr=>.junk
 | .e x s,sv,acc,acc',v,h,hp,hr=>by
  simp only[matchSV] at h
  split at h
  ·rename_i hx
   split at h
   ·cases h
    obtain⟨d,hd',hrd,h1⟩:=hr.e_inv
    exact .e ((phi_eval hb hx hp hd).trans hd') hrd h1
   ·cases h
    obtain⟨es,hd',hrd,_⟩:=hr.own_inv
    exact .e ((phi_eval hb hx hp hd).trans hd') hrd fun _=>rfl
   ·obtain⟨y,hy,rfl⟩:=Option.map_eq_some_iff.1 h
    obtain⟨d,hd',hrd⟩:=SV.toE_rd hy hr
    exact .e ((phi_eval hb hx hp hd).trans hd') hrd (by simp)
   ·cases h
  ·split at h
   ·rename_i hc
    simp only[Bool.and_eq_true] at hc
    exact hr.same_rd hb hc.1 (by simpa[SV.upto] using hc.2)
   ·cases h
 | .own x k,sv,acc,acc',v,h,hp,hr=>by
  simp only[matchSV] at h
  split at h
  ·rename_i hx
   split at h
   ·split at h
    ·rename_i hk
     cases h
     subst hk
     obtain⟨es,hd',hrd,h1⟩:=hr.own_inv
     exact .own ((phi_eval hb hx hp hd).trans hd') hrd h1
    ·cases h
   ·cases h
  ·split at h
   ·rename_i hc
    simp only[Bool.and_eq_true] at hc
    exact hr.same_rd hb hc.1 (by simpa[SV.upto] using hc.2)
   ·cases h
 | .agg ts,sv,acc,acc',v,h,hp,hr=>by
  simp only[matchSV] at h
  split at h
  ·obtain⟨vs,rfl,hl,ho,hh⟩:=hr.agg_inv
   obtain⟨hlen,hall⟩:=matchSVs_rd (vs:=vs.toList) hb hd h hp (by simpa using hl) (fun i v c hv hc=>hh i v c (by simpa using hv) hc)
   exact .agg (by rw[hl,hlen]) ho fun i v c hv hc=>hall i v c (by simpa using hv) hc
  ·cases h
 | .tup ts,sv,acc,acc',v,h,hp,hr=>by
  simp only[matchSV] at h
  split at h
  ·rename_i hc
   simp only[Bool.and_eq_true] at hc
   exact hr.same_rd hb hc.1 (by simpa[SV.upto] using hc.2)
  ·cases h
 | .addr o f,sv,acc,acc',v,h,hp,hr=>by
  simp only[matchSV] at h
  split at h
  ·rename_i hc
   exact hr.same_rd hb hc (by simp[SV.upto])
  ·cases h
 | .eaddr o x s f,sv,acc,acc',v,h,hp,hr=>by
  simp only[matchSV] at h
  split at h
  ·rename_i hc
   simp only[Bool.and_eq_true] at hc
   exact hr.same_rd hb hc.1 (by simpa[SV.upto] using hc.2)
  ·cases h
 | .iptr x f,sv,acc,acc',v,h,hp,hr=>by
  simp only[matchSV] at h
  split at h
  ·rename_i hc
   simp only[Bool.and_eq_true] at hc
   exact hr.same_rd hb hc.1 (by simpa[SV.upto] using hc.2)
  ·cases h
 | .slc o,sv,acc,acc',v,h,hp,hr=>by
  simp only[matchSV] at h
  split at h
  ·rename_i hc
   exact hr.same_rd hb hc (by simp[SV.upto])
  ·cases h
 | .func fn ts,sv,acc,acc',v,h,hp,hr=>by
  simp only[matchSV] at h
  split at h
  ·rename_i hc
   simp only[Bool.and_eq_true] at hc
   exact hr.same_rd hb hc.1 (by simpa[SV.upto] using hc.2)
  ·cases h
 | .cond _ _,sv,acc,acc',v,h,hp,hr=>by simp[matchSV] at h
theorem matchSVs_rd {base:Nat}{accF:List E}{ds:List D}(hb:base≤env.length)(hd:evalAll env accF=some ds):∀{ts ss:List SV} {acc acc':List E} {vs:List Value},matchSVs base ts ss acc=some acc'→acc' <+: accF→vs.length=ss.length →
  (∀(i:Nat) (v:Value) (c:SV),vs[i]? = some v→ss[i]? = some c→SRd w ρ env v c)→ss.length=ts.length∧∀(i:Nat) (v:Value) (c:SV),vs[i]? = some v→ts[i]? = some c→SRd w ρ (cutEnv env base ds) v c
 | [],[],acc,acc',vs,h,hp,hl,hh=>⟨rfl,by simp⟩
 | t :: ts,s :: ss,acc,acc',vs,h,hp,hl,hh=>by
  match vs,hl with
  | v :: vs,hl=>
   simp only[matchSVs,Option.bind_eq_some_iff] at h
   obtain⟨acc1,h1,h2⟩:=h
   have hr:=matchSV_rd hb hd h1 ((matchSVs_pre h2).trans hp) (hh 0 v s rfl rfl)
   obtain⟨hlen,hall⟩:=matchSVs_rd (vs:=vs) hb hd h2 hp (by simpa using hl) (fun i v c hv hc=>hh (i+1) v c (by simpa using hv) (by simpa using hc))
   refine⟨by simp[hlen],fun i v' c hv hc=>?_⟩
   cases i with
   | zero=>simp at hv hc;subst hv hc;exact hr
   | succ i=>exact hall i v' c (by simpa using hv) (by simpa using hc)
 | [],_ :: _,_,_,_,h,_,_,_ | _ :: _,[],_,_,_,h,_,_,_=>by simp[matchSVs] at h
end

theorem matchObj_pre {base:Nat}{t s:SObj}{acc acc1:List E}(h1:matchObj base t s acc=some acc1):acc <+: acc1:=by
 unfold matchObj at h1
 split at h1
 ·exact matchSVs_pre h1
 ·split at h1
  ·split at h1
   ·cases h1;exact prefix_append' _ _
   ·split at h1
    ·cases h1;exact⟨[],by simp⟩
    ·cases h1
  ·cases h1
 ·split at h1
  ·cases h1;exact⟨[],by simp⟩
  ·cases h1
 ·split at h1
  ·split at h1
   ·cases h1;exact prefix_append' _ _
   ·split at h1
    ·cases h1;exact⟨[],by simp⟩
    ·cases h1
  ·cases h1
 ·cases h1

theorem matchH_pre {base:Nat}{t s:Option SObj}{acc acc1:List E}(h1:matchH base t s acc=some acc1):acc <+: acc1:=by
 unfold matchH at h1
 split at h1
 ·cases h1;exact⟨[],by simp⟩
 ·exact matchObj_pre h1
 ·cases h1

theorem matchMem_pre {base:Nat}:∀{ts ss:List (Option SObj)} {acc acc':List E},matchMem base ts ss acc=some acc'→acc <+: acc'
 | [],[],acc,acc',h=>by simp[matchMem] at h;subst h;exact⟨[],by simp⟩
 | none :: ts,_ :: ss,acc,acc',h=>by simp only[matchMem] at h;exact matchMem_pre h
 | some t :: ts,some s :: ss,acc,acc',h=>by
  simp only[matchMem,Option.bind_eq_some_iff] at h
  obtain⟨acc1,h1,h2⟩:=h
  exact List.IsPrefix.trans (matchObj_pre h1) (matchMem_pre h2)
 | some _ :: _,none :: _,_,_,h | [],_ :: _,_,_,h | some _ :: _,[],_,_,h | none :: _,[],_,_,h=>by simp[matchMem] at h

theorem matchObj_ok {base o:Nat}{accF:List E}{ds:List D}(hb:base≤env.length)(hd:evalAll env accF=some ds){t s:SObj}{acc acc':List E}(h:matchObj base t s acc=some acc')(hp:acc' <+: accF)(hok:ObjOk w ρ env o s) :
  ObjOk w ρ (cutEnv env base ds) o t∧objBlk ρ o t=objBlk ρ o s∧t.ro=s.ro:=by
 unfold matchObj at h
 split at h
 ·obtain⟨vs,ty,h1,h2,h3,h4,h5⟩:=hok
  obtain⟨hlen,hall⟩:=matchSVs_rd (w:=w) (ρ:=ρ) (vs:=vs.toList) hb hd h hp (by simpa using h2) (fun i v c hv hc=>h4 i v c (by simpa using hv) hc)
  exact⟨⟨vs,ty,h1,by omega,h3,fun i v c hv hc=>hall i v c (by simpa using hv) hc,h5⟩,rfl,rfl⟩
 ·obtain⟨vs,ty,es,h1,h2,h3⟩:=hok
  split at h
  ·rename_i hsz
   subst hsz
   split at h
   ·rename_i hx
    cases h
    exact⟨⟨vs,ty,es,h1,(phi_eval hb hx hp hd).trans h2,h3⟩,rfl,rfl⟩
   ·split at h
    ·rename_i hc
     simp only[Bool.and_eq_true] at hc
     cases h
     have e:=E.same_eq hc.1
     subst e
     exact⟨⟨vs,ty,es,h1,(E.eval_upto (cutEnv_old hb) hc.2) ▸ h2,h3⟩,rfl,rfl⟩
    ·cases h
  ·cases h
 ·split at h
  ·rename_i hc
   obtain⟨rfl,rfl⟩:=hc
   exact⟨hok,rfl,rfl⟩
  ·cases h
 ·obtain⟨bs,h2,h3⟩:=hok
  split at h
  ·rename_i hsz
   subst hsz
   split at h
   ·rename_i hx
    cases h
    exact⟨⟨bs,(phi_eval hb hx hp hd).trans h2,h3⟩,rfl,rfl⟩
   ·split at h
    ·rename_i hc
     simp only[Bool.and_eq_true] at hc
     cases h
     have e:=E.same_eq hc.1
     subst e
     exact⟨⟨bs,(E.eval_upto (cutEnv_old hb) hc.2) ▸ h2,h3⟩,rfl,rfl⟩
    ·cases h
  ·cases h
 ·cases h

theorem matchMem_rd {base:Nat}{accF:List E}{ds:List D}(hb:base≤env.length)(hd:evalAll env accF=some ds):∀{ts ss:List (Option SObj)} {acc acc':List E} {k:Nat},matchMem base ts ss acc=some acc'→acc' <+: accF →
  (∀i s,ss[i]? = some (some s)→ObjOk w ρ env (k+i) s)→ss.length=ts.length∧∀i t,ts[i]? = some (some t)→∃s,ss[i]? = some (some s)∧ObjOk w ρ (cutEnv env base ds) (k+i) t∧objBlk ρ (k+i) t=objBlk ρ (k+i) s∧t.ro=s.ro
 | [],[],acc,acc',k,h,hp,hok=>⟨rfl,by simp⟩
 | none :: ts,s :: ss,acc,acc',k,h,hp,hok=>by
  simp only[matchMem] at h
  obtain⟨hl,hall⟩:=matchMem_rd (k:=k+1) hb hd h hp fun i s' hs=>by
   have:=hok (i+1) s' (by simpa using hs)
   rwa [show k+(i+1)=k+1+i from by omega] at this
  refine⟨by simp[hl],fun i t ht=>?_⟩
  cases i with
  | zero=>simp at ht
  | succ i=>
   obtain⟨s',h1,h2⟩:=hall i t (by simpa using ht)
   rw[show k+(i+1)=k+1+i from by omega]
   exact⟨s',by simpa using h1,h2⟩
 | some t :: ts,some s :: ss,acc,acc',k,h,hp,hok=>by
  simp only[matchMem,Option.bind_eq_some_iff] at h
  obtain⟨acc1,h1,h2⟩:=h
  have h0:=matchObj_ok (w:=w) (ρ:=ρ) (o:=k) hb hd h1 ((matchMem_pre h2).trans hp) (by simpa using hok 0 s rfl)
  obtain⟨hl,hall⟩:=matchMem_rd (k:=k+1) hb hd h2 hp fun i s' hs=>by
   have:=hok (i+1) s' (by simpa using hs)
   rwa [show k+(i+1)=k+1+i from by omega] at this
  refine⟨by simp[hl],fun i t' ht=>?_⟩
  cases i with
  | zero=>simp at ht;subst ht;exact⟨s,rfl,h0⟩
  | succ i=>
   obtain⟨s',h3,h4⟩:=hall i t' (by simpa using ht)
   rw[show k+(i+1)=k+1+i from by omega]
   exact⟨s',by simpa using h3,h4⟩
 | some _ :: _,none :: _,_,_,_,h,_,_ | [],_ :: _,_,_,_,h,_,_ | some _ :: _,[],_,_,_,h,_,_ | none :: _,[],_,_,_,h,_,_=>by simp[matchMem] at h

theorem matchS_rep {base:Nat}{tm σ:SState}{args:List E}{ds:List D}(h:Rep w0 X w a σ env ρ)(hb:base≤env.length)(hm:matchS base tm σ=some args)(hd:evalAll env args=some ds):Rep w0 X w a tm (cutEnv env base ds) ρ∧σ.tmps.length=tm.tmps.length∧σ.mem.length=tm.mem.length:=by
 unfold matchS at hm
 split at hm
 ·cases hm
 rename_i hlen
 simp only[Option.bind_eq_some_iff] at hm
 obtain⟨acc,h1,acc2,h2,h2'⟩:=hm
 have hsz:=h.size
 obtain⟨hl1,hall1⟩:=matchSVs_rd (w:=w) (ρ:=ρ) (vs:=a.tmps.toList) hb hd h1 ((matchMem_pre h2).trans (matchH_pre h2')) (by simpa using hsz) (fun i v c hv hc=>by
  have:=h.tmps i
  rw[show σ.tmp i=c by simp[SState.tmp_def,hc]] at this
  rwa [show a.tmps.getD i undef=v by simpa using congrArg (·.getD undef) hv] at this)
 have hmlen:σ.mem.length=tm.mem.length:=by
  have go:∀{ts ss:List (Option SObj)} {acc acc':List E},matchMem base ts ss acc=some acc'→ss.length=ts.length:=by
   intro ts
   induction ts with
   | nil=>intro ss acc acc' h;cases ss with | nil=>rfl | cons _ _=>simp[matchMem] at h
   | cons t ts ih=>
    intro ss acc acc' h
    cases ss with
    | nil=>cases t <;> simp[matchMem] at h
    | cons s ss=>
     cases t with
     | none=>simp only[matchMem] at h;simp[ih h]
     | some t=>
      cases s with
      | none=>simp[matchMem] at h
      | some s=>
       simp only[matchMem,Option.bind_eq_some_iff] at h
       obtain⟨_,_,h⟩:=h
       simp[ih h]
  exact go h2
 obtain⟨hl2,hall2⟩:=matchMem_rd (w:=w) (ρ:=ρ) (k:=0) hb hd h2 (matchH_pre h2') (fun i s hs=>by
  rw[Nat.zero_add]
  have hi:=(List.getElem?_eq_some_iff.1 hs).1
  refine h.objs i s ?_
  simp only[SState.obj_def]
  rw[if_neg (by omega)]
  simp[hs])
 have hobj:∀o x,tm.obj o=some x→∃s,σ.obj o=some s∧ObjOk w ρ (cutEnv env base ds) o x∧objBlk ρ o x=objBlk ρ o s∧x.ro=s.ro:=by
  intro o x hx
  simp only[SState.obj_def] at hx
  split at hx
  ·rename_i ho
   subst ho
   rw[hx] at h2'
   unfold matchH at h2'
   split at h2'
   ·rename_i e;cases e
   ·rename_i t s e hs
    cases e
    have hso:σ.obj HID=some s:=by rw[SState.obj_def,if_pos rfl];exact hs
    exact⟨s,hso,matchObj_ok hb hd h2' ⟨[],by simp⟩ (h.objs HID s hso)⟩
   ·cases h2'
  ·rename_i ho
   have hx':tm.mem[o]? = some (some x):=by
    simp only[List.getD_eq_getElem?_getD] at hx
    cases hto:tm.mem[o]? with
    | none=>rw[hto] at hx;cases hx
    | some y=>rw[hto] at hx;simp at hx;rw[hx]
   obtain⟨s,h3,h4,h5⟩:=hall2 o x hx'
   rw[Nat.zero_add] at h4 h5
   refine⟨s,?_,h4,h5⟩
   simp only[SState.obj_def]
   rw[if_neg ho]
   simp[h3]
 refine⟨⟨by omega,fun t=>?_,fun o x hx=>(hobj o x hx).choose_spec.2.1,?_,?_,h.cells,h.os,h.tape,h.output,h.grown,h.old,h.sub,h.new,h.nod,h.hold⟩,hl1,hl2⟩
 ·simp only[SState.tmp_def]
  rw[List.getD_eq_getElem?_getD]
  cases ht:tm.tmps[t]? with
  | none=>exact .junk
  | some c=>
   have htl:t<a.tmps.size:=by have:=(List.getElem?_eq_some_iff.1 ht).1;omega
   refine hall1 t _ c ?_ ht
   simp only[Array.getElem?_toList]
   exact getD_of_lt htl
 ·intro o o' x x' b h3 h4 h5 h6
  obtain⟨s,hs,_,e,_⟩:=hobj o x h3
  obtain⟨s',hs',_,e',_⟩:=hobj o' x' h4
  exact h.inj o o' s s' b hs hs' (e ▸ h5) (e' ▸ h6)
 ·intro o x b h3 h4
  obtain⟨s,hs,_,e,er⟩:=hobj o x h3
  rw[er]
  exact h.own o s b hs (e ▸ h4)

end
end
end Go.Am

/-
 The right to append gets another name: the one that the pattern of a meeting place has.
-/
namespace Go.Am
noncomputable section

mutual
def SV.ren (k' k:Nat):SV→SV
 | .own x o=>if o=k' then .own x k else .own x o
 | .agg cs=>.agg (SV.rens k' k cs)
 | .tup cs=>.tup (SV.rens k' k cs)
 | .func fn cs=>.func fn (SV.rens k' k cs)
 | .cond act sv=>.cond act (sv.ren k' k)
 | .junk=>.junk
 | .e x s=>.e x s
 | .iptr x f=>.iptr x f
 | .addr o f=>.addr o f
 | .eaddr o x s f=>.eaddr o x s f
 | .slc o=>.slc o
def SV.rens (k' k:Nat):List SV→List SV
 | []=>[]
 | s :: r=>s.ren k' k :: SV.rens k' k r
end

theorem SV.rens_get {k' k:Nat}:∀{cs:List SV} {i:Nat} {c:SV},(SV.rens k' k cs)[i]? = some c→∃c',cs[i]? = some c'∧c=c'.ren k' k
 | [],i,c,h=>by simp[SV.rens] at h
 | s :: r,0,c,h=>by simp[SV.rens] at h;exact⟨s,rfl,h.symm⟩
 | s :: r,i+1,c,h=>by
  simp[SV.rens] at h
  obtain⟨c',h1,h2⟩:=SV.rens_get h
  exact⟨c',by simpa using h1,h2⟩

theorem SV.rens_length {k' k:Nat}:∀(cs:List SV),(SV.rens k' k cs).length=cs.length
 | []=>rfl
 | _ :: r=>by simp[SV.rens,SV.rens_length r]

def Rho.retok (ρ:Rho)(k' k:Nat):Rho:={ ρ with val:=fun x=>if x=k then ρ.val k' else ρ.val x }

theorem SRd.ren {w:World}{ρ:Rho}{env:List D}{v:Value}{sv:SV}{k' k:Nat}(h:SRd w ρ env v sv)(ha:sv.avoids k=true):SRd w (ρ.retok k' k) env v (sv.ren k' k):=by
 induction h with
 | junk=>exact .junk
 | e hx h h1=>exact .e hx h h1
 | agg hl ho _ ih=>exact .agg (by rw[SV.rens_length];exact hl) ho fun i v c hv hc=>by obtain⟨c',h1,rfl⟩:=SV.rens_get hc;exact ih i v c' hv h1 (SV.avoidsAll_get (by simpa[SV.avoids] using ha) h1)
 | tup hl _ ih=>exact .tup (by rw[SV.rens_length];exact hl) fun i v c hv hc=>by obtain⟨c',h1,rfl⟩:=SV.rens_get hc;exact ih i v c' hv h1 (SV.avoidsAll_get (by simpa[SV.avoids] using ha) h1)
 | @addr o off=>
  have:(.pointer (some ⟨ρ.blk o,off,none⟩):Value)=.pointer (some ⟨(ρ.retok k' k).blk o,off,none⟩):=rfl
  rw[this];exact .addr
 | @eaddr o size off n x kd hx=>
  have:(.pointer (some ⟨ρ.blk o,n*size+off,none⟩):Value)=.pointer (some ⟨(ρ.retok k' k).blk o,n*size+off,none⟩):=rfl
  rw[this];exact .eaddr hx
 | iptr hx h=>exact .iptr hx h
 | @own v x o es hx h hv=>
  have hne:o≠k:=by simpa[SV.avoids] using ha
  simp only[SV.ren]
  split
  ·rename_i e;subst e
   exact .own hx h (by simp[Rho.retok,hv])
  ·exact .own hx h (by simp[Rho.retok,hne,hv])
 | @slc o=>
  have hne:o≠k:=by simpa[SV.avoids] using ha
  have:ρ.val o=(ρ.retok k' k).val o:=by simp[Rho.retok,hne]
  rw[this];exact .slc
 | func hl _ ih=>exact .func (by rw[SV.rens_length];exact hl) fun i v c hv hc=>by obtain⟨c',h1,rfl⟩:=SV.rens_get hc;exact ih i v c' hv h1 (SV.avoidsAll_get (by simpa[SV.avoids] using ha) h1)
 | cond hd _ hn ih=>exact .cond hd (fun hh=>ih hh (by simpa[SV.avoids] using ha)) hn

def SObj.ren (k' k:Nat):SObj→SObj
 | .box cs=>.box (SV.rens k' k cs)
 | x=>x

def SState.ren (k' k:Nat)(σ:SState)(x:SObj):SState:={ tmps:=SV.rens k' k σ.tmps,mem:=((σ.mem.map fun x=>x.map (SObj.ren k' k)).set k' none).set k (some x),hs:=σ.hs.map (SObj.ren k' k) }

def SState.retok (σ:SState)(k' k:Nat):SState:=
 if k'=k∨¬k<σ.mem.length∨k=HID∨k'=HID then σ else match(σ.down k).obj k' with
  | some (.tok e s)=>(σ.down k).ren k' k (.tok e s)
  | _=>σ

section
variable {w w0:World} {X:Ent} {a:Act} {σ:SState} {env:List D} {ρ:Rho}

theorem SState.ren_obj {k' k o:Nat}{x y:SObj}(hk:k<σ.mem.length)(hkH:k≠HID)(hkH':k'≠HID)(h:(σ.ren k' k x).obj o=some y):(o=k∧y=x)∨(o≠k∧o≠k'∧∃z,σ.obj o=some z∧y=z.ren k' k):=by
 simp only[SState.obj_def,SState.ren] at h ⊢
 by_cases hH:o=HID
 ·subst hH
  simp only[if_true] at h
  obtain⟨z,hz,rfl⟩:=Option.map_eq_some_iff.1 h
  exact .inr ⟨Ne.symm hkH,Ne.symm hkH',z,by simpa using hz,rfl⟩
 rw[if_neg hH] at h
 rw[if_neg hH]
 simp only[List.getD_eq_getElem?_getD,List.getElem?_set,List.length_set,List.getElem?_map,List.length_map] at h ⊢
 by_cases h1:k=o
 ·subst h1
  simp[hk] at h
  exact .inl ⟨rfl,h.symm⟩
 ·rw[if_neg h1] at h
  by_cases h2:k'=o
  ·rw[if_pos h2] at h
   split at h <;> simp at h
  ·rw[if_neg h2] at h
   refine .inr ⟨fun e=>h1 e.symm,fun e=>h2 e.symm,?_⟩
   cases ho:σ.mem[o]? with
   | none=>rw[ho] at h;simp at h
   | some z=>
    rw[ho] at h
    cases z with
    | none=>simp at h
    | some z=>simp at h;exact⟨z,rfl,h.symm⟩

theorem SState.ren_tmp {k' k:Nat}{x:SObj}(t:Nat):(σ.ren k' k x).tmp t=(σ.tmp t).ren k' k:=by
 have go:∀(l:List SV) (t:Nat),(SV.rens k' k l).getD t .junk=(l.getD t .junk).ren k' k:=by
  intro l
  induction l with
  | nil=>intro t;simp[SV.rens,SV.ren]
  | cons s r ih=>
   intro t
   cases t with
   | zero=>simp[SV.rens]
   | succ t=>simpa[SV.rens] using ih t
 rw[SState.tmp_def,SState.tmp_def];exact go σ.tmps t

theorem Rep.ren (h:Rep w0 X w a σ env ρ){k' k:Nat}{e:TypeId}{s:Nat}(hne:k'≠k)(hk:k<σ.mem.length)(hkH:k≠HID)(hkH':k'≠HID)(hav:σ.avoids k)(ho:σ.obj k'=some (.tok e s)):Rep w0 X w a (σ.ren k' k (.tok e s)) env (ρ.retok k' k):=by
 have hblk:∀(o:Nat) (z:SObj),o≠k→objBlk (ρ.retok k' k) o (z.ren k' k)=objBlk ρ o z:=by
  intro o z hok
  funext b
  cases z <;> simp[objBlk,Rho.retok,SObj.ren,hok]
 have hblkk:objBlk (ρ.retok k' k) k (.tok e s)=objBlk ρ k' (.tok e s):=by funext b;simp[objBlk,Rho.retok]
 refine⟨by simpa[SState.ren,SV.rens_length] using h.size,fun t=>by rw[SState.ren_tmp];exact(h.tmps t).ren (hav.1 t),?_,?_,?_,h.cells,h.os,h.tape,h.output,h.grown,h.old,h.sub,h.new,h.nod,h.hold⟩
 ·intro o y hy
  rcases SState.ren_obj hk hkH hkH' hy with⟨rfl,rfl⟩ | ⟨h1,h2,z,hz,rfl⟩
  ·obtain⟨n,xs,h3,h4⟩:=h.objs k' _ ho
   exact⟨n,xs,by simpa[Rho.retok] using h3,by simpa[Rho.retok] using h4⟩
  ·have hok:=h.objs o z hz
   cases z with
   | box cs=>
    obtain⟨vs,ty,h3,h4,h5,h6,h7⟩:=hok
    exact⟨vs,ty,h3,by rw[SV.rens_length];exact h4,h5,fun i v c hv hc=>by obtain⟨c',h8,rfl⟩:=SV.rens_get hc;exact(h6 i v c' hv h8).ren (SV.avoidsAll_get (by simpa[SObj.avoids] using hav.2 o _ hz) h8),h7⟩
   | row y sz=>
    obtain⟨vs,ty,es,h3,h4,h5,h6,h7,h8,h9⟩:=hok
    exact⟨vs,ty,es,h3,h4,h5,h6,h7,by simpa[Rho.retok,h1] using h8,h9⟩
   | tok e' sz=>
    obtain⟨n,xs,h3,h4⟩:=hok
    exact⟨n,xs,by simpa[Rho.retok,h1] using h3,by simpa[Rho.retok,h1] using h4⟩
   | store cf x=>exact hok
 ·intro o o' y y' b h1 h2 h3 h4
  rcases SState.ren_obj hk hkH hkH' h1 with⟨rfl,rfl⟩ | ⟨e1,e2,z,hz,rfl⟩ <;> rcases SState.ren_obj hk hkH hkH' h2 with⟨rfl,rfl⟩ | ⟨e3,e4,z',hz',rfl⟩
  ·rfl
  ·rw[hblkk] at h3
   rw[hblk o' z' e3] at h4
   exact absurd (h.inj k' o' _ z' b ho hz' h3 h4).symm e4
  ·rw[hblkk] at h4
   rw[hblk o z e1] at h3
   exact absurd (h.inj o k' z _ b hz ho h3 h4) e2
  ·rw[hblk o z e1] at h3
   rw[hblk o' z' e3] at h4
   exact h.inj o o' z z' b hz hz' h3 h4
 ·intro o y b h1 h2
  rcases SState.ren_obj hk hkH hkH' h1 with⟨rfl,rfl⟩ | ⟨e1,e2,z,hz,rfl⟩
  ·rw[hblkk] at h2
   exact h.own k' _ b ho h2
  ·rw[hblk o z e1] at h2
   (have:=h.own o z b hz h2;cases z <;> simpa[SObj.ren,SObj.ro] using this)

theorem Rep.retok (h:Rep w0 X w a σ env ρ)(k' k:Nat):∃ρ',Rep w0 X w a (σ.retok k' k) env ρ':=by
 unfold SState.retok
 split
 ·exact⟨ρ,h⟩
 ·rename_i hc
  simp only[not_or,Decidable.not_not] at hc
  split
  ·rename_i e s ho
   exact⟨_,(h.down k).ren hc.1 (by rw[(σ.down_len k).2];exact hc.2.1) hc.2.2.1 hc.2.2.2 (σ.down_avoids k) ho⟩
  ·exact⟨ρ,h⟩

theorem SState.retok_len (σ:SState)(k' k:Nat):(σ.retok k' k).tmps.length=σ.tmps.length∧(σ.retok k' k).mem.length=σ.mem.length:=by
 unfold SState.retok
 split
 ·exact⟨rfl,rfl⟩
 ·split
  ·simp[SState.ren,SV.rens_length,(σ.down_len k).1,(σ.down_len k).2]
  ·exact⟨rfl,rfl⟩

end
end
end Go.Am
