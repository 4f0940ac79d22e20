/-
  Several texts, one behind the other.
-/
import Derived.Test.YtjnipnanfjglpaaGreatDoorAmPuretoAmClo
import Derived.Test.YtjnipnanfjglpaaGreatDoorAmBasetoAmTok
import Derived.Test.YtjnipnanfjglpaaGreatDoorAmMap
import Derived.Defers
import Derived.Lib.SliceRun
import Derived.WalkSpells
set_option linter.unusedSimpArgs false
set_option linter.unusedVariables false
namespace Go.Am
section
noncomputable section

abbrev BJ:=Nat×SV×Option SV

def AU (z:Value)(parts:List BJ)(i off size:Nat)(agg:Bool):Option E:=
 match parts.find? (fun p=>p.1==i) with
 | some p=>(match p.2.1.toE with
  | some x=>if agg=true∨size=1 then some (Dr agg size x) else none
  | none=>if size=1∧p.2.2.isSome=true then some (.const (.v (.bool false))) else none)
 | none=>(D.ic true ((z.cells.toList.drop off).take size)).bind fun ds=>if ds.length=size then some (.const (.agg ds)) else none

def zR (z:Value)(parts:List BJ):Nat→Nat→List ((Nat×Nat)×Bool)→Option E
 | _,off,[]=>if off=z.cells.size then some .nil else none
 | i,off,p :: r=>if p.1.1=off then(match AU z parts i off p.1.2 p.2,zR z parts (i+1) (off+p.1.2) r with
   | some x,some y=>some (.cons x y)
   | _,_=>none) else none

def BB (pl:List (Nat×Nat))(parts:List BJ)(ix k:Nat):SV:=
 match parts.find? (fun p=>p.2.1.toE.isNone&&decide (pl[p.1]? = some (k,1))) with
 | some p=>p.2.2.getD (.e (.const (.v (.bool false))) true)
 | none=>.e (.cell k (.sym ix)) true

def IN (P:Program)(t:TypeId)(parts:List BJ)(ix:Nat):Option bZ:=
 match P.info? t,P.underlying t with
 | some it,some (.struct fields)=>match it.zero,mu P fields with
  | some z,some pl=>match zR z parts 0 0 (pl.zip (fM P fields)) with
   | some y=>if NL P t z.cells.size=false∧(parts.map (·.1)).Nodup∧parts.all (fun p=>decide (p.1<pl.length))=true∧Af pl=true then some { val:=.agg ((List.range z.cells.size).map fun k=>BB pl parts ix k),bind:=some (.ev y) } else none
   | none=>none
  | _,_=>none
 | _,_=>none

def mG (obj:Nat→Option aE)(aH:Operand→SV)(parts:List (Nat×Operand)):List BJ:=parts.map fun p=>(p.1,aH p.2,oV obj (aH p.2))

def kA (P:Program)(o:Oper)(aH:Operand→SV)(obj:Nat→Option aE)(ix:Nat):Option bZ:=
 match o.op with
 | .build t parts=>IN P t (mG obj aH parts.toList) ix
 | _=>none

section
variable {P:Program} {w w0:World} {X:gB} {a:Act} {σ:af} {env:List D} {ρ:cr}

theorem vU {z:Value}{parts:List BJ}(hlen:∀i off size agg x u,AU z parts i off size agg=some x→x.eval env=some u→u.cells.length=size):∀{l:List ((Nat×Nat)×Bool)} {i off:Nat} {y:E} {d:D},zR z parts i off l=some y→y.eval env=some d →
  ∃cs,d=.agg cs∧off+cs.length=z.cells.size∧(∀(f:Nat) (q:(Nat×Nat)×Bool),l[f]? = some q→q.1.1+q.1.2≤z.cells.size∧∃x u,AU z parts (i+f) q.1.1 q.1.2 q.2=some x∧x.eval env=some u) ∧
  ∀k,off≤k→k<z.cells.size→∃f q x u,l[f]? = some q∧q.1.1≤k∧k<q.1.1+q.1.2∧AU z parts (i+f) q.1.1 q.1.2 q.2=some x∧x.eval env=some u∧cs[k-off]? = u.cells[k-q.1.1]?
 | [],i,off,y,d,h,hd=>by
  simp only[zR] at h
  split at h
  ·rename_i ho
   cases h
   simp only[E.eval,A0u] at hd
   subst hd
   exact⟨[],rfl,by simpa using ho,by simp,fun k h1 h2=>by omega⟩
  ·cases h
 | q :: r,i,off,y,d,h,hd=>by
  simp only[zR] at h
  split at h
  ·rename_i ho
   split at h
   ·rename_i x y' hx hy
    cases h
    simp only[E.eval,A0c] at hd
    obtain⟨u,hu,d',dY,hc⟩:=hd
    obtain⟨cs,rfl,hl,h1,h2⟩:=vU hlen hy dY
    have Bp:=hlen _ _ _ _ _ _ hx hu
    have hd2:d=.agg (u.cells++cs):=by
     unfold D.cons at hc
     split at hc <;> first | cases hc;done | (cases hc;rename_i e1 e2;cases e2;rfl) | skip
     all_goals first | (cases hc;rfl) | cases hc
    refine⟨u.cells++cs,hd2,by simp[Bp];omega,fun f q' hq=>?_,fun k hk1 hk2=>?_⟩
    ·cases f with
     | zero=>simp at hq;subst hq;rw[ho];exact⟨by omega,x,u,hx,hu⟩
     | succ f=>
      obtain⟨h5,x',u',h3,h4⟩:=h1 f q' (by simpa using hq)
      exact⟨h5,x',u',by rw[show i+(f+1)=i+1+f from by omega];exact h3,h4⟩
    ·by_cases hk:k<off+q.1.2
     ·refine⟨0,q,x,u,rfl,by omega,by omega,by rw[ho];exact hx,hu,?_⟩
      rw[A0j (by omega),ho]
     ·obtain⟨f,q',x',u',h3,h4,h5,h6,h7,h8⟩:=h2 k (by omega) hk2
      refine⟨f+1,q',x',u',by simpa using h3,h4,h5,by rw[show i+(f+1)=i+1+f from by omega];exact h6,h7,?_⟩
      rw[A0l (by omega),Bp,show k-off-q.1.2=k-(off+q.1.2) from by omega]
      exact h8
   ·cases h
  ·cases h

theorem AD {o:Oper} {aH:Operand→SV} {ix:Nat} {r:bZ} (hv:∀x,cu w ρ env (a.eval x) (aH x)) (hl:kA P o aH σ.obj ix=some r) (h:bE w0 X w a σ env ρ)
  (hd:∀d,o.dst=some d→d<σ.tmps.length) (hb:aY P env ix r.bind):r.cA=none∧cX P o a w w0 X (σ.put o.dst r.val) env:=by
 unfold kA at hl
 split at hl
 case h_2=>cases hl
 rename_i t parts ho
 unfold IN at hl
 split at hl
 ·rename_i it fields hit hu
  split at hl
  ·rename_i z pl hz qA
   split at hl
   ·rename_i y hy
    split at hl
    ·rename_i hc
     obtain⟨_,hnd,hin,hap⟩:=hc
     have hnd:(parts.toList.map (·.1)).Nodup:=by
      have:(mG σ.obj aH parts.toList).map (·.1)=parts.toList.map (·.1):=by simp[mG,Function.comp_def]
      rw[this] at hnd;exact hnd
     have hin:∀p,p∈parts.toList→p.1<pl.length:=fun p hp=>by
      have:=A0z.1 hin _ (B0r.2 ⟨p,hp,rfl⟩)
      simpa using this
     cases hl
     refine⟨rfl,?_⟩
     obtain⟨dz,bz,bQ⟩:=hb
     have adP:pl.length=fields.toList.length:=mapM_length qA
     have xo:∀i off size agg x u,AU z (mG σ.obj aH parts.toList) i off size agg=some x→x.eval env=some u→u.cells.length=size ∧
       ((∃p,p∈parts.toList∧p.1=i∧(aH p.2).toE.isNone=false∧aZ w ρ.S (a.eval p.2) u∧u.uI=true)∨(∃p s,p∈parts.toList∧p.1=i∧(aH p.2).toE.isNone=true∧size=1∧oV σ.obj (aH p.2)=some s) ∨
        ((∀p,p∈parts.toList→p.1≠i)∧∃ds,u=.agg ds∧D.ic true ((z.cells.toList.drop off).take size)=some ds)):=by
      intro i off size agg x u hx jf
      unfold AU at hx
      split at hx
      ·rename_i p hp
       have hmem:=List.mem_of_find?_eq_some hp
       have hpi:=List.find?_some hp
       simp only[beq_iff_eq] at hpi
       obtain⟨p0,M3,rfl⟩:=B0r.1 hmem
       split at hx
       ·rename_i x' hx'
        split at hx
        ·rename_i hag
         cases hx
         obtain⟨d,fW,fF⟩:=SV.toE_rd hx' (hv p0.2)
         obtain⟨h1,h2,h3⟩:=BM hag fW fF jf
         exact⟨h2,.inl ⟨p0,M3,hpi,by simp only at hx';rw[hx'];rfl,h1,h3⟩⟩
        ·cases hx
       ·rename_i hx'
        split at hx
        ·rename_i hag
         cases hx
         simp only[E.eval,A0u] at jf
         subst jf
         obtain⟨s,hs⟩:=Option.isSome_iff_exists.1 hag.2
         exact⟨by rw[hag.1];rfl,.inr (.inl ⟨p0,s,M3,hpi,by simp only at hx';rw[hx'];rfl,hag.1,hs⟩)⟩
        ·cases hx
      ·rename_i hnone
       obtain⟨ds,hds,hx⟩:=A0c.1 hx
       split at hx
       ·rename_i eM
        cases hx
        simp only[E.eval,A0u] at jf
        subst jf
        refine⟨eM,.inr (.inr ⟨fun p hp hpi=>?_,ds,rfl,hds⟩)⟩
        have:=List.find?_eq_none.1 hnone _ (B0r.2 ⟨p,hp,rfl⟩)
        simp[hpi] at this
       ·cases hx
     obtain⟨cs,rfl,dP,hf,Kk⟩:=vU (fun i off size agg x u h1 h2=>(xo i off size agg x u h1 h2).1) hy bz
     rw[B0k] at dP
     have SX:∀(i:Nat) (q:Nat×Nat),pl[i]? = some q→∃b,(pl.zip (fM P fields))[i]? = some (q,b):=by
      intro i q hq
      have hi:=(A0a.1 hq).1
      have hi2:i<(fM P fields).length:=by simp only[fM,List.length_map];omega
      exact⟨(fM P fields)[i],by rw[List.getElem?_zip_eq_some];exact⟨hq,A0f hi2⟩⟩
     have G2:∀(i:Nat) (q:(Nat×Nat)×Bool),(pl.zip (fM P fields))[i]? = some q→pl[i]? = some q.1:=by
      intro i q hq
      rw[List.getElem?_zip_eq_some] at hq
      exact hq.1
     have Br:∀{p:Nat×Operand} {s:SV},oV σ.obj (aH p.2)=some s→cu w ρ env (a.eval p.2) s∧(a.eval p.2).oneCell'=true:=fun hs=>DP hs (hv _) h.cn
     have j9:∀{v:Value},v.oneCell'=true→v.cells=#[v]:=fun {v} h1=>by cases v <;> first | rfl | simp[Value.oneCell'] at h1
     have hpart:∀p,p∈parts.toList→∃off,pl[p.1]? = some (off,(a.eval p.2).cells.size)∧off+(a.eval p.2).cells.size≤z.cells.size:=by
      intro p hp
      have hlt:p.1<pl.length:=hin p hp
      obtain⟨b,hb⟩:=SX p.1 pl[p.1] (A0f hlt)
      obtain⟨hle,x,u,h1,h2⟩:=hf p.1 _ hb
      rw[B0k] at h1
      obtain⟨h3,h4⟩:=xo _ _ _ _ _ _ h1 h2
      rcases h4 with⟨p',hp',hpi,_,hr,hnt⟩ | ⟨p',s,hp',hpi,_,hs1,hs⟩ | ⟨hno,_⟩
      ·have:=gb hnd hp' hp hpi
       subst this
       have hsz:=(hr.cellAt hnt).1
       rw[h3] at hsz
       exact⟨pl[p'.1].1,by rw[hsz];exact A0f hlt,by rw[hsz];exact hle⟩
      ·have:=gb hnd hp' hp hpi
       subst this
       have hsz:(a.eval p'.2).cells.size=pl[p'.1].2:=by rw[j9 (Br hs).2];exact hs1.symm
       exact⟨pl[p'.1].1,by rw[hsz];exact A0f hlt,by rw[hsz];exact hle⟩
      ·exact absurd rfl (hno p hp)
     obtain⟨r,hr,jE,ue⟩:=w4 (place:=fun i=>pl.toArray[i]?) (parts.toList.map fun p=>(p.1,a.eval p.2)) z.cells (fun p hp=>by
      obtain⟨q,hq,rfl⟩:=B0r.1 hp
      obtain⟨off,h1,h2⟩:=hpart q hq
      exact⟨off,by simpa using h1,h2⟩)
     have zc:P.built t (parts.map fun(x:Nat×Operand)=>(x.1,a.eval x.2)).toList=some r:=by
      unfold Program.built
      simp only[hit,hu,hz]
      unfold mu at qA
      simp only[qA,Array.toList_map]
      exact hr
     have hcell:∀(k:Nat),k<z.cells.size→∃v,r[k]? = some v∧v.oneCell'=true∧cu w ρ env v (BB pl (mG σ.obj aH parts.toList) ix k):=by
      intro k I4
      obtain⟨f,q,x,u,h1,h2,h3,h4,h5,h6⟩:=Kk k (Nat.zero_le _) I4
      rw[Nat.sub_zero] at h6
      rw[B0k] at h4
      have EC:=G2 f q h1
      obtain⟨h7,h8⟩:=xo _ _ _ _ _ _ h4 h5
      obtain⟨c,hk⟩:∃c,cs[k]? = some c:=⟨cs[k]'(by omega),A0f _⟩
      have XE:u.cells[k-q.1.1]? = some c:=h6 ▸ hk
      have hcE:(E.cell k (.sym ix)).eval env=some c:=by simp[E.eval,bQ,D.cell,D.cells,hk]
      have uW:∀p,p∈parts.toList→p.1≠f→¬Al (fun i=>pl.toArray[i]?) (p.1,a.eval p.2) k:=by
       rintro p hp hne ⟨off,size,h9,h10,h11⟩
       simp only[B0n] at h9
       have:=mN hap h9 EC hne
       simp only at this
       omega
      have hfind:∀p,p∈parts.toList→pl[p.1]? = some (k,1)→p.1=f:=by
       intro p hp h9
       by_cases hne:p.1=f
       ·exact hne
       ·have:=mN hap h9 EC hne
        simp only at this
        omega
      have hnone:(∀p,p∈parts.toList→p.1=f→(aH p.2).toE.isNone=false)→BB pl (mG σ.obj aH parts.toList) ix k=.e (.cell k (.sym ix)) true:=by
       intro hne
       unfold BB
       rw[List.find?_eq_none.2]
       intro p hp
       obtain⟨p0,M3,rfl⟩:=B0r.1 hp
       simp only[A0g,decide_eq_true_eq,not_and]
       intro h9 h10
       have:=hne p0 M3 (hfind p0 M3 h10)
       rw[h9] at this
       cases this
      rcases h8 with⟨p,hp,hpi,hE,hrd,hnt⟩ | ⟨p,s,hp,hpi,hE,hs1,hs⟩ | ⟨hno,ds,rfl,hds⟩
      ·obtain⟨h9,v,h10,h11⟩:=(hrd.cellAt hnt).2 _ c XE
       have hsz:=(hrd.cellAt hnt).1
       rw[h7] at hsz
       have kE:r[k]? = some v:=by
        have:=(ue k I4).2 (p.1,a.eval p.2) q.1.1 (B0r.2 ⟨p,hp,rfl⟩) (by simp only[B0n,hpi,EC,hsz]) h2 (by simp only[hsz];exact h3) fun q' G5 hne=>by
         obtain⟨p',hp',rfl⟩:=B0r.1 G5
         refine uW p' hp' fun e=>hne ?_
         rw[gb hnd hp' hp (e.trans hpi.symm)]
        rw[this];exact h10
       refine⟨v,kE,h11.one h9,?_⟩
       rw[hnone fun p' hp' Tf=>by rw[gb hnd hp' hp (Tf.trans hpi.symm)];exact hE]
       exact .e hcE h11 fun _=>h9
      ·have hv1:=Br hs
       have hkq:q.1.1=k:=by omega
       have kE:r[k]? = some (a.eval p.2):=by
        have:=(ue k I4).2 (p.1,a.eval p.2) q.1.1 (B0r.2 ⟨p,hp,rfl⟩) (by
          simp only[B0n,hpi,EC,j9 hv1.2]
          rw[show(q.1:Nat×Nat)=(q.1.1,q.1.2) from rfl,hs1]
          rfl) h2 (by simp only[j9 hv1.2];simp;omega) fun q' G5 hne=>by
         obtain⟨p',hp',rfl⟩:=B0r.1 G5
         refine uW p' hp' fun e=>hne ?_
         rw[gb hnd hp' hp (e.trans hpi.symm)]
        rw[this,j9 hv1.2,hkq]
        simp
       refine⟨_,kE,hv1.2,?_⟩
       have adO:pl[p.1]? = some (k,1):=by
        rw[hpi,EC,show(q.1:Nat×Nat)=(q.1.1,q.1.2) from rfl,hs1,hkq]
       have:BB pl (mG σ.obj aH parts.toList) ix k=s:=by
        unfold BB
        obtain⟨x,hx⟩:∃x,(mG σ.obj aH parts.toList).find? (fun p=>p.2.1.toE.isNone&&decide (pl[p.1]? = some (k,1)))=some x:=by
         refine Option.isSome_iff_exists.1 (List.find?_isSome.2 ⟨_,B0r.2 ⟨p,hp,rfl⟩,?_⟩)
         simp only[hE,adO,decide_true,Bool.and_true]
        have hmem:=List.mem_of_find?_eq_some hx
        have hpx:=List.find?_some hx
        obtain⟨p',hp',rfl⟩:=B0r.1 hmem
        simp only[A0g,decide_eq_true_eq] at hpx
        have:=gb hnd hp' hp ((hfind p' hp' hpx.2).trans hpi.symm)
        subst this
        rw[hx]
        simp only[hs,B0m]
       rw[this]
       exact hv1.1
      ·have kE:r[k]? = z.cells[k]?:=(ue k I4).1 fun q' G5=>by
        obtain⟨p',hp',rfl⟩:=B0r.1 G5
        exact uW p' hp' (hno p' hp')
       obtain⟨_,hrd⟩:=D.iV (w:=w) (S:=ρ.S) hds
       have iY:((z.cells.toList.drop q.1.1).take q.1.2)[k-q.1.1]? = some z.cells[k]:=by
        rw[B0c,if_pos (by omega),B0o,show q.1.1+(k-q.1.1)=k from by omega]
        simp[I4]
       obtain⟨h9,h10⟩:=hrd _ _ c iY XE
       refine⟨z.cells[k],by rw[kE];exact A0o I4,h9.one h10,?_⟩
       rw[hnone fun p' hp' Tf=>absurd Tf (hno p' hp')]
       exact .e hcE h9 fun _=>h10
     refine aI h hd (v:=.agg r) ?_ (.agg (by rw[jE];simp) (fun k v fQ=>?_) fun k v c fQ hk=>?_)
     ·unfold execOp
      simp only[ho,A0k,run_build w t _ r zc,A0e,A0n]
     ·obtain⟨v',h1,h2,_⟩:=hcell k (by rw[←jE];exact(A0h.1 fQ).1)
      rw[fQ] at h1
      cases h1
      exact h2
     ·have I4:k<z.cells.size:=by rw[←jE];exact(A0h.1 fQ).1
      obtain⟨v',h1,_,h2⟩:=hcell k I4
      rw[fQ] at h1
      cases h1
      simp only[A0v,A0b] at hk
      obtain⟨j,hj,rfl⟩:=hk
      have:=A0a.1 hj
      simp only[List.getElem_range] at this
      obtain⟨_,rfl⟩:=this
      exact h2
    ·cases hl
   ·cases hl
  ·cases hl
 ·cases hl

end
end
end

section
noncomputable section

structure gO where
 val:SV
 cA:Option (Nat×aE)
 del:Option Nat
 bind:Option Bind
 deriving Inhabited

def bZ.cM (r:bZ):gO:=⟨r.val,r.cA,none,r.bind⟩

def af.gy (σ:af):Option Nat→af
 | none=>σ
 | some k=>σ.setObj k none

def af.sets (σ:af):Option (Nat×aE)→af
 | none=>σ
 | some u=>σ.setObj u.1 (some u.2)

def af.app (σ:af)(dst:Option Tmp)(e:gO):af:=((σ.gy e.del).sets e.cA).put dst e.val

def iW:Operand→Bool
 | .const (.slice none 0 0)=>true
 | _=>false

def fe (o:Oper):Bool:=
 match o.op with
 | .alloc _ | .box _ _ | .buildSlice _ _ _ | .makeSlice _ _ _=>true
 | .assign x=>iW x
 | .call c=>(match c.callee with | .builtin .append=>true | _=>false)
 | _=>false

def ux (o:Oper)(σ:af)(e:gO):Bool:=
 !fe o||match e.cA with | some u=>decide (u.1=aO)||(o.op.operands.all fun x=>(σ.aH [] x).aB u.1) | none=>true

def Pq (e:gO):Bool:=match e.cA with | some u=>decide (u.1≠aO) | none=>true

theorem Be {e:gO}(h:Pq e=true){u:Nat×aE}(hu:e.cA=some u):u.1≠aO:=by
 unfold Pq at h
 rw[hu] at h
 simpa using h

def u5 (σ:af)(o:Oper)(e:gO):Prop:=fe o=true→∀u,e.cA=some u→u.1≠aO→σ.obj u.1=none∧σ.aB u.1∧∀x,x∈o.op.operands→(σ.aH [] x).aB u.1=true

theorem Dz {o:Oper}{σ:af}{e:gO}(h:ux o σ e=true)(hn:fe o=true){u:Nat×aE}(hu:e.cA=some u)(hne:u.1≠aO):∀x,x∈o.op.operands→(σ.aH [] x).aB u.1=true:=by
 simp only[ux,hn,hu,Bool.not_true,Bool.false_or,Bool.or_eq_true,decide_eq_true_eq] at h
 exact fun x hx=>Array.all_eq_true'.1 (h.resolve_left hne) x hx

def Ci (P:Program)(t:TypeId)(dst:Option Tmp):Option gO:=
 match dst,P.underlying t with
 | some d,some (.slice e)=>(o6 P e).map fun n=>⟨.own (.const (.a_ [])) d,some (d,.tok e n),none,none⟩
 | _,_=>none

def qy (P:Program)(t:TypeId)(s x:SV)(dst:Option Tmp)(obj:Nat→Option aE)(ix:Nat):Option gO:=
 match dst,P.underlying t,s with
 | some d,some (.slice e),.own y k=>match obj k,P.info? e,x.toE with
  | some (.tok e' size),some i,some x'=>match i.zero with
   | some z=>if e=e'∧i.size=size∧z.cells.size=size∧0<size then some ⟨.own (.sym ix) d,some (d,.tok e size),some k,some (.ev (.app size i.bytes y x'))⟩ else none
   | none=>none
  | _,_,_=>none
 | _,_,_=>none

def yM (P:Program)(t:TypeId)(x:SV)(dst:Option Tmp)(ix:Nat):Option gO:=
 match dst,P.underlying t with
 | some d,some (.slice e)=>match P.info? e,x.toE with
  | some i,some x'=>match i.zero with
   | some z=>if z.cells.size=i.size∧0<i.size then some ⟨.own (.sym ix) d,some (d,.tok e i.size),none,some (.ev (.app i.size i.bytes (.const (.a_ [])) x'))⟩ else none
   | none=>none
  | _,_=>none
 | _,_=>none

def yb (obj:Nat→Option aE):Bool:=match eP obj with | some cf=>cf.aN | none=>false

def yA (nz:Bool)(P:Program)(o:Oper)(aH:Operand→SV)(obj:Nat→Option aE)(ix:Nat):Option gO:=
 match o.op with
 | .assign x=>if iW x then Ci P o.type o.dst else none
 | .makeSlice t n c=>(Bi nz P t (aH n) (aH c) o.dst ix).map bZ.cM
 | .buildSlice t len parts=>(yE P t len parts.toList aH o.dst ix).map bZ.cM
 | .call c=>match c.callee with
  | .builtin .append=>match c.args.toList,c.argTypes.toList with
   | [s,x],[t,t']=>if t=t' then(if iW s=true then yM P t (aH x) o.dst ix else qy P t (aH s) (aH x) o.dst obj ix) else none
   | _,_=>none
  | _=>none
 | _=>none

def uL (P:Program)(nz:Bool)(o:Oper)(aH:Operand→SV)(ix:Nat):Option bZ:=
 match o.op with
 | .build t parts=>Cs nz P t parts.toList aH ix
 | _=>match JY P o aH ix with
  | some r=>some r
  | none=>Bh P o aH ix

def qc (P:Program)(o:Oper)(aH:List (E×Bool)→Operand→SV)(act:List (E×Bool))(obj:Nat→Option aE)(ix:Nat):Option gO:=
 match JZ P o (aH act) act obj ix with
 | some r=>some r.cM
 | none=>match D7 P o (aH []) obj ix with
  | some r=>some r.cM
  | none=>match lmap P o (aH act) obj ix with
  | some r=>some r.cM
  | none=>match yA (yb obj) P o (aH []) obj ix with
   | some e=>if Pq e then some e else none
   | none=>match uL P (yb obj) o (aH act) ix with
    | some r=>some r.cM
    | none=>match kA P o (aH act) obj ix with
    | some r=>some r.cM
    | none=>(sZ P o aH act obj ix).bind fun r=>if !fe o||Pq r.cM then some r.cM else none

section
variable {P:Program} {w w0:World} {X:gB} {a:Act} {σ:af} {env:List D} {ρ:cr}

theorem jx {k o:Nat}{y:aE}(hy:(σ.setObj k none).obj o=some y):o≠k∧σ.obj o=some y:=by
 rcases af.wj hy with⟨_,h⟩ | h
 ·cases h
 ·exact h

theorem bE.N2 (h:bE w0 X w a σ env ρ)(k:Nat):bE w0 X w a (σ.setObj k none) env ρ:=
 ⟨by rw[af.aA];exact h.size,fun t=>by rw[af.eA];exact h.tmps t,fun o y hy=>h.cn o y (jx hy).2,fun o o' y y' b h1 h2=>h.inj o o' y y' b (jx h1).2 (jx h2).2,fun o y b h1=>h.own o y b (jx h1).2,h.cells,h.os,h.tape,h.output,h.grown,h.old,h.sub,h.new,h.su,h.hold⟩

theorem rz {k d:Nat}(h:σ.aB d):(σ.setObj k none).aB d:=
 ⟨fun t=>by rw[af.eA];exact h.1 t,fun o y hy=>h.2 o y (jx hy).2⟩

theorem Az {o:Oper} {x:Operand} {e:gO} (ho:o.op=.assign x) (hx:iW x=true) (hl:Ci P o.type o.dst=some e) (h:bE w0 X w a σ env ρ) (hd:∀d,o.dst=some d→d<σ.tmps.length) (hm:σ.mem.length=σ.tmps.length)
  (hf:∀u,e.cA=some u→σ.obj u.1=none∧σ.aB u.1):cX P o a w w0 X (σ.app o.dst e) env:=by
 unfold Ci at hl
 split at hl
 ·rename_i d el fu hu
  obtain⟨n,hn,rfl⟩:=A0b.1 hl
  obtain⟨hfree,kN⟩:=hf _ rfl
  have eM:=hd d fu
  have wV:a.eval x=.slice none 0 0:=by
   unfold iW at hx
   split at hx
   ·rfl
   ·cases hx
  have aG:=h.Ag (w':=w) (k:=d) (by rw[hm];exact eM) hfree kN (World.ownsRow_nil w 0 el n) (bp.refl _ _) (fun _ _ _ _ _=>⟨rfl,by simp[Value.ownBlock]⟩) (fun _ hb=>by simp[Value.ownBlock] at hb) (fun _ hb=>by simp[Value.ownBlock] at hb) rfl ⟨rfl,A0m _⟩ rfl (A0m _) fun _ _ _=>rfl
  refine bq (v:=.slice none 0 0) (by unfold execOp;simp[ho,wV]) (aG.put (by rw[fu];intro d' e;cases e;rw[af.aA];exact eM) ?_)
  exact .own (es:=[]) rfl .nil (by simp[cr.iQ])
 ·cases hl


theorem A_ (h:bE w0 X w a σ env ρ){k:Nat}{e:TypeId}{size:Nat}(hk:σ.obj k=some (.tok e size)){b:Nat}(hb:(ρ.val k).ownBlock=some b):(w0.heap.size≤b∨X.may b)∧b<w.heap.size:=by
 have:=h.own k _ b hk hb
 exact⟨this.1.resolve_left (by simp[aE.ro]),this.2⟩

theorem qV {o:Oper} {t:TypeId} {s x:Operand} {ss sx:SV} {ix:Nat} {e:gO} (ho:o.op=.call { callee:=.builtin .append,args:=#[s,x],argTypes:=#[t,t] }) (hl:qy P t ss sx o.dst σ.obj ix=some e) (hs:cu w ρ env (a.eval s) ss) (hx:cu w ρ env (a.eval x) sx)
  (h:bE w0 X w a σ env ρ) (hd:∀d,o.dst=some d→d<σ.tmps.length) (hm:σ.mem.length=σ.tmps.length) (hb:aY P env ix e.bind) (hf:∀u,e.cA=some u→σ.obj u.1=none∧σ.aB u.1):cX P o a w w0 X (σ.app o.dst e) env:=by
 unfold qy at hl
 split at hl
 ·rename_i d el y k fu hu
  split at hl
  ·rename_i e' size i x' hk hi hx'
   split at hl
   ·rename_i z hz
    split at hl
    ·rename_i hc
     obtain⟨rfl,hsize,hzs,hsz⟩:=hc
     cases hl
     obtain⟨hfree,kN⟩:=hf _ rfl
     have eM:=hd d fu
     obtain⟨es,iJ,hrd,hval⟩:=hs.sP
     obtain⟨dx,fW,fF⟩:=SV.toE_rd hx' hx
     obtain⟨dz,bz,bQ⟩:=hb
     simp only[E.eval,iJ,fW,A0d] at bz
     unfold D.app at bz
     split at bz
     ·rename_i xs0 ys heq
      cases heq
      split at bz
      ·rename_i tA
       cases bz
       obtain⟨hby,hml,uU,K2⟩:=tA
       obtain⟨n,xs,hown,He⟩:=h.cn k _ hk
       rw[←hval] at hown He
       obtain⟨hn,hrow⟩:=Pk hown hrd uU
       have Ke:d≠k:=fun e=>by rw[e,hk] at hfree;cases hfree
       have kI:=h.N2 k
       have Tx:(σ.setObj k none).obj d=none:=by
        rw[af.cT σ none Ke];exact hfree
       have mI:∀o' y' b,(σ.setObj k none).obj o'=some y'→bw ρ o' y' b→b<w.heap.size∧(a.eval s).ownBlock≠some b:=by
        intro o' y' b h1 h2
        have h1':=jx h1
        refine⟨(h.own o' y' b h1'.2 h2).2,fun hg=>h1'.1 ?_⟩
        rw[hval] at hg
        exact h.inj o' k y' _ b h1'.2 hk h2 hg
       have fin:∀(v':Value) (w':World) (m:Nat) (news:List Value),(Builtin.append_ #[t,t] o.type #[a.eval s,a.eval x]).run P w=.ok v' w'→ys.length=m→iP w ρ.S size news ys→w'.ownsRow 0 el size v' (n+m) (xs++news) →
         ((v'.ownBlock=(a.eval s).ownBlock∧Ld w w' (a.eval s).ownBlock)∨(v'.ownBlock=some w.heap.size∧Ld w w' none))→cX P o a w w0 X (σ.app o.dst ⟨.own (.sym ix) d,some (d,.tok el size),some k,some (.ev (.app size i.bytes y x'))⟩) env:=by
        intro v' w' m news hrun K3 J_ hown' fk
        have gZ:w'.os=w.os∧TL w' w∧w'.output=w.output∧w.heap.size≤w'.heap.size:=by
         rcases fk with⟨_,hg⟩ | ⟨_,hg⟩ <;> exact⟨hg.os,hg.tape,hg.output,hg.size⟩
        have oK:∀b,b<w.heap.size→(a.eval s).ownBlock≠some b→w'.heap[b]? = w.heap[b]?:=by
         intro b hb hne
         rcases fk with⟨_,hg⟩ | ⟨_,hg⟩
         ·exact hg.block b hb fun e=>hne e.symm
         ·exact hg.block b hb (by simp)
        have hK:bp ρ.S w w':=by
         intro b i' hS
         by_cases hg:(a.eval s).ownBlock=some b
         ·rcases fk with⟨fQ,_⟩ | ⟨_,pq⟩
          ·have hlt:i'<n*size:=Nat.lt_of_not_le fun hle=>He b hg i' hle hS
           have Nd:i'<xs.length:=by rw[hown.1];exact hlt
           have h1:=hown.cells hg i' _ (A0f Nd)
           have h2:=hown'.cells (fQ.trans hg) i' xs[i'] (by rw[A0j Nd];exact A0f Nd)
           rw[fz] at h1 h2
           rw[B0k] at h1 h2
           rw[h1,h2]
          ·exact World.cell?_of_block (a:=⟨b,i',none⟩) (pq.block b (h.cells b i' hS) (by simp))
         ·exact World.cell?_of_block (a:=⟨b,i',none⟩) (oK b (h.cells b i' hS) hg)
        have aG:=kI.Ag (w':=w') (k:=d) (e:=el) (size:=size) (v:=v') (n:=n+m) (xs:=xs++news) (by rw[af.ei,hm];exact eM) Tx (rz kN) hown' hK ?_ ?_ ?_ gZ.1 gZ.2.1 gZ.2.2.1 gZ.2.2.2 ?_
        ·have MO:(ρ.iQ d v' ((n+m)*size)).val d=v':=by simp[cr.iQ]
         refine bq (v:=v') ?_ (aG.put (by rw[fu];intro d' e;cases e;rw[af.aA,af.aA];exact eM) ?_)
         ·unfold execOp
          simp only[ho,resolve,invoke,builtin,A0k,A0n,A0e,List.map_toArray,List.map_cons,List.map_nil,hrun]
         ·refine .own (es:=es++ys) (by simp only[E.eval];exact bQ) (B8 hown' (by simp[hn,K3]) ((hrow.append J_).keep hK (ρ.S.mr _)) fun b hb i' hi'=>.inr ⟨hb,hi'⟩) MO.symm
        ·intro o' y' b h1 h2
         obtain⟨h3,h4⟩:=mI o' y' b h1 h2
         refine⟨oK b h3 h4,?_⟩
         rcases fk with⟨fQ,_⟩ | ⟨fQ,_⟩
         ·rw[fQ];exact h4
         ·rw[fQ];simp;omega
        ·intro b hb
         rcases fk with⟨fQ,_⟩ | ⟨fQ,_⟩
         ·rw[fQ,hval] at hb;exact(A_ h hk hb).1
         ·rw[fQ] at hb;cases hb;exact .inl h.grown
        ·intro b hb off hoff hS
         rcases fk with⟨fQ,_⟩ | ⟨fQ,_⟩
         ·rw[fQ] at hb
          refine He b hb off (B0e (Nat.mul_le_mul_right _ (Nat.le_add_right n m)) hoff) hS
         ·rw[fQ] at hb;cases hb
          have:=h.cells _ off hS
          omega
        ·intro b hb hnm
         refine oK b (A0s hb h.grown) fun hg=>?_
         rw[hval] at hg
         rcases(A_ h hk hg).1 with h1 | h1
         ·omega
         ·exact hnm h1
       rcases Ca fF K2 with⟨CC,rfl⟩ | ⟨ad,m,c,news,CC,K3,Ka,hcells,hone,qZ⟩
       ·refine fin (a.eval s) w 0 [] ?_ rfl ⟨by simp,by simp,by simp⟩ (by simpa using hown) (.inl ⟨rfl,⟨rfl,.refl _,rfl,A0m _,fun _ _ _=>rfl⟩⟩)
        rw[CC]
        rcases hown.2 with⟨hv,hn0⟩ | ⟨g,cap,cur,hv,_,_,hnc,_⟩
        ·rw[hv];exact iR w t o.type el i hu hi none 0 0 (A0m _)
        ·rw[hv];exact iR w t o.type el i hu hi _ n cap hnc
       ·obtain⟨v',w',hrun,hown',fk⟩:=jO (P:=P) w t o.type el i z size i.bytes hu hi hz hsize rfl hzs hsz (a.eval s) n xs hown ad m c news Ka hcells hone (by rw[←hn,←K3];exact hml) (by rw[←hn,←K3];exact hby)
        rw[←CC] at hrun
        exact fin v' w' m news hrun K3 qZ hown' fk
      ·cases bz
     ·cases bz
    ·cases hl
   ·cases hl
  ·cases hl
 ·cases hl

theorem pU {o:Oper} {t:TypeId} {s x:Operand} {sx:SV} {ix:Nat} {e:gO} (ho:o.op=.call { callee:=.builtin .append,args:=#[s,x],argTypes:=#[t,t] }) (hn:iW s=true) (hl:yM P t sx o.dst ix=some e) (hx:cu w ρ env (a.eval x) sx)
  (h:bE w0 X w a σ env ρ) (hd:∀d,o.dst=some d→d<σ.tmps.length) (hm:σ.mem.length=σ.tmps.length) (hb:aY P env ix e.bind) (hf:∀u,e.cA=some u→σ.obj u.1=none∧σ.aB u.1):cX P o a w w0 X (σ.app o.dst e) env:=by
 have rQ:a.eval s=.slice none 0 0:=by
  unfold iW at hn
  split at hn
  ·rfl
  ·cases hn
 unfold yM at hl
 split at hl
 ·rename_i d el fu hu
  split at hl
  ·rename_i i x' hi hx'
   split at hl
   ·rename_i z hz
    split at hl
    ·rename_i hc
     obtain⟨hzs,hsz⟩:=hc
     cases hl
     obtain⟨hfree,kN⟩:=hf _ rfl
     have eM:=hd d fu
     obtain⟨dx,fW,fF⟩:=SV.toE_rd hx' hx
     obtain⟨dz,bz,bQ⟩:=hb
     simp only[E.eval,fW,A0d] at bz
     unfold D.app at bz
     split at bz
     ·rename_i xs0 ys heq
      cases heq
      split at bz
      ·rename_i tA
       cases bz
       obtain⟨hby,hml,_,K2⟩:=tA
       have hown:=World.ownsRow_nil w 0 el i.size
       have bW:(Value.slice none 0 0).ownBlock=none:=rfl
       have fin:∀(v':Value) (w':World) (m:Nat) (news:List Value),(Builtin.append_ #[t,t] o.type #[a.eval s,a.eval x]).run P w=.ok v' w'→ys.length=m→iP w ρ.S i.size news ys→w'.ownsRow 0 el i.size v' (0+m) ([]++news) →
         ((v'.ownBlock=none∧Ld w w' none)∨(v'.ownBlock=some w.heap.size∧Ld w w' none))→cX P o a w w0 X (σ.app o.dst ⟨.own (.sym ix) d,some (d,.tok el i.size),none,some (.ev (.app i.size i.bytes (.const (.a_ [])) x'))⟩) env:=by
        intro v' w' m news hrun K3 J_ hown' fk
        have gZ:w'.os=w.os∧TL w' w∧w'.output=w.output∧w.heap.size≤w'.heap.size:=by
         rcases fk with⟨_,hg⟩ | ⟨_,hg⟩ <;> exact⟨hg.os,hg.tape,hg.output,hg.size⟩
        have oK:∀b,b<w.heap.size→w'.heap[b]? = w.heap[b]?:=by
         intro b hb
         rcases fk with⟨_,hg⟩ | ⟨_,hg⟩ <;> exact hg.block b hb (by simp)
        have hK:bp ρ.S w w':=fun b i' hS=>World.cell?_of_block (a:=⟨b,i',none⟩) (oK b (h.cells b i' hS))
        have aG:=h.Ag (w':=w') (k:=d) (e:=el) (size:=i.size) (v:=v') (n:=0+m) (xs:=[]++news) (by rw[hm];exact eM) hfree kN hown' hK ?_ ?_ ?_ gZ.1 gZ.2.1 gZ.2.2.1 gZ.2.2.2 ?_
        ·have MO:(ρ.iQ d v' ((0+m)*i.size)).val d=v':=by simp[cr.iQ]
         refine bq (v:=v') ?_ (aG.put (by rw[fu];intro d' e;cases e;rw[af.aA];exact eM) ?_)
         ·unfold execOp
          simp only[ho,resolve,invoke,builtin,A0k,A0n,A0e,List.map_toArray,List.map_cons,List.map_nil,hrun]
         ·refine .own (es:=[]++ys) (by simp only[E.eval];exact bQ) (B8 hown' (by simp[K3]) (iP.keep (by simpa using J_) hK (ρ.S.mr _)) fun b hb i' hi'=>.inr ⟨hb,hi'⟩) MO.symm
        ·intro o' y' b h1 h2
         have h3:=(h.own o' y' b h1 h2).2
         refine⟨oK b h3,?_⟩
         rcases fk with⟨fQ,_⟩ | ⟨fQ,_⟩
         ·rw[fQ];simp
         ·rw[fQ];simp;omega
        ·intro b hb
         rcases fk with⟨fQ,_⟩ | ⟨fQ,_⟩
         ·rw[fQ] at hb;cases hb
         ·rw[fQ] at hb;cases hb;exact .inl h.grown
        ·intro b hb off hoff hS
         rcases fk with⟨fQ,_⟩ | ⟨fQ,_⟩
         ·rw[fQ] at hb;cases hb
         ·rw[fQ] at hb;cases hb
          have:=h.cells _ off hS
          omega
        ·intro b hb hnm
         exact oK b (A0s hb h.grown)
       rcases Ca fF K2 with⟨CC,rfl⟩ | ⟨ad,m,c,news,CC,K3,Ka,hcells,hone,qZ⟩
       ·refine fin (.slice none 0 0) w 0 [] ?_ rfl ⟨by simp,by simp,by simp⟩ (by simpa using hown) (.inl ⟨rfl,⟨rfl,.refl _,rfl,A0m _,fun _ _ _=>rfl⟩⟩)
        rw[CC,rQ]
        exact iR w t o.type el i hu hi none 0 0 (A0m _)
       ·obtain⟨v',w',hrun,hown',fk⟩:=jO (P:=P) w t o.type el i z i.size i.bytes hu hi hz rfl rfl hzs hsz (.slice none 0 0) 0 [] hown ad m c news Ka hcells hone (by rw[←K3];simpa using hml) (by rw[←K3];simpa using hby)
        rw[←CC,←rQ] at hrun
        exact fin v' w' m news hrun K3 qZ hown' (by rw[bW] at fk;exact fk)
      ·cases bz
     ·cases bz
    ·cases hl
   ·cases hl
  ·cases hl
 ·cases hl

theorem Ch {nz:Bool}{o:Oper}{aH:Operand→SV}{ix:Nat}{r:bZ}(hv:∀x,cu w ρ env (a.eval x) (aH x))(hl:uL P nz o aH ix=some r)(h:bE w0 X w a σ env ρ)(hd:∀d,o.dst=some d→d<σ.tmps.length)(hb:aY P env ix r.bind) :
  r.cA=none∧cX P o a w w0 X (σ.put o.dst r.val) env:=by
 unfold uL at hl
 split at hl
 ·rename_i ho
  exact Cr ho hv hl h hd hb
 ·split at hl
  ·rename_i hl'
   cases hl
   exact GK hv hl' h hd hb
  ·exact D3 hv hl h hd hb

theorem qb {o:Oper} {act:List (E×Bool)} {ix:Nat} {e:gO} (h:bE w0 X w a σ env ρ) (ha:aQ env act) (hl:qc P o σ.aH act σ.obj ix=some e) (hd:∀d,o.dst=some d→d<σ.tmps.length) (hm:σ.mem.length=σ.tmps.length)
  (hb:aY P env ix e.bind) (hf:u5 σ o e) (hact:fe o=true→¬(e.cA=none∧e.del=none)→act=[]):cX P o a w w0 X (σ.app o.dst e) env:=by
 have hv:=fun x=>ox (a:=a) h lq x
 unfold qc at hl
 split at hl
 ·rename_i r hr
  cases hl
  obtain⟨hu,hok⟩:=GN (fun x=>ox (a:=a) h ha x) hr h hd hb
  have:σ.app o.dst r.cM=σ.put o.dst r.val:=by simp[af.app,bZ.cM,af.gy,af.sets,hu]
  rw[this];exact hok
 split at hl
 ·rename_i r hr
  cases hl
  rcases Gz hv hr h hd hb with⟨hu,hok⟩ | ⟨z,hu,hok⟩
  ·have:σ.app o.dst r.cM=σ.put o.dst r.val:=by simp[af.app,bZ.cM,af.gy,af.sets,hu]
   rw[this];exact hok
  ·have:σ.app o.dst r.cM=(σ.setObj aO (some z)).put o.dst r.val:=by simp[af.app,bZ.cM,af.gy,af.sets,hu]
   rw[this];exact hok
 split at hl
 ·rename_i r hr
  cases hl
  rcases GD (fun x=>ox (a:=a) h ha x) hr h hd hb with⟨hu,hok⟩ | ⟨z,hu,hok⟩
  ·have:σ.app o.dst r.cM=σ.put o.dst r.val:=by simp[af.app,bZ.cM,af.gy,af.sets,hu]
   rw[this];exact hok
  ·have:σ.app o.dst r.cM=(σ.setObj aO (some z)).put o.dst r.val:=by simp[af.app,bZ.cM,af.gy,af.sets,hu]
   rw[this];exact hok
 split at hl
 ·rename_i e' hn
  split at hl
  case isFalse=>cases hl
  rename_i hnH
  cases hl
  have hf:fe o=true→∀u,e.cA=some u→σ.obj u.1=none∧σ.aB u.1∧∀x,x∈o.op.operands→(σ.aH [] x).aB u.1=true:=fun hn u hu=>hf hn u hu (Be hnH hu)
  unfold yA at hn
  split at hn
  ·rename_i x ho
   split at hn
   ·rename_i hx
    exact Az ho hx hn h hd hm fun u hu=>by
     have:=hf (by simp[fe,ho,hx]) u hu
     exact⟨this.1,this.2.1⟩
   ·cases hn
  ·rename_i t n c ho
   obtain⟨r,hr,rfl⟩:=A0b.1 hn
   obtain⟨ob,x,hu,hok⟩:=Eb ho hr (hv n) (hv c) h hd hm hb fun u hu=>by
    have:=hf (by simp[fe,ho]) u hu
    exact⟨this.1,this.2.1⟩
   have:σ.app o.dst r.cM=(σ.setObj ob (some x)).put o.dst r.val:=by simp[af.app,bZ.cM,af.gy,af.sets,hu]
   rw[this];exact hok
  ·rename_i t len parts ho
   obtain⟨r,hr,rfl⟩:=A0b.1 hn
   obtain⟨ob,x,hu,hok⟩:=GG ho hv hr h hd hm hb fun u hu=>by
    have:=hf (by simp[fe,ho]) u hu
    exact⟨this.1,this.2.1⟩
   have:σ.app o.dst r.cM=(σ.setObj ob (some x)).put o.dst r.val:=by simp[af.app,bZ.cM,af.gy,af.sets,hu]
   rw[this];exact hok
  ·rename_i c ho
   obtain⟨callee,args,ts⟩:=c
   simp only at hn
   split at hn
   ·split at hn
    ·rename_i s x t t' hargs hts
     split at hn
     ·rename_i I0
      subst I0
      have e1:args=#[s,x]:=by rw[←B0g (xs:=args),hargs]
      have e2:ts=#[t,t]:=by rw[←B0g (xs:=ts),hts]
      subst e1 e2
      split at hn
      ·rename_i kV
       exact pU ho kV hn (hv x) h hd hm hb fun u hu=>by
        have:=hf (by simp[fe,ho]) u hu
        exact⟨this.1,this.2.1⟩
      ·exact qV ho hn (hv s) (hv x) h hd hm hb fun u hu=>by
        have:=hf (by simp[fe,ho]) u hu
        exact⟨this.1,this.2.1⟩
     ·cases hn
    ·cases hn
   ·cases hn
  ·cases hn
 split at hl
 ·rename_i r hr
  cases hl
  obtain⟨hu,hok⟩:=Ch (fun x=>ox (a:=a) h ha x) hr h hd hb
  have:σ.app o.dst r.cM=σ.put o.dst r.val:=by simp[af.app,bZ.cM,af.gy,af.sets,hu]
  rw[this];exact hok
 split at hl
 ·rename_i r hr
  cases hl
  obtain⟨hu,hok⟩:=AD (fun x=>ox (a:=a) h ha x) hr h hd hb
  have:σ.app o.dst r.cM=σ.put o.dst r.val:=by simp[af.app,bZ.cM,af.gy,af.sets,hu]
  rw[this];exact hok
 ·obtain⟨r,hr,hl⟩:=A0c.1 hl
  split at hl
  case isFalse=>cases hl
  rename_i hnH
  cases hl
  have hf:fe o=true→∀u,r.cA=some u→σ.obj u.1=none∧σ.aB u.1∧∀x,x∈o.op.operands→(σ.aH [] x).aB u.1=true:=fun hn u hu=>hf hn u hu (Be (by simpa[hn] using hnH) hu)
  have hfo:Jb σ o r.cA:=by
   intro ob x hu
   split
   ·rename_i t ho
    have:=hf (by simp[fe,ho]) (ob,x) hu
    exact⟨this.1,this.2.1⟩
   ·rename_i t y ho
    have:=hf (by simp[fe,ho]) (ob,x) hu
    exact⟨this.1,this.2.1,this.2.2 y (by rw[ho];simp[Op.operands])⟩
   ·trivial
  rcases D0 h ha hr hd hm hb hfo (fun⟨t,x,ho⟩ hu=>hact (by simp[fe,ho]) fun hh=>hu hh.1) with⟨hu,hok⟩ | ⟨ob,x,hu,hok⟩
  ·have:σ.app o.dst r.cM=σ.put o.dst r.val:=by simp[af.app,bZ.cM,af.gy,af.sets,hu]
   rw[this];exact hok
  ·have:σ.app o.dst r.cM=(σ.setObj ob (some x)).put o.dst r.val:=by simp[af.app,bZ.cM,af.gy,af.sets,hu]
   rw[this];exact hok

end
end
end

section
noncomputable section

def SV.Kt (k:Nat)(x:E)(sv:SV):SV:=
 match sv with
 | .kF o=>if o=k then .e x true else .kF o
 | sv=>sv

def SV.YC (k:Nat)(x:E)(sv:SV):SV:=
 match sv with
 | .addr o 0=>if o=k then .e x true else .addr o 0
 | sv=>sv

def af.Kt (k:Nat)(σ:af):af:=
 match σ.obj k with
 | some (.row x _)=>{ (σ.setObj k none) with tmps:=σ.tmps.map (SV.Kt k x) }
 | some (.box cs)=>(match SV.toEs cs with
  | some y=>{ (σ.setObj k none) with tmps:=σ.tmps.map (SV.YC k (.dL y)) }
  | none=>σ)
 | _=>σ

def aE.Mi (f:SV→SV):aE→aE
 | .box cs=>.box (cs.map f)
 | x=>x

def SV.VZ (k:Nat)(y:E)(sv:SV):SV:=
 match sv with
 | .kF o=>if o=k then .e y true else .kF o
 | sv=>sv

def SV.V1 (k:Nat)(y:E)(sv:SV):SV:=
 match sv with
 | .addr o 0=>if o=k then .e y true else .addr o 0
 | sv=>sv

def af.xW (σ:af)(k:Nat)(f:SV→SV)(y:aE):af:={ tmps:=σ.tmps.map f,mem:=(σ.mem.map (Option.map (aE.Mi f))).set k none,hs:=some y }

def af.JG (k:Nat)(σ:af):af:=
 match σ.obj aO with
 | some (.store cf h)=>if cf.ro=true then σ else(match σ.obj k with
  | some (.row x sz)=>if 0<sz then σ.xW k (SV.VZ k (.cY h x)) (.store cf (.dR Ad sz h x)) else σ
  | some (.box cs)=>(match SV.toEs cs with
   | some y=>σ.xW k (SV.V1 k (.aC h)) (.store cf (.fK Ad cs.length h y))
   | none=>σ)
  | _=>σ)
 | _=>σ

def oN (k:Nat)(σ:af):af:=if 1000000<k then σ.JG (k-1000000) else σ.Kt k

def p8:List Nat→af→af
 | [],σ=>σ
 | k :: ks,σ=>p8 ks (oN k σ)

def tG (id:Nat)(σ:af):af:=
 match σ.obj aO with
 | some (.store cf _)=>p8 ((cf.NI.filter fun p=>p.1==id).map (·.2)) σ
 | _=>σ

section
variable {w w0:World} {X:gB} {a:Act} {σ:af} {env:List D} {ρ:cr}

theorem Pa {o:Nat}{x:E}{sz:Nat}(h:fI w ρ env o (.row x sz)):∃d,x.eval env=some d∧aZ w (ρ.S.or fun b _=>b=ρ.bh o) (ρ.val o) d∧d.one=true:=by
 obtain⟨vs,ty,es,hh,hx,hz,hsz,hr,hval,hm,_⟩:=h
 refine⟨_,hx,?_,rfl⟩
 rw[hval]
 have iY:∀(i:Nat) (e:D) (j:Nat) (d:D),es[i]? = some e→e.cells[j]? = some d→∃v,vs[i*sz+j]? = some v∧aZ w ρ.S v d∧d.one=true:=by
  intro i e j d he hd
  obtain⟨h1,v,h2,h3⟩:=hr i e j d he hd
  exact⟨v,h2,h3,h1⟩
 refine .a_ (size:=sz) (val:=fun i j=>vs.getD (i*sz+j) undef) rfl (A0m _) hm hz (fun i e j d he hd=>(iY i e j d he hd).choose_spec.2.2) (fun i e j d he hd=>.inr rfl) (fun i e j d he hd=>?_) fun i e j d he hd=>?_
 ·obtain⟨v,h2,_⟩:=iY i e j d he hd
  rw[eE hh,B0k,h2,A0p,h2]
  rfl
 ·obtain⟨v,h2,h3,_⟩:=iY i e j d he hd
  rw[A0p,h2]
  exact h3.keep (bp.refl _ _) (ρ.S.mr _)

theorem bE.YB (h:bE w0 X w a σ env ρ){k:Nat}{z:aE}(hk:σ.obj k=some z)(hz:bw ρ k z (ρ.bh k))(hro:z.ro=false){f:SV→SV}(hf:∀v sv,cu w { ρ with S:=ρ.S.or fun b _=>b=ρ.bh k } env v sv→cu w { ρ with S:=ρ.S.or fun b _=>b=ρ.bh k } env v (f sv))(hj:f .bS=.bS) :
  bE w0 X w a { (σ.setObj k none) with tmps:=σ.tmps.map f } env { ρ with S:=ρ.S.or fun b _=>b=ρ.bh k }:=by
 have hle:ρ.S≤ρ.S.or fun b _=>b=ρ.bh k:=ρ.S.mr _
 have hm:ρ.ql { ρ with S:=ρ.S.or fun b _=>b=ρ.bh k } (fun _=>False):=⟨⟨fun _ _=>rfl,fun _ _=>rfl,hle⟩,fun _=>rfl,fun _=>rfl⟩
 have ED:=h.own k _ (ρ.bh k) hk hz
 refine⟨by simpa using h.size,fun t=>?_,fun o y hy=>?_,fun o o' y y' b h1 h2=>h.inj o o' y y' b (jx h1).2 (jx h2).2,fun o y b h1=>h.own o y b (jx h1).2,fun b o hs=>?_,h.os,h.tape,h.output,h.grown,h.old,Sets.le_trans h.sub hle,fun b o hs=>?_,h.su,h.hold⟩
 ·have hv:=(h.tmps t).keep (bp.refl _ _) hm (fun _ hf=>hf.elim)
  have AH:af.tmp { (σ.setObj k none) with tmps:=σ.tmps.map f } t=f (σ.tmp t):=by
   simp only[af.eH,A0i,A0v]
   cases σ.tmps[t]? with
   | none=>exact hj.symm
   | some _=>rfl
  rw[AH]
  exact hf _ _ hv
 ·obtain⟨hne,hy'⟩:=jx hy
  refine(h.cn o y hy').keep (bp.refl _ _) hm (fun hf=>hf) (fun _ hf=>hf.elim) (fun _ _=>rfl) fun b off hb hs=>?_
  rcases hs with hs | hs
  ·exact hs
  ·subst hs
   exact absurd (h.inj o k y _ _ hy' hk hb hz) hne
 ·rcases hs with hs | rfl
  ·exact h.cells b o hs
  ·exact ED.2
 ·rcases hs with hs | rfl
  ·exact h.new b o hs
  ·rcases ED.1 with g | g | g
   ·exact absurd g.1 (by simp[hro])
   ·exact .inr (.inl g)
   ·exact .inr (.inr g)

theorem bE.Kt (h:bE w0 X w a σ env ρ)(k:Nat):∃ρ',bE w0 X w a (σ.Kt k) env ρ':=by
 unfold af.Kt
 split
 ·rename_i x sz hk
  refine⟨_,h.YB hk rfl rfl (fun v sv hv=>?_) rfl⟩
  unfold SV.Kt
  split
  ·rename_i o
   split
   ·rename_i e
    subst e
    obtain⟨d,h1,h2,h3⟩:=Pa (h.cn _ _ hk)
    rw[hv.nT]
    exact .e h1 h2 fun _=>h3
   ·exact hv
  ·exact hv
 ·rename_i cs hk
  split
  ·rename_i y hy
   refine⟨_,h.YB hk rfl rfl (fun v sv hv=>?_) rfl⟩
   unfold SV.YC
   split
   ·rename_i o
    split
    ·rename_i e
     subst e
     obtain⟨vs,ty,hh,hsz,ho,hr,_⟩:=h.cn _ _ hk
     obtain⟨ds,he,hl,hd⟩:=SV.toEs_rd (vs:=vs.toList) hy (by simpa using hsz) (fun i v hv=>ho i v (by simpa using hv)) (fun i v c hv hc=>hr i v c (by simpa using hv) hc)
     rw[hv.iN]
     refine .e (d:=.ptr ds) (by simp[E.eval,he,D.dL]) ?_ fun _=>rfl
     have hcell:∀(j:Nat) (c:D),ds[j]? = some c→∃u,vs[j]? = some u:=fun j c hj=>⟨_,A0o (by have:=(A0a.1 hj).1;simp at hl;omega)⟩
     refine .ptr (val:=fun j=>vs.getD j undef) (fun j c hj=>?_) (fun j c hj=>.inr rfl) (fun j c hj=>?_) fun j c hj=>?_
     ·obtain⟨u,hu⟩:=hcell j c hj
      exact(hd j u c (by simpa using hu) hj).2
     ·obtain⟨u,hu⟩:=hcell j c hj
      rw[eE hh,B0k,hu,A0p,hu]
      rfl
     ·obtain⟨u,hu⟩:=hcell j c hj
      rw[A0p,hu]
      exact(hd j u c (by simpa using hu) hj).1.keep (bp.refl _ _) (ρ.S.mr _)
    ·exact hv
   ·exact hv
  ·exact⟨ρ,h⟩
 ·exact⟨ρ,h⟩

theorem sN {k o:Nat}{f:SV→SV}{y z:aE}(hz:(σ.xW k f y).obj o=some z):(o=aO∧z=y)∨(o≠aO∧o≠k∧∃x,σ.obj o=some x∧z=x.Mi f):=by
 simp only[af.xW,af.cK] at hz
 by_cases ho:o=aO
 ·simp only[ho,if_true,A0u] at hz
  exact .inl ⟨ho,hz.symm⟩
 ·simp only[ho,if_false,A0i,A0x,List.length_map] at hz
  by_cases hk:k=o
  ·simp only[hk,if_true] at hz
   split at hz <;> cases hz
  ·simp only[hk,if_false,A0v] at hz
   refine .inr ⟨ho,Ne.symm hk,?_⟩
   simp only[af.cK]
   simp only[ho,if_false,A0i]
   cases hm:σ.mem[o]? with
   | none=>rw[hm] at hz;cases hz
   | some x=>
    rw[hm] at hz
    cases x with
    | none=>cases hz
    | some x=>
     simp only[A0y,B0m,A0u] at hz
     exact⟨x,rfl,hz.symm⟩

theorem js {ρ:cr}{o:Nat}{x:aE}{f:SV→SV}:bw ρ o (x.Mi f)=bw ρ o x:=by
 cases x <;> rfl

theorem bE.V0 (h:bE w0 X w a σ env ρ) {k:Nat} {z:aE} (hk:σ.obj k=some z) (hz:bw ρ k z (ρ.bh k)) (hro:z.ro=false) (jk:∀off,¬ρ.S (ρ.bh k) off) {cf:bV} {x x':E} (bW:σ.obj aO=some (.store cf x)) (K7:k≠aO) {bs:List D} (eO:x.eval env=some (.st bs)) {n sz:Nat} {cs:List D}
  (uU:∃vs:Array Value,lA w (ρ.bh k) vs Ad∧vs.size=n*sz∧cs.length≤vs.size∧(∀(j:Nat) (d:D),cs[j]? = some d→d.one=true)∧∀(j:Nat) (v:Value) (d:D),vs[j]? = some v→cs[j]? = some d→aZ w ρ.S v d)
  (hx':x'.eval env=some (.st (bs++[.bh Ad sz cs]))) {f:SV→SV} (hf:∀v sv,ρ.S.n=bs.length→cu w { ρ with S:=ρ.S.more (ρ.bh k) n,an:=fun c=>ρ.an c∨c=ρ.bh k } env v sv→cu w { ρ with S:=ρ.S.more (ρ.bh k) n,an:=fun c=>ρ.an c∨c=ρ.bh k } env v (f sv)) (hj:f .bS=.bS) :
  bE w0 X w a (σ.xW k f (.store cf x')) env { ρ with S:=ρ.S.more (ρ.bh k) n,an:=fun c=>ρ.an c∨c=ρ.bh k }:=by
 have hle:=ρ.S.qx (ρ.bh k) n
 have o8:ρ.Le { ρ with S:=ρ.S.more (ρ.bh k) n,an:=fun c=>ρ.an c∨c=ρ.bh k } (fun _=>False):=⟨fun _ _=>rfl,fun _ _=>rfl,hle⟩
 obtain⟨nF,hb0,hst,_⟩:=h.cn _ _ bW
 rw[eO] at hb0
 cases hb0
 have ED:=h.own k _ (ρ.bh k) hk hz
 have tv:∀b,ρ.an b→b≠ρ.bh k:=fun b hb e=>K7 (h.inj k aO _ _ (ρ.bh k) hk bW hz (e ▸ hb))
 have jj:∀o y,o≠aO→bw { ρ with S:=ρ.S.more (ρ.bh k) n,an:=fun c=>ρ.an c∨c=ρ.bh k } o y=bw ρ o y∨∃cf x,y=.store cf x:=by
  intro o y ho
  cases y with
  | store cf x=>exact .inr ⟨cf,x,rfl⟩
  | _=>exact .inl rfl
 have CG:∀o y,o≠aO→σ.obj o=some y→bw { ρ with S:=ρ.S.more (ρ.bh k) n,an:=fun c=>ρ.an c∨c=ρ.bh k } o y=bw ρ o y:=by
  intro o y ho hy
  rcases jj o y ho with g | ⟨cf,x,rfl⟩
  ·exact g
  ·obtain⟨_,_,_,e⟩:=h.cn o _ hy
   exact absurd e ho
 have hrd:∀v sv,cu w ρ env v sv→cu w { ρ with S:=ρ.S.more (ρ.bh k) n,an:=fun c=>ρ.an c∨c=ρ.bh k } env v (f sv):=fun v sv hv=>hf v sv hst.n (hv.vH (bp.refl _ _) o8 fun _ hf=>hf.elim)
 refine⟨by simpa[af.xW] using h.size,fun t=>?_,fun o y hy=>?_,fun o o' y y' b h1 h2 lY q9=>?_,fun o y b hy hb=>?_,h.cells,h.os,h.tape,h.output,h.grown,h.old,Sets.le_trans h.sub hle,h.new,h.su,h.hold⟩
 ·have AH:(σ.xW k f (.store cf x')).tmp t=f (σ.tmp t):=by
   simp only[af.xW,af.eH,A0i,A0v]
   cases σ.tmps[t]? with
   | none=>exact hj.symm
   | some _=>rfl
  rw[AH]
  exact hrd _ _ (h.tmps t)
 ·rcases sN hy with⟨rfl,rfl⟩ | ⟨ho,hok,y1,hy1,rfl⟩
  ·refine⟨_,hx',nR hst (bp.refl _ _) rfl (fun i x hi hx=>⟨hi,tv _ (hst.gF hi hx),rfl⟩) (fun _=>Iff.rfl) (fun e sz' cs' he=>?_) (fun bH he=>by cases he) jk,rfl⟩
   cases he
   exact uU
  ·have:=(h.cn o y1 hy1).vH (bp.refl _ _) o8 (fun e=>absurd e ho) (fun hf=>hf) (fun _ hf=>hf.elim) (fun _ _=>rfl) (fun b off _ hs=>hs)
   cases y1 with
   | box cs=>
    obtain⟨vs,ty,g1,g2,g3,g4,g5⟩:=this
    refine⟨vs,ty,g1,by simpa using g2,g3,fun i v c hv hc=>?_,g5⟩
    simp only[A0v,A0b] at hc
    obtain⟨c',tC,rfl⟩:=hc
    exact hf _ _ hst.n (g4 i v c' hv tC)
   | _=>exact this
 ·rcases sN h1 with⟨rfl,rfl⟩ | ⟨ho,hok,y1,hy1,rfl⟩ <;> rcases sN h2 with⟨rfl,rfl⟩ | ⟨ho',M5,y2,SZ,rfl⟩
  ·rfl
  ·rw[js,CG o' y2 ho' SZ] at q9
   rcases lY with lY | rfl
   ·exact h.inj aO o' _ _ b bW SZ lY q9
   ·exact absurd (h.inj o' k _ _ _ SZ hk q9 hz) M5
  ·rw[js,CG o y1 ho hy1] at lY
   rcases q9 with q9 | rfl
   ·exact h.inj o aO _ _ b hy1 bW lY q9
   ·exact absurd (h.inj o k _ _ _ hy1 hk lY hz) hok
  ·rw[js,CG o y1 ho hy1] at lY
   rw[js,CG o' y2 ho' SZ] at q9
   exact h.inj o o' _ _ b hy1 SZ lY q9
 ·rcases sN hy with⟨rfl,rfl⟩ | ⟨ho,hok,y1,hy1,rfl⟩
  ·rcases hb with hb | rfl
   ·have:=h.own aO (.store cf x) b bW hb
    exact this
   ·refine⟨.inr (ED.1.resolve_left ?_),ED.2⟩
    rintro⟨e,_⟩
    rw[hro] at e
    cases e
  ·rw[js,CG o y1 ho hy1] at hb
   have:=h.own o y1 b hy1 hb
   refine⟨?_,this.2⟩
   cases y1 <;> exact this.1

theorem bE.JG (h:bE w0 X w a σ env ρ)(k:Nat):∃ρ',bE w0 X w a (σ.JG k) env ρ':=by
 unfold af.JG
 split
 ·rename_i cf hx bW
  split
  ·exact⟨ρ,h⟩
  obtain⟨bs,eO,hst,_⟩:=h.cn _ _ bW
  split
  ·rename_i x sz hk
   split
   ·rename_i hsz
    have K7:k≠aO:=fun e=>by rw[e,bW] at hk;cases hk
    obtain⟨vs,ty,es,hh,wV,hz,hvs,hr,hval,hm,jk⟩:=h.cn _ _ hk
    have hrow:iP w ρ.S sz vs.toList es:=⟨by simpa using hvs,hz,fun i e j d he hd=>by
     obtain⟨g1,v,g2,g3⟩:=hr i e j d he hd
     exact⟨g1,v,by simpa using g2,g3⟩⟩
    obtain⟨hall,hfl,hfr⟩:=hrow.flat hsz
    have hone:(bI es).all (·.one)=true:=A0z.2 fun d hd=>by
     obtain⟨j,hj⟩:=List.getElem?_of_mem hd
     have hjl:=(A0a.1 hj).1
     exact(hfr j vs.toList[j] d (by rw[A0f (by rw[←hfl];exact hjl)]) hj).2
    refine⟨_,h.V0 (n:=es.length) (cs:=bI es) hk rfl rfl jk bW K7 eO ⟨vs,⟨ty,hh,.inl rfl⟩,hvs,by rw[hfl];simp,fun j d hj=>A0z.1 hone d (B0i hj),fun j v d hv hd=>(hfr j v d (by simpa using hv) hd).1⟩ (by simp only[E.eval,eO,wV,A0d,D.dR];rw[if_pos ⟨hall,hone⟩]) (fun v sv hn hv=>?_) rfl⟩
    unfold SV.VZ
    split
    ·rename_i o
     split
     ·rename_i e
      subst e
      rw[hv.nT]
      refine .e (d:=.sl bs.length 0 es.length) (by simp only[E.eval,eO,wV];rfl) ?_ fun _=>rfl
      show aZ w _ (ρ.val o) _
      rw[hval]
      have:=aZ.sl (w:=w) (S:=ρ.S.more (ρ.bh o) es.length) (i:=bs.length) (off:=0) (len:=es.length) (c:=es.length) (by simp[Sets.more,hn]) (A0m _) hm (fun _=>by simp[Sets.more,hn])
      have hl:(ρ.S.more (ρ.bh o) es.length).loc bs.length=ρ.bh o:=by simp[Sets.more,hn]
      rwa [hl] at this
     ·exact hv
    ·exact hv
   ·exact⟨ρ,h⟩
  ·rename_i cs hk
   split
   ·rename_i y hy
    have K7:k≠aO:=fun e=>by rw[e,bW] at hk;cases hk
    obtain⟨vs,ty,hh,hsz,ho,hr,jk⟩:=h.cn _ _ hk
    obtain⟨ds,he,hl,hd⟩:=SV.toEs_rd (vs:=vs.toList) hy (by simpa using hsz) (fun i v hv=>ho i v (by simpa using hv)) (fun i v c hv hc=>hr i v c (by simpa using hv) hc)
    have hl':ds.length=vs.size:=by simpa using hl.symm
    have hone:ds.all (·.one)=true:=A0z.2 fun d wo=>by
     obtain⟨j,hj⟩:=List.getElem?_of_mem wo
     have hjl:=(A0a.1 hj).1
     exact(hd j vs.toList[j] d (by rw[A0f (by simp;omega)]) hj).2
    refine⟨_,h.V0 (n:=1) (cs:=ds) hk rfl rfl jk bW K7 eO ⟨vs,⟨ty,hh,.inl rfl⟩,by rw[hsz,Nat.one_mul],by omega,fun j d hj=>A0z.1 hone d (B0i hj),fun j v d hv Ar=>(hd j v d (by simpa using hv) Ar).1⟩ (by simp only[E.eval,eO,he,A0d,D.fK];rw[if_pos hone]) (fun v sv hn hv=>?_) rfl⟩
    unfold SV.V1
    split
    ·rename_i o
     split
     ·rename_i e
      subst e
      rw[hv.iN]
      refine .e (d:=.loc bs.length 0) (by simp only[E.eval,eO];rfl) ?_ fun _=>rfl
      have:=aZ.loc (w:=w) (S:=ρ.S.more (ρ.bh o) 1) (i:=bs.length) (off:=0) (by simp[Sets.more,hn])
      have hl:(ρ.S.more (ρ.bh o) 1).loc bs.length=ρ.bh o:=by simp[Sets.more,hn]
      rwa [hl] at this
     ·exact hv
    ·exact hv
   ·exact⟨ρ,h⟩
  ·exact⟨ρ,h⟩
 ·exact⟨ρ,h⟩

theorem bE.oN (h:bE w0 X w a σ env ρ)(k:Nat):∃ρ',bE w0 X w a (oN k σ) env ρ':=by
 unfold Go.Am.oN
 split
 ·exact h.JG _
 ·exact h.Kt k

theorem bE.p8:∀(ks:List Nat) {σ:af} {ρ:cr},bE w0 X w a σ env ρ→∃ρ',bE w0 X w a (p8 ks σ) env ρ'
 | [],_,ρ,h=>⟨ρ,h⟩
 | k :: ks,_,_,h=>by
  obtain⟨_,h'⟩:=h.oN k
  exact bE.p8 ks h'

theorem bE.tG (h:bE w0 X w a σ env ρ)(id:Nat):∃ρ',bE w0 X w a (tG id σ) env ρ':=by
 unfold Go.Am.tG
 split
 ·exact h.p8 _
 ·exact⟨ρ,h⟩

theorem Qf (k:Nat)(σ:af):(σ.Kt k).tmps.length=σ.tmps.length∧(σ.Kt k).mem.length=σ.mem.length:=by
 unfold af.Kt
 split
 ·refine⟨by simp,?_⟩
  show(σ.setObj k none).mem.length=_
  exact af.ei _ _ _
 ·split
  ·refine⟨by simp,?_⟩
   show(σ.setObj k none).mem.length=_
   exact af.ei _ _ _
  ·exact⟨rfl,rfl⟩
 ·exact⟨rfl,rfl⟩

theorem DK (k:Nat)(f:SV→SV)(y:aE)(σ:af):(σ.xW k f y).tmps.length=σ.tmps.length∧(σ.xW k f y).mem.length=σ.mem.length:=by
 simp[af.xW]

theorem Hq (k:Nat)(σ:af):(oN k σ).tmps.length=σ.tmps.length∧(oN k σ).mem.length=σ.mem.length:=by
 unfold oN
 split
 ·unfold af.JG
  split
  ·split
   ·exact⟨rfl,rfl⟩
   split
   ·split
    ·exact DK _ _ _ _
    ·exact⟨rfl,rfl⟩
   ·split
    ·exact DK _ _ _ _
    ·exact⟨rfl,rfl⟩
   ·exact⟨rfl,rfl⟩
  ·exact⟨rfl,rfl⟩
 ·exact Qf k σ

theorem zq:∀(ks:List Nat) (σ:af),(p8 ks σ).tmps.length=σ.tmps.length∧(p8 ks σ).mem.length=σ.mem.length
 | [],_=>⟨rfl,rfl⟩
 | k :: ks,σ=>by
  have h1:=zq ks (oN k σ)
  have h2:=Hq k σ
  exact⟨h1.1.trans h2.1,h1.2.trans h2.2⟩

theorem Ks (id:Nat)(σ:af):(tG id σ).tmps.length=σ.tmps.length∧(tG id σ).mem.length=σ.mem.length:=by
 unfold tG
 split
 ·exact zq _ _
 ·exact⟨rfl,rfl⟩

end
end
end

section
noncomputable section

/-! ## evaluation ahead of use (for the kernel: the functions change nothing) -/

def BG (act:List (E×Bool))(ix:Nat)(e:gO):SV×Option Bind:=
 match act,e.bind,e.val with
 | _ :: _,none,.e x s=>if isAtom ix x then(e.val,none) else(.e (.sym ix) s,some (.ev x))
 | _,b,v=>(v,b)

def wT (o:Oper):Bool:=match o.op with | .call c=>(match c.callee with | .value _=>true | _=>false) | _=>false

def Mm (o:Oper)(cf:Option bV):Bool:=match o.op with | .call c=>s6 cf c.callee | _=>false

def j4 (o:Oper)(hO:Option aE)(ix:Nat)(e:gO):Bool:=
 !Mm o (py hO)&&(wT o&&e.del.isNone&&match hO,e.cA with
  | some (.store cf h),some (k,.store tP (.au 1 (.sym j)))=>!cf.ro&&decide (k=aO)&&decide (cf=tP)&&decide (j=ix)&&(match e.bind with
   | some (.bA [] _ h' _ _)=>h'.same h
   | some (.dA [] _ h' _ _)=>h'.same h
   | _=>false)
  | _,_=>false)

def Hl (P:Program)(o:Oper)(σ:af)(act:List (E×Bool))(ix:Nat):Option gO:=
 match act with
 | []=>none
 | act=>match o.op with
  | .call c=>(match c.callee with
   | .builtin .append=>(match yA false P o (σ.aH act) σ.obj ix with
    | some e=>(match e.cA with
     | some (d,.tok _ _)=>if d≠aO∧o.dst=some d then some ⟨.cond act e.val,e.cA,e.del,nu act e.bind⟩ else none
     | _=>none)
    | none=>none)
   | _=>none)
  | _=>none

def jP (P:Program)(ops:Array Oper)(o:Oper)(σ:af)(ix:Nat):Option gO:=
 match v_ ops σ ix o.guard with
 | none=>none
 | some act=>match Hl P o σ act ix with
  | some e=>some e
  | none=>match qc P o σ.aH act σ.obj ix with
  | none=>none
  | some e=>if e.cA.isNone&&e.del.isNone then some ⟨Lj act (BG act ix e).1,none,none,nu act (BG act ix e).2⟩ else match act with
   | []=>if ux o σ e then some e else none
   | act=>if j4 o (σ.obj aO) ix e then some ⟨.cond act e.val,e.cA,none,nu act e.bind⟩ else none

def kY (σ:af)(ob:Nat):Prop:=(σ.obj ob).isNone=true∧σ.iw ob=true

def nv (σ:af)(o:Oper)(e:gO):Bool:=!fe o||match e.cA with | some u=>decide (u.1=aO)||((σ.obj u.1).isNone&&σ.iw u.1) | none=>true

def kx (P:Program)(ops:Array Oper)(o:Oper)(σ:af)(ix:Nat):Option (af×Option Bind):=
 match jP P ops o σ ix with
 | some e=>if mz σ o&&nv σ o e then some (σ.app o.dst e,e.bind) else none
 | none=>none

theorem qP {P:Program}{ops:Array Oper}{o:Oper}{σ:af}{ix:Nat}{e:gO}(h:jP P ops o σ ix=some e)(hd:mz σ o=true)(hf:fe o=true→∀u,e.cA=some u→u.1=aO∨kY σ u.1) :
  kx P ops o σ ix=some (σ.app o.dst e,e.bind):=by
 have:nv σ o e=true:=by
  unfold nv
  cases hn:fe o with
  | false=>rfl
  | true=>
   cases hu:e.cA with
   | none=>rfl
   | some u=>
    rcases hf hn u hu with h1 | h1
    ·simp[h1]
    ·simp[h1.1,h1.2]
 unfold kx
 rw[h]
 simp[hd,this]

section
variable {P:Program} {w w0:World} {X:gB} {a:Act} {σ:af} {env:List D} {ρ:cr}

theorem Ol {act:List (E×Bool)}{ix:Nat}{e:gO}(h:aY P env ix (BG act ix e).2):aY P env ix e.bind∧∀(w:World) (ρ:cr) (v:Value),cu w ρ env v e.val→cu w ρ env v (BG act ix e).1:=by
 unfold BG at h ⊢
 split at h
 ·rename_i hb hv
  split at h
  ·rename_i nr
   rw[if_pos nr]
   exact⟨by rw[hb];trivial,fun _ _ _ h=>h⟩
  ·rename_i nr
   rw[if_neg nr]
   refine⟨by rw[hb];trivial,fun w ρ v hs=>?_⟩
   rw[hv] at hs
   obtain⟨d,hx,bQ⟩:=h
   obtain⟨d',hx',hr,h1⟩:=hs.gj
   rw[hx] at hx'
   cases hx'
   exact .e (by simp only[E.eval];exact bQ) hr h1
 ·exact⟨h,fun _ _ _ h=>h⟩

theorem Hj {o:Oper}{act:List (E×Bool)}{ix:Nat}{e:gO}(h:bE w0 X w a σ env ρ)(hm:σ.mem.length=σ.tmps.length)(hd:∀d,o.dst=some d→d<σ.tmps.length)(hg:Hl P o σ act ix=some e)(hf:nv σ o e=true)(hb:aY P env ix e.bind)(mJ:∀p,p∈act→∃d,p.1.eval env=some d) :
  (aQ env act→cX P o a w w0 X (σ.app o.dst e) env)∧(¬aQ env act→∃ρ',bE w0 X w (a.put o.dst undef) (σ.app o.dst e) env ρ'):=by
 unfold Hl at hg
 split at hg
 ·cases hg
 rename_i hact
 split at hg
 ·rename_i c ho
  split at hg
  ·rename_i iB
   split at hg
   ·rename_i e0 hl
    split at hg
    ·rename_i d ty sz S6
     split at hg
     ·rename_i hc
      obtain⟨hne,fu⟩:=hc
      cases hg
      have eM:=hd d fu
      have hnew:fe o=true:=by simp[fe,ho,iB]
      simp only[nv,hnew,S6,Bool.not_true,Bool.false_or,Bool.or_eq_true,decide_eq_true_eq,A0g,B0q] at hf
      obtain⟨hfree,kN⟩:=hf.resolve_left hne
      have kN:=tS kN
      refine⟨fun ha=>?_,fun ha=>?_⟩
      ·have hv:=fun x=>ox (a:=a) h ha x
       have hf':∀u,e0.cA=some u→σ.obj u.1=none∧σ.aB u.1:=fun u hu=>by
        rw[S6] at hu
        cases hu
        exact⟨hfree,kN⟩
       have hb0:=oL ha hb
       have hok:cX P o a w w0 X (σ.app o.dst e0) env:=by
        unfold yA at hl
        rw[ho] at hl
        obtain⟨callee,args,ts⟩:=c
        simp only at iB
        subst iB
        simp only at hl
        split at hl
        ·rename_i s x t t' hargs hts
         split at hl
         ·rename_i I0
          subst I0
          have e1:args=#[s,x]:=by rw[←B0g (xs:=args),hargs]
          have e2:ts=#[t,t]:=by rw[←B0g (xs:=ts),hts]
          subst e1 e2
          split at hl
          ·rename_i kV
           exact pU ho kV hl (hv x) h hd hm hb0 hf'
          ·exact qV ho hl (hv s) (hv x) h hd hm hb0 hf'
         ·cases hl
        ·cases hl
       intro Q
       refine uj (hok Q) ?_
       rintro a' w' ⟨ρ',aG⟩
       refine⟨ρ',?_⟩
       unfold af.app at aG ⊢
       rw[fu] at aG ⊢
       simp only at aG ⊢
       generalize hσ:(σ.gy e0.del).sets e0.cA=σ1 at aG ⊢
       have K6:d<σ1.tmps.length:=by
        rw[←hσ]
        unfold af.gy af.sets
        cases e0.del <;> cases e0.cA <;> simpa[af.aA] using eM
       refine⟨by simpa[af.ep] using aG.size,fun t=>?_,aG.cn,aG.inj,aG.own,aG.cells,aG.os,aG.tape,aG.output,aG.grown,aG.old,aG.sub,aG.new,aG.su,aG.hold⟩
       have:=aG.tmps t
       rw[af.sC K6] at this ⊢
       split
       ·rename_i e;rw[if_pos e] at this;exact .cond mJ (fun _=>this) fun hn=>absurd ha hn
       ·rename_i e;rw[if_neg e] at this;exact this
      ·have kI:bE w0 X w a (σ.gy e0.del) env ρ∧(σ.gy e0.del).obj d=none∧(σ.gy e0.del).aB d∧(σ.gy e0.del).tmps.length=σ.tmps.length∧(σ.gy e0.del).mem.length=σ.mem.length:=by
        cases e0.del with
        | none=>exact⟨h,hfree,kN,rfl,rfl⟩
        | some k=>
         refine⟨h.N2 k,?_,rz kN,by rw[af.gy,af.aA],by rw[af.gy,af.ei]⟩
         cases hx:(σ.setObj k none).obj d with
         | none=>exact hx
         | some y=>
          have:=(jx hx).2
          rw[hfree] at this
          cases this
       obtain⟨d1,d2,d3,d4,d5⟩:=kI
       have aG:=d1.Ag (w':=w) (k:=d) (by rw[d5,hm];exact eM) d2 d3 (World.ownsRow_nil w 0 ty sz) (bp.refl _ _) (fun _ _ _ _ _=>⟨rfl,by simp[Value.ownBlock]⟩) (fun _ hb=>by simp[Value.ownBlock] at hb) (fun _ hb=>by simp[Value.ownBlock] at hb) rfl ⟨rfl,A0m _⟩ rfl (A0m _) fun _ _ _=>rfl
       refine⟨ρ.iQ d (.slice none 0 0) (0*sz),?_⟩
       unfold af.app
       rw[S6]
       exact aG.put (by intro d' e;rw[af.aA,d4];exact hd d' e) (.cond mJ (fun hh=>absurd hh ha) fun _=>rfl)
     ·cases hg
    ·cases hg
   ·cases hg
  ·cases hg
 ·cases hg

theorem vv {ops:Array Oper} {o:Oper} {ix:Nat} {σ':af} {b:Option Bind} (h:bE w0 X w a σ env ρ) (hm:σ.mem.length=σ.tmps.length) (bQ:ix≤env.length) (hsz:∀(j d:Nat),(ops[j]?).bind (fun(o:Oper)=>o.dst)=some d→d<σ.tmps.length)
  (hs:kx P ops o σ ix=some (σ',b)) (hb:aY P env ix b):(Region.wanted o (yielded ops a.tmps)=true∧cX P o a w w0 X σ' env)∨(Region.wanted o (yielded ops a.tmps)=false∧∃ρ',bE w0 X w (a.put o.dst undef) σ' env ρ'):=by
 unfold kx at hs
 split at hs
 ·rename_i e he
  split at hs
  ·rename_i hc
   simp only[A0g] at hc
   cases hs
   have hd:=rZ hc.1
   unfold jP at he
   split at he
   ·cases he
   ·rename_i act hact
    obtain⟨mJ,tg⟩:=FO h bQ hsz hact
    split at he
    ·rename_i eg hg
     cases he
     obtain⟨k1,k2⟩:=Hj h hm hd hg hc.2 hb mJ
     by_cases ha:aQ env act
     ·exact .inl ⟨tg.2 ha,k1 ha⟩
     ·exact .inr ⟨by rw[←B0h,tg];exact ha,k2 ha⟩
    split at he
    ·cases he
    ·rename_i e0 hl
     split at he
     ·rename_i hn
      simp only[A0g,B0q] at hn
      cases he
      have Km:∀sv,σ.app o.dst ⟨sv,none,none,nu act (BG act ix e0).2⟩=σ.put o.dst sv:=fun _=>rfl
      rw[Km]
      by_cases ha:aQ env act
      ·refine .inl ⟨tg.2 ha,?_⟩
       obtain⟨FI,hatom⟩:=Ol (oL ha hb)
       have hok:=qb h ha hl hd hm FI (by simp[u5,hn.1]) (fun _=>by simp[hn.1,hn.2])
       have Ny:σ.app o.dst e0=σ.put o.dst e0.val:=by simp[af.app,af.gy,af.sets,hn.1,hn.2]
       rw[Ny] at hok
       intro Q
       refine uj (hok Q) ?_
       rintro a' w' ⟨ρ',aG⟩
       refine⟨ρ',?_⟩
       cases Di:o.dst with
       | none=>rw[Di] at aG;exact aG
       | some d=>
        rw[Di] at aG
        have eM:=hd d Di
        refine⟨by simpa[af.ep] using aG.size,fun t=>?_,aG.cn,aG.inj,aG.own,aG.cells,aG.os,aG.tape,aG.output,aG.grown,aG.old,aG.sub,aG.new,aG.su,aG.hold⟩
        have:=aG.tmps t
        rw[af.sC eM] at this ⊢
        split
        ·rename_i e;rw[if_pos e] at this;exact OW mJ ha (hatom _ _ _ this)
        ·rename_i e;rw[if_neg e] at this;exact this
      ·refine .inr ⟨by rw[←B0h,tg];exact ha,ρ,h.put hd ?_⟩
       cases act with
       | nil=>exact absurd lq ha
       | cons p r=>exact .cond mJ (fun hh=>absurd hh ha) fun _=>rfl
     ·split at he
      ·split at he
       ·rename_i MU
        cases he
        have ha:aQ env []:=lq
        refine .inl ⟨tg.2 ha,qb h ha hl hd hm hb ?_ fun _ _=>rfl⟩
        intro hnew u hu hne
        have hf:=hc.2
        simp only[nv,hnew,hu,Bool.not_true,Bool.false_or,Bool.or_eq_true,decide_eq_true_eq,A0g,B0q] at hf
        have hf:=hf.resolve_left hne
        exact⟨hf.1,tS hf.2,Dz MU hnew hu hne⟩
       ·cases he
      ·rename_i hne
       split at he
       ·rename_i K9
        cases he
        unfold j4 at K9
        simp only[A0g] at K9
        obtain⟨_,⟨qB,kI⟩,K9⟩:=K9
        split at K9
        ·rename_i cf hE k tP j bW IZ
         simp only[A0g,Bool.not_eq_true',decide_eq_true_eq] at K9
         obtain⟨⟨⟨⟨hro,rfl⟩,rfl⟩,rfl⟩,TE⟩:=K9
         have kI:e0.del=none:=by simpa using kI
         have Km:∀sv b,σ.app o.dst ⟨sv,e0.cA,none,b⟩=(σ.setObj aO (some (.store cf (.au 1 (.sym j))))).put o.dst sv:=fun sv b=>by simp[af.app,af.gy,af.sets,IZ]
         rw[Km]
         have hnew:fe o=false:=by
          unfold wT at qB
          unfold fe
          split at qB
          ·rename_i c hop
           rw[hop]
           split at qB
           ·rename_i g hc
            simp[hc]
           ·cases qB
          ·cases qB
         by_cases ha:aQ env act
         ·refine .inl ⟨tg.2 ha,?_⟩
          have hok:=qb h ha hl hd hm (oL ha hb) (by simp[u5,hnew]) (fun hn=>by rw[hnew] at hn;cases hn)
          have Ny:σ.app o.dst e0=(σ.setObj aO (some (.store cf (.au 1 (.sym j))))).put o.dst e0.val:=by rw[←Km e0.val e0.bind,←kI]
          rw[Ny] at hok
          intro Q
          refine uj (hok Q) ?_
          rintro a' w' ⟨ρ',aG⟩
          refine⟨ρ',?_⟩
          cases Di:o.dst with
          | none=>rw[Di] at aG;exact aG
          | some d=>
           rw[Di] at aG
           have eM:d<(σ.setObj aO (some (.store cf (.au 1 (.sym j))))).tmps.length:=by rw[af.aA];exact hd d Di
           refine⟨by simpa[af.ep] using aG.size,fun t=>?_,aG.cn,aG.inj,aG.own,aG.cells,aG.os,aG.tape,aG.output,aG.grown,aG.old,aG.sub,aG.new,aG.su,aG.hold⟩
           have:=aG.tmps t
           rw[af.sC eM] at this ⊢
           split
           ·rename_i e;rw[if_pos e] at this;exact .cond mJ (fun _=>this) fun hn=>absurd ha hn
           ·rename_i e;rw[if_neg e] at this;exact this
         ·refine .inr ⟨by rw[←B0h,tg];exact ha,?_⟩
          obtain⟨bs,eO,hst,_⟩:=h.cn _ _ bW
          have hna:¬aQ env (act++[]):=by rw[List.append_nil];exact ha
          have bQ:(E.au 1 (.sym j)).eval env=some (.st bs):=by
           split at TE
           ·rename_i g h' args rs TF
            rw[TF] at hb
            obtain⟨st,d,h2,g0,g1,_,g3⟩:=hb
            have:=E.b_ TE
            subst this
            rw[eO] at g0
            cases g0
            simp only[E.eval,g1,A0d,D.au,g3 hna]
            rfl
           ·rename_i x h' args rs TF
            rw[TF] at hb
            obtain⟨st,d,h2,g0,g1,_,g3⟩:=hb
            have:=E.b_ TE
            subst this
            rw[eO] at g0
            cases g0
            simp only[E.eval,g1,A0d,D.au,g3 hna]
            rfl
           ·cases TE
          have aG:=h.eI (x':=.au 1 (.sym j)) bW hro bQ hst (bp.refl _ _) (Sets.le_refl _) rfl ⟨rfl,A0m _⟩ rfl (A0m _) (fun _ _ _=>rfl) (fun b hb=>⟨.inl hb,eC h bW b hb⟩) (fun b o hs=>.inl hs) h.cells
          exact⟨_,aG.put (by rw[af.aA];exact hd) (.cond mJ (fun hh=>absurd hh ha) fun _=>rfl)⟩
        ·cases K9
       ·cases he
  ·cases hs
 ·cases hs

theorem vw {ops:Array Oper}{o:Oper}{ix:Nat}{x:af×Option Bind}(hs:kx P ops o σ ix=some x):qv o=true:=by
 unfold kx at hs
 split at hs
 ·split at hs
  ·rename_i hc
   simp only[A0g] at hc
   exact qd hc.1
  ·cases hs
 ·cases hs

theorem C7 (σ:af)(dst:Option Tmp)(e:gO):(σ.app dst e).tmps.length=σ.tmps.length∧(σ.app dst e).mem.length=σ.mem.length:=by
 unfold af.app af.gy af.sets
 cases e.del <;> cases e.cA <;> cases dst <;> simp[af.ep,af.aA,af.ei]

theorem JA {ops:Array Oper}{o:Oper}{ix:Nat}{σ':af}{b:Option Bind}(hs:kx P ops o σ ix=some (σ',b)):σ'.tmps.length=σ.tmps.length∧σ'.mem.length=σ.mem.length:=by
 unfold kx at hs
 split at hs
 ·split at hs
  ·cases hs;exact C7 _ _ _
  ·cases hs
 ·cases hs

def qI (P:Program)(env:List D)(ix:Nat)(bs:List Bind):Prop:=∀i b,bs[i]? = some b→aY P env (ix+i) (some b)

end
end
end

section
noncomputable section

/-! ## what an operation looks at -/

section congr
variable {P:Program} {obj eK:Nat→Option aE} {ix:Nat}

theorem rp {agg:Bool}{n:Nat}{x:SV}(h:∀ob,x.aB ob=false→obj ob=eK ob):x.cellsOf agg n ix obj=x.cellsOf agg n ix eK:=by
 unfold SV.cellsOf
 split
 ·rfl
 ·cases x <;> try rfl
  ·rename_i y s;cases s <;> rfl
  ·rename_i o
   simp only
   rw[h o (by simp[SV.aB])]

theorem Ed {t:TypeId}{x:SV}(h:∀ob,x.aB ob=false→obj ob=eK ob)(hh:(∃e s,x=.e e s)→obj aO=eK aO):Bj P t x obj ix=Bj P t x eK ix:=by
 unfold Bj UT
 cases x <;> try rfl
 ·rw[hh ⟨_,_,rfl⟩]
 ·rename_i ob off
  simp only
  rw[h ob (by simp[SV.aB])]
 ·rename_i ob i sz off
  simp only
  rw[h ob (by simp[SV.aB])]

theorem Cf {t:TypeId}{x y:SV}(h:∀ob,x.aB ob=false→obj ob=eK ob)(h':∀ob,y.aB ob=false→obj ob=eK ob)(hh:(∃e s,x=.e e s)→obj aO=eK aO):uK P t x y obj ix=uK P t x y eK ix:=by
 unfold uK
 have hc:∀agg n,y.cellsOf agg n ix obj=y.cellsOf agg n ix eK:=fun agg n=>rp h'
 cases x <;> try rfl
 ·rw[hh ⟨_,_,rfl⟩]
 ·rename_i ob off
  simp only[hc]
  rw[h ob (by simp[SV.aB])]
 ·rename_i ob i sz off
  simp only
  rw[h ob (by simp[SV.aB])]

theorem uN {t:TypeId}{x i:SV}(h:∀ob,x.aB ob=false→obj ob=eK ob):jT P t x i obj ix=jT P t x i eK ix:=by
 unfold jT
 cases x <;> try rfl
 rename_i ob
 simp only
 rw[h ob (by simp[SV.aB])]

theorem GI {t:TypeId}{x:SV}(h:∀ob,x.aB ob=false→obj ob=eK ob):JW P t x obj ix=JW P t x eK ix:=by
 unfold JW
 cases x <;> try rfl
 rename_i ob
 simp only
 rw[h ob (by simp[SV.aB])]

theorem GR {t:TypeId}{x:SV}{dst:Option Tmp}(h:∀ob,x.aB ob=false→obj ob=eK ob):GS P t x dst obj ix=GS P t x dst eK ix:=by
 unfold GS
 split
 ·rw[rp h]
 ·rfl

theorem By {obj:Nat→Option aE}{cf:bV}(h:eP obj=some cf):∃x,obj aO=some (.store cf x):=by
 unfold eP at h
 split at h
 ·rename_i x hx
  cases h
  exact⟨_,hx⟩
 ·cases h

theorem D1 {o:Oper} {aH dK:List (E×Bool)→Operand→SV} {act:List (E×Bool)} (hv:∀act x,x∈o.op.operands→dK act x=aH act x)
  (ho:∀x ob,x∈o.op.operands→(aH act x).aB ob=false→obj ob=eK ob) {m:Operand→Bool} (hM:∀act x,x∈o.op.operands→(∃e s,aH act x=.e e s)→m x=true) (hF:∀act g,aH act (.func g)=.func (.func g) []) (hC:eP obj=eP eK) (hH:dN o m (eP obj)=true→obj aO=eK aO):sZ P o dK act eK ix=sZ P o aH act obj ix:=by
 unfold sZ
 unfold dN at hH
 generalize hop:o.op=op at *
 cases op <;> try rfl
 all_goals try simp only[Op.operands] at hv ho hM
 case move x=>simp[hv]
 case assign x=>simp[hv]
 case pick c a b=>simp[hv]
 case box t x=>simp only;rw[hv act x (by simp),GR (fun ob h=>ho x ob (by simp) h)]
 case load t x=>simp only;rw[hv act x (by simp),Ed (fun ob h=>ho x ob (by simp) h) (fun he=>hH (hM act x (by simp) he))]
 case store t x y=>simp only;rw[hv act x (by simp),hv act y (by simp),Cf (fun ob h=>ho x ob (by simp) h) (fun ob h=>ho y ob (by simp) h) (fun he=>hH (hM act x (by simp) he))]
 case nilCheck x=>simp[hv]
 case binOp=>simp[hv]
 case unOp=>simp[hv]
 case convert=>simp[hv]
 case fieldAddr=>simp[hv]
 case indexAddr t x i=>simp only;rw[hv act x (by simp),hv act i (by simp),uN (fun ob h=>ho x ob (by simp) h)]
 case extract=>simp[hv]
 case call c=>
  obtain⟨callee,args,ts⟩:=c
  simp only
  have hargs:∀x,x∈args→x∈(Call.mk callee args ts).operands:=by
   intro x hx
   unfold Call.operands
   simp
   cases callee <;> simp[hx]
  split
  ·split
   ·rename_i x t hx ht
    have:x∈args:=by
     have:x∈args.toList:=by rw[hx];simp
     simpa using this
    rw[hv act x (hargs x this),GI (fun ob h=>ho x ob (hargs x this) h)]
   ·rfl
  rotate_left
  ·rename_i rc name
   have hr:rc∈(Call.mk (.invoke rc name) args ts).operands:=by
    unfold Call.operands
    simp
   rw[hv act rc hr]
   have:args.toList.map (dK act)=args.toList.map (aH act):=List.map_congr_left fun x hx=>hv act x (hargs x (by simpa using hx))
   rw[this]
   have hHH:=hH rfl
   unfold linv m9 UT
   rw[hHH]
  rotate_left
  ·rename_i f
   have hf:f∈(Call.mk (.value f) args ts).operands:=by
    unfold Call.operands
    simp
   rw[hv act f hf]
   have:args.toList.map (dK act)=args.toList.map (aH act):=List.map_congr_left fun x hx=>hv act x (hargs x (by simpa using hx))
   rw[this]
   cases ji:s6 (eP obj) (.value f) with
   | false=>
    have hHH:=hH (by simp only[ji];rfl)
    unfold m9 Cq
    rw[hHH]
   | true=>
    unfold s6 at ji
    split at ji
    ·rename_i g hg
     cases hg
     split at ji
     ·rename_i cf uf
      rw[hF act g]
      simp only
      obtain⟨h1,e1⟩:=By uf
      obtain⟨h2,e2⟩:=By (hC ▸ uf)
      unfold m9
      rw[e1,e2]
      split
      ·split
       ·rfl
       ·cases scalars P _ with
        | none=>rfl
        | some rs=>
         cases toEAll (List.map (aH act) args.toList) with
         | none=>rfl
         | some xs=>simp only[ji,if_true]
      ·rfl
     ·cases ji
    ·cases ji
  ·rfl
 case build t parts=>
  simp only
  have h1:parts.toList.map (fun p=>(p.1,oV eK (dK act p.2)))=parts.toList.map fun p=>(p.1,oV obj (aH act p.2)):=List.map_congr_left fun p hp=>by
   have hm:p.2∈(parts.toList.map (·.2)).toArray:=by simp;exact⟨p.1,by simpa using hp⟩
   rw[hv act p.2 hm]
   congr 1
   unfold oV
   split <;> try rfl
   rename_i k hk
   rw[ho p.2 k hm (by rw[hk];simp[SV.aB])]
  unfold wR
  rw[h1]
 case makeFunc fn first bF=>
  simp only
  have h1:first.toList.map (dK act)=first.toList.map (aH act):=List.map_congr_left fun x hx=>hv act x (by simp;exact .inl (by simpa using hx))
  have h2:bF.toList.map (dK act)=bF.toList.map (aH act):=List.map_congr_left fun x hx=>hv act x (by simp;exact .inr (by simpa using hx))
  rw[h1,h2]

theorem AG {t:TypeId}{s x:SV}{dst:Option Tmp}(h:∀ob,s.aB ob=false→obj ob=eK ob):qy P t s x dst obj ix=qy P t s x dst eK ix:=by
 unfold qy
 split
 ·rename_i k _
  rw[h k (by simp[SV.aB])]
 ·rfl

theorem yz {nz:Bool}{o:Oper}{aH dK:Operand→SV}(hv:∀x,x∈o.op.operands→dK x=aH x)(ho:∀x ob,x∈o.op.operands→(aH x).aB ob=false→obj ob=eK ob):yA nz P o dK eK ix=yA nz P o aH obj ix:=by
 unfold yA
 generalize hop:o.op=op at *
 cases op <;> try rfl
 case buildSlice t len parts=>
  simp only
  have:parts.toList.map (fun p=>dK p.2)=parts.toList.map fun p=>aH p.2:=List.map_congr_left fun p hp=>hv p.2 (by simp only[Op.operands,List.mem_toArray,B0r];exact⟨p,hp,rfl⟩)
  unfold yE
  rw[this]
 case makeSlice t n c=>simp only;rw[hv n (by simp[Op.operands]),hv c (by simp[Op.operands])]
 case call c=>
  obtain⟨callee,args,ts⟩:=c
  simp only[Op.operands] at hv ho ⊢
  have hargs:∀x,x∈args→x∈(Call.mk callee args ts).operands:=by
   intro x hx
   unfold Call.operands
   simp
   cases callee <;> simp[hx]
  split
  ·split
   ·rename_i s x t t' hx ht
    have h1:s∈args:=by
     have:s∈args.toList:=by rw[hx];simp
     simpa using this
    have h2:x∈args:=by
     have:x∈args.toList:=by rw[hx];simp
     simpa using this
    rw[hv s (hargs s h1),hv x (hargs x h2),AG (fun ob h=>ho s ob (hargs s h1) h)]
   ·rfl
  ·rfl

theorem sS (hC:eP obj=eP eK):yb eK=yb obj:=by unfold yb;rw[hC]

theorem s4 {nz:Bool}{o:Oper}{aH dK:Operand→SV}(hv:∀x,x∈o.op.operands→dK x=aH x):uL P nz o dK ix=uL P nz o aH ix:=by
 unfold uL
 split
 ·rename_i t parts ho
  have:parts.toList.map (fun p=>(p.1,dK p.2))=parts.toList.map fun p=>(p.1,aH p.2):=List.map_congr_left fun p hp=>by
   rw[hv p.2 (by rw[ho];simp only[Op.operands,List.mem_toArray,B0r];exact⟨p,hp,rfl⟩)]
  unfold Cs
  rw[this]
 ·rw[GL hv,D4 hv]

theorem yJ {o:Oper}{aH dK:Operand→SV}{act:List (E×Bool)}(hv:∀x,x∈o.op.operands→dK x=aH x)(hC:eP obj=eP eK):JZ P o dK act eK ix=JZ P o aH act obj ix:=by
 unfold JZ
 generalize hop:o.op=op at *
 cases op <;> try (simp;done)
 case box t x=>
  have h2:=hv x (by simp[Op.operands])
  simp only[MI,hC,h2]
 case buildSlice t len parts=>
  have:parts.toList.map (fun p=>dK p.2)=parts.toList.map fun p=>aH p.2:=List.map_congr_left fun p hp=>hv p.2 (by simp only[Op.operands,List.mem_toArray,B0r];exact⟨p,hp,rfl⟩)
  simp only[MI,hC,yE,this]

theorem eu (obj:Nat→Option aE):eP obj=py (obj aO):=by
 unfold eP py
 split <;> rfl

theorem D6 {o:Oper}{aH dK:Operand→SV}{hO:Option aE}(hv:∀x,x∈o.op.operands→dK x=aH x):pS P o dK hO ix=pS P o aH hO ix:=by
 unfold pS
 generalize hop:o.op=op at *
 cases op <;> try rfl
 case box t x=>simp only[hv x (by simp[Op.operands])]
 case makeSlice t n c=>simp only[hv n (by simp[Op.operands]),hv c (by simp[Op.operands])]
 case buildSlice t len parts=>
  have:parts.toList.map (fun p=>dK p.2)=parts.toList.map fun p=>aH p.2:=List.map_congr_left fun p hp=>hv p.2 (by simp only[Op.operands,List.mem_toArray,B0r];exact⟨p,hp,rfl⟩)
  simp only[yE,this]
 case call c=>
  obtain⟨callee,args,ts⟩:=c
  have hargs:∀x,x∈args.toList→dK x=aH x:=fun x hx=>hv x (by
   have:x∈args:=by simpa using hx
   simp only[Op.operands,Call.operands]
   simp
   cases callee <;> simp[this])
  simp only
  split
  ·split
   ·rfl
   ·split
    ·split
     ·rename_i s x t t' hx _
      rw[hargs s (by rw[hx];simp),hargs x (by rw[hx];simp)]
     ·rfl
    ·rfl
  ·rfl

theorem D5 {o:Oper}{aH:Operand→SV}{hO Qb:Option aE}{m:Operand→Bool}(hC:py hO=py Qb)(hM:∀x,x∈o.op.operands→(∃e s,aH x=.e e s)→m x=true)(hH:dN o m (py hO)=true→hO=Qb):pS P o aH Qb ix=pS P o aH hO ix:=by
 have other:∀{hO:Option aE},py hO=none→pS P o aH hO ix=none:=by
  intro hO h
  unfold pS
  split
  ·simp[py] at h
  ·rfl
 cases hc:py hO with
 | none=>rw[other hc,other (hC ▸ hc)]
 | some cf=>
  obtain⟨h1,rfl⟩:∃h1,hO=some (.store cf h1):=by
   unfold py at hc
   split at hc
   ·cases hc;exact⟨_,rfl⟩
   ·cases hc
  obtain⟨h2,rfl⟩:∃h2,Qb=some (.store cf h2):=by
   rw[hc] at hC
   unfold py at hC
   split at hC
   ·cases hC;exact⟨_,rfl⟩
   ·cases hC
  simp only[py] at hH
  unfold pS
  unfold dN at hH
  generalize hop:o.op=op at *
  cases hd:o.dst with
  | none=>rfl
  | some d=>
   rw[hd] at hH
   have pub:∀{α:Type} {A B:Option α},(cf.xV.contains d=true→(some (aE.store cf h1)=some (aE.store cf h2)))→(h1=h2→A=B)→(if cf.xV.contains d=true then A else none)=(if cf.xV.contains d=true then B else none):=by
    intro α A B h3 h4
    split
    ·rename_i hp
     have:=h3 hp
     simp only[A0u,aE.store.injEq,true_and] at this
     exact h4 this
    ·rfl
   by_cases hro:cf.ro=true
   ·simp only[hro,if_true]
   simp only[hro]
   cases op <;> try rfl
   case alloc t=>exact pub hH fun e=>by subst e;rfl
   case box t x=>exact pub hH fun e=>by subst e;rfl
   case makeSlice t n c=>exact pub hH fun e=>by subst e;rfl
   case buildSlice t len parts=>exact pub hH fun e=>by subst e;rfl
   case call c=>
    obtain⟨callee,args,ts⟩:=c
    cases callee <;> try rfl
    rename_i b
    cases b <;> try rfl
    simp only at hH ⊢
    have key:∀s r,args.toList=s :: r→(∃e q,DR s (aH s)=.e e q)→h1=h2:=by
     intro s r hx he
     have hm:(m s||Bf s)=true:=by
      by_cases hn:Bf s=true
      ·simp[hn]
      ·rw[DR,if_neg hn] at he
       rw[hM s (by
        have:s∈args:=by
         have:s∈args.toList:=by rw[hx];simp
         simpa using this
        simp only[Op.operands,Call.operands]
        simp[this]) he]
       rfl
     rw[hx] at hH
     have:=hH hm
     simpa using this
    clear hH
    cases hx:args.toList with
    | nil=>rfl
    | cons s r=>
     have key:=key s r hx
     cases hs:DR s (aH s) with
     | e e q=>
      have:=key ⟨_,_,hs⟩
      subst this
      rfl
     | _=>
      cases r with
      | nil=>rfl
      | cons x r=>
       cases r with
       | cons _ _=>rfl
       | nil=>
        cases ht:ts.toList with
        | nil=>rfl
        | cons t q=>
         cases q with
         | nil=>rfl
         | cons t' q=>
          cases q with
          | cons _ _=>rfl
          | nil=>simp only[hs]

theorem GA {o:Oper}{aH dK:Operand→SV}(hv:∀x,x∈o.op.operands→dK x=aH x){m:Operand→Bool}(hM:∀x,x∈o.op.operands→(∃e s,aH x=.e e s)→m x=true)(hC:eP obj=eP eK)(hH:dN o m (eP obj)=true→obj aO=eK aO):D7 P o dK eK ix=D7 P o aH obj ix:=by
 unfold D7
 split
 ·rw[D6 hv]
  rw[eu,eu] at hC
  rw[eu] at hH
  exact D5 hC hM hH
 ·rfl

theorem Ea {o:Oper}{aH dK:Operand→SV}(hv:∀x,x∈o.op.operands→dK x=aH x){m:Operand→Bool}(hC:eP obj=eP eK)(hH:dN o m (eP obj)=true→obj aO=eK aO):kM P o dK (eK aO) ix=kM P o aH (obj aO) ix:=by
 have Q9:∀{hO Qb:Option aE},py hO=py Qb→(∀cf h,hO=some (.store cf h)→∀h',kM P o dK (some (.store cf h')) ix=kM P o aH (some (.store cf h)) ix)→kM P o dK Qb ix=kM P o aH hO ix:=by
  intro hO Qb hc hs
  cases uf:py hO with
  | none=>
   have other:∀{aH:Operand→SV} {hO:Option aE},py hO=none→kM P o aH hO ix=none:=by
    intro aH hO h
    unfold kM
    split
    ·simp[py] at h
    ·rfl
   rw[other uf,other (hc ▸ uf)]
  | some cf=>
   obtain⟨h1,rfl⟩:∃h1,hO=some (.store cf h1):=by
    unfold py at uf
    split at uf
    ·cases uf;exact⟨_,rfl⟩
    ·cases uf
   obtain⟨h2,rfl⟩:∃h2,Qb=some (.store cf h2):=by
    rw[uf] at hc
    unfold py at hc
    split at hc
    ·cases hc;exact⟨_,rfl⟩
    ·cases hc
   exact hs cf h1 rfl h2
 have same:dN o m (eP obj)=true→kM P o dK (eK aO) ix=kM P o aH (obj aO) ix:=by
  intro hu
  rw[hH hu]
  unfold kM
  generalize hop:o.op=op at *
  cases op <;> try rfl
  case mapUpdate t m k x=>simp only[hv m (by simp[Op.operands]),hv k (by simp[Op.operands]),hv x (by simp[Op.operands])]
  case insert t m k x=>simp only[hv m (by simp[Op.operands]),hv k (by simp[Op.operands]),hv x (by simp[Op.operands])]
  case makeMap t r=>cases r <;> rfl
  case lookup t m k ok=>simp only[hv m (by simp[Op.operands]),hv k (by simp[Op.operands])]
  case range t m=>simp only[hv m (by simp[Op.operands])]
  case entry it=>simp only[hv it (by simp[Op.operands])]
  case mapEntry t m k=>simp only[hv m (by simp[Op.operands]),hv k (by simp[Op.operands])]
  case entryStore t m s x=>simp only[hv m (by simp[Op.operands]),hv s (by simp[Op.operands]),hv x (by simp[Op.operands])]
  case call c=>
   obtain⟨callee,args,ts⟩:=c
   cases callee <;> try rfl
   rename_i b
   cases b <;> try rfl
   case delete=>
    simp only
    match hx:args.toList with
    | [x,y]=>
     have mem:∀z,z∈[x,y]→z∈(Op.call ⟨.builtin .delete,args,ts⟩).operands:=fun z hz=>by
      have:z∈args:=by
       have:z∈args.toList:=by rw[hx];exact hz
       simpa using this
      simp only[Op.operands,Call.operands]
      simp[this]
     have CC:=hv x (mem x (by simp))
     have hvy:=hv y (mem y (by simp))
     match ts.toList with
     | t :: _=>simp only[CC,hvy]
     | []=>rfl
    | []=>rfl
    | [_]=>rfl
    | _ :: _ :: _ :: _=>rfl
   simp only
   match hx:args.toList with
   | [x]=>
    have CC:=hv x (by
     have:x∈args:=by
      have:x∈args.toList:=by rw[hx];simp
      simpa using this
     simp only[Op.operands,Call.operands]
     simp[this])
    match ts.toList with
    | [t]=>simp only[CC]
    | []=>rfl
    | _ :: _ :: _=>rfl
   | []=>rfl
   | _ :: _ :: _=>rfl
 rw[eu,eu] at hC
 cases hop:o.op
 case makeMap=>exact same (by unfold dN;rw[hop])
 case mapUpdate=>exact same (by unfold dN;rw[hop])
 case insert=>exact same (by unfold dN;rw[hop])
 case lookup=>exact same (by unfold dN;rw[hop])
 case range=>exact same (by unfold dN;rw[hop])
 case entry=>exact same (by unfold dN;rw[hop])
 case mapEntry=>exact same (by unfold dN;rw[hop])
 case entryStore=>exact same (by unfold dN;rw[hop])
 case call c=>
  by_cases hu:dN o m (eP obj)=true
  ·exact same hu
  ·refine Q9 hC fun tP h e h'=>?_
   unfold dN at hu
   rw[hop,eu,e] at hu
   have off:∀{aH:Operand→SV} {h:E},kM P o aH (some (.store tP h)) ix=none:=by
    intro aH h
    unfold kM
    rw[hop]
    simp only
    split
    ·rename_i hb
     simp only[hb,py,B0h] at hu
     split
     ·rename_i x t _ ht
      rw[ht] at hu
      simp only[List.any_cons,List.any_nil,Bool.or_false] at hu
      rw[if_neg (by rw[hu];simp)]
     ·rfl
    ·rename_i hb
     simp[hb] at hu
    ·rfl
   rw[off,off]
 all_goals exact Q9 hC fun cf h _ h'=>by unfold kM;rw[hop]

theorem DZ {o:Oper}{aH dK:Operand→SV}(hv:∀x,x∈o.op.operands→dK x=aH x){m:Operand→Bool}(hH:dN o m (eP obj)=true→obj aO=eK aO):sY P o dK (eK aO) ix=sY P o aH (obj aO) ix:=by
 have off:∀{aH:Operand→SV} {hO:Option aE},(∀t m,o.op≠.range t m)→(∀it,o.op≠.next it true)→sY P o aH hO ix=none:=by
  intro aH hO h1 h2
  unfold sY
  split
  ·split
   ·rfl
   ·split
    ·rename_i h;exact absurd h (h1 _ _)
    ·rename_i h;exact absurd h (h2 _)
    ·rfl
  ·rfl
 by_cases h1:∃t x,o.op=.range t x
 ·obtain⟨t,x,h1⟩:=h1
  rw[hH (by unfold dN;rw[h1])]
  unfold sY
  rw[h1]
  simp only[hv x (by rw[h1];simp[Op.operands])]
 ·by_cases h2:∃x,o.op=.next x true
  ·obtain⟨x,h2⟩:=h2
   rw[hH (by unfold dN;rw[h2])]
   unfold sY
   rw[h2]
   simp only[hv x (by rw[h2];simp[Op.operands])]
  ·rw[off (fun t x h=>h1 ⟨t,x,h⟩) (fun x h=>h2 ⟨x,h⟩),off (fun t x h=>h1 ⟨t,x,h⟩) (fun x h=>h2 ⟨x,h⟩)]

theorem Eg {o:Oper}{aH dK:Operand→SV}(hv:∀x,x∈o.op.operands→dK x=aH x){m:Operand→Bool}(hM:∀x,x∈o.op.operands→(∃e s,aH x=.e e s)→m x=true)(hC:eP obj=eP eK)(hH:dN o m (eP obj)=true→obj aO=eK aO):pT P o dK (eK aO) ix=pT P o aH (obj aO) ix:=by
 have VV:∀hO:Option aE,pT P o dK hO ix=pT P o aH hO ix:=by
  intro hO
  unfold pT
  generalize hop:o.op=op at *
  split
  ·cases op <;> try rfl
   case convert s t x=>simp only[hv x (by simp[Op.operands])]
   case indexAddr t x i=>cases x <;> first | rfl | simp only[hv i (by simp[Op.operands])]
   case call c=>
    obtain⟨callee,args,ts⟩:=c
    have hargs:∀x,x∈args.toList→dK x=aH x:=fun x hx=>hv x (by
     simp only[Op.operands,Call.operands]
     have:x∈args:=by simpa using hx
     simp[this])
    cases callee <;> try rfl
    rename_i b
    cases b <;> try rfl
    all_goals
     simp only
     cases hl:args.toList with
     | nil=>rfl
     | cons x r=>
      cases r with
      | nil=>rfl
      | cons y r=>
       cases r with
       | cons _ _=>rfl
       | nil=>
        have hx:=hargs x (by rw[hl];simp)
        have hy:=hargs y (by rw[hl];simp)
        have hap:∀cf h t t',vG P cf h x dK (dK y) t t' ix=vG P cf h x aH (aH y) t t' ix:=by
         intro cf h t t'
         unfold vG
         rw[hx,hy]
        cases ts.toList with
        | nil=>rfl
        | cons t q=>
         cases q with
         | nil=>rfl
         | cons t' q=>
          cases q with
          | cons _ _=>rfl
          | nil=>first | (simp only[hx,hy];done) | exact hap _ _ _ _
  ·rfl
 rw[VV]
 by_cases hu:dN o m (eP obj)=true
 ·rw[hH hu]
 ·rw[eu,eu] at hC
  rw[eu] at hu
  cases uf:py (obj aO) with
  | none=>
   have other:∀{hO:Option aE},py hO=none→pT P o aH hO ix=none:=by
    intro hO h
    unfold pT
    split
    ·simp[py] at h
    ·rfl
   rw[other uf,other (hC ▸ uf)]
  | some cf=>
   obtain⟨h1,e1⟩:∃h1,obj aO=some (.store cf h1):=by
    unfold py at uf
    split at uf
    ·rename_i e;cases uf;exact⟨_,e⟩
    ·cases uf
   obtain⟨h2,e2⟩:∃h2,eK aO=some (.store cf h2):=by
    rw[uf] at hC
    unfold py at hC
    split at hC
    ·rename_i e;cases hC;exact⟨_,e⟩
    ·cases hC
   rw[e1,e2]
   rw[uf] at hu
   unfold dN at hu
   unfold pT
   generalize hop:o.op=op at *
   cases op <;> try rfl
   case convert s t x=>
    simp only at hu ⊢
    have:Sm cf o=false:=by
     unfold Sm
     cases hd:o.dst with
     | none=>rfl
     | some d=>rw[hd] at hu;simpa using hu
    simp only[this]
    rfl
   case indexAddr t x i=>
    cases x <;> first | rfl | exact absurd rfl hu
   case call c=>
    obtain⟨callee,args,ts⟩:=c
    cases callee <;> try rfl
    rename_i b
    cases b <;> first | rfl | exact absurd rfl hu | skip
    simp only at hu ⊢
    cases hl:args.toList with
    | nil=>rfl
    | cons s r=>
     rw[hl] at hu
     simp only[Bool.or_eq_true,not_or,B0h] at hu
     have hn:∀h,∀x t t',vG P cf h s aH x t t' ix=none:=by
      intro h x t t'
      unfold vG
      split
      ·rfl
      ·split
       ·rename_i s' sb _ _ hs _ _ _
        rw[DR,if_neg (by simp[hu.2])] at hs
        have:=hM s (by
         simp only[Op.operands,Call.operands]
         have:s∈args:=by
          have:s∈args.toList:=by rw[hl];simp
          simpa using this
         simp[this]) ⟨_,_,hs⟩
        rw[hu.1] at this
        cases this
       ·rfl
     cases r with
     | nil=>rfl
     | cons x r=>
      cases r with
      | cons _ _=>rfl
      | nil=>
       cases ts.toList with
       | nil=>rfl
       | cons t q=>
        cases q with
        | nil=>rfl
        | cons t' q=>
         cases q with
         | cons _ _=>rfl
         | nil=>simp only[hn]

theorem Ej {o:Oper}{aH dK:Operand→SV}(hv:∀x,x∈o.op.operands→dK x=aH x){m:Operand→Bool}(hC:eP obj=eP eK)(hH:dN o m (eP obj)=true→obj aO=eK aO):AB P o dK (eK aO) ix=AB P o aH (obj aO) ix:=by
 rw[GP hv]
 by_cases hu:dN o m (eP obj)=true
 ·rw[hH hu]
 ·rw[eu,eu] at hC
  rw[eu] at hu
  have Q_:∀hO:Option aE,dN o m (py hO)≠true→AB P o aH hO ix=none:=by
   intro hO hn
   unfold AB
   split
   ·rename_i cf h
    split
    ·rename_i c ho
     obtain⟨callee,args,ts⟩:=c
     split
     ·rename_i f x iB _
      simp only at iB
      subst iB
      split
      ·rename_i hc
       refine absurd ?_ hn
       unfold dN
       rw[ho]
       have:=hc.2.2
       simp only[py,s6,this]
       rfl
      ·rfl
     ·rfl
    ·rfl
   ·rfl
  rw[Q_ _ hu,Q_ _ (hC ▸ hu)]

theorem GF {o:Oper}{aH dK:Operand→SV}(hv:∀x,x∈o.op.operands→dK x=aH x){m:Operand→Bool}(hM:∀x,x∈o.op.operands→(∃e s,aH x=.e e s)→m x=true)(hC:eP obj=eP eK)(hH:dN o m (eP obj)=true→obj aO=eK aO):lmap P o dK eK ix=lmap P o aH obj ix:=by
 unfold lmap
 split
 ·rw[Ea hv hC hH,DZ hv hH,Eg hv hM hC hH,Ej hv hC hH]
 ·rfl

theorem yK {o:Oper}{aH dK:Operand→SV}(hv:∀x,x∈o.op.operands→dK x=aH x)(ho:∀x ob,x∈o.op.operands→(aH x).aB ob=false→obj ob=eK ob):kA P o dK eK ix=kA P o aH obj ix:=by
 unfold kA
 split
 ·rename_i t parts hop
  have h1:mG eK dK parts.toList=mG obj aH parts.toList:=List.map_congr_left fun p hp=>by
   have hm:p.2∈o.op.operands:=by rw[hop];simp only[Op.operands,List.mem_toArray,B0r];exact⟨p,hp,rfl⟩
   rw[hv p.2 hm]
   congr 2
   unfold oV
   split <;> try rfl
   rename_i k hk
   rw[ho p.2 k hm (by rw[hk];simp[SV.aB])]
  rw[h1]
 ·rfl

theorem E1 {o:Oper} {aH dK:List (E×Bool)→Operand→SV} {act:List (E×Bool)} (hv:∀act x,x∈o.op.operands→dK act x=aH act x)
  (ho:∀act x ob,x∈o.op.operands→(aH act x).aB ob=false→obj ob=eK ob) {m:Operand→Bool} (hM:∀act x,x∈o.op.operands→(∃e s,aH act x=.e e s)→m x=true) (hF:∀act g,aH act (.func g)=.func (.func g) []) (hC:eP obj=eP eK) (hH:dN o m (eP obj)=true→obj aO=eK aO):qc P o dK act eK ix=qc P o aH act obj ix:=by
 unfold qc
 rw[yJ (hv act) hC,GA (hv []) (hM []) hC hH,GF (hv act) (hM act) hC hH,sS hC,yz (hv []) (ho []),s4 (hv act),yK (hv act) (ho act),D1 hv (ho act) hM hF hC hH]

end congr

end
end

section
noncomputable section

structure Rec where
 cM:gO
 seen:List SV
 ix:Nat
 deriving Inhabited

def jL (ops:Array Oper)(j:Nat):Option Tmp:=(ops[j]?).bind (·.dst)
def eU (R:List Rec)(j:Nat):gO:=((R[j]?).map (·.cM)).getD ⟨.bS,none,none,none⟩

def gO.targets (e:gO):List Nat:=(match e.cA with | some u=>[u.1] | none=>[])++(match e.del with | some k=>[k] | none=>[])

def bT (ops:Array Oper)(R:List Rec)(D:Nat→Bool)(σ:af):Nat→af
 | 0=>σ
 | n+1=>if D n=true then(bT ops R D σ n).app (jL ops n) (eU R n) else bT ops R D σ n

def pG (ops:Array Oper)(o:Oper)(σ:af):List SV:=(o.looksAt ops).map σ.tmp++(if dN o (fun x=>(σ.uG x).Gu) (eP σ.obj) then[.kF aO] else[])

def vf (P:Program)(ops:Array Oper):List Oper→af→Nat→Option (af×List Bind×List Rec)
 | [],σ,_=>some (σ,[],[])
 | o :: r,σ,ix=>match jP P ops o σ ix with
  | none=>none
  | some e=>match e.bind with
   | none=>(vf P ops r (σ.app o.dst e) ix).map fun x=>(x.1,x.2.1,⟨e,pG ops o σ,ix⟩ :: x.2.2)
   | some b=>(vf P ops r (σ.app o.dst e) (ix+1)).map fun x=>(x.1,b :: x.2.1,⟨e,pG ops o σ,ix⟩ :: x.2.2)

/-! ## states -/

theorem h_ (ops:Array Oper)(R:List Rec)(D:Nat→Bool)(σ:af):∀n,(bT ops R D σ n).tmps.length=σ.tmps.length∧(bT ops R D σ n).mem.length=σ.mem.length
 | 0=>⟨rfl,rfl⟩
 | n+1=>by
  have h:=h_ ops R D σ n
  unfold bT
  split
  ·have:=C7 (bT ops R D σ n) (jL ops n) (eU R n)
   exact⟨this.1.trans h.1,this.2.trans h.2⟩
  ·exact h

theorem FX {σ:af}{dst:Option Tmp}{sv:SV}{t:Nat}(h:dst≠some t):(σ.put dst sv).tmp t=σ.tmp t:=by
 cases dst with
 | none=>rfl
 | some d=>
  have:d≠t:=fun e=>h (by rw[e])
  simp[af.ep,af.eH,A0i,this]

theorem FY {σ:af}{sv:SV}{t:Nat}:(σ.put (some t) sv).tmp t=if t<σ.tmps.length then sv else .bS:=by
 simp only[af.ep,af.eH,A0i,A0x]
 simp only[if_true]
 split <;> rfl

theorem N1 (σ:af)(k:Option Nat)(t:Nat):(σ.gy k).tmp t=σ.tmp t:=by cases k;rfl;exact σ.eA _ _ t
theorem LN (σ:af)(u:Option (Nat×aE))(t:Nat):(σ.sets u).tmp t=σ.tmp t:=by cases u;rfl;exact σ.eA _ _ t
theorem KD (σ:af)(k:Option Nat):(σ.gy k).tmps=σ.tmps:=by cases k;rfl;exact σ.aA _ _
theorem Jw (σ:af)(u:Option (Nat×aE)):(σ.sets u).tmps=σ.tmps:=by cases u;rfl;exact σ.aA _ _

theorem H8 {σ:af}{dst:Option Tmp}{e:gO}{t:Nat}(h:dst≠some t):(σ.app dst e).tmp t=σ.tmp t:=by
 unfold af.app
 rw[FX h,LN,N1]

theorem Aa {σ:af}{e:gO}{t:Nat}:(σ.app (some t) e).tmp t=if t<σ.tmps.length then e.val else .bS:=by
 unfold af.app
 rw[FY,Jw,KD]

theorem cT {σ:af}{o o':Nat}{x:Option aE}(h:o≠o'):(σ.setObj o x).obj o'=σ.obj o':=σ.cT x (Ne.symm h)

theorem ez {σ:af}{o:Nat}{x:Option aE}:(σ.setObj o x).obj o=if o=aO∨o<σ.mem.length then x else none:=by
 split
 ·rename_i h;rw[af.dQ h,if_pos rfl]
 ·rename_i h
  rw[not_or] at h
  simp only[af.d_,af.cK]
  simp only[h.1,if_false,A0i]
  rw[List.getElem?_eq_none (by simpa using h.2)]
  rfl

theorem Sg (σ:af)(o:Nat)(x:Option aE):(σ.setObj o x).mem.length=σ.mem.length:=σ.ei o x
theorem E6 (σ:af)(k:Option Nat):(σ.gy k).mem.length=σ.mem.length:=by cases k <;> simp[af.gy,af.ei]

theorem r_ {σ:af}{dst:Option Tmp}{e:gO}{ob:Nat}(h:ob∉e.targets):(σ.app dst e).obj ob=σ.obj ob:=by
 unfold af.app
 rw[af.wM]
 unfold gO.targets at h
 cases hu:e.cA with
 | none=>
  cases hk:e.del with
  | none=>rfl
  | some k=>
   rw[hu,hk] at h
   simp only[af.sets,af.gy]
   exact cT fun e=>h (by simp[e])
 | some u=>
  rw[hu] at h
  simp only[af.sets]
  rw[cT fun e=>h (by simp[e])]
  cases hk:e.del with
  | none=>rfl
  | some k=>
   rw[hk] at h
   simp only[af.gy]
   exact cT fun e=>h (by simp[e])

theorem H9 {σ τ:af}{dst:Option Tmp}{e:gO}{ob:Nat}(h:ob∈e.targets)(hl:σ.mem.length=τ.mem.length):(σ.app dst e).obj ob=(τ.app dst e).obj ob:=by
 unfold af.app
 rw[af.wM,af.wM]
 unfold gO.targets at h
 have kI:∀(e':gO),e'.del=e.del→(∃k,e.del=some k∧k=ob)→(σ.gy e.del).obj ob=(τ.gy e.del).obj ob:=by
  rintro _ _ ⟨k,hk,rfl⟩
  rw[hk]
  simp only[af.gy]
  rw[ez,ez,hl]
 cases hu:e.cA with
 | none=>
  rw[hu] at h
  cases hk:e.del with
  | none=>rw[hk] at h;simp at h
  | some k=>
   rw[hk] at h
   simp only[af.sets]
   have:=kI e rfl ⟨k,hk,by simp at h;exact h.symm⟩
   rwa [hk] at this
 | some u=>
  rw[hu] at h
  simp only[af.sets]
  by_cases bW:u.1=ob
  ·subst bW
   rw[ez,ez,E6,E6,hl]
  ·rw[cT bW,cT bW]
   cases hk:e.del with
   | none=>rw[hk] at h;simp at h;exact absurd h.symm bW
   | some k=>
    rw[hk] at h
    have:=kI e rfl ⟨k,hk,by simp at h;exact(h.resolve_left fun e=>bW e.symm).symm⟩
    rwa [hk] at this

section
variable {ops:Array Oper} {R:List Rec} {D D':Nat→Bool} {σ:af}

theorem A7 {t:Nat}:∀n,(∀j,j<n→jL ops j=some t→D j=D' j)→(bT ops R D σ n).tmp t=(bT ops R D' σ n).tmp t
 | 0,_=>rfl
 | n+1,h=>by
  have ih:=A7 n fun j hj=>h j (by omega)
  unfold bT
  by_cases hd:jL ops n=some t
  ·rw[←h n (by omega) hd]
   split
   ·rw[hd,Aa,Aa,(h_ ..).1,(h_ ..).1]
   ·exact ih
  ·split <;> split <;> (try simp only[H8 hd]) <;> exact ih

theorem uA {ob:Nat}:∀n,(∀j,j<n→ob∈(eU R j).targets→D j=D' j)→(bT ops R D σ n).obj ob=(bT ops R D' σ n).obj ob
 | 0,_=>rfl
 | n+1,h=>by
  have ih:=uA n fun j hj=>h j (by omega)
  unfold bT
  by_cases hd:ob∈(eU R n).targets
  ·rw[←h n (by omega) hd]
   split
   ·exact H9 hd (by rw[(h_ ..).2,(h_ ..).2])
   ·exact ih
  ·split <;> split <;> (try simp only[r_ hd]) <;> exact ih

theorem je:∀n,(∀j,j<n→D j=D' j)→bT ops R D σ n=bT ops R D' σ n
 | 0,_=>rfl
 | n+1,h=>by
  unfold bT
  rw[je n fun j hj=>h j (by omega),h n (by omega)]

theorem ku {i : Nat} : ∀ n, i ≤ n → (∀ j, j < n → i ≤ j → D j = false) → bT ops R D σ n = bT ops R D σ i
  | 0, h, _ => by have : i = 0 := by omega
                  subst this; rfl
  | n + 1, h, hD => by
    rcases Nat.lt_or_ge i (n + 1) with hlt | hge
    · unfold bT
      rw [hD n (by omega) (by omega)]
      simp only [B0f, if_false]
      rw [ku n (by omega) fun j hj => hD j (by omega)]
      cases i <;> rfl
    · have : i = n + 1 := by omega
      subst this; rfl

theorem sI {i n t:Nat}(hi:i≤n)(h:∀j,j<n→jL ops j=some t→D j=decide (j<i)):(bT ops R D σ n).tmp t=(bT ops R (fun _=>true) σ i).tmp t:=by
 rw[A7 (D':=fun j=>decide (j<i)) n h,ku n hi (fun j _ hj=>by simp;omega),je (D':=fun _=>true) i (fun j hj=>by simp[hj])]

theorem nZ {i n ob:Nat}(hi:i≤n)(h:∀j,j<n→ob∈(eU R j).targets→D j=decide (j<i)):(bT ops R D σ n).obj ob=(bT ops R (fun _=>true) σ i).obj ob:=by
 rw[uA (D':=fun j=>decide (j<i)) n h,ku n hi (fun j _ hj=>by simp;omega),je (D':=fun _=>true) i (fun j hj=>by simp[hj])]

theorem kq (σ:af){o o':Nat}(x y:Option aE)(h:o≠o'):(σ.setObj o x).setObj o' y=(σ.setObj o' y).setObj o x:=by
 simp only[af.d_]
 by_cases h1:o=aO <;> by_cases h2:o'=aO
 ·exact absurd (h1.trans h2.symm) h
 ·simp[h1,h2]
 ·simp[h1,h2]
 ·simp only[h1,h2,if_false]
  rw[List.set_comm _ _ h]

theorem put_comm (σ:af){d d':Option Tmp}(x y:SV)(h:∀t,d=some t→d'≠some t):(σ.put d x).put d' y=(σ.put d' y).put d x:=by
 cases d with
 | none=>rfl
 | some t=>cases d' with
  | none=>rfl
  | some t'=>
   have:t≠t':=fun e=>h t rfl (by rw[e])
   simp[af.ep,List.set_comm _ _ this]

theorem xU (σ:af)(d:Option Tmp)(x:SV)(o:Nat)(y:Option aE):(σ.put d x).setObj o y=(σ.setObj o y).put d x:=by
 simp only[af.d_]
 cases d <;> simp only[af.ep] <;> split <;> rfl

def ko (σ:af)(l:List (Nat×Option aE)):af:=l.foldl (fun σ u=>σ.setObj u.1 u.2) σ

theorem sF {o:Nat}{x:Option aE}:∀{l:List (Nat×Option aE)} {σ:af},(∀u,u∈l→u.1≠o)→(ko σ l).setObj o x=ko (σ.setObj o x) l
 | [],_,_=>rfl
 | u :: l,σ,h=>by
  have:=sF (o:=o) (x:=x) (l:=l) (σ:=σ.setObj u.1 u.2) fun v hv=>h v (by simp[hv])
  simp only[ko,List.foldl_cons] at this ⊢
  rw[this,kq _ _ _ (h u (by simp))]

theorem xD:∀{l l':List (Nat×Option aE)} {σ:af},(∀u u',u∈l→u'∈l'→u.1≠u'.1)→ko (ko σ l) l'=ko (ko σ l') l
 | l,[],_,_=>rfl
 | l,u :: l',σ,h=>by
  have h1:ko (ko σ l) (u :: l')=ko ((ko σ l).setObj u.1 u.2) l':=rfl
  have h2:ko σ (u :: l')=ko (σ.setObj u.1 u.2) l':=rfl
  rw[h1,h2,sF fun v hv=>h v u hv (by simp),xD fun v v' hv fQ=>h v v' hv (by simp[fQ])]

def gO.list (e:gO):List (Nat×Option aE):=(match e.del with | some k=>[(k,none)] | none=>[])++(match e.cA with | some u=>[(u.1,some u.2)] | none=>[])

theorem tU (σ:af)(dst:Option Tmp)(e:gO):σ.app dst e=(ko σ e.list).put dst e.val:=by
 unfold af.app gO.list
 cases e.del <;> cases e.cA <;> rfl

theorem s7 {e:gO}{u:Nat×Option aE}(h:u∈e.list):u.1∈e.targets:=by
 unfold gO.list at h
 unfold gO.targets
 cases hd:e.del <;> cases hu:e.cA <;> rw[hd,hu] at h <;> simp at h ⊢
 ·rw[h]
 ·rw[h]
 ·rcases h with h | h <;> rw[h] <;> simp

theorem uw (d:Option Tmp)(x:SV):∀(l:List (Nat×Option aE)) (σ:af),ko (σ.put d x) l=(ko σ l).put d x
 | [],_=>rfl
 | u :: l,σ=>by
  have:=uw d x l (σ.setObj u.1 u.2)
  simp only[ko,List.foldl_cons] at this ⊢
  rw[xU,this]

theorem Oq (σ:af){d d':Option Tmp}{e e':gO}(hd:∀t,d=some t→d'≠some t)(hu:∀ob,ob∈e.targets→ob∉e'.targets):(σ.app d e).app d' e'=(σ.app d' e').app d e:=by
 rw[tU,tU,tU,tU,uw,uw,put_comm _ _ _ hd,xD fun u u' h1 h2 h3=>hu u.1 (s7 h1) (h3 ▸ s7 h2)]

theorem uB {i:Nat}(hi:D i=false):∀n,i<n→(∀j,j<n→i<j→D j=true→(∀t,jL ops i=some t→jL ops j≠some t)∧∀ob,ob∈(eU R i).targets→ob∉(eU R j).targets) →
  bT ops R (fun j=>D j||j==i) σ n=(bT ops R D σ n).app (jL ops i) (eU R i)
 | 0,h,_=>by omega
 | n+1,h,hc=>by
  unfold bT
  rcases Nat.lt_or_ge i n with hlt | hge
  ·have ih:=uB hi n hlt fun j hj=>hc j (by omega)
   have hne:(n==i)=false:=by simp;omega
   rw[ih]
   simp only[hne,Bool.or_false]
   split
   ·rename_i hD
    obtain⟨h1,h2⟩:=hc n (by omega) hlt hD
    exact Oq _ h1 h2
   ·rfl
  ·have:n=i:=by omega
   subst this
   simp only[hi,BEq.rfl,Bool.or_true,if_true,B0f,if_false]
   rw[je (D':=D) n fun j hj=>by simp;omega]

end

end
end

section
noncomputable section

def Rec.bY (r:Rec)(ob:Nat):Bool:=
 r.seen.any (fun sv=>!sv.aB ob)||!r.cM.val.aB ob||r.cM.targets.contains ob||(match r.cM.cA with | some u=>!u.2.aB ob | none=>false)

def Rec.reader (r:Rec):Bool:=r.cM.cA.isNone&&r.cM.del.isNone

def r8 (o:Oper):Bool:=o.guard.isNone&&match o.op with | .move _ | .nilCheck _ | .fieldAddr _ _ _=>true | _=>false

def jB (ow oy:Oper)(ry:Rec)(ob:Nat):Bool:=r8 oy&&ry.reader&&decide (ob≠aO)&&!fe ow

def qN (ops:Array Oper)(oj oi:Oper)(rj ri:Rec):Bool:=
 !oj.apart ops oi||rj.cM.targets.any (fun ob=>ri.bY ob&&!jB oj oi ri ob)||ri.cM.targets.any (fun ob=>rj.bY ob&&!jB oi oj rj ob)

def Mh (ms:List Nat)(o:Oper):Nat:=o.after.toList.foldl (fun s e=>if Region.binds .any e=true then s ||| 2 ^ e.on ||| ms.getD e.on 0 else s) 0

def iH:List Oper→List Nat→List Nat
 | [],ms=>ms
 | o :: r,ms=>iH r (ms++[Mh ms o])

def Rec.nQ (r:Rec):Bool:=match r.cM.targets with | [k]=>decide (k=aO) | _=>false

def kf (ops:Array Oper)(oj oi:Oper)(rj ri:Rec):Bool:=oj.apart ops oi&&((rj.reader&&ri.nQ)||(ri.reader&&rj.nQ))

def L2 (ops:Array Oper)(m:Nat)(oi:Oper)(ri:Rec)(j:Nat)(oj:Oper)(rj:Rec):Bool:=
 (!qN ops oj oi rj ri||m.testBit j||kf ops oj oi rj ri)&&(!fe oi||match ri.cM.cA with | some u=>decide (u.1=aO)||!rj.bY u.1 | none=>true)

def V5 (ops:Array Oper)(R:List Rec)(σ:af)(m i:Nat):Bool:=
 match ops[i]?,R[i]? with
 | some oi,some ri=>oi.after.all (fun e=>!Region.binds .any e||decide (e.on<i))&&mz σ oi &&
   (!fe oi||match ri.cM.cA with | some u=>decide (u.1=aO)||((σ.obj u.1).isNone&&σ.iw u.1) | none=>true) &&
   (List.range i).all fun j=>match ops[j]?,R[j]? with
    | some oj,some rj=>L2 ops m oi ri j oj rj
    | _,_=>true
 | _,_=>false

def HZ (R:List Rec)(σ:af):Bool:=
 R.all fun r=>decide (r.cM.del≠some aO)&&match r.cM.cA with
  | some u=>decide (u.1=aO→py (some u.2)=eP σ.obj)
  | none=>true

def mj (ops:Array Oper)(R:List Rec)(σ:af):Bool:=HZ R σ &&
 (List.range ops.size).all fun i=>V5 ops R σ ((iH ops.toList []).getD i 0) i

def Dy (ops:Array Oper)(R:List Rec)(ms:List Nat)(i:Nat):List Nat:=
 (List.range ops.size).filter fun j=>(match R[j]? with | some rj=>rj.nQ | none=>false)&&!(decide (j<i)&&(ms.getD i 0).testBit j)&&!(decide (i<j)&&(ms.getD j 0).testBit i)&&decide (j≠i)

def C8 (ops:Array Oper)(R:List Rec)(σ:af)(i j:Nat):Option aE:=(bT ops R (fun k=>decide (k<i) != (k==j)) σ ops.size).obj aO

def Jl (P:Program)(ops:Array Oper)(R:List Rec)(σ:af)(ms:List Nat)(i:Nat):Option (List E):=
 match ops[i]?,R[i]? with
 | some o,some r=>if r.reader&&r.bY aO then(match Dy ops R ms i with
   | []=>some []
   | [j]=>(match jP P ops o ((bT ops R (fun _=>true) σ i).setObj aO (C8 ops R σ i j)) r.ix with
    | some e=>if e.val.same r.cM.val&&e.cA.isNone&&e.del.isNone then(match e.bind,r.cM.bind with
      | some (.ev b),some (.ev a)=>some [.m4 .same a b .nil .nil]
      | none,none=>some []
      | _,_=>none) else none
    | none=>none)
   | _=>none) else some []
 | _,_=>none

def tH (P:Program)(ops:Array Oper)(R:List Rec)(σ:af)(ms:List Nat):Nat→Option (List E)
 | 0=>some []
 | n+1=>(tH P ops R σ ms n).bind fun xs=>(Jl P ops R σ ms n).map (xs++·)

def extras (P:Program)(ops:Array Oper)(R:List Rec)(σ:af):Option (List E):=tH P ops R σ (iH ops.toList []) ops.size

theorem Bv {P:Program}{ops:Array Oper}{R:List Rec}{σ:af}{ms:List Nat}:∀{n:Nat} {xs:List E},tH P ops R σ ms n=some xs→∀i,i<n→∃ys,Jl P ops R σ ms i=some ys∧∀y,y∈ys→y∈xs
 | 0,_,_,i,hi=>by omega
 | n+1,xs,h,i,hi=>by
  simp only[tH,A0c,A0b] at h
  obtain⟨zs,h1,ys,h2,rfl⟩:=h
  rcases Nat.lt_or_ge i n with hlt | hge
  ·obtain⟨ys',h3,h4⟩:=Bv h1 i hlt
   exact⟨ys',h3,fun y hy=>B0p.2 (.inl (h4 y hy))⟩
  ·obtain rfl:i=n:=by omega
   exact⟨ys,h2,fun y hy=>B0p.2 (.inr hy)⟩

theorem xz {r:Rec}(h:r.nQ=true):r.cM.targets=[aO]:=by
 unfold Rec.nQ at h
 split at h
 ·rename_i k hk
  simp only[decide_eq_true_eq] at h
  rw[hk,h]
 ·cases h

theorem gU {r:Rec}(h:r.reader=true):r.cM.targets=[]:=by
 unfold Rec.reader at h
 simp only[A0g,B0q] at h
 unfold gO.targets
 rw[h.1,h.2]
 rfl

section
variable {P:Program} {ops:Array Oper} {R:List Rec} {σ:af} {D:Nat→Bool}

theorem BR {act:List (E×Bool)}{sv:SV}{ob:Nat}(h:(sv.strip act).aB ob=false):sv.aB ob=false:=by
 unfold SV.strip at h
 split at h
 ·split at h
  ·exact h
  ·simp[SV.aB] at h
 ·exact h

theorem xZ {act:List (E×Bool)}{x:Operand}{ob:Nat}(h:(σ.aH act x).aB ob=false):∃t,x=.tmp t∧(σ.tmp t).aB ob=false:=by
 have h:=BR h
 cases x with
 | tmp t=>exact⟨t,rfl,h⟩
 | const v=>
  simp only[af.uG,k_] at h
  split at h <;> simp[SV.aB] at h
 | global g=>simp[af.uG,SV.aB] at h
 | func f=>simp[af.uG,SV.aB,SV.cR] at h

theorem mo {o:Oper}{t:Tmp}(h:Operand.tmp t∈o.op.operands):t∈o.looksAt ops:=by
 unfold Oper.looksAt
 refine B0p.2 (.inl (List.mem_filterMap.2 ⟨.tmp t,by simpa using h,rfl⟩))

theorem xK (h:HZ R σ=true):∀n,eP (bT ops R D σ n).obj=eP σ.obj
 | 0=>rfl
 | n+1=>by
  have ih:=xK h n
  unfold bT
  split
  ·have key:∀e:gO,(e.del≠some aO∧∀u,e.cA=some u→u.1=aO→py (some u.2)=eP σ.obj)→eP ((bT ops R D σ n).app (jL ops n) e).obj=eP σ.obj:=by
    rintro e ⟨h1,h2⟩
    by_cases ht:aO∈e.targets
    ·unfold gO.targets at ht
     cases hu:e.cA with
     | none=>
      rw[hu] at ht
      cases hk:e.del with
      | none=>rw[hk] at ht;simp at ht
      | some k=>rw[hk] at ht;simp at ht;exact absurd (by rw[hk,←ht]) h1
     | some u=>
      by_cases Ap:u.1=aO
      ·have ea:((bT ops R D σ n).app (jL ops n) e).obj aO=some u.2:=by
        unfold af.app
        rw[af.wM,hu]
        simp only[af.sets]
        rw[Ap,ez,if_pos (.inl rfl)]
       rw[eu,ea]
       exact h2 u hu Ap
      ·rw[hu] at ht
       cases hk:e.del with
       | none=>rw[hk] at ht;simp at ht;exact absurd ht.symm Ap
       | some k=>
        rw[hk] at ht
        simp at ht
        rcases ht with ht | ht
        ·exact absurd ht.symm Ap
        ·exact absurd (by rw[hk,←ht]) h1
    ·rw[eu,r_ ht,←eu]
     exact ih
   refine key _ ?_
   unfold eU
   cases hr:R[n]? with
   | none=>exact⟨by simp,by simp⟩
   | some r=>
    have:=A0z.1 h r (B0i hr)
    simp only[A0g,decide_eq_true_eq] at this
    refine⟨this.1,fun u hu hh=>?_⟩
    have h2:=this.2
    simp only[A0y,B0m] at hu
    rw[hu] at h2
    exact(of_decide_eq_true h2) hh
  ·exact ih

theorem og {σ':af}{o:Oper}{ix:Nat}(ht:∀t,t∈o.looksAt ops→σ'.tmp t=σ.tmp t)(ho:∀t ob,t∈o.looksAt ops→(σ.tmp t).aB ob=false→σ'.obj ob=σ.obj ob)(hC:eP σ'.obj=eP σ.obj)(hH:dN o (fun x=>(σ.uG x).Gu) (eP σ.obj)=true→σ'.obj aO=σ.obj aO):jP P ops o σ' ix=jP P ops o σ ix:=by
 have hact:v_ ops σ' ix o.guard=v_ ops σ ix o.guard:=by
  unfold v_
  split
  ·rfl
  ·rename_i j want hg
   split
   ·rename_i d hd
    rw[ht d (by unfold Oper.looksAt;rw[hg];simp[hd])]
   ·rfl
 have hv:∀act x,x∈o.op.operands→σ'.aH act x=σ.aH act x:=by
  intro act x hx
  unfold af.aH
  cases x with
  | tmp t=>simp only[af.uG];rw[ht t (mo hx)]
  | _=>rfl
 have MU:∀e,ux o σ' e=ux o σ e:=by
  intro e
  unfold ux
  cases e.cA with
  | none=>rfl
  | some u=>
   simp only
   congr 1
   congr 1
   rw[Bool.eq_iff_iff,Array.all_eq_true_iff_forall_mem,Array.all_eq_true_iff_forall_mem]
   exact⟨fun h x hx=>by rw[←hv [] x hx];exact h x hx,fun h x hx=>by rw[hv [] x hx];exact h x hx⟩
 have hstep:∀act,qc P o σ'.aH act σ'.obj ix=qc P o σ.aH act σ.obj ix:=fun act=>E1 (aH:=σ.aH) (obj:=σ.obj) hv (fun act x ob hx kN=>by
  obtain⟨t,rfl,TG⟩:=xZ kN
  exact(ho t ob (mo hx) TG).symm) (m:=fun x=>(σ.uG x).Gu) (fun act x _ he=>by obtain⟨e,s,he⟩:=he;exact F3 he) (fun act g=>rfl) hC.symm fun h=>(hH h).symm
 have K9:∀e,j4 o (σ'.obj aO) ix e=j4 o (σ.obj aO) ix e:=by
  intro e
  have hC':py (σ'.obj aO)=py (σ.obj aO):=by rw[←eu,←eu];exact hC
  cases hl:Mm o (py (σ.obj aO)) with
  | true=>simp[j4,hl,hC']
  | false=>
  cases hc:wT o with
  | false=>simp[j4,hc]
  | true=>
   rw[hH ?_]
   unfold wT at hc
   unfold dN
   unfold Mm at hl
   rw[←eu] at hl
   split at hc
   ·rename_i c hop
    rw[hop] at hl ⊢
    simp only at hl ⊢
    split at hc
    ·rename_i g uZ
     rw[uZ] at hl ⊢
     simp only
     rw[hl]
     rfl
    ·cases hc
   ·cases hc
 have XZ:∀act,yA false P o (σ'.aH act) σ'.obj ix=yA false P o (σ.aH act) σ.obj ix:=fun act=>yz (aH:=σ.aH act) (dK:=σ'.aH act) (obj:=σ.obj) (eK:=σ'.obj) (hv act) fun x ob hx kN=>by
  obtain⟨t,rfl,TG⟩:=xZ kN
  exact(ho t ob (mo hx) TG).symm
 have hgt:∀act,Hl P o σ' act ix=Hl P o σ act ix:=fun act=>by
  cases act with
  | nil=>rfl
  | cons p r=>simp only[Hl,XZ]
 unfold jP
 rw[hact]
 split
 ·rfl
 ·rename_i act _
  rw[hgt act,hstep act]
  simp only[MU,K9]

theorem Gd {σ':af}{o:Oper}{ix:Nat}{e:gO}(hb:r8 o=true)(ht:∀t,t∈o.looksAt ops→σ'.tmp t=σ.tmp t)(hC:eP σ'.obj=eP σ.obj)(he:jP P ops o σ ix=some e)(hr:e.cA.isNone=true∧e.del.isNone=true):jP P ops o σ' ix=some e:=by
 unfold r8 at hb
 simp only[A0g,B0q] at hb
 obtain⟨hg,hb⟩:=hb
 have hv:∀act x,x∈o.op.operands→σ'.aH act x=σ.aH act x:=by
  intro act x hx
  unfold af.aH
  cases x with
  | tmp t=>simp only[af.uG];rw[ht t (mo hx)]
  | _=>rfl
 have hstep:∀act,qc P o σ'.aH act σ'.obj ix=qc P o σ.aH act σ.obj ix:=fun act=>by
  unfold qc
  rw[yJ (hv act) hC.symm,s4 (hv act),sS hC.symm]
  have h1:∀aH obj,D7 P o aH obj ix=none:=fun aH obj=>by
   unfold D7
   unfold pS
   split at hb <;> rename_i hop <;> (try cases hb) <;> simp only[hop] <;> (repeat' split) <;> first | rfl | simp_all
  have h2:∀aH obj,lmap P o aH obj ix=none:=fun aH obj=>by
   have hU:Im o=false:=by
    unfold Im
    split at hb <;> rename_i hop <;> (try cases hb) <;> simp only[hop]
   unfold lmap
   rw[hU]
   simp
  have h3:∀nz aH obj,yA nz P o aH obj ix=none:=fun nz aH obj=>by
   unfold yA
   split at hb <;> rename_i hop <;> (try cases hb) <;> simp only[hop]
  have h4:∀aH obj,kA P o aH obj ix=none:=fun aH obj=>by
   unfold kA
   split at hb <;> rename_i hop <;> (try cases hb) <;> simp only[hop]
  simp only[h1,h2,h3,h4]
  have h5:sZ P o σ'.aH act σ'.obj ix=sZ P o σ.aH act σ.obj ix:=by
   unfold sZ
   split at hb <;> rename_i hop <;> (try cases hb) <;> simp only[hop]
   ·rw[hv act _ (by rw[hop];simp[Op.operands])]
   ·rw[hv act _ (by rw[hop];simp[Op.operands])]
   ·rw[hv act _ (by rw[hop];simp[Op.operands])]
  rw[h5]
 unfold jP at he ⊢
 have ha:∀σ:af,v_ ops σ ix o.guard=some []:=fun σ=>by unfold v_;rw[hg]
 simp only[ha,Hl,hstep] at he ⊢
 split at he
 ·cases he
 ·rename_i e' he'
  split at he
  ·rename_i hy
   rw[if_pos hy]
   exact he
  ·rename_i hn
   split at he
   ·cases he
    exact absurd (by rw[hr.1,hr.2];rfl) hn
   ·cases he

/-! ## iH -/

def gK (ops:Array Oper)(D:Nat→Bool):Prop:=∀k o,D k=true→ops[k]? = some o→∀e,e∈o.after→Region.binds .any e=true→D e.on=true

def Ih (ops:Array Oper)(D:Nat→Bool)(ms:List Nat):Prop:=
 ∀(i m:Nat),ms[i]? = some m→∃o:Oper,ops[i]? = some o∧((∀e,e∈o.after→Region.binds .any e=true→D e.on=true)→∀j,m.testBit j=true→D j=true)

theorem DX (hD:gK ops D){ms:List Nat}(hg:Ih ops D ms){o:Oper}(ho:∀e,e∈o.after→Region.binds .any e=true→D e.on=true):∀j,(Mh ms o).testBit j=true→D j=true:=by
 have go:∀(l:List Edge) (s:Nat),(∀e,e∈l→Region.binds .any e=true→D e.on=true)→(∀j,s.testBit j=true→D j=true)→∀j,(l.foldl (fun s e=>if Region.binds .any e=true then s ||| 2 ^ e.on ||| ms.getD e.on 0 else s) s).testBit j=true→D j=true:=by
  intro l
  induction l with
  | nil=>intro s _ hs;exact hs
  | cons e l ih=>
   intro s hl hs
   refine ih _ (fun e' he'=>hl e' (by simp[he'])) fun j hj=>?_
   dsimp only at hj
   split at hj
   ·rename_i hb
    have hon:=hl e (by simp) hb
    simp only[Nat.testBit_or,Bool.or_eq_true] at hj
    rcases hj with(hj | hj) | hj
    ·exact hs j hj
    ·rw[Nat.testBit_two_pow] at hj
     simp at hj
     rw[←hj];exact hon
    ·rw[A0i] at hj
     cases hm:ms[e.on]? with
     | none=>rw[hm] at hj;simp at hj
     | some m=>
      rw[hm] at hj
      obtain⟨o',ho',h'⟩:=hg e.on m hm
      exact h' (hD e.on o' hon ho') j hj
   ·exact hs j hj
 exact go o.after.toList 0 (fun e he=>ho e (by simpa using he)) (by simp)

theorem yo (hD:gK ops D):∀{l:List Oper} {ms:List Nat},ops.toList.drop ms.length=l→Ih ops D ms→Ih ops D (iH l ms)
 | [],ms,_,hg=>hg
 | o :: r,ms,hl,hg=>by
  unfold iH
  have nr:ops[ms.length]? = some o:=by
   have:=congrArg (fun l=>l[0]?) hl
   simpa using this
  refine yo hD ?_ ?_
  ·have:ops.toList.drop (ms.length+1)=r:=by
    rw[←List.drop_drop,hl];rfl
   simpa using this
  ·show ∀(i m:Nat),_
   intro i m hi
   rcases Nat.lt_or_ge i ms.length with h | h
   ·rw[A0j h] at hi
    exact hg i m hi
   ·rw[A0l h] at hi
    have hi0:i=ms.length:=by
     rcases Nat.eq_or_lt_of_le h with h | h
     ·exact h.symm
     ·rw[List.getElem?_eq_none (by simp;omega)] at hi;cases hi
    subst hi0
    simp at hi
    subst hi
    exact⟨o,nr,fun ho=>DX hD hg ho⟩

theorem rJ (hD:gK ops D){i:Nat}{o:Oper}(ho:ops[i]? = some o)(ha:∀e,e∈o.after→Region.binds .any e=true→D e.on=true){j:Nat}(hj:((iH ops.toList []).getD i 0).testBit j=true):D j=true:=by
 have hg:=yo hD (l:=ops.toList) (ms:=[]) rfl (fun i m hi=>by simp at hi)
 rw[A0i] at hj
 cases hm:(iH ops.toList [])[i]? with
 | none=>rw[hm] at hj;simp at hj
 | some m=>
  rw[hm] at hj
  obtain⟨o',ho',h'⟩:=hg i m hm
  rw[ho] at ho'
  cases ho'
  exact h' ha j hj

/-! ## the run in the text's order -/

abbrev lex (ops:Array Oper)(R:List Rec)(σ:af)(i:Nat):af:=bT ops R (fun _=>true) σ i

theorem Bx {env:List Am.D}:∀{l:List Oper} {k:Nat} {σk:af} {ix:Nat} {σ':af} {bs:List Bind} {rs:List Rec},vf P ops l σk ix=some (σ',bs,rs)→ops.toList.drop k=l→R.drop k=rs→k≤ops.size →
  lex ops R σ k=σk→qI P env ix bs→ix+bs.length≤env.length →
  lex ops R σ ops.size=σ'∧∀(i:Nat) (o:Oper),k≤i→ops[i]? = some o→∃r,R[i]? = some r∧jP P ops o (lex ops R σ i) r.ix=some r.cM∧r.seen=pG ops o (lex ops R σ i)∧aY P env r.ix r.cM.bind∧r.ix≤env.length
 | [],k,σk,ix,σ',bs,rs,h,hl,_,hk,hσ,_,_=>by
  simp[vf] at h
  have:k=ops.size:=by
   have:=congrArg List.length hl
   simp at this
   omega
  subst this
  refine⟨hσ.trans h.1,fun i o hi ho=>?_⟩
  have:=(A0h.1 ho).1
  omega
 | o :: l,k,σk,ix,σ',bs,rs,h,hl,hr,hk,hσ,hb,bQ=>by
  have nr:ops[k]? = some o:=by
   have:=congrArg (fun l=>l[0]?) hl
   simpa using this
  have hk1:k+1≤ops.size:=(A0h.1 nr).1
  have hl':ops.toList.drop (k+1)=l:=by rw[←List.drop_drop,hl];rfl
  have go:∀{e:gO} {ix':Nat} {bs':List Bind} {rs':List Rec},jP P ops o σk ix=some e→vf P ops l (σk.app o.dst e) ix'=some (σ',bs',rs')→rs=⟨e,pG ops o σk,ix⟩ :: rs'→aY P env ix e.bind→ix≤env.length→qI P env ix' bs'→ix'+bs'.length≤env.length →
    lex ops R σ ops.size=σ'∧∀(i:Nat) (o:Oper),k≤i→ops[i]? = some o→∃r,R[i]? = some r∧jP P ops o (lex ops R σ i) r.ix=some r.cM∧r.seen=pG ops o (lex ops R σ i)∧aY P env r.ix r.cM.bind∧r.ix≤env.length:=by
   intro e ix' bs' rs' he hd jE vL ad4 hb' Nd
   have hRk:R[k]? = some ⟨e,pG ops o σk,ix⟩:=by
    have:=congrArg (fun l=>l[0]?) (hr.trans jE)
    simpa using this
   have hr':R.drop (k+1)=rs':=by rw[←List.drop_drop,hr,jE];rfl
   have hσ':lex ops R σ (k+1)=σk.app o.dst e:=by
    unfold lex bT
    simp only[if_true,jL,nr,eU,hRk,A0d,A0y,B0m]
    rw[show bT ops R (fun _=>true) σ k=σk from hσ]
   obtain⟨h1,h2⟩:=Bx hd hl' hr' hk1 hσ' hb' Nd
   refine⟨h1,fun i o' hi ho'=>?_⟩
   rcases Nat.eq_or_lt_of_le hi with heq | hlt
   ·subst heq
    rw[nr] at ho'
    cases ho'
    exact⟨_,hRk,by rw[hσ];exact he,by rw[hσ],vL,ad4⟩
   ·exact h2 i o' hlt ho'
  simp only[vf] at h
  split at h
  ·cases h
  ·rename_i e he
   split at h
   ·rename_i eO
    obtain⟨⟨τ,bs',rs'⟩,h2,h3⟩:=A0b.1 h
    cases h3
    exact go he h2 rfl (by rw[eO];trivial) (by omega) hb bQ
   ·rename_i b eO
    obtain⟨⟨τ,bs',rs'⟩,h2,h3⟩:=A0b.1 h
    cases h3
    simp only[List.length_cons] at bQ
    refine go he h2 rfl (by rw[eO];simpa using hb 0 b rfl) (by omega) (fun i b' hi=>?_) (by omega)
    have:=hb (i+1) b' (by simpa using hi)
    rwa [show ix+(i+1)=ix+1+i from by omega] at this

/-! ## fresh names -/

theorem mM {ob:Nat}:∀{l:List SV},SV.cR ob l=true↔∀x,x∈l→x.aB ob=true
 | []=>by simp[SV.cR]
 | a :: l=>by simp[SV.cR,mM (l:=l)]

theorem EU {ob:Nat}{τ:af}{dst:Option Tmp}{e:gO}(h:kY τ ob)(hv:e.val.aB ob=true)(ht:ob∉e.targets)(hu:∀u,e.cA=some u→u.2.aB ob=true):kY (τ.app dst e) ob:=by
 obtain⟨h1,h2⟩:=h
 refine⟨by rw[r_ ht];exact h1,?_⟩
 have iX:∀(τ:af) (k:Nat) (x:Option aE),τ.iw ob=true→(∀y,x=some y→y.aB ob=true)→(τ.setObj k x).iw ob=true:=by
  intro τ k x ht hx
  simp only[af.d_]
  simp only[af.iw,A0g,A0z] at ht ⊢
  split
  ·refine⟨ht.1,?_⟩
   cases x with
   | none=>rfl
   | some z=>exact hx z rfl
  ·refine⟨⟨ht.1.1,fun y hy=>?_⟩,ht.2⟩
   rcases List.mem_or_eq_of_mem_set hy with hy | rfl
   ·exact ht.1.2 y hy
   ·cases y with
    | none=>rfl
    | some z=>exact hx z rfl
 have h3:(τ.gy e.del).iw ob=true:=by
  cases e.del with
  | none=>exact h2
  | some k=>exact iX τ k none h2 fun y hy=>by cases hy
 have h4:((τ.gy e.del).sets e.cA).iw ob=true:=by
  cases jf:e.cA with
  | none=>exact h3
  | some u=>exact iX _ _ _ h3 fun y hy=>by cases hy;exact hu u jf
 unfold af.app
 cases dst with
 | none=>exact h4
 | some d=>
  simp only[af.iw,A0g,af.ep] at h4 ⊢
  refine⟨⟨mM.2 fun x hx=>?_,h4.1.2⟩,h4.2⟩
  rcases List.mem_or_eq_of_mem_set hx with hx | rfl
  ·exact mM.1 h4.1.1 x hx
  ·exact hv

theorem qO {r:Rec}{ob:Nat}(h:r.bY ob=false):r.cM.val.aB ob=true∧ob∉r.cM.targets∧∀u,r.cM.cA=some u→u.2.aB ob=true:=by
 simp only[Rec.bY,Bool.or_eq_false_iff,Bool.not_eq_false'] at h
 refine⟨h.1.1.2,by simpa using h.1.2,fun u hu=>?_⟩
 have:=h.2
 rw[hu] at this
 simpa using this

theorem pJ {ob:Nat}(h:kY σ ob):∀n,(∀j,j<n→D j=true→∃r,R[j]? = some r∧r.bY ob=false)→kY (bT ops R D σ n) ob
 | 0,_=>h
 | n+1,hj=>by
  have ih:=pJ h n fun j hjn=>hj j (by omega)
  unfold bT
  split
  ·rename_i hD
   obtain⟨r,hr,ht⟩:=hj n (by omega) hD
   obtain⟨h2,h3,h4⟩:=qO ht
   have he:eU R n=r.cM:=by simp[eU,hr]
   rw[he]
   exact EU ih h2 h3 h4
  ·exact ih

end
end
end

section
noncomputable section

section
variable {P:Program} {ops:Array Oper} {R:List Rec} {σ:af} {w0:World} {X:gB} {env:List D}

structure RS (P:Program)(ops:Array Oper)(R:List Rec)(σ:af)(env:List D)(i:Nat)(o:Oper)(r:Rec):Prop where
 at_:R[i]? = some r
 cM:jP P ops o (lex ops R σ i) r.ix=some r.cM
 seen:r.seen=pG ops o (lex ops R σ i)
 bind:aY P env r.ix r.cM.bind
 ix:r.ix≤env.length
 alt:∃ys,Jl P ops R σ (iH ops.toList []) i=some ys∧∀y,y∈ys→∃d,y.eval env=some d

theorem ou (h:mj ops R σ=true){i:Nat}{o:Oper}{r:Rec}(ho:ops[i]? = some o)(hr:R[i]? = some r) :
  (∀e,e∈o.after→Region.binds .any e=true→e.on<i)∧mz σ o=true∧(fe o=true→∀u,r.cM.cA=some u→u.1=aO∨kY σ u.1) ∧
  ∀(j:Nat) (oj:Oper) (rj:Rec),j<i→ops[j]? = some oj→R[j]? = some rj→(qN ops oj o rj r=true→kf ops oj o rj r=false→((iH ops.toList []).getD i 0).testBit j=true)∧(fe o=true→∀u,r.cM.cA=some u→u.1=aO∨rj.bY u.1=false):=by
 have hi:=(A0h.1 ho).1
 unfold mj at h
 rw[A0g] at h
 replace h:=h.2
 have h:=A0z.1 h i (List.mem_range.2 hi)
 unfold V5 at h
 rw[ho,hr] at h
 simp only[A0g,A0z,List.mem_range] at h
 obtain⟨⟨⟨h1,h2⟩,h3⟩,h4⟩:=h
 refine⟨fun e he hb=>?_,h2,fun hn u hu=>?_,fun j oj rj hj mP nh=>?_⟩
 ·have:=Array.all_eq_true'.1 h1 e he
  simpa[hb] using this
 ·rw[hn,hu] at h3
  simpa[kY] using h3
 ·have:=h4 j hj
  rw[mP,nh] at this
  simp only[L2,A0g,Bool.or_eq_true,Bool.not_eq_true'] at this
  refine⟨fun hc hs=>by rw[hc,hs] at this;simpa using this.1,fun hn u hu=>?_⟩
  have:=this.2
  rw[hn,hu] at this
  simpa using this

theorem KT {oj oi:Oper}{rj ri:Rec}{t:Tmp}(hd:oj.dst=some t)(ht:t∈oi.looksAt ops):qN ops oj oi rj ri=true:=by
 have:oj.apart ops oi=false:=by
  rw[←B0h]
  intro h
  exact(Oper.apart_spec h).1 t hd ht
 simp[qN,this]

theorem HV {oj oi:Oper}{rj ri:Rec}{t:Tmp}(hd:oi.dst=some t)(ht:t∈oj.looksAt ops):qN ops oj oi rj ri=true:=by
 have:oj.apart ops oi=false:=by
  rw[←B0h]
  intro h
  exact(Oper.apart_spec h).2.2 t hd ht
 simp[qN,this]

theorem Fk {oj oi:Oper}{rj ri:Rec}{t:Tmp}(hd:oj.dst=some t)(ht:oi.dst=some t):qN ops oj oi rj ri=true:=by
 have:oj.apart ops oi=false:=by
  rw[←B0h]
  intro h
  exact(Oper.apart_spec h).2.1 t hd ht
 simp[qN,this]

theorem tM {oj oi:Oper}{rj ri:Rec}{ob:Nat}(hu:ob∈rj.cM.targets)(ht:ri.bY ob=true)(hx:jB oj oi ri ob=false):qN ops oj oi rj ri=true:=by
 have:rj.cM.targets.any (fun ob=>ri.bY ob&&!jB oj oi ri ob)=true:=List.any_eq_true.2 ⟨ob,hu,by simp[ht,hx]⟩
 unfold qN
 rw[this]
 simp

theorem qF {oj oi:Oper}{rj ri:Rec}{ob:Nat}(hu:ob∈ri.cM.targets)(ht:rj.bY ob=true)(hx:jB oi oj rj ob=false):qN ops oj oi rj ri=true:=by
 have:ri.cM.targets.any (fun ob=>rj.bY ob&&!jB oi oj rj ob)=true:=List.any_eq_true.2 ⟨ob,hu,by simp[ht,hx]⟩
 unfold qN
 rw[this]
 simp

theorem z4 {ow oy:Oper}{ry:Rec}:jB ow oy ry aO=false:=by simp[jB]
theorem z3 {ow oy:Oper}{ry:Rec}{ob:Nat}(h:fe ow=true):jB ow oy ry ob=false:=by simp[jB,h]
theorem BF {ow oy:Oper}{ry:Rec}{ob ob':Nat}(h:ob'∈ry.cM.targets):jB ow oy ry ob=false:=by
 have:ry.reader=false:=by
  rw[←B0h];intro hr
  rw[gU hr] at h;cases h
 simp[jB,this]
theorem z2 {ow oy:Oper}{ry:Rec}{ob:Nat}(h:¬(r8 oy=true∧ry.reader=true)):jB ow oy ry ob=false:=by
 have:(r8 oy&&ry.reader)=false:=by rw[←B0h,A0g];exact h
 simp[jB,this]

theorem kQ {r:Rec}{sv:SV}{ob:Nat}(h:sv∈r.seen)(ha:sv.aB ob=false):r.bY ob=true:=by
 have:r.seen.any (fun sv=>!sv.aB ob)=true:=List.any_eq_true.2 ⟨sv,h,by simp[ha]⟩
 simp[Rec.bY,this]

theorem l8 {r:Rec}{ob:Nat}(h:ob∈r.cM.targets):r.bY ob=true:=by
 simp[Rec.bY,h]

theorem rB {e:gO}{u:Nat×aE}(h:e.cA=some u):u.1∈e.targets:=by simp[gO.targets,h]

theorem j3 {j:Nat}{t:Tmp}(h:jL ops j=some t):∃o,ops[j]? = some o∧o.dst=some t:=A0c.1 h

theorem ot {D:Nat→Bool} (hD:gK ops D) {i:Nat} {o:Oper} (ho:ops[i]? = some o) (hi:D i=false)
  (ha:∀e,e∈o.after→Region.binds .any e=true→D e.on=true) {j:Nat} {oj:Oper} (mP:ops[j]? = some oj) (h1:j<i→((iH ops.toList []).getD i 0).testBit j=true) (h2:i<j→((iH ops.toList []).getD j 0).testBit i=true):D j=decide (j<i):=by
 rcases Nat.lt_trichotomy j i with h | h | h
 ·rw[rJ hD ho ha (h1 h)]
  simp[h]
 ·subst h;rw[hi];simp
 ·have hm:=h2 h
  have:D j=false:=by
   rw[←B0h]
   intro CM
   have:=rJ hD mP (hD j oj CM mP) hm
   rw[hi] at this
   cases this
  rw[this];simp;omega

theorem Gf (hok:mj ops R σ=true) {D:Nat→Bool} (hD:gK ops D) {i:Nat} {o:Oper} {r:Rec} (ho:ops[i]? = some o) (hr:R[i]? = some r) (hi:D i=false)
  (ha:∀e,e∈o.after→Region.binds .any e=true→D e.on=true) {j:Nat} {oj:Oper} {rj:Rec} (mP:ops[j]? = some oj) (nh:R[j]? = some rj) (hc:(qN ops oj o rj r=true∧kf ops oj o rj r=false)∧qN ops o oj r rj=true∧kf ops o oj r rj=false):D j=decide (j<i):=
 ot hD ho hi ha mP (fun h=>(ou hok ho hr).2.2.2 j oj rj h mP nh |>.1 hc.1.1 hc.1.2) fun h=>(ou hok mP nh).2.2.2 i o r h ho hr |>.1 hc.2.1 hc.2.2

theorem nS {oj oi:Oper}{rj ri:Rec}(h:oj.apart ops oi=false):kf ops oj oi rj ri=false:=by simp[kf,h]

theorem Ac {oj oi:Oper}{t:Tmp}(hd:oj.dst=some t)(ht:t∈oi.looksAt ops):oj.apart ops oi=false:=by
 rw[←B0h]
 intro h
 exact(Oper.apart_spec h).1 t hd ht

theorem v9 {oj oi:Oper}{t:Tmp}(hd:oi.dst=some t)(ht:t∈oj.looksAt ops):oj.apart ops oi=false:=by
 rw[←B0h]
 intro h
 exact(Oper.apart_spec h).2.2 t hd ht

theorem qH {oj oi:Oper}{t:Tmp}(hd:oj.dst=some t)(ht:oi.dst=some t):oj.apart ops oi=false:=by
 rw[←B0h]
 intro h
 exact(Oper.apart_spec h).2.1 t hd ht

theorem It {oj oi:Oper}{rj ri:Rec}{ob:Nat}(h:ob∈rj.cM.targets)(hne:ob≠aO):kf ops oj oi rj ri=false∧kf ops oi oj ri rj=false:=by
 have h1:rj.reader=false:=by
  rw[←B0h];intro hr
  rw[gU hr] at h;cases h
 have h2:rj.nQ=false:=by
  rw[←B0h];intro hr
  rw[xz hr] at h;simp at h;exact hne h
 simp[kf,h1,h2]

theorem LL {oj oi:Oper}{rj ri:Rec}{ob ob':Nat}(h:ob∈rj.cM.targets)(h':ob'∈ri.cM.targets):kf ops oj oi rj ri=false∧kf ops oi oj ri rj=false:=by
 have h1:rj.reader=false:=by
  rw[←B0h];intro hr
  rw[gU hr] at h;cases h
 have h2:ri.reader=false:=by
  rw[←B0h];intro hr
  rw[gU hr] at h';cases h'
 simp[kf,h1,h2]

theorem JQ {ms:List Nat}{i j:Nat}{rj:Rec}(hj:j<ops.size)(nh:R[j]? = some rj)(hs:rj.nQ=true)(hne:j≠i)(h:j∉Dy ops R ms i):(j<i→(ms.getD i 0).testBit j=true)∧(i<j→(ms.getD j 0).testBit i=true):=by
 unfold Dy at h
 rw[List.mem_filter] at h
 simp only[List.mem_range,hj,true_and,nh,hs,Bool.true_and,A0g,Bool.not_eq_true',decide_eq_true_eq,Bool.and_eq_false_iff,decide_eq_false_iff_not] at h
 refine⟨fun hlt=>Classical.byContradiction fun hb=>h ⟨⟨.inr (by simpa using hb),.inl (by omega)⟩,hne⟩,fun hlt=>Classical.byContradiction fun hb=>h ⟨⟨.inl (by omega),.inr (by simpa using hb)⟩,hne⟩⟩

theorem Dq {D:Nat→Bool} (hok:mj ops R σ=true) (hF:∀(i:Nat) (o:Oper),ops[i]? = some o→∃r,RS P ops R σ env i o r) (hD:gK ops D) {i:Nat} {o:Oper} (ho:ops[i]? = some o) (hi:D i=false)
  (ha:∀e,e∈o.after→Region.binds .any e=true→D e.on=true):∃r:Rec,aY P env r.ix r.cM.bind∧r.ix≤env.length∧kx P ops o (bT ops R D σ ops.size) r.ix=some (bT ops R (fun j=>D j||j==i) σ ops.size,r.cM.bind):=by
 obtain⟨r,f⟩:=hF i o ho
 have hin:=(A0h.1 ho).1
 obtain⟨_,fu,hfr,I2⟩:=ou hok ho f.at_
 have fH:∀(j:Nat),j<ops.size→∃oj rj,ops[j]? = some oj∧R[j]? = some rj:=fun j hj=>by
  obtain⟨rj,fj⟩:=hF j ops[j] (A0o hj)
  exact⟨_,rj,A0o hj,fj.at_⟩
 have hdone:=fun {j:Nat} {oj:Oper} {rj:Rec}=>Gf (j:=j) (oj:=oj) (rj:=rj) hok hD ho f.at_ hi ha
 have AH:∀t,t∈o.looksAt ops→(bT ops R D σ ops.size).tmp t=(lex ops R σ i).tmp t:=by
  intro t ht
  refine sI (Nat.le_of_lt hin) fun j hj hjt=>?_
  obtain⟨oj,mP,I7⟩:=j3 hjt
  obtain⟨rj,fj⟩:=hF j oj mP
  exact hdone mP fj.at_ ⟨⟨KT I7 ht,nS (Ac I7 ht)⟩,HV I7 ht,nS (v9 I7 ht)⟩
 have ea:¬(r8 o=true∧r.reader=true)→∀ob,ob≠aO→r.bY ob=true→(bT ops R D σ ops.size).obj ob=(lex ops R σ i).obj ob:=by
  intro hnb ob hne jX
  refine nZ (Nat.le_of_lt hin) fun j hj G8=>?_
  obtain⟨oj,rj,mP,nh⟩:=fH j hj
  have Ri:ob∈rj.cM.targets:=by simpa[eU,nh] using G8
  obtain⟨hs1,jH⟩:=It (ops:=ops) (oj:=oj) (oi:=o) (ri:=r) Ri hne
  exact hdone mP nh ⟨⟨tM Ri jX (z2 hnb),hs1⟩,qF Ri jX (z2 hnb),jH⟩
 have oJ:∀t ob,t∈o.looksAt ops→((lex ops R σ i).tmp t).aB ob=false→r.bY ob=true:=fun t ob ht kN=>kQ (sv:=(lex ops R σ i).tmp t) (by rw[f.seen];exact B0p.2 (.inl (List.mem_map_of_mem ht))) kN
 have CD:dN o (fun x=>((lex ops R σ i).uG x).Gu) (eP (lex ops R σ i).obj)=true→r.bY aO=true:=fun hu=>kQ (sv:=.kF aO) (by rw[f.seen];refine B0p.2 (.inr ?_);rw[hu];simp) (by simp[SV.aB])
 have Ry:HZ R σ=true:=by
  unfold mj at hok
  rw[A0g] at hok
  exact hok.1
 have hC:eP (bT ops R D σ ops.size).obj=eP (lex ops R σ i).obj:=(xK Ry _).trans (xK Ry _).symm
 have Yp:bT ops R (fun j=>D j||j==i) σ ops.size=(bT ops R D σ ops.size).app o.dst r.cM:=by
  rw[uB hi ops.size hin fun j hj hij CM=>?_]
  ·have h1:jL ops i=o.dst:=by simp[jL,ho]
   have h2:eU R i=r.cM:=by simp[eU,f.at_]
   rw[h1,h2]
  ·obtain⟨oj,rj,mP,nh⟩:=fH j hj
   have hno:¬((qN ops oj o rj r=true∧kf ops oj o rj r=false)∧qN ops o oj r rj=true∧kf ops o oj r rj=false):=by
    intro hc
    have:=hdone mP nh hc
    rw[CM] at this
    simp at this
    omega
   refine⟨fun t h1 h2=>hno ?_,fun ob h1 h2=>hno ?_⟩
   ·obtain⟨o1,FG,CK⟩:=j3 h1
    obtain⟨o2,PX,hd2⟩:=j3 h2
    rw[ho] at FG;rw[mP] at PX
    cases FG;cases PX
    exact⟨⟨Fk hd2 CK,nS (qH hd2 CK)⟩,Fk CK hd2,nS (qH CK hd2)⟩
   ·have Ap:ob∈r.cM.targets:=by simpa[eU,f.at_] using h1
    have XF:ob∈rj.cM.targets:=by simpa[eU,nh] using h2
    obtain⟨hs1,jH⟩:=LL (ops:=ops) (oj:=oj) (oi:=o) XF Ap
    exact⟨⟨qF Ap (l8 XF) (BF XF),hs1⟩,tM Ap (l8 XF) (BF XF),jH⟩
 have fin:∀e:gO,jP P ops o (bT ops R D σ ops.size) r.ix=some e→aY P env r.ix e.bind→e.val=r.cM.val→e.cA=r.cM.cA→e.del=r.cM.del→∃r:Rec,aY P env r.ix r.cM.bind∧r.ix≤env.length∧kx P ops o (bT ops R D σ ops.size) r.ix=some (bT ops R (fun j=>D j||j==i) σ ops.size,r.cM.bind):=by
  intro e p6 zi h1 h2 h3
  refine⟨⟨e,[],r.ix⟩,zi,f.ix,?_⟩
  have aer:bT ops R (fun j=>D j||j==i) σ ops.size=(bT ops R D σ ops.size).app o.dst e:=by
   rw[Yp]
   simp only[af.app,h1,h2,h3]
  rw[aer]
  refine qP p6 ?_ fun hn u hu=>?_
  ·unfold mz at fu ⊢
   rw[(h_ ..).1]
   exact fu
  ·have hu:=h2 ▸ hu
   rcases hfr hn u hu with Yu | hfr
   ·exact .inl Yu
   by_cases hne:u.1=aO
   ·exact .inl hne
   refine .inr (pJ hfr ops.size fun j hj CM=>?_)
   obtain⟨oj,rj,mP,nh⟩:=fH j hj
   refine⟨rj,nh,?_⟩
   rcases Nat.lt_trichotomy j i with h | h | h
   ·exact((I2 j oj rj h mP nh).2 hn u hu).resolve_left hne
   ·subst h;rw[hi] at CM;cases CM
   ·rw[←B0h]
    intro ht
    obtain⟨hs1,jH⟩:=It (ops:=ops) (oj:=o) (oi:=oj) (ri:=rj) (rB hu) hne
    have:=hdone mP nh ⟨⟨qF (rB hu) ht (z3 hn),jH⟩,tM (rB hu) ht (z3 hn),hs1⟩
    rw[CM] at this
    simp at this
    omega
 by_cases oY:r8 o=true∧r.reader=true
 ·have hrd:=oY.2
  unfold Rec.reader at hrd
  rw[A0g] at hrd
  exact fin r.cM (Gd oY.1 AH hC f.cM hrd) f.bind rfl rfl rfl
 have ea:=ea oY
 by_cases hkeep:r.bY aO=true→(bT ops R D σ ops.size).obj aO=(lex ops R σ i).obj aO
 ·have p6:jP P ops o (bT ops R D σ ops.size) r.ix=some r.cM:=by
   rw[og AH (fun t ob ht kN=>?_) hC (fun hu=>hkeep (CD hu))]
   ·exact f.cM
   ·by_cases hne:ob=aO
    ·subst hne;exact hkeep (oJ t _ ht kN)
    ·exact ea ob hne (oJ t ob ht kN)
  exact fin r.cM p6 f.bind rfl rfl rfl
 ·-- a writer of the store has aaP place
  rw[Classical.not_imp] at hkeep
  obtain⟨jX,hkeep⟩:=hkeep
  have hw:∀j,j<ops.size→aO∈(eU R j).targets→D j=decide (j<i)∨(r.reader=true∧j∈Dy ops R (iH ops.toList []) i):=by
   intro j hj G8
   obtain⟨oj,rj,mP,nh⟩:=fH j hj
   have Ri:aO∈rj.cM.targets:=by simpa[eU,nh] using G8
   by_cases hji:j=i
   ·subst hji;left;rw[hi];simp
   by_cases MT:r.reader=true∧rj.nQ=true
   ·by_cases hm:j∈Dy ops R (iH ops.toList []) i
    ·exact .inr ⟨MT.1,hm⟩
    ·obtain⟨m1,m2⟩:=JQ hj nh MT.2 hji hm
     exact .inl (ot hD ho hi ha mP m1 m2)
   ·have J_:rj.reader=false:=by
     rw[←B0h];intro hr
     rw[gU hr] at Ri;cases Ri
    have hs:∀{o1 o2:Oper},kf ops o1 o2 rj r=false∧kf ops o2 o1 r rj=false:=by
     intro o1 o2
     have:(r.reader&&rj.nQ)=false:=by
      rw[←B0h,A0g];exact MT
     simp only[kf,J_,this,Bool.false_and,Bool.or_false,Bool.and_false,and_self]
    exact .inl (hdone mP nh ⟨⟨tM Ri jX z4,hs.1⟩,qF Ri jX z4,hs.2⟩)
  have hsame:(∀j,j<ops.size→aO∈(eU R j).targets→D j=decide (j<i))→False:=fun h=>hkeep (nZ (Nat.le_of_lt hin) h)
  have hread:r.reader=true:=by
   refine Classical.byContradiction fun hn=>hsame fun j hj G8=>?_
   exact(hw j hj G8).resolve_right fun h=>hn h.1
  obtain⟨ys,hys,bz⟩:=f.alt
  unfold Jl at hys
  simp only[ho,f.at_,hread,jX,Bool.and_self,if_true] at hys
  split at hys
  ·rename_i hs
   exact(hsame fun j hj G8=>(hw j hj G8).resolve_right fun h=>by rw[hs] at h;cases h.2).elim
  ·rename_i j0 hs
   have hD0:D j0≠decide (j0<i):=by
    intro h
    refine hsame fun j hj G8=>(hw j hj G8).elim id fun h'=>?_
    rw[hs] at h'
    have:=h'.2
    simp at this
    rw[this];exact h
   have halt:(bT ops R D σ ops.size).obj aO=C8 ops R σ i j0:=by
    refine uA ops.size fun j hj G8=>?_
    by_cases hj0:j=j0
    ·subst hj0
     cases CM:D j <;> cases I7:decide (j<i) <;> simp_all
    ·have:D j=decide (j<i):=(hw j hj G8).resolve_right fun h=>by rw[hs] at h;simp at h;exact hj0 h.2
     show D j=(decide (j<i) != (j==j0))
     rw[this,show(j==j0)=false from by simpa using hj0]
     cases decide (j<i) <;> rfl
   split at hys
   ·rename_i e he
    split at hys
    ·rename_i hc
     simp only[A0g,B0q] at hc
     have hrd:=hread
     unfold Rec.reader at hrd
     simp only[A0g,B0q] at hrd
     have p6:jP P ops o (bT ops R D σ ops.size) r.ix=some e:=by
      rw[←he]
      have hH:((lex ops R σ i).setObj aO (C8 ops R σ i j0)).obj aO=C8 ops R σ i j0:=by rw[ez,if_pos (.inl rfl)]
      refine og (fun t ht=>?_) (fun t ob ht kN=>?_) ?_ fun _=>by rw[hH];exact halt
      ·rw[af.eA];exact AH t ht
      ·rw[af.eA] at kN
       by_cases hne:ob=aO
       ·subst hne;rw[hH];exact halt
       ·rw[cT (Ne.symm hne)];exact ea ob hne (oJ t ob ht kN)
      ·rw[eu,eu,hH,halt]
     have hb:aY P env r.ix e.bind:=by
      split at hys
      ·rename_i b a eO hba
       cases hys
       obtain⟨d,hd⟩:=bz _ (List.mem_singleton_self _)
       have h0:=f.bind
       rw[hba] at h0
       obtain⟨da,h1,h2⟩:=h0
       rw[eO]
       simp only[E.eval,h1,A0d,A0c] at hd
       obtain⟨db,h3,h4⟩:=hd
       simp only[Am.D.m4] at h4
       split at h4
       ·rename_i hsm
        have:=Am.D.b_ hsm
        subst this
        exact⟨da,h3,h2⟩
       ·cases h4
      ·rename_i eO hba
       rw[eO];trivial
      ·cases hys
     exact fin e p6 hb (SV.b_ hc.1.1) (hc.1.2.trans hrd.1.symm) (hc.2.trans hrd.2.symm)
    ·cases hys
   ·cases hys
  ·cases hys

abbrev cP (listed:Array Bool):Nat→Bool:=fun j=>listed.getD j false

theorem vS {p q:Nat→Bool}{i:Nat}:∀{l:List Nat},(∀j,q j=true→p j=true)→i∈l→p i=true→q i=false→l.countP q<l.countP p
 | [],_,h,_,_=>by cases h
 | j :: l,hpq,hm,hp,hq=>by
  have hle:l.countP q≤l.countP p:=List.countP_mono_left fun x _ hx=>hpq x hx
  rw[List.countP_cons,List.countP_cons]
  rcases B0t.1 hm with rfl | hm
  ·rw[hp,hq];simp;omega
  ·have ih:=vS hpq hm hp hq
   cases hqj:q j with
   | false=>cases p j <;> simp <;> omega
   | true=>rw[hpq j hqj];simp;omega

theorem AS {rd:Option Nat} {n:Nat} {Q:Exit→Act→World→Prop} {st:(Nat→Bool)→af} (TI:∀(i:Nat) (o:Oper),ops[i]? = some o→∀e,e∈o.after→Region.binds .any e=true→e.on<i)
  (hst:∀(D:Nat→Bool) (i:Nat) (o:Oper),gK ops D→ops[i]? = some o→D i=false→(∀e,e∈o.after→Region.binds .any e=true→D e.on=true)→∃r:Rec,aY P env r.ix r.cM.bind∧r.ix≤env.length∧kx P ops o (st D) r.ix=some (st (fun j=>D j||j==i),r.cM.bind))
  (hlen:∀D,(st D).tmps.length=σ.tmps.length∧(st D).mem.length=σ.mem.length) (TC:∀D D':Nat→Bool,(∀j,j<ops.size→D j=D' j)→st D=st D') (hm:σ.mem.length=σ.tmps.length)
  (hsz:∀(j d:Nat),(ops[j]?).bind (fun(o:Oper)=>o.dst)=some d→d<σ.tmps.length) (hQ:∀a' w' ρ',bE w0 X w' a' (st fun _=>true) env ρ'→Q .normal a' w') :
  ∀(fuel:Nat) (listed:Array Bool) (a:Act) (w:World) (ρ:cr),listed.size=ops.size→gK ops (cP listed)→(List.range ops.size).countP (fun j=>!cP listed j)≤fuel →
   bE w0 X w a (st (cP listed)) env ρ→wpAnyIn (FW rd) n P .any ops Q fuel listed a w:=by
 have hall:∀(listed:Array Bool),listed.size=ops.size→Region.ready .any ops listed=[]→∀j,j<ops.size→cP listed j=true:=by
  intro listed hs hr j
  induction j using Nat.strongRecOn with
  | _ j ih=>
   intro hj
   refine Classical.byContradiction fun hnd=>?_
   have hmem:j∈Region.ready .any ops listed:=by
    refine mem_ready.2 ⟨?_,ops[j],A0o hj,fun e he hb=>?_⟩
    ·simp only[cP,A0p,A0o (show j<listed.size by omega),B0m] at hnd ⊢
     simpa using hnd
    ·have:=TI j ops[j] (A0o hj) e he hb
     exact ih e.on this (by omega)
   rw[hr] at hmem
   cases hmem
 have hend:∀(listed:Array Bool) (a:Act) (w:World) (ρ:cr),listed.size=ops.size→Region.ready .any ops listed=[]→bE w0 X w a (st (cP listed)) env ρ→Q .normal a w:=by
  intro listed a w ρ hs hr aG
  rw[TC _ (fun _=>true) fun j hj=>hall listed hs hr j hj] at aG
  exact hQ a w ρ aG
 intro fuel
 induction fuel with
 | zero=>
  intro listed a w ρ hs hD hc aG
  have kV:Region.ready .any ops listed=[]:=by
   cases hr:Region.ready .any ops listed with
   | nil=>rfl
   | cons j l=>
    have hmem:j∈Region.ready .any ops listed:=by rw[hr];simp
    obtain⟨h1,o,ho,_⟩:=mem_ready.1 hmem
    have hj:=(A0h.1 ho).1
    have hpos:0<(List.range ops.size).countP (fun j=>!cP listed j):=List.countP_pos_iff.2 ⟨j,List.mem_range.2 hj,by
     simp only[cP,A0p,A0o (show j<listed.size by omega),B0m] at h1 ⊢
     simpa using h1⟩
    omega
  exact⟨kV,hend listed a w ρ hs kV aG⟩
 | succ fuel ih=>
  intro listed a w ρ hs hD hc aG
  refine⟨fun kV=>hend listed a w ρ hs kV aG,fun i hi=>?_⟩
  obtain⟨h1,o,ho,ha⟩:=mem_ready.1 hi
  have hin:=(A0h.1 ho).1
  have uX:i<listed.size:=by omega
  have TM:cP listed i=false:=by
   simp only[cP,A0p,A0o uX,B0m] at h1 ⊢
   exact h1
  have iX:cP (listed.setIfInBounds i true)=fun j=>cP listed j||j==i:=by
   funext j
   simp only[cP,A0p,Array.getElem?_setIfInBounds]
   by_cases hij:i=j
   ·subst hij;simp[uX]
   ·have:(j==i)=false:=by simp;omega
    simp[hij,this]
  obtain⟨r,zi,bQ,hstep⟩:=hst _ i o hD ho TM ha
  have TN:gK ops (cP (listed.setIfInBounds i true)):=by
   rw[iX]
   intro k ok hk M5 e he hb
   simp only[Bool.or_eq_true,beq_iff_eq] at hk ⊢
   rcases hk with hk | rfl
   ·exact .inl (hD k ok hk M5 e he hb)
   ·rw[ho] at M5;cases M5
    exact .inl (ha e he hb)
  have TB:(List.range ops.size).countP (fun j=>!cP (listed.setIfInBounds i true) j)≤fuel:=by
   have:=vS (p:=fun j=>!cP listed j) (q:=fun j=>!cP (listed.setIfInBounds i true) j) (i:=i) (l:=List.range ops.size) (fun j hj=>by rw[iX] at hj;simp at hj ⊢;exact hj.1) (List.mem_range.2 hin) (by simp[TM]) (by rw[iX];simp)
   omega
  have hnext:∀a' w' ρ',bE w0 X w' a' (st (fun j=>cP listed j||j==i)) env ρ'→wpAnyIn (FW rd) n P .any ops Q fuel (listed.setIfInBounds i true) a' w':=by
   intro a' w' ρ' hr'
   exact ih _ a' w' ρ' (by simp[hs]) TN TB (by rw[iX];exact hr')
  have hlen:=hlen (cP listed)
  unfold wpOpIn
  rw[ho]
  simp only
  rcases vv aG (by rw[hlen.1,hlen.2];exact hm) bQ (fun j d X8=>by rw[hlen.1];exact hsz j d X8) hstep zi with⟨hw,XV⟩ | ⟨hw,ρ'',hr'⟩
  ·rw[if_pos hw]
   refine fN (vw hstep) (XV Q) ?_
   rintro a' w' ⟨ρ',hr'⟩
   exact hnext a' w' ρ' hr'
  ·rw[if_neg (by rw[hw];simp)]
   exact⟨fun _ _=>trivial,hnext _ _ _ hr'⟩

theorem FN {rd:Option Nat} {n:Nat} {Q:Exit→Act→World→Prop} (hok:mj ops R σ=true) (hF:∀(i:Nat) (o:Oper),ops[i]? = some o→∃r,RS P ops R σ env i o r) (hm:σ.mem.length=σ.tmps.length)
  (hsz:∀(j d:Nat),(ops[j]?).bind (fun(o:Oper)=>o.dst)=some d→d<σ.tmps.length) (hQ:∀a' w' ρ',bE w0 X w' a' (lex ops R σ ops.size) env ρ'→Q .normal a' w') :
  ∀(fuel:Nat) (listed:Array Bool) (a:Act) (w:World) (ρ:cr),listed.size=ops.size→gK ops (cP listed)→(List.range ops.size).countP (fun j=>!cP listed j)≤fuel →
   bE w0 X w a (bT ops R (cP listed) σ ops.size) env ρ→wpAnyIn (FW rd) n P .any ops Q fuel listed a w:=
 AS (st:=fun D=>bT ops R D σ ops.size) (fun i o ho=>by
  obtain⟨r,f⟩:=hF i o ho
  exact(ou hok ho f.at_).1) (fun D i o hD ho hi ha=>Dq hok hF hD ho hi ha) (fun D=>h_ ops R D σ ops.size) (fun D D' h=>je ops.size h) hm hsz hQ

end
end
end

section
noncomputable section

def kS (cf:bV)(e:gO):Option Nat:=
 match e.cA with
 | some (k,.store tP (.sym n))=>if k=aO∧tP=cf then some n else none
 | _=>none

theorem kR {cf:bV}{e:gO}{n:Nat}(h:kS cf e=some n):e.cA=some (aO,.store cf (.sym n)):=by
 unfold kS at h
 split at h
 ·rename_i k tP n' hu
  split at h
  ·rename_i hc
   cases h
   rw[hu,hc.1,hc.2]
  ·cases h
 ·cases h

def gO.bare (e:gO):gO:=match e.cA with | some u=>if u.1=aO then { e with cA:=none } else e | none=>e

def o5 (R:List Rec):List Rec:=R.map fun r=>{ r with cM:=r.cM.bare }

structure Lc where
 i:Nat
 j:Nat
 ni:Nat
 nj:Nat
 ja:Nat

def ea (σ:af)(cf:bV)(t:Lc):Bool→Bool→Option aE
 | false,false=>σ.obj aO
 | true,false=>some (.store cf (.sym t.ni))
 | false,true=>some (.store cf (.sym t.ja))
 | true,true=>some (.store cf (.sym t.nj))

def o4 (ops:Array Oper)(oj oi:Oper)(rj ri:Rec):Bool:=
 !oj.apart ops oi||rj.cM.bare.targets.any ri.bY||ri.cM.bare.targets.any rj.bY

def L3 (ops:Array Oper)(R:List Rec)(σ:af)(m i:Nat):Bool:=
 match ops[i]?,R[i]? with
 | some oi,some ri=>oi.after.all (fun e=>!Region.binds .any e||decide (e.on<i))&&mz σ oi &&
   (!fe oi||match ri.cM.cA with | some u=>decide (u.1=aO)||((σ.obj u.1).isNone&&σ.iw u.1) | none=>true) &&
   (List.range i).all fun j=>match ops[j]?,R[j]? with
    | some oj,some rj=>(!o4 ops oj oi rj ri||m.testBit j)&&(!fe oi||match ri.cM.cA with | some u=>decide (u.1=aO)||!rj.bY u.1 | none=>true)
    | _,_=>true
 | _,_=>false

def B9 (R:List Rec)(cf:bV)(t:Lc):Bool:=
 decide (t.i<t.j)&&(List.range R.length).all fun k=>match R[k]? with
  | some r=>decide (r.cM.del≠some aO)&&(if k=t.i then decide (kS cf r.cM=some t.ni) else if k=t.j then decide (kS cf r.cM=some t.nj) else match r.cM.cA with
   | some u=>decide (u.1≠aO)
   | none=>true)
  | none=>true

def mW (ops:Array Oper)(R:List Rec)(σ:af)(cf:bV)(t:Lc):Bool:=
 decide (ops.size=R.length)&&decide (py (σ.obj aO)=some cf)&&B9 R cf t&&(List.range ops.size).all fun i=>L3 ops R σ ((iH ops.toList []).getD i 0) i

def RF (ms:List Nat)(k w:Nat):Bool:=!(decide (w<k)&&(ms.getD k 0).testBit w)&&!(decide (k<w)&&(ms.getD w 0).testBit k)

def CU (ms:List Nat)(k w:Nat):List Bool:=if RF ms k w then[false,true] else[decide (w<k)]

def oh (P:Program)(ops:Array Oper)(R:List Rec)(σ:af)(cf:bV)(t:Lc)(k:Nat)(o:Oper)(a b:Bool)(ix:Nat):Option gO:=
 jP P ops o ((lex ops R σ k).setObj aO (ea σ cf t a b)) ix

def Ov (P:Program)(ops:Array Oper)(R:List Rec)(σ:af)(cf:bV)(t:Lc)(k:Nat)(o:Oper)(r:Rec)(a b:Bool):Option (List E):=
 if a=decide (t.i<k)∧b=decide (t.j<k) then some [] else match oh P ops R σ cf t k o a b r.ix with
 | some e=>if e.val.same r.cM.val&&e.cA.isNone&&r.cM.cA.isNone&&e.del.isNone&&r.cM.del.isNone then(match e.bind,r.cM.bind with
   | some (.ev b),some (.ev a)=>some [.m4 .same a b .nil .nil]
   | none,none=>some []
   | _,_=>none) else none
 | none=>none

def Ob:List (Option (List E))→Option (List E)
 | []=>some []
 | x :: r=>x.bind fun xs=>(Ob r).map (xs++·)

def H_ (P:Program)(ops:Array Oper)(R:List Rec)(σ:af)(cf:bV)(t:Lc)(ms:List Nat)(k:Nat):Option (List E):=
 match ops[k]?,R[k]? with
 | some o,some r=>
  if k=t.i then(match oh P ops R σ cf t k o false true t.nj with
   | some e=>if e.val.same r.cM.val&&decide (kS cf e=some t.nj)&&e.del.isNone&&r.cM.del.isNone then(match e.bind with
    | some (.ev b)=>some [.m4 .same b (.sym t.nj) .nil .nil]
    | _=>none) else none
   | none=>none)
  else if k=t.j then(match oh P ops R σ cf t k o false false t.ja with
   | some e=>if e.val.same r.cM.val&&decide (kS cf e=some t.ja)&&e.del.isNone&&r.cM.del.isNone then(match e.bind with
    | some (.ev b)=>some [.m4 .same (.sym t.ja) b .nil .nil]
    | _=>none) else none
   | none=>none)
  else if r.bY aO then Ob ((CU ms k t.i).flatMap fun a=>(CU ms k t.j).map fun b=>Ov P ops R σ cf t k o r a b)
  else some []
 | _,_=>none

def Z0 (P:Program)(ops:Array Oper)(R:List Rec)(σ:af)(cf:bV)(t:Lc):Option E:=
 match ops[t.j]? with
 | some o=>(match oh P ops R σ cf t t.j o false false t.ja with
  | some e=>(match e.bind with
   | some (.ev b)=>some b
   | _=>none)
  | none=>none)
 | none=>none

def Vz (R:List Rec)(cf:bV)(ja:Nat):Option Lc:=
 match(List.range R.length).filterMap fun k=>(R[k]?).bind fun r=>(kS cf r.cM).map fun n=>(k,n) with
 | [(i,ni),(j,nj)]=>some ⟨i,j,ni,nj,ja⟩
 | _=>none

def w6 (P:Program)(ops:Array Oper)(R:List Rec)(σ:af)(ja:Nat):Option (List E):=
 match py (σ.obj aO) with
 | some cf=>(Vz R cf ja).bind fun t=>if mW ops R σ cf t=true then(Z0 P ops R σ cf t).bind fun b=>
   (Ob ((List.range ops.size).map (H_ P ops R σ cf t (iH ops.toList [])))).map (b :: ·) else none
 | none=>none

/-! ## states -/

section
variable {P:Program} {ops:Array Oper} {R:List Rec} {σ:af} {D:Nat→Bool} {cf:bV} {t:Lc} {env:List Am.D}

theorem nG (e:gO):e.bare.val=e.val:=by
 unfold gO.bare;split
 ·split <;> rfl
 ·rfl

theorem nH (e:gO):e.bare.del=e.del:=by
 unfold gO.bare;split
 ·split <;> rfl
 ·rfl

theorem iM (e:gO):e.bare.cA=match e.cA with | some u=>if u.1=aO then none else some u | none=>none:=by
 unfold gO.bare
 split
 ·rename_i u hu
  split
  ·rfl
  ·exact hu
 ·rename_i hu;exact hu

theorem tR {e:gO}{ob:Nat}(h:ob∈e.bare.targets)(hd:e.del≠some aO):ob∈e.targets∧ob≠aO:=by
 unfold gO.targets at h ⊢
 rw[iM,nH] at h
 rcases B0p.1 h with h | h
 ·cases hu:e.cA with
  | none=>rw[hu] at h;simp at h
  | some u=>
   rw[hu] at h
   by_cases hh:u.1=aO
   ·simp[hh] at h
   ·simp[hh] at h
    subst h
    exact⟨by simp,hh⟩
 ·cases hk:e.del with
  | none=>rw[hk] at h;simp at h
  | some k=>
   rw[hk] at h
   simp at h
   subst h
   exact⟨by simp,fun e=>hd (by rw[hk,e])⟩

def oE (e:gO)(z:Option aE):Option aE:=match e.cA with | some u=>if u.1=aO then some u.2 else z | none=>z

theorem Ab {τ:af}{dst:Option Tmp}{e:gO}{z:Option aE}(hd:e.del≠some aO):(τ.setObj aO z).app dst e=(τ.app dst e.bare).setObj aO (oE e z):=by
 have two:∀(τ:af) (x y:Option aE),(τ.setObj aO x).setObj aO y=τ.setObj aO y:=by
  intro τ x y
  simp[af.d_]
 unfold af.app oE
 rw[iM,nH,nG,xU]
 congr 1
 cases hk:e.del with
 | none=>
  cases hu:e.cA with
  | none=>rfl
  | some u=>
   by_cases hh:u.1=aO
   ·simp only[hh,if_true,af.gy,af.sets,two]
   ·simp only[hh,if_false,af.gy,af.sets]
    exact kq _ _ _ (Ne.symm hh)
 | some k=>
  have hkk:aO≠k:=fun e=>hd (by rw[hk,e])
  cases hu:e.cA with
  | none=>
   simp only[af.gy,af.sets]
   exact kq _ _ _ hkk
  | some u=>
   simp only[af.gy]
   rw[kq _ _ _ hkk]
   by_cases hh:u.1=aO
   ·simp only[hh,if_true,af.sets,two]
   ·simp only[hh,if_false,af.sets]
    exact kq _ _ _ (Ne.symm hh)

theorem lU (k:Nat):eU (o5 R) k=(eU R k).bare:=by
 unfold eU o5
 rw[A0v]
 cases R[k]? <;> rfl

theorem jd (σ:af):σ.setObj aO (σ.obj aO)=σ:=by
 simp[af.d_,af.cK]

theorem n_ (kI:∀k,(eU R k).del≠some aO):∀n,∃z,bT ops R D σ n=(bT ops (o5 R) D σ n).setObj aO z
 | 0=>⟨σ.obj aO,(jd σ).symm⟩
 | n+1=>by
  obtain⟨z,hz⟩:=n_ kI n
  unfold bT
  split
  ·rw[hz,Ab (kI n),lU]
   exact⟨_,rfl⟩
  ·exact⟨z,hz⟩

structure tZ (R:List Rec)(cf:bV)(t:Lc):Prop where
 lt:t.i<t.j
 del:∀k,(eU R k).del≠some aO
 ZW:∀r,R[t.i]? = some r→r.cM.cA=some (aO,.store cf (.sym t.ni))
 ZV:∀r,R[t.j]? = some r→r.cM.cA=some (aO,.store cf (.sym t.nj))
 other:∀k r,R[k]? = some r→k≠t.i→k≠t.j→∀u,r.cM.cA=some u→u.1≠aO

theorem QT (h:B9 R cf t=true):tZ R cf t:=by
 unfold B9 at h
 simp only[A0g,decide_eq_true_eq,A0z,List.mem_range] at h
 obtain⟨hlt,h⟩:=h
 have at_:∀{k:Nat} {r:Rec},R[k]? = some r→r.cM.del≠some aO∧((k=t.i→kS cf r.cM=some t.ni)∧(k≠t.i→k=t.j→kS cf r.cM=some t.nj)∧(k≠t.i→k≠t.j→∀u,r.cM.cA=some u→u.1≠aO)):=by
  intro k r hk
  have:=h k (A0a.1 hk).1
  rw[hk] at this
  simp only[A0g,decide_eq_true_eq] at this
  refine⟨this.1,fun e=>?_,fun e1 e2=>?_,fun e1 e2 u hu=>?_⟩
  ·rw[if_pos e] at this;simpa using this.2
  ·rw[if_neg e1,if_pos e2] at this;simpa using this.2
  ·rw[if_neg e1,if_neg e2,hu] at this;simpa using this.2
 refine⟨hlt,fun k=>?_,fun r hr=>kR ((at_ hr).2.1 rfl),fun r hr=>kR ((at_ hr).2.2.1 (by omega) rfl),fun k r hr e1 e2=>(at_ hr).2.2.2 e1 e2⟩
 unfold eU
 cases hr:R[k]? with
 | none=>simp
 | some r=>exact(at_ hr).1

theorem tZ.YV (ht:tZ R cf t)(hl:t.i<R.length):(eU R t.i).cA=some (aO,.store cf (.sym t.ni)):=by
 have hr:R[t.i]? = some R[t.i]:=A0f hl
 unfold eU
 rw[hr]
 exact ht.ZW _ hr

theorem tZ.YU (ht:tZ R cf t)(hl:t.j<R.length):(eU R t.j).cA=some (aO,.store cf (.sym t.nj)):=by
 have hr:R[t.j]? = some R[t.j]:=A0f hl
 unfold eU
 rw[hr]
 exact ht.ZV _ hr

theorem tZ.T8 (ht:tZ R cf t){k:Nat}(h1:k≠t.i)(h2:k≠t.j){u:Nat×aE}(hu:(eU R k).cA=some u):u.1≠aO:=by
 unfold eU at hu
 cases hr:R[k]? with
 | none=>rw[hr] at hu;cases hu
 | some r=>rw[hr] at hu;exact ht.other k r hr h1 h2 u hu

theorem Mq (n:Nat):lex ops R σ (n+1)=(lex ops R σ n).app (jL ops n) (eU R n):=rfl

theorem Cm (ht:tZ R cf t)(hlen:t.j<R.length):∀n,(lex ops R σ n).obj aO=ea σ cf t (decide (t.i<n)) (decide (t.j<n))
 | 0=>by simp[ea,bT]
 | n+1=>by
  have ih:=Cm ht hlen n
  have hlt:=ht.lt
  rw[Mq]
  generalize lex ops R σ n=τ at ih
  have hd:=ht.del n
  have key:∀e:gO,e.del≠some aO→(τ.app (jL ops n) e).obj aO=oE e (τ.obj aO):=by
   intro e hd
   have:=Ab (τ:=τ) (dst:=jL ops n) (z:=τ.obj aO) hd
   rw[jd] at this
   rw[this,ez,if_pos (.inl rfl)]
  rw[key _ hd,ih]
  by_cases h1:n=t.i
  ·subst h1
   rw[oE,ht.YV (by omega)]
   have e1:decide (t.i<t.i+1)=true:=by simp
   have e2:decide (t.j<t.i+1)=false:=by simp;omega
   rw[e1,e2]
   rfl
  ·by_cases h2:n=t.j
   ·subst h2
    rw[oE,ht.YU hlen]
    have e1:decide (t.i<t.j+1)=true:=by simp;omega
    have e2:decide (t.j<t.j+1)=true:=by simp
    rw[e1,e2]
    rfl
   ·have e1:decide (t.i<n+1)=decide (t.i<n):=decide_eq_decide.2 (by omega)
    have e2:decide (t.j<n+1)=decide (t.j<n):=decide_eq_decide.2 (by omega)
    rw[e1,e2]
    unfold oE
    split
    ·rename_i u hu
     rw[if_neg (ht.T8 h1 h2 hu)]
    ·rfl

def gA (ops:Array Oper)(R:List Rec)(σ:af)(cf:bV)(t:Lc)(D:Nat→Bool):af:=
 (bT ops (o5 R) D σ ops.size).setObj aO (ea σ cf t (D t.i) (D t.j))

theorem zY:∀{l:List (Option (List E))} {xs:List E},Ob l=some xs→∀x,x∈l→∃ys,x=some ys∧∀y,y∈ys→y∈xs
 | [],_,_,x,hx=>by cases hx
 | a :: l,xs,h,x,hx=>by
  simp only[Ob,A0c,A0b] at h
  obtain⟨ys,h1,zs,h2,rfl⟩:=h
  rcases B0t.1 hx with rfl | hx
  ·exact⟨ys,h1,fun y hy=>B0p.2 (.inl hy)⟩
  ·obtain⟨ys',g1,g2⟩:=zY h2 x hx
   exact⟨ys',g1,fun y hy=>B0p.2 (.inr (g2 y hy))⟩

structure OF (P:Program)(ops:Array Oper)(R:List Rec)(σ:af)(env:List Am.D)(cf:bV)(t:Lc)(i:Nat)(o:Oper)(r:Rec):Prop where
 at_:R[i]? = some r
 cM:jP P ops o (lex ops R σ i) r.ix=some r.cM
 seen:r.seen=pG ops o (lex ops R σ i)
 bind:aY P env r.ix r.cM.bind
 ix:r.ix≤env.length
 alt:∃ys,H_ P ops R σ cf t (iH ops.toList []) i=some ys∧∀y,y∈ys→∃d,y.eval env=some d

theorem Jx {a b:E}{n:Nat}(hd:∃d,(E.m4 .same a b .nil .nil).eval env=some d)(hb:b.eval env=env[n]?):aY P env n (some (.ev a)):=by
 obtain⟨d,hd⟩:=hd
 simp only[E.eval,A0c] at hd
 obtain⟨x,h1,y,h2,_,_,_,_,h3⟩:=hd
 simp only[Am.D.m4] at h3
 split at h3
 ·rename_i hs
  have:=Am.D.b_ hs
  subst this
  exact⟨x,h1,by rw[←hb,h2]⟩
 ·cases h3

theorem xH {a b:E}{n:Nat}(hd:∃d,(E.m4 .same b a .nil .nil).eval env=some d)(hb:b.eval env=env[n]?):aY P env n (some (.ev a)):=by
 obtain⟨d,hd⟩:=hd
 simp only[E.eval,A0c] at hd
 obtain⟨x,h1,y,h2,_,_,_,_,h3⟩:=hd
 simp only[Am.D.m4] at h3
 split at h3
 ·rename_i hs
  have:=Am.D.b_ hs
  subst this
  exact⟨x,h2,by rw[←hb,h1]⟩
 ·cases h3

theorem Lz {n:Nat}{a:E}(hb:aY P env n (some (.ev a))):n≤env.length:=by
 obtain⟨d,_,h⟩:=hb
 exact Nat.le_of_lt (A0a.1 h).1

theorem zJ (hD:gK ops D){k w:Nat}{o:Oper}(ho:ops[k]? = some o)(hk:D k=false)(ha:∀e,e∈o.after→Region.binds .any e=true→D e.on=true)(hw:w<ops.size)(hne:k≠w):D w∈CU (iH ops.toList []) k w:=by
 unfold CU
 split
 ·cases D w <;> simp
 ·rename_i hf
  simp only[RF,A0g,Bool.not_eq_true',Bool.and_eq_false_iff,decide_eq_false_iff_not] at hf
  rw[List.mem_singleton]
  exact ot hD ho hk ha (A0o hw) (fun h=>Classical.byContradiction fun hb=>hf ⟨.inr (by simpa using hb),.inl (by omega)⟩) fun h=>Classical.byContradiction fun hb=>hf ⟨.inl (by omega),.inr (by simpa using hb)⟩

theorem VD (hok:mW ops R σ cf t=true) (hF:∀(i:Nat) (o:Oper),ops[i]? = some o→∃r,OF P ops R σ env cf t i o r) (hj:t.j<ops.size) (hD:gK ops D) {i:Nat} {o:Oper} (ho:ops[i]? = some o) (hi:D i=false)
  (ha:∀e,e∈o.after→Region.binds .any e=true→D e.on=true):∃r:Rec,aY P env r.ix r.cM.bind∧r.ix≤env.length∧kx P ops o (gA ops R σ cf t D) r.ix=some (gA ops R σ cf t (fun j=>D j||j==i),r.cM.bind):=by
 unfold mW at hok
 simp only[A0g,decide_eq_true_eq,A0z,List.mem_range] at hok
 obtain⟨⟨⟨hsize,uf⟩,S7⟩,hall⟩:=hok
 have ht:=QT S7
 obtain⟨r,f⟩:=hF i o ho
 have hin:=(A0h.1 ho).1
 have fH:∀(j:Nat),j<ops.size→∃oj rj,ops[j]? = some oj∧R[j]? = some rj:=fun j hj=>by
  obtain⟨rj,fj⟩:=hF j ops[j] (A0o hj)
  exact⟨_,rj,A0o hj,fj.at_⟩
 have XW:∀{k:Nat} {ok:Oper} {rk:Rec},ops[k]? = some ok→R[k]? = some rk→mz σ ok=true∧(fe ok=true→∀u,rk.cM.cA=some u→u.1=aO∨kY σ u.1) ∧
   ∀(j:Nat) (oj:Oper) (rj:Rec),j<k→ops[j]? = some oj→R[j]? = some rj→(o4 ops oj ok rj rk=true→((iH ops.toList []).getD k 0).testBit j=true)∧(fe ok=true→∀u,rk.cM.cA=some u→u.1=aO∨rj.bY u.1=false):=by
  intro k ok rk hk ue
  have h:=hall k (A0h.1 hk).1
  unfold L3 at h
  rw[hk,ue] at h
  simp only[A0g,A0z,List.mem_range] at h
  obtain⟨⟨⟨_,h2⟩,h3⟩,h4⟩:=h
  refine⟨h2,fun hn u hu=>?_,fun j oj rj hj mP nh=>?_⟩
  ·rw[hn,hu] at h3
   simpa[kY] using h3
  ·have:=h4 j hj
   rw[mP,nh] at this
   simp only[A0g,Bool.or_eq_true,Bool.not_eq_true'] at this
   refine⟨fun hc=>by rw[hc] at this;simpa using this.1,fun hn u hu=>?_⟩
   have:=this.2
   rw[hn,hu] at this
   simpa using this
 obtain⟨fu,hfr,I2⟩:=XW ho f.at_
 have hdone:∀{j:Nat} {oj:Oper} {rj:Rec},ops[j]? = some oj→R[j]? = some rj→o4 ops oj o rj r=true→o4 ops o oj r rj=true→D j=decide (j<i):=fun {j oj rj} mP nh h1 h2=>
  ot hD ho hi ha mP (fun h=>(I2 j oj rj h mP nh).1 h1) fun h=>((XW mP nh).2.2 i o r h ho f.at_).1 h2
 have ap:∀{j:Nat} {oj:Oper} {rj:Rec},oj.apart ops o=false→o.apart ops oj=false→ops[j]? = some oj→R[j]? = some rj→D j=decide (j<i):=fun h1 h2 mP nh=>
  hdone mP nh (by simp[o4,h1]) (by simp[o4,h2])
 have Qo:∀{k:Nat} {rk:Rec},R[k]? = some rk→eU R k=rk.cM:=fun hk=>by simp[eU,hk]
 obtain⟨zD,hzD⟩:=n_ (ops:=ops) (σ:=σ) (D:=D) ht.del ops.size
 obtain⟨zL,hzL⟩:=n_ (ops:=ops) (σ:=σ) (D:=fun _=>true) ht.del i
 have AH:∀s,s∈o.looksAt ops→(gA ops R σ cf t D).tmp s=(lex ops R σ i).tmp s:=by
  intro s hs
  have h1:(bT ops R D σ ops.size).tmp s=(lex ops R σ i).tmp s:=by
   refine sI (Nat.le_of_lt hin) fun j hj hjt=>?_
   obtain⟨oj,mP,I7⟩:=j3 hjt
   obtain⟨rj,fj⟩:=hF j oj mP
   exact ap (Ac I7 hs) (v9 I7 hs) mP fj.at_
  rw[←h1,hzD]
  unfold gA
  rw[af.eA,af.eA]
 have Rt:∀ob,ob≠aO→r.bY ob=true→(gA ops R σ cf t D).obj ob=(lex ops R σ i).obj ob:=by
  intro ob hne jX
  have h1:(bT ops (o5 R) D σ ops.size).obj ob=(bT ops (o5 R) (fun _=>true) σ i).obj ob:=by
   refine nZ (Nat.le_of_lt hin) fun j hj G8=>?_
   obtain⟨oj,rj,mP,nh⟩:=fH j hj
   rw[lU,Qo nh] at G8
   refine hdone mP nh ?_ ?_
   ·have:rj.cM.bare.targets.any r.bY=true:=List.any_eq_true.2 ⟨ob,G8,jX⟩
    simp[o4,this]
   ·have:rj.cM.bare.targets.any r.bY=true:=List.any_eq_true.2 ⟨ob,G8,jX⟩
    simp[o4,this]
  have h2:(lex ops R σ i).obj ob=(bT ops (o5 R) (fun _=>true) σ i).obj ob:=by
   show(bT ops R (fun _=>true) σ i).obj ob=_
   rw[hzL,cT (Ne.symm hne)]
  unfold gA
  rw[cT (Ne.symm hne),h1,h2]
 have oJ:∀s ob,s∈o.looksAt ops→((lex ops R σ i).tmp s).aB ob=false→r.bY ob=true:=fun s ob hs kN=>kQ (sv:=(lex ops R σ i).tmp s) (by rw[f.seen];exact B0p.2 (.inl (List.mem_map_of_mem hs))) kN
 have CD:dN o (fun x=>((lex ops R σ i).uG x).Gu) (eP (lex ops R σ i).obj)=true→r.bY aO=true:=fun hu=>kQ (sv:=.kF aO) (by rw[f.seen];refine B0p.2 (.inr ?_);rw[hu];simp) (by simp[SV.aB])
 have PO:(gA ops R σ cf t D).obj aO=ea σ cf t (D t.i) (D t.j):=by
  unfold gA
  rw[ez,if_pos (.inl rfl)]
 have TD:∀a b,py (ea σ cf t a b)=some cf:=by
  intro a b
  cases a <;> cases b <;> first | exact uf | rfl
 have I3:=Cm (ops:=ops) (σ:=σ) ht (by omega) i
 have aek:eP (lex ops R σ i).obj=some cf:=by rw[eu,I3,TD]
 have nr:∀ix,jP P ops o (gA ops R σ cf t D) ix=oh P ops R σ cf t i o (D t.i) (D t.j) ix:=by
  intro ix
  unfold oh
  have hH:((lex ops R σ i).setObj aO (ea σ cf t (D t.i) (D t.j))).obj aO=ea σ cf t (D t.i) (D t.j):=by rw[ez,if_pos (.inl rfl)]
  refine og (fun s hs=>?_) (fun s ob hs kN=>?_) ?_ fun _=>by rw[PO,hH]
  ·rw[af.eA];exact AH s hs
  ·rw[af.eA] at kN
   by_cases hne:ob=aO
   ·subst hne;rw[PO,hH]
   ·rw[cT (Ne.symm hne)];exact Rt ob hne (oJ s ob hs kN)
  ·rw[eu,eu,PO,hH]
 have PT:bT ops (o5 R) (fun j=>D j||j==i) σ ops.size=(bT ops (o5 R) D σ ops.size).app o.dst r.cM.bare:=by
  rw[uB hi ops.size hin fun j hj hij CM=>?_]
  ·rw[lU,Qo f.at_]
   congr 1
   simp[jL,ho]
  ·obtain⟨oj,rj,mP,nh⟩:=fH j hj
   have hno:D j≠decide (j<i):=by rw[CM];simp;omega
   refine⟨fun s h1 h2=>hno ?_,fun ob h1 h2=>hno ?_⟩
   ·obtain⟨o1,FG,CK⟩:=j3 h1
    obtain⟨o2,PX,hd2⟩:=j3 h2
    rw[ho] at FG;rw[mP] at PX
    cases FG;cases PX
    exact ap (qH hd2 CK) (qH CK hd2) mP nh
   ·rw[lU,Qo f.at_] at h1
    rw[lU,Qo nh] at h2
    have hd:=ht.del i
    rw[Qo f.at_] at hd
    obtain⟨g1,g2⟩:=tR h1 hd
    refine hdone mP nh ?_ ?_
    ·have:r.cM.bare.targets.any rj.bY=true:=List.any_eq_true.2 ⟨ob,h1,by
      have I7:=ht.del j
      rw[Qo nh] at I7
      exact l8 (tR h2 I7).1⟩
     simp[o4,this]
    ·have:r.cM.bare.targets.any rj.bY=true:=List.any_eq_true.2 ⟨ob,h1,by
      have I7:=ht.del j
      rw[Qo nh] at I7
      exact l8 (tR h2 I7).1⟩
     simp[o4,this]
 have hrd:r.cM.del≠some aO:=by have:=ht.del i;rwa [Qo f.at_] at this
 have fin:∀(e:gO) (ix:Nat),jP P ops o (gA ops R σ cf t D) ix=some e→aY P env ix e.bind→ix≤env.length→e.val=r.cM.val→e.bare.cA=r.cM.bare.cA→e.del=r.cM.del→(∀u,e.cA=some u→u.1=aO→some u.2=ea σ cf t (D t.i||t.i==i) (D t.j||t.j==i))→((∀u,e.cA=some u→u.1≠aO)→i≠t.i∧i≠t.j) →
   (fe o=true→∀u,e.cA=some u→u.1=aO∨r.cM.cA=some u)→∃r:Rec,aY P env r.ix r.cM.bind∧r.ix≤env.length∧kx P ops o (gA ops R σ cf t D) r.ix=some (gA ops R σ cf t (fun j=>D j||j==i),r.cM.bind):=by
  intro e ix p6 zi bQ h1 h2 h3 h4 h5 h6
  refine⟨⟨e,[],ix⟩,zi,bQ,?_⟩
  have agV:e.bare={ e.bare with val:=r.cM.bare.val,cA:=r.cM.bare.cA,del:=r.cM.bare.del }:=by
   rw[←h2,nG,nH,←h1,←h3,←nG e,←nH e]
  have hnew:gA ops R σ cf t (fun j=>D j||j==i)=(gA ops R σ cf t D).app o.dst e:=by
   unfold gA
   rw[Ab (by rw[h3];exact hrd),PT]
   have Km:∀τ:af,τ.app o.dst e.bare=τ.app o.dst r.cM.bare:=fun τ=>by
    unfold af.app
    rw[h2,nH,nH,nG,nG,h1,h3]
   rw[Km]
   congr 1
   unfold oE
   cases hu:e.cA with
   | none=>
    obtain⟨g1,g2⟩:=h5 fun u jf=>by rw[hu] at jf;cases jf
    have e1:(t.i==i)=false:=by simpa using Ne.symm g1
    have e2:(t.j==i)=false:=by simpa using Ne.symm g2
    simp only[e1,e2,Bool.or_false]
   | some u=>
    by_cases hh:u.1=aO
    ·simp only[hh,if_true]
     exact(h4 u hu hh).symm
    ·simp only[hh,if_false]
     obtain⟨g1,g2⟩:=h5 fun u' jf=>by rw[hu] at jf;cases jf;exact hh
     have e1:(t.i==i)=false:=by simpa using Ne.symm g1
     have e2:(t.j==i)=false:=by simpa using Ne.symm g2
     simp only[e1,e2,Bool.or_false]
  rw[hnew]
  refine qP p6 ?_ fun hn u hu=>?_
  ·unfold mz at fu ⊢
   unfold gA
   rw[af.aA,(h_ ..).1]
   exact fu
  ·rcases h6 hn u hu with Yu | hu
   ·exact .inl Yu
   rcases hfr hn u hu with Yu | hfr
   ·exact .inl Yu
   by_cases hne:u.1=aO
   ·exact .inl hne
   right
   have P_:∀{k:Nat} {rk:Rec},R[k]? = some rk→rk.bY u.1=false→({ rk with cM:=rk.cM.bare }:Rec).bY u.1=false:=by
    intro k rk hk ue
    obtain⟨g1,g2,g3⟩:=qO ue
    have K8:=ht.del k
    rw[Qo hk] at K8
    have XK:rk.seen.any (fun sv=>!sv.aB u.1)=false:=by
     simp only[Rec.bY,Bool.or_eq_false_iff] at ue
     exact ue.1.1.1
    have PN:rk.cM.bare.targets.contains u.1=false:=by
     rw[←B0h]
     intro hc
     exact g2 (tR (by simpa using hc) K8).1
    have IZ:∀u',rk.cM.bare.cA=some u'→u'.2.aB u.1=true:=by
     intro u' jf
     rw[iM] at jf
     split at jf
     ·rename_i u0 UL
      split at jf
      ·cases jf
      ·cases jf;exact g3 _ UL
     ·cases jf
    unfold Rec.bY
    simp only[XK,nG,g1,PN,Bool.not_true,Bool.or_false,Bool.false_or]
    split
    ·rename_i u' jf
     rw[IZ u' jf]
     rfl
    ·rfl
   have ad9:=pJ (R:=o5 R) (ops:=ops) (D:=D) hfr ops.size fun j hj CM=>by
    obtain⟨oj,rj,mP,nh⟩:=fH j hj
    refine⟨{ rj with cM:=rj.cM.bare },by unfold o5;rw[A0v,nh];rfl,?_⟩
    refine P_ nh ?_
    rcases Nat.lt_trichotomy j i with h | h | h
    ·exact((I2 j oj rj h mP nh).2 hn u hu).resolve_left hne
    ·subst h;rw[hi] at CM;cases CM
    ·rw[←B0h]
     intro I0
     have hub:u.1∈r.cM.bare.targets:=by
      unfold gO.targets
      rw[iM,hu]
      simp[hne]
     have:=hdone mP nh (by
      have:r.cM.bare.targets.any rj.bY=true:=List.any_eq_true.2 ⟨_,hub,I0⟩
      simp[o4,this]) (by
      have:r.cM.bare.targets.any rj.bY=true:=List.any_eq_true.2 ⟨_,hub,I0⟩
      simp[o4,this])
     rw[CM] at this
     simp at this
     omega
   obtain⟨q1,q2⟩:=ad9
   refine⟨by unfold gA;rw[cT (Ne.symm hne)];exact q1,?_⟩
   unfold gA
   simp only[af.iw,af.d_,if_true,A0g] at q2 ⊢
   refine⟨q2.1,?_⟩
   have:=TD (D t.i) (D t.j)
   cases hh:ea σ cf t (D t.i) (D t.j) with
   | none=>rfl
   | some z=>
    rw[hh] at this
    cases z <;> simp[py] at this
    rfl
 obtain⟨ys,hys,bz⟩:=f.alt
 by_cases hki:i=t.i
 ·have J7:=ht.ZW r (hki ▸ f.at_)
  have OT:r.cM.bare.cA=none:=by rw[iM,J7];simp
  cases CM:D t.j with
  | false=>
   have p6:jP P ops o (gA ops R σ cf t D) r.ix=some r.cM:=by
    rw[nr,←f.cM]
    unfold oh
    have e1:ea σ cf t (D t.i) (D t.j)=(lex ops R σ i).obj aO:=by
     rw[I3,CM,←hki,hi]
     have h1:decide (i<i)=false:=by simp
     have h2:decide (t.j<i)=false:=by simp;have:=ht.lt;omega
     rw[h1,h2]
    rw[e1,jd]
   refine fin r.cM r.ix p6 f.bind f.ix rfl rfl rfl (fun u hu hh=>?_) (fun h=>absurd rfl (h _ J7)) fun _ u hu=>.inr hu
   rw[J7] at hu
   cases hu
   have e1:(t.i==i)=true:=by simp[hki]
   have e2:(t.j==i)=false:=by simp;have:=ht.lt;omega
   rw[CM,e1,e2,Bool.or_true,Bool.or_false]
   rfl
  | true=>
   unfold H_ at hys
   rw[hki] at ho
   have Nw:=f.at_
   rw[hki] at Nw
   simp only[hki,ho,Nw,if_true] at hys
   split at hys
   ·rename_i e he
    split at hys
    ·rename_i hc
     simp only[A0g,decide_eq_true_eq,B0q] at hc
     obtain⟨⟨⟨c1,c2⟩,c3⟩,c4⟩:=hc
     split at hys
     ·rename_i b hb
      cases hys
      have IZ:=kR c2
      have Nu:=Jx (P:=P) (n:=t.nj) (bz _ (List.mem_singleton_self _)) rfl
      refine fin e t.nj ?_ (by rw[hb];exact Nu) (Lz Nu) (SV.b_ c1) (by rw[iM,IZ,OT];simp) (c3.trans c4.symm) (fun u hu hh=>?_) (fun h=>absurd rfl (h _ IZ)) fun _ u hu=>by rw[IZ] at hu;cases hu;exact .inl rfl
      ·rw[nr,←hki,hi,CM,hki]
       exact he
      ·rw[IZ] at hu
       cases hu
       have e1:(t.i==i)=true:=by simp[hki]
       rw[CM,e1,Bool.or_true,Bool.true_or]
       rfl
     ·cases hys
    ·cases hys
   ·cases hys
 by_cases Kc:i=t.j
 ·have J7:=ht.ZV r (Kc ▸ f.at_)
  have OT:r.cM.bare.cA=none:=by rw[iM,J7];simp
  cases TM:D t.i with
  | true=>
   have p6:jP P ops o (gA ops R σ cf t D) r.ix=some r.cM:=by
    rw[nr,←f.cM]
    unfold oh
    have e1:ea σ cf t (D t.i) (D t.j)=(lex ops R σ i).obj aO:=by
     rw[I3,TM,←Kc,hi]
     have h1:decide (t.i<i)=true:=by simp;have:=ht.lt;omega
     have h2:decide (i<i)=false:=by simp
     rw[h1,h2]
    rw[e1,jd]
   refine fin r.cM r.ix p6 f.bind f.ix rfl rfl rfl (fun u hu hh=>?_) (fun h=>absurd rfl (h _ J7)) fun _ u hu=>.inr hu
   rw[J7] at hu
   cases hu
   have e1:(t.j==i)=true:=by simp[Kc]
   rw[TM,e1,Bool.or_true,Bool.true_or]
   rfl
  | false=>
   unfold H_ at hys
   have hne:¬t.j=t.i:=by have:=ht.lt;omega
   rw[Kc] at ho
   have Nw:=f.at_
   rw[Kc] at Nw
   simp only[Kc,ho,Nw,hne,if_false,if_true] at hys
   split at hys
   ·rename_i e he
    split at hys
    ·rename_i hc
     simp only[A0g,decide_eq_true_eq,B0q] at hc
     obtain⟨⟨⟨c1,c2⟩,c3⟩,c4⟩:=hc
     split at hys
     ·rename_i b hb
      cases hys
      have IZ:=kR c2
      have Nu:=xH (P:=P) (n:=t.ja) (bz _ (List.mem_singleton_self _)) rfl
      refine fin e t.ja ?_ (by rw[hb];exact Nu) (Lz Nu) (SV.b_ c1) (by rw[iM,IZ,OT];simp) (c3.trans c4.symm) (fun u hu hh=>?_) (fun h=>absurd rfl (h _ IZ)) fun _ u hu=>by rw[IZ] at hu;cases hu;exact .inl rfl
      ·rw[nr,TM,←Kc,hi,Kc]
       exact he
      ·rw[IZ] at hu
       cases hu
       have e1:(t.j==i)=true:=by simp[Kc]
       have e2:(t.i==i)=false:=by simp;have:=ht.lt;omega
       rw[TM,e1,e2,Bool.or_true,Bool.or_false]
       rfl
     ·cases hys
    ·cases hys
   ·cases hys
 have mI:=ht.other i r f.at_ hki Kc
 have hiT:t.i<ops.size:=by have:=ht.lt;omega
 have done:∀e,jP P ops o (gA ops R σ cf t D) r.ix=some e→aY P env r.ix e.bind→e.val=r.cM.val→e.cA=r.cM.cA→e.del=r.cM.del→∃r:Rec,aY P env r.ix r.cM.bind∧r.ix≤env.length∧kx P ops o (gA ops R σ cf t D) r.ix=some (gA ops R σ cf t (fun j=>D j||j==i),r.cM.bind):=by
  intro e p6 zi h1 h2 h3
  exact fin e r.ix p6 zi f.ix h1 (by rw[iM,iM,h2]) h3 (fun u hu hh=>absurd hh (mI u (h2 ▸ hu))) (fun _=>⟨hki,Kc⟩) fun _ u hu=>.inr (h2 ▸ hu)
 by_cases jX:r.bY aO=true
 ·unfold H_ at hys
  simp only[ho,f.at_,hki,Kc,if_false,jX,if_true] at hys
  obtain⟨zs,hzs,hsub⟩:=zY hys (Ov P ops R σ cf t i o r (D t.i) (D t.j)) (List.mem_flatMap.2 ⟨D t.i,zJ hD ho hi ha hiT hki,B0r.2 ⟨D t.j,zJ hD ho hi ha hj Kc,rfl⟩⟩)
  unfold Ov at hzs
  split at hzs
  ·rename_i hc
   have p6:jP P ops o (gA ops R σ cf t D) r.ix=some r.cM:=by
    rw[nr,←f.cM]
    unfold oh
    have e1:ea σ cf t (D t.i) (D t.j)=(lex ops R σ i).obj aO:=by rw[I3,hc.1,hc.2]
    rw[e1,jd]
   exact done r.cM p6 f.bind rfl rfl rfl
  ·split at hzs
   ·rename_i e he
    split at hzs
    ·rename_i hc
     simp only[A0g,B0q] at hc
     obtain⟨⟨⟨⟨c1,c2⟩,c3⟩,c4⟩,c5⟩:=hc
     refine done e (by rw[nr];exact he) ?_ (SV.b_ c1) (c2.trans c3.symm) (c4.trans c5.symm)
     split at hzs
     ·rename_i b a' eO hba
      cases hzs
      have h0:=f.bind
      rw[hba] at h0
      obtain⟨da,k1,k2⟩:=h0
      rw[eO]
      exact xH (bz _ (hsub _ (List.mem_singleton_self _))) (by rw[k1,k2])
     ·rename_i eO hba
      rw[eO];trivial
     ·cases hzs
    ·cases hzs
   ·cases hzs
 ·have p6:jP P ops o (gA ops R σ cf t D) r.ix=some r.cM:=by
   rw[←f.cM]
   refine og AH (fun s ob hs kN=>?_) ?_ fun hu=>absurd (CD hu) jX
   ·by_cases hne:ob=aO
    ·subst hne;exact absurd (oJ s _ hs kN) jX
    ·exact Rt ob hne (oJ s ob hs kN)
   ·rw[eu,PO,TD,aek]
  exact done r.cM p6 f.bind rfl rfl rfl

theorem O6 (ht:tZ R cf t)(hlen:ops.size=R.length)(hj:t.j<ops.size):gA ops R σ cf t (fun _=>true)=lex ops R σ ops.size:=by
 obtain⟨z,hz⟩:=n_ (ops:=ops) (σ:=σ) (D:=fun _=>true) ht.del ops.size
 have h1:=Cm (ops:=ops) (σ:=σ) ht (by omega) ops.size
 have e1:decide (t.i<ops.size)=true:=by simp;have:=ht.lt;omega
 have e2:decide (t.j<ops.size)=true:=by simp;omega
 rw[e1,e2] at h1
 unfold gA
 show _=bT ops R (fun _=>true) σ ops.size
 rw[←h1]
 show _=bT ops R (fun _=>true) σ ops.size
 have h2:(lex ops R σ ops.size).obj aO=z:=by
  show(bT ops R (fun _=>true) σ ops.size).obj aO=z
  rw[hz,ez,if_pos (.inl rfl)]
 rw[h2,hz]

theorem CQ {ja:Nat}{xs:List E}(h:w6 P ops R σ ja=some xs):∃cf t,mW ops R σ cf t=true∧t.j<ops.size∧∀i,i<ops.size→∃ys,H_ P ops R σ cf t (iH ops.toList []) i=some ys∧∀y,y∈ys→y∈xs:=by
 unfold w6 at h
 split at h
 ·rename_i cf uf
  obtain⟨t,ht,h⟩:=A0c.1 h
  split at h
  ·rename_i hok
   obtain⟨b,hb,h⟩:=A0c.1 h
   obtain⟨zs,hzs,rfl⟩:=A0b.1 h
   refine⟨cf,t,hok,?_,fun i hi=>?_⟩
   ·unfold Z0 at hb
    split at hb
    ·rename_i o ho
     exact(A0h.1 ho).1
    ·cases hb
   ·obtain⟨ys,h1,h2⟩:=zY hzs (H_ P ops R σ cf t (iH ops.toList []) i) (B0r.2 ⟨i,List.mem_range.2 hi,rfl⟩)
    exact⟨ys,h1,fun y hy=>List.mem_cons_of_mem _ (h2 y hy)⟩
  ·cases h
 ·cases h

theorem Dl {w0:World} {X:gB} {rd:Option Nat} {n:Nat} {Q:Exit→Act→World→Prop} (hok:mW ops R σ cf t=true) (hF:∀(i:Nat) (o:Oper),ops[i]? = some o→∃r,OF P ops R σ env cf t i o r) (hj:t.j<ops.size) (hm:σ.mem.length=σ.tmps.length)
  (hsz:∀(j d:Nat),(ops[j]?).bind (fun(o:Oper)=>o.dst)=some d→d<σ.tmps.length) (hQ:∀a' w' ρ',bE w0 X w' a' (lex ops R σ ops.size) env ρ'→Q .normal a' w') :
  ∀(fuel:Nat) (listed:Array Bool) (a:Act) (w:World) (ρ:cr),listed.size=ops.size→gK ops (cP listed)→(List.range ops.size).countP (fun j=>!cP listed j)≤fuel →
   bE w0 X w a (gA ops R σ cf t (cP listed)) env ρ→wpAnyIn (FW rd) n P .any ops Q fuel listed a w:=by
 have adR:=hok
 unfold mW at hok
 simp only[A0g,decide_eq_true_eq,A0z,List.mem_range] at hok
 obtain⟨⟨⟨hsize,uf⟩,S7⟩,hall⟩:=hok
 have ht:=QT S7
 refine AS (st:=gA ops R σ cf t) (fun i o ho e he hb=>?_) (fun D i o hD ho hi ha=>VD adR hF hj hD ho hi ha) (fun D=>?_) (fun D D' h=>?_) hm hsz (fun a' w' ρ' hr=>hQ a' w' ρ' (by rw[←O6 ht hsize hj];exact hr))
 ·obtain⟨r,f⟩:=hF i o ho
  have h:=hall i (A0h.1 ho).1
  unfold L3 at h
  rw[ho,f.at_] at h
  simp only[A0g] at h
  have:=Array.all_eq_true'.1 h.1.1.1 e he
  simpa[hb] using this
 ·unfold gA
  rw[af.aA,af.ei]
  exact h_ ops (o5 R) D σ ops.size
 ·unfold gA
  rw[je ops.size h,h t.i (by have:=ht.lt;omega),h t.j hj]

theorem LI:gA ops R σ cf t (fun _=>false)=σ:=by
 unfold gA
 rw[ku (i:=0) ops.size (Nat.zero_le _) fun _ _ _=>rfl]
 exact jd σ

end
end
end

section
noncomputable section

structure Left (w:World)(S:Sets)(an may:Nat→Prop)(w':World)(S':Sets)(bf:Nat→Prop)(bs':List D):Prop where
 st:ck w' S' bf bs'
 le:S≤S'
 os:w'.os=w.os
 tape:TL w' w
 output:w'.output=w.output
 size:w.heap.size≤w'.heap.size
 old:∀b,b<w.heap.size→¬may b→w'.heap[b]? = w.heap[b]?
 ft:∀b,bf b→(an b∨w.heap.size≤b)∧b<w'.heap.size
 new:∀b o,S' b o→S b o∨may b∨w.heap.size≤b
 lt:∀b o,S' b o→b<w'.heap.size

def sq (P:Program)(f:FuncId)(st:D)(cs:List D)(m:Option D)(cG:D):Prop:=
 ∀(w:World) (S:Sets) (an:Nat→Prop) (bs:List D) (vs:Array Value) (u:FrameMode),st=.st bs→ck w S an bs→oT w S an→(∀b,an b→b<w.heap.size)→(∀b o,S b o→b<w.heap.size)→vs.size=cs.length→(∀(i:Nat) (v:Value) (x:D),vs[i]? = some v→cs[i]? = some x→aZ w S v x) →
  (match m with | none=>u=.returning | some d=>∃v,aZ w S v d∧u=.panicking [{ v,recovered:=false }]) →
  CallsD P f vs u w fun e u' w'=>∃(v:Value) (S':Sets) (bf:Nat→Prop) (bs':List D),e=.returned v∧settle u'=.returning∧cG=.st bs'∧Left w S an an w' S' bf bs'


inductive T where
 | bind (b:Bind) (t:T)
 | ite (c:E) (a b:T)
 | loop (l:Nat) (inits:List E) (body:T)
 | join (l n:Nat) (body rest:T)
 | jump (l:Nat) (vals:List E)
 | ret (x:E)
 | dI (x h:E) (sl:List Nat) (ks:List E)
 | jR (x:E) (neg:Bool) (t:T)
 | pick (x:E) (t:T)
 | E5 (f:FuncId) (keep:List Nat) (bF:List E) (res:E) (t:T)
 | gV (f:FuncId) (h:E) (args:List E) (rs:List Bool) (sl:List Nat) (ks:List E) (t:T)
 | fR (f:FuncId) (h:E) (args:List E) (rs:List Bool) (sl:List Nat) (ks:List E) (t:T)
 | e9 (x h:E) (args:List E) (rs:List Bool) (sl:List Nat) (ks:List E) (t:T)
 | lZ (x h:E) (sl:List Nat) (bF:List E) (n l:Nat) (body rest:T)
 | kK (x h:E) (sl:List Nat) (bF:List E) (n l:Nat) (q:Option Nat) (body rest o7:T)
 deriving Inhabited

inductive eV where
 | jump (l:Nat) (ds:List D)
 | ret (d:D)
 | dI (d st:D) (sl:List Nat) (kd:List D)

def D.isNil (x:D):Option (List Bool):=
 match x with
 | .a_ []=>some [true,false]
 | .a_ _ | .sl _ _ _=>some [false]
 | .cO=>some [true]
 | _=>none

def xL (l:Nat)(q:Option Nat)(b:Bool)(st:D):eV:=bif b then .jump l [st] else match q with | none=>.ret st | some _=>.jump (l+1) [st]

def cC (l:Nat)(K:List D→Prop)(Q:eV→Prop):eV→Prop
 | .jump l' ds=>if l'=l then K ds else Q (.jump l' ds)
 | .ret d=>Q (.ret d)
 | .dI d st sl kd=>Q (.dI d st sl kd)

def rounds (l:Nat)(body:List D→(eV→Prop)→Prop)(Q:eV→Prop):Nat→List D→Prop
 | 0,_=>False
 | n+1,ds=>body ds (cC l (rounds l body Q n) Q)

def D.Eu:D→Bool
 | .loc _ _=>true
 | _=>false

def Dd (P:Program)(f:FuncId)(keep:List Nat)(cU:List D)(res:E)(Q:eV→Prop):eV→Prop
 | .ret (.aM [.aM kd,st])=>∃cG d',sq P f st cU none cG∧res.eval (kd++[cG])=some d'∧Q (.ret (.aM [d',cG]))
 | .dI d st sl kd=>sl=keep∧∃cG d',sq P f st cU (some d) cG∧res.eval (kd++[cG])=some d'∧Q (.ret (.aM [d',cG]))
 | _=>False

theorem BK {P:Program}{f:FuncId}{keep:List Nat}{cU:List D}{res:E}{Q Q':eV→Prop}(hq:∀s,Q s→Q' s){s:eV}(h:Dd P f keep cU res Q s):Dd P f keep cU res Q' s:=by
 unfold Dd at h ⊢
 split at h
 ·obtain⟨cG,d',h1,h2,h3⟩:=h;exact⟨cG,d',h1,h2,hq _ h3⟩
 ·obtain⟨h0,cG,d',h1,h2,h3⟩:=h;exact⟨h0,cG,d',h1,h2,hq _ h3⟩
 ·exact h

def den (P:Program):T→List D→(eV→Prop)→Prop
 | .bind (.ev x) t,env,Q=>∃d,x.eval env=some d∧den P t (env++[d]) Q
 | .bind (.call act f h args rs) t,env,Q=>(∀p,p∈act→∃d,p.1.eval env=some d)∧∃d,(aQ env act→∃st ds,h.eval env=some st∧aq env args=some ds∧aU P f st ds d∧d.fits rs=true)∧den P t (env++[d]) Q
 | .bind (.bA act f h args rs) t,env,Q=>(∀p,p∈act→∃d,p.1.eval env=some d)∧∃st d h',h.eval env=some st∧(aQ env act→∃ds,aq env args=some ds∧bt P f st ds d h'∧d.fits rs=true)∧(¬aQ env act→h'=st)∧den P t (env++[.aM [d,h']]) Q
 | .bind (.ey act x h args rs) t,env,Q=>(∀p,p∈act→∃d,p.1.eval env=some d)∧∃d,(aQ env act→∃f us cs st ds,x.eval env=some (.fn f us cs)∧bu P f=true∧h.eval env=some st∧aq env args=some ds∧aU P f st (us++ds++cs) d∧d.fits rs=true)∧den P t (env++[d]) Q
 | .bind (.dA act x h args rs) t,env,Q=>(∀p,p∈act→∃d,p.1.eval env=some d)∧∃st d h',h.eval env=some st∧(aQ env act→∃xd ds,x.eval env=some xd∧aq env args=some ds∧t_ P xd st ds d h'∧d.fits rs=true)∧(¬aQ env act→h'=st)∧den P t (env++[.aM [d,h']]) Q
 | .ite c a b,env,Q=>∃v,c.eval env=some (.v (.bool v))∧(v=true→den P a env Q)∧(v=false→den P b env Q)
 | .loop l inits body,env,Q=>∃ds,aq env inits=some ds∧∃n,rounds l (fun ds Q=>ds.length=inits.length∧den P body (env++ds) Q) Q n ds
 | .join l n body rest,env,Q=>den P body env (cC l (fun ds=>ds.length=n∧den P rest (env++ds) Q) Q)
 | .jump l vals,env,Q=>∃ds,aq env vals=some ds∧Q (.jump l ds)
 | .ret x,env,Q=>∃d,x.eval env=some d∧Q (.ret d)
 | .dI x h sl ks,env,Q=>∃d st kd,x.eval env=some d∧h.eval env=some st∧aq env ks=some kd∧Q (.dI d st sl kd)
 | .jR x neg t,env,Q=>∃d bs,x.eval env=some d∧d.isNil=some bs∧∀b,b∈bs→den P t (env++[.v (.bool (b != neg))]) Q
 | .pick x t,env,Q=>∃ys,x.eval env=some (.a_ ys)∧∀d st,.aM [d,st]∈ys→den P t (env++[.aM [d,st]]) Q
 | .E5 f keep bF res t,env,Q=>∃cU,aq env bF=some cU∧cU.all D.Eu=true∧den P t env (Dd P f keep cU res Q)
 | .gV f h args rs sl ks t,env,Q=>∃st ds o,h.eval env=some st∧aq env args=some ds∧eD P f st ds o∧match o with
  | .ret d=>d.fits rs=true∧den P t (env++[d]) Q
  | .dI d=>∃kd,aq env ks=some kd∧Q (.dI d st sl kd)
 | .fR f h args rs sl ks t,env,Q=>∃st ds o h',h.eval env=some st∧aq env args=some ds∧bC P f st ds o h'∧match o with
  | .ret d=>d.fits rs=true∧den P t (env++[.aM [d,h']]) Q
  | .dI d=>∃kd,aq env ks=some kd∧Q (.dI d h' sl kd)
 | .e9 x h args rs sl ks t,env,Q=>∃f us cs st ds o h',x.eval env=some (.fn f us cs)∧bu P f=true∧h.eval env=some st∧aq env args=some ds∧bC P f st (us++ds++cs) o h'∧match o with
  | .ret d=>d.fits rs=true∧den P t (env++[.aM [d,h']]) Q
  | .dI d=>∃kd,aq env ks=some kd∧Q (.dI d h' sl kd)
 | .lZ x h sl bF n l body rest,env,Q=>∃f us cs st cU d cG,x.eval env=some (.fn f us cs)∧bu P f=true∧h.eval env=some st∧aq env bF=some cU∧aT cU=true∧cG.dG=true ∧
   (∀(m:Nat) (rec:Loop),(∀me ds gA,me.dG=true→aT ds=true→ds.length=n→den P body (env++[me]++ds) (fun s=>s=.jump l [gA])→nI P (.yl m rec sl cU) me ds gA)→bt P f st (us++[.yl m rec sl cU]++cs) d cG)∧den P rest (env++[cG]) Q
 | .kK x h sl bF n l q body rest o7,env,Q=>∃f us cs bs cU d bs' stop,x.eval env=some (.fn f us cs)∧bu P f=true∧h.eval env=some (.st bs)∧aq env bF=some cU∧bs'[bs.length]? = some (.aM []) ∧
   (∀(rec:Loop×Code),(∀ew ds b gi,ew[bs.length]? = some (.mO false)→ds.length=n→gi[bs.length]? = some (.aM [])→den P body (env++[.st (ew.set bs.length (.aM []))]++ds) (fun s=>s=xL l q b (.st gi))→sk P (.uc bs.length rec sl cU) (.st ew) ds b (.st (gi.set bs.length (.mO !b)))) →
    bt P f (.st (bs++[.mO false])) (us++[.uc bs.length rec sl cU]++cs) d (.st (bs'.set bs.length (.mO stop))))∧(stop=false→den P rest (env++[.st bs']) Q)∧(stop=true→den P o7 (env++[.st bs']) Q)

theorem pK {l:Nat}{body body':List D→(eV→Prop)→Prop}{Q Q':eV→Prop}(hb:∀ds (R R':eV→Prop),(∀s,R s→R' s)→body ds R→body' ds R')(hQ:∀s,Q s→Q' s):∀(n:Nat) (ds:List D),rounds l body Q n ds→rounds l body' Q' n ds
 | 0,_,h=>h
 | n+1,ds,h=>hb ds _ _ (fun s hs=>by
   cases s with
   | jump l' ds'=>
    simp only[cC] at hs ⊢
    split
    ·rename_i e;rw[if_pos e] at hs;exact pK hb hQ n ds' hs
    ·rename_i e;rw[if_neg e] at hs;exact hQ _ hs
   | ret d=>exact hQ _ hs
   | dI d st sl kd=>exact hQ _ hs) h

theorem cB {P:Program}:∀{t:T} {env:List D} {Q Q':eV→Prop},(∀s,Q s→Q' s)→den P t env Q→den P t env Q'
 | .bind (.ev x) t,env,Q,Q',hq,⟨d,h1,h2⟩=>⟨d,h1,cB hq h2⟩
 | .bind (.call act f h args rs) t,env,Q,Q',hq,⟨h0,d,h1,h2⟩=>⟨h0,d,h1,cB hq h2⟩
 | .bind (.bA act f h args rs) t,env,Q,Q',hq,⟨h0,st,d,h',h1,h2,h3,h5⟩=>⟨h0,st,d,h',h1,h2,h3,cB hq h5⟩
 | .bind (.ey act x h args rs) t,env,Q,Q',hq,⟨h0,d,h1,h2⟩=>⟨h0,d,h1,cB hq h2⟩
 | .bind (.dA act x h args rs) t,env,Q,Q',hq,⟨h0,st,d,h',h1,h2,h3,h5⟩=>⟨h0,st,d,h',h1,h2,h3,cB hq h5⟩
 | .ite c a b,env,Q,Q',hq,⟨v,h1,h2,h3⟩=>⟨v,h1,fun e=>cB hq (h2 e),fun e=>cB hq (h3 e)⟩
 | .loop l inits body,env,Q,Q',hq,⟨ds,h1,n,h2⟩=>⟨ds,h1,n,pK (fun ds R R' hR h=>⟨h.1,cB hR h.2⟩) hq n ds h2⟩
 | .join l n body rest,env,Q,Q',hq,h=>cB (t:=body) (fun s hs=>by
   cases s with
   | jump l' ds'=>
    simp only[cC] at hs ⊢
    split
    ·rename_i e;rw[if_pos e] at hs;exact⟨hs.1,cB hq hs.2⟩
    ·rename_i e;rw[if_neg e] at hs;exact hq _ hs
   | ret d=>exact hq _ hs
   | dI d st sl kd=>exact hq _ hs) h
 | .jump l vals,env,Q,Q',hq,⟨ds,h1,h2⟩=>⟨ds,h1,hq _ h2⟩
 | .ret x,env,Q,Q',hq,⟨d,h1,h2⟩=>⟨d,h1,hq _ h2⟩
 | .dI x h sl ks,env,Q,Q',hq,⟨d,st,kd,h1,h2,h3,h4⟩=>⟨d,st,kd,h1,h2,h3,hq _ h4⟩
 | .jR x neg t,env,Q,Q',hq,⟨d,bs,h1,h2,h3⟩=>⟨d,bs,h1,h2,fun b hb=>cB hq (h3 b hb)⟩
 | .pick x t,env,Q,Q',hq,⟨ys,h1,h2⟩=>⟨ys,h1,fun d st hy=>cB hq (h2 d st hy)⟩
 | .E5 f keep bF res t,env,Q,Q',hq,⟨cU,h1,h2,h3⟩=>⟨cU,h1,h2,cB (fun _=>BK hq) h3⟩
 | .gV f h args rs sl ks t,env,Q,Q',hq,⟨st,ds,.ret d,h1,h2,h3,h4,h5⟩=>⟨st,ds,.ret d,h1,h2,h3,h4,cB hq h5⟩
 | .gV f h args rs sl ks t,env,Q,Q',hq,⟨st,ds,.dI d,h1,h2,h3,kd,h4,h5⟩=>⟨st,ds,.dI d,h1,h2,h3,kd,h4,hq _ h5⟩
 | .fR f h args rs sl ks t,env,Q,Q',hq,⟨st,ds,.ret d,h',h1,h2,h3,h4,h5⟩=>⟨st,ds,.ret d,h',h1,h2,h3,h4,cB hq h5⟩
 | .fR f h args rs sl ks t,env,Q,Q',hq,⟨st,ds,.dI d,h',h1,h2,h3,kd,h4,h5⟩=>⟨st,ds,.dI d,h',h1,h2,h3,kd,h4,hq _ h5⟩
 | .e9 x h args rs sl ks t,env,Q,Q',hq,⟨f,us,cs,st,ds,.ret d,h',g1,g2,h1,h2,h3,h4,h5⟩=>⟨f,us,cs,st,ds,.ret d,h',g1,g2,h1,h2,h3,h4,cB hq h5⟩
 | .e9 x h args rs sl ks t,env,Q,Q',hq,⟨f,us,cs,st,ds,.dI d,h',g1,g2,h1,h2,h3,kd,h4,h5⟩=>⟨f,us,cs,st,ds,.dI d,h',g1,g2,h1,h2,h3,kd,h4,hq _ h5⟩
 | .lZ x h sl bF n l body rest,env,Q,Q',hq,⟨f,us,cs,st,cU,d,cG,h1,h2,h3,h4,h5,h6,h7,h8⟩=>⟨f,us,cs,st,cU,d,cG,h1,h2,h3,h4,h5,h6,h7,cB hq h8⟩
 | .kK x h sl bF n l q body rest o7,env,Q,Q',hq,⟨f,us,cs,bs,cU,d,bs',stop,h1,h2,h3,h4,h5,h6,h7,h8⟩=>⟨f,us,cs,bs,cU,d,bs',stop,h1,h2,h3,h4,h5,h6,fun e=>cB hq (h7 e),fun e=>cB hq (h8 e)⟩

def aa (bs:List Bind)(t:T):T:=bs.foldr T.bind t

theorem ij {env env':List D}(h:env <+: env'):∀{l:List E} {ds:List D},aq env l=some ds→aq env' l=some ds
 | [],ds,hd=>hd
 | x :: r,ds,hd=>by
  simp only[aq,A0c,A0b] at hd ⊢
  obtain⟨d,h1,ds',h2,h3⟩:=hd
  exact⟨d,E.bN h x h1,ds',ij h h2,h3⟩

theorem prefix_append (env ds:List D):env <+: env++ds:=⟨ds,rfl⟩

theorem qE {P:Program}{t:T}{Q:eV→Prop}:∀{bs:List Bind} {env:List D},den P (aa bs t) env Q→∃ds,ds.length=bs.length∧den P t (env++ds) Q∧qI P (env++ds) env.length bs
 | [],env,h=>⟨[],rfl,by simpa[aa] using h,fun i b hi=>by simp at hi⟩
 | b :: bs,env,h=>by
  have go:∀{d:D},den P (aa bs t) (env++[d]) Q→(∀ds,aY P (env++[d]++ds) env.length (some b))→∃ds,ds.length=(b :: bs).length∧den P t (env++ds) Q∧qI P (env++ds) env.length (b :: bs):=by
   intro d hd hb
   obtain⟨ds,hl,h1,h2⟩:=qE hd
   refine⟨d :: ds,by simp[hl],by simpa using h1,fun i b' hi=>?_⟩
   cases i with
   | zero=>simp at hi;subst hi;simpa using hb ds
   | succ i=>
    have:=h2 i b' (by simpa using hi)
    simp only[A0t,List.length_cons,List.length_nil,B0b,A0q,A0r] at this
    rwa [show env.length+(i+1)=env.length+(0+1)+i from by omega]
  have nr:∀(d:D) (ds:List D),(env++[d]++ds)[env.length]? = some d:=by
   intro d ds
   simp
  cases b with
  | ev x=>
   obtain⟨d,hx,hd⟩:=h
   exact go hd fun ds=>⟨d,E.bN (by rw[B0b];exact prefix_append _ _) _ hx,nr d ds⟩
  | call act f hx args rs=>
   obtain⟨mJ,d,hx,hd⟩:=h
   refine go hd fun ds=>⟨d,nr d ds,fun ha=>?_⟩
   obtain⟨st,as,h0,h1,h2⟩:=hx (iO (by rw[B0b];exact prefix_append _ _) mJ ha)
   exact⟨st,as,E.bN (by rw[B0b];exact prefix_append _ _) _ h0,ij (by rw[B0b];exact prefix_append _ _) h1,h2⟩
  | ey act x hx args rs=>
   obtain⟨mJ,d,hx,hd⟩:=h
   refine go hd fun ds=>⟨d,nr d ds,fun ha=>?_⟩
   have hp:env <+: env++[d]++ds:=by rw[B0b];exact prefix_append _ _
   obtain⟨f,us,cs,st,as,g0,g1,g2,g3,g4⟩:=hx (iO hp mJ ha)
   exact⟨f,us,cs,st,as,E.bN hp _ g0,g1,E.bN hp _ g2,ij hp g3,g4⟩
  | dA act x hx args rs=>
   obtain⟨mJ,st,d,h',g0,g1,g2,hd⟩:=h
   refine go hd fun ds=>?_
   have hp:env <+: env++[.aM [d,h']]++ds:=by rw[B0b];exact prefix_append _ _
   refine⟨st,d,h',E.bN hp _ g0,nr _ ds,fun ha=>?_,fun hn=>g2 fun ha=>hn (qh hp ha)⟩
   obtain⟨xd,as,k1,k2,k3⟩:=g1 (iO hp mJ ha)
   exact⟨xd,as,E.bN hp _ k1,ij hp k2,k3⟩
  | bA act f hx args rs=>
   obtain⟨mJ,st,d,h',g0,g1,g2,hd⟩:=h
   refine go hd fun ds=>?_
   have hp:env <+: env++[.aM [d,h']]++ds:=by rw[B0b];exact prefix_append _ _
   refine⟨st,d,h',E.bN hp _ g0,nr _ ds,fun ha=>?_,fun hn=>g2 fun ha=>hn (qh hp ha)⟩
   obtain⟨as,k2,k3⟩:=g1 (iO hp mJ ha)
   exact⟨as,ij hp k2,k3⟩

end
end

section
noncomputable section

inductive Sop where
 | dI (x:E)
 | jR (x:E) (neg:Bool)
 | call (f:FuncId) (args:List E) (rs:List Bool)
 | bA (f:FuncId) (args:List E) (rs:List Bool)
 | dA (x:E) (args:List E) (rs:List Bool)
 | next (p:E)
 deriving Inhabited

def Cx:Operand→Bool
 | .const (.slice none 0 0)=>true
 | _=>false

def Dx (P:Program)(o:Oper)(σ:af):Option Sop:=
 match o.guard with
 | some _=>none
 | none=>match o.op with
  | .panic x=>(match(σ.uG x).toE,σ.hs with
   | some y,some (.store _ _)=>some (.dI (.m4 .td y .nil .nil .nil))
   | _,_=>none)
  | .next it false=>(match(σ.uG it).toE,σ.hs with
   | some p,some (.store cf _)=>if cf.ro then none else some (.next p)
   | _,_=>none)
  | .binOp .eql t x y _=>(match P.underlying t with
   | some (.slice _)=>if Cx y then(σ.uG x).toE.map (.jR · false) else none
   | _=>none)
  | .binOp .neq t x y _=>(match P.underlying t with
   | some (.slice _)=>if Cx y then(σ.uG x).toE.map (.jR · true) else none
   | _=>none)
  | .call c=>(match c.callee with
   | .value f=>match σ.uG f,σ.hs with
    | .func (.func f) [],some (.store cf _)=>if cf.dI.contains f then(match P.funcs[f]?,toEAll (c.args.toList.map σ.uG) with
      | some fn,some xs=>(match scalars P fn.resultTypes.toList with
       | some rs=>if bu P f=false then none else if cf.wr.contains f then(if cf.ro then none else some (.bA f xs rs)) else some (.call f xs rs)
       | none=>none)
      | _,_=>none) else none
    | .e x _,some (.store cf _)=>if cf.dI.contains (1000000+o.dst.getD 999999) then(match DD P o.type,toEAll (c.args.toList.map σ.uG) with
      | some rs,some xs=>if cf.ro then none else some (.dA x xs rs)
      | _,_=>none) else none
    | _,_=>none
   | _=>none)
  | _=>none

abbrev Jm:=af→Nat→Option T

def G3 (σ:af):E:=match σ.hs with | some (.store _ h)=>h | _=>.const (.st [])

def jG (σ:af)(x:E):af:=match σ.hs with | some (.store cf _)=>σ.setObj aO (some (.store cf x)) | _=>σ

def gH (σ:af):List Nat:=match σ.hs with | some (.store cf _)=>cf.keep | _=>[]

def qX (σ:af):Option (List E):=toEAll ((gH σ).map σ.tmp)

def lX (w:World)(S:Sets)(a:Act)(slots:List Nat)(kd:List D):Prop:=
 kd.length=slots.length∧∀(i s:Nat) (d:D),slots[i]? = some s→kd[i]? = some d→aZ w S (a.tmps.getD s undef) d

def BU (s:Sop)(o:Oper)(σ:af)(u:Nat)(rest:af→Nat→Option T):Option T:=
 match s with
 | .dI x=>(qX σ).map (.dI x (G3 σ) (gH σ))
 | .jR x neg=>(rest (σ.put o.dst (.e (.sym u) true)) (u+1)).map (.jR x neg)
 | .next p=>(rest ((jG σ (.au 1 (.sym u))).put o.dst (.e (.au 0 (.sym u)) false)) (u+1)).map (.pick (.m4 .next (G3 σ) p .nil .nil))
 | .call f xs rs=>(qX σ).bind fun ks=>(rest (σ.put o.dst (mU (.sym u) rs)) (u+1)).map (.gV f (G3 σ) xs rs (gH σ) ks)
 | .bA f xs rs=>(qX σ).bind fun ks=>(rest ((jG σ (.au 1 (.sym u))).put o.dst (mU (.au 0 (.sym u)) rs)) (u+1)).map (.fR f (G3 σ) xs rs (gH σ) ks)
 | .dA x xs rs=>(qX σ).bind fun ks=>(rest ((jG σ (.au 1 (.sym u))).put o.dst (mU (.au 0 (.sym u)) rs)) (u+1)).map (.e9 x (G3 σ) xs rs (gH σ) ks)

def DA (P:Program)(ops:Array Oper):List Oper→af→Nat→Jm→Option T
 | [],σ,u,k=>k σ u
 | o :: r,σ,u,k=>match Dx P o σ with
  | some s=>if mz σ o then BU s o σ u fun σ u=>DA P ops r σ u k else none
  | none=>match kx P ops o σ u with
   | some (σ',none)=>DA P ops r σ' u k
   | some (σ',some b)=>(DA P ops r σ' (u+1) k).map (.bind b)
   | none=>none

def sG (P:Program)(ops:Array Oper):List Oper→af→Nat→Option (Option (Nat×af))
 | [],σ,u=>some (some (u,σ))
 | o :: r,σ,u=>match Dx P o σ with
  | some (.dI _)=>some none
  | some (.jR _ _)=>sG P ops r (σ.put o.dst (.e (.sym u) true)) (u+1)
  | some (.next _)=>sG P ops r ((jG σ (.au 1 (.sym u))).put o.dst (.e (.au 0 (.sym u)) false)) (u+1)
  | some (.call _ _ rs)=>sG P ops r (σ.put o.dst (mU (.sym u) rs)) (u+1)
  | some (.dA _ _ rs)=>sG P ops r ((jG σ (.au 1 (.sym u))).put o.dst (mU (.au 0 (.sym u)) rs)) (u+1)
  | some (.bA _ _ rs)=>sG P ops r ((jG σ (.au 1 (.sym u))).put o.dst (mU (.au 0 (.sym u)) rs)) (u+1)
  | none=>match kx P ops o σ u with
   | some (σ',none)=>sG P ops r σ' u
   | some (σ',some _)=>sG P ops r σ' (u+1)
   | none=>none

section
variable {P:Program} {w0:World} {X:gB}

theorem Jy {t e:TypeId}{v:Value}{w:World}(ht:P.underlying t=some (.slice e))(hv:∃ad n c,v=.slice ad n c):∃b,(binOp .eql t v (.slice none 0 0)).run P w=.ok (.bool b) w∧(binOp .neq t v (.slice none 0 0)).run P w=.ok (.bool (!b)) w∧(b=true↔∃n c,v=.slice none n c):=by
 obtain⟨ad,n,c,rfl⟩:=hv
 exact⟨ad.isNone,Lib.run_eql_slice_nil w t e ad n c 0 0 ht,run_neq_slice_nil_any w t e ad n c 0 0 ht,by cases ad <;> simp⟩

theorem MH {w:World}{S:Sets}{v:Value}{d:D}{bs:List Bool}(h:aZ w S v d)(hb:d.isNil=some bs):(∃ad n c,v=.slice ad n c)∧∀b:Bool,(b=true↔∃n c,v=.slice none n c)→b∈bs:=by
 unfold D.isNil at hb
 split at hb
 ·cases hb
  obtain⟨ad,n,c,hv,_⟩:=h.yw
  exact⟨⟨ad,n,c,hv⟩,fun b _=>by cases b <;> simp⟩
 ·cases hb
  rename_i hne
  cases h with
  | nil=>exact absurd rfl hne
  | emp _=>exact absurd rfl hne
  | a_=>exact⟨⟨_,_,_,rfl⟩,fun b hb=>by cases b <;> simp at hb ⊢⟩
 ·cases hb
  cases h
  exact⟨⟨_,_,_,rfl⟩,fun b hb=>by cases b <;> simp at hb ⊢⟩
 ·cases hb
  cases h
  exact⟨⟨_,_,_,rfl⟩,fun b hb=>by cases b <;> simp at hb ⊢⟩
 ·cases hb

theorem lD {w:World}{a:Act}{σ:af}{env:List D}{ρ:cr}(h:bE w0 X w a σ env ρ){cf:bV}{x:E}(hx:σ.hs=some (.store cf x)):G3 σ=x∧σ.obj aO=some (.store cf x)∧∃bs,x.eval env=some (.st bs)∧ck w ρ.S ρ.an bs:=by
 have bW:σ.obj aO=some (.store cf x):=by rw[af.cK,if_pos rfl];exact hx
 obtain⟨bs,h1,h2,_⟩:=h.cn _ _ bW
 exact⟨by simp[G3,hx],bW,bs,h1,h2⟩

def Ux (w0:World)(X:gB)(Q:eV→Prop)(Q':Exit→Act→World→Prop):Prop:=
 ∀(w:World) (a:Act) (σ:af) (env:List D) (ρ:cr) (v:Value) (d:D) (bs:List D),bE w0 X w a σ env ρ→aZ w ρ.S v d→ck w ρ.S ρ.an bs→(∃cf x,σ.obj aO=some (.store cf x))→(∃kd,lX w ρ.S a (gH σ) kd∧Q (.dI d (.st bs) (gH σ) kd))→Q' (.panic [{ v,recovered:=false }]) a w

theorem nc {w:World}{a:Act}{σ:af}{env:List D}{ρ:cr}(h:bE w0 X w a σ env ρ){ks:List E}(hk:qX σ=some ks){YS:List D}{kd:List D}(he:aq YS ks=some kd)(hp:YS <+: env):lX w ρ.S a (gH σ) kd:=by
 obtain⟨ds,bz,hl,hrd⟩:=toEAll_rd (w:=w) (ρ:=ρ) (env:=env) (vs:=(gH σ).map fun s=>a.tmps.getD s undef) hk (by simp) (fun i v s hv hs=>by
  simp only[A0v,A0b] at hv hs
  obtain⟨x,hx,rfl⟩:=hv
  obtain⟨y,hy,rfl⟩:=hs
  rw[hx] at hy
  cases hy
  exact h.tmps x)
 have:=ij hp he
 rw[bz] at this
 cases this
 exact⟨by simpa using hl.symm,fun i s d hs hd=>hrd i _ d (by simp[hs]) hd⟩

theorem C1 {f:FuncId}{o:Oper}{a:Act}{w:World}{c:Operand}{args:Array Operand}{ts:Array TypeId}(dP:bu P f=true)(ho:o.op=.call { callee:=.value c,args:=args,argTypes:=ts })(hc:a.eval c=.func (.func f) #[] #[]) :
  (execOp a.eval o).run P w=.ok (.enter f (args.map a.eval)) w:=by
 unfold bu at dP
 split at dP
 ·rename_i fn hf
  simp only[A0g,Bool.not_eq_true',Option.isSome_iff_ne_none] at dP
  have I8:fn.body.isNone=false:=by
   cases hb:fn.body with
   | none=>exact absurd hb dP.2
   | some _=>rfl
  unfold execOp
  simp only[ho,resolve,hc,Deferred.ofValue,invoke,A0k,A0n,A0e,callFunc,run_program,hf,dP.1,I8,B0f,if_false]
  simp
 ·cases dP

theorem A5 {rd:Option Nat} {nd:Nat} {ops:Array Oper} {o:Oper} {s:Sop} {σ:af} {rest:af→Nat→Option T} {t:T} {env:List D} {Q:eV→Prop} {Q':Exit→Act→World→Prop} {K:Act→World→Prop} {a:Act} {w:World} {ρ:cr}
  (hs:Dx P o σ=some s) (hnd:qv o=true) (hd:∀d,o.dst=some d→d<σ.tmps.length) (ht:BU s o σ env.length rest=some t) (eb:den P t env Q) (hr:bE w0 X w a σ env ρ) (hp:Ux w0 X Q Q')
  (hK:∀(σ':af) (env':List D) (t':T) (a':Act) (w':World) (ρ':cr),env <+: env'→rest σ' env'.length=some t'→den P t' env' Q→bE w0 X w' a' σ' env' ρ'→σ'.tmps.length=σ.tmps.length→σ'.mem.length=σ.mem.length→K a' w') :
  Region.wanted o (yielded ops a.tmps)=true∧o.wpIn (FW rd) nd P a w K Q':=by
 unfold Dx at hs
 split at hs
 ·cases hs
 rename_i hg
 refine⟨by simp[Region.wanted,hg],?_⟩
 have hv:=fun x=>uF (a:=a) hr x
 have tj:∀sv,(σ.put o.dst sv).tmps.length=σ.tmps.length∧(σ.put o.dst sv).mem.length=σ.mem.length:=fun sv=>by cases o.dst <;> simp[af.ep]
 have nil:∀{op:BinOp} {ty yt:TypeId} {x y:Operand} {x':E} {neg:Bool},o.op=.binOp op ty x y yt→(op=.eql∧neg=false∨op=.neq∧neg=true)→(∃e,P.underlying ty=some (.slice e))→Cx y=true→(σ.uG x).toE=some x'→s=.jR x' neg→o.wpIn (FW rd) nd P a w K Q':=by
  intro op ty yt x y x' neg ho hop ⟨e,hu⟩ hy hx hs
  subst hs
  simp only[BU] at ht
  obtain⟨t',ht',rfl⟩:=A0b.1 ht
  obtain⟨d,bs,he,hb,hall⟩:=eb
  obtain⟨d',he',hrd⟩:=SV.toE_rd hx (hv x)
  rw[he] at he'
  cases he'
  obtain⟨hform,hmem⟩:=MH hrd hb
  obtain⟨b,h1,h2,h3⟩:=Jy (P:=P) (w:=w) hu hform
  have K4:a.eval y=.slice none 0 0:=by
   unfold Cx at hy
   split at hy
   ·rfl
   ·cases hy
  have dY:=hall b (hmem b h3)
  have Nf:(eqGuard op ty x y (a.eval x) (.slice none 0 0)).run P w=.ok () w:=by
   obtain⟨ad,n,c,CC⟩:=hform
   rw[CC]
   rcases hop with⟨rfl,_⟩ | ⟨rfl,_⟩ <;> simp[eqGuard]
  refine fN (K:=K) hnd ?_ fun _ _ h=>h
  have hrun:(execOp a.eval o).run P w=.ok (.value (.bool (b != neg))) w:=by
   unfold execOp
   rcases hop with⟨rfl,rfl⟩ | ⟨rfl,rfl⟩
   ·simp only[ho,K4,A0k,Nf,A0e,h1,A0n];simp
   ·simp only[ho,K4,A0k,Nf,A0e,h2,A0n];simp
  rw[hrun]
  have aG:=(hr.env (prefix_append env [.v (.bool (b != neg))])).put (dst:=o.dst) (v:=.bool (b != neg)) (sv:=.e (.sym env.length) true) hd (.e (d:=.v (.bool (b != neg))) (by simp[E.eval]) (.v rfl) fun _=>rfl)
  exact hK _ _ t' _ _ _ (prefix_append env _) (by rw[A0t];exact ht') dY aG (tj _).1 (tj _).2
 split at hs
 ·rename_i x ho
  split at hs
  ·rename_i y cf hx0 hx nK
   cases hs
   simp only[BU] at ht
   obtain⟨ks,hks,rfl⟩:=A0b.1 ht
   obtain⟨d,st,kd,he,hh,Ke,hq⟩:=eb
   obtain⟨d',he',hrd⟩:=SV.toE_rd hx (hv x)
   simp only[E.eval,he',A0d,D.m4] at he
   obtain⟨h1,bW,bs,h2,h3⟩:=lD hr nK
   rw[h1,h2] at hh
   cases hh
   split at he
   case h_2=>cases he
   cases he
   have adM:=hrd
   generalize MN:a.eval x=v at hrd
   cases hrd with
   | fq EK=>
    refine fN (K:=K) hnd ?_ fun _ _ h=>h
    have hrun:(execOp a.eval o).run P w=.halt (.panic (a.eval x)) w:=by
     unfold execOp
     simp only[ho,MN,Instr.panic,goPanic,A0k]
     rfl
    rw[hrun]
    exact hp w a σ env ρ _ _ bs hr adM h3 ⟨cf,_,bW⟩ ⟨kd,nc hr hks Ke (List.prefix_refl _),hq⟩
  ·cases hs
 ·rename_i it ho
  split at hs
  ·rename_i p cf hx0 hx nK
   split at hs
   ·cases hs
   rename_i hro
   cases hs
   simp only[BU] at ht
   obtain⟨t',ht',rfl⟩:=A0b.1 ht
   obtain⟨ys,he,hall⟩:=eb
   obtain⟨dp,Nm,FF⟩:=SV.toE_rd hx (hv it)
   obtain⟨h1,bW,bs,h2,h3⟩:=lD hr nK
   simp only[E.eval,h1,h2,Nm,A0d,D.m4] at he
   obtain⟨v,w',d,bs',hmem,hrun,kE,cL,hK',hos,Ey,hout,hsz,oY⟩:=L9 (P:=P) (ty:=o.type) h3 FF he
   have dY:=hall _ _ hmem
   have c8:(execOp a.eval o).run P w=.ok (.value v) w':=by
    unfold execOp
    simp only[ho,A0k,hrun,A0e,A0n]
   refine fN (K:=K) hnd ?_ fun _ _ h=>h
   rw[c8]
   have hpre:=prefix_append env [.aM [d,.st bs']]
   have bQ:(E.sym env.length).eval (env++[.aM [d,.st bs']])=some (.aM [d,.st bs']):=by simp[E.eval]
   have aG:=(hr.env hpre).eI (x':=.au 1 (.sym env.length)) bW (by simpa using hro) (by simp only[E.eval] at bQ ⊢;rw[bQ];rfl) cL hK' (Sets.le_refl _) hos Ey hout (by omega) (fun b _ hb=>oY b hb) (fun b hb=>⟨.inl hb,by rw[hsz];exact eC hr bW b hb⟩) (fun b o hs=>.inl hs) (fun b o hs=>by rw[hsz];exact hr.cells b o hs)
   have iX:jG σ (.au 1 (.sym env.length))=σ.setObj aO (some (.store cf (.au 1 (.sym env.length)))):=by unfold jG;rw[nK]
   refine hK _ _ t' _ _ _ hpre (by rw[A0t];exact ht') dY (iX ▸ aG.put (dst:=o.dst) (by rw[af.aA];exact hd) (.e (d:=d) (by simp only[E.eval] at bQ ⊢;rw[bQ];rfl) kE (by simp))) ?_ ?_
   ·rw[iX];cases o.dst <;> simp[af.ep,af.aA]
   ·rw[iX];cases o.dst <;> simp[af.ep,af.ei]
  ·cases hs
 ·rename_i ty x y yt ho
  split at hs
  ·rename_i e hu
   split at hs
   ·rename_i hy
    obtain⟨x',hx,rfl⟩:=A0b.1 hs
    exact nil ho (.inl ⟨rfl,rfl⟩) ⟨e,hu⟩ hy hx rfl
   ·cases hs
  ·cases hs
 ·rename_i ty x y yt ho
  split at hs
  ·rename_i e hu
   split at hs
   ·rename_i hy
    obtain⟨x',hx,rfl⟩:=A0b.1 hs
    exact nil ho (.inr ⟨rfl,rfl⟩) ⟨e,hu⟩ hy hx rfl
   ·cases hs
  ·cases hs
 ·rename_i c ho
  obtain⟨callee,args,ts⟩:=c
  simp only at hs
  split at hs
  ·rename_i c
   split at hs
   ·rename_i f cf hE Tw nK
    split at hs
    ·split at hs
     ·rename_i fn xs hfn hxs
      split at hs
      ·rename_i rs jE
       split at hs
       ·cases hs
       ·rename_i dP
        have dP:bu P f=true:=by simpa using dP
        obtain⟨h1,bW,bs,h2,h3⟩:=lD hr nK
        have hc:a.eval c=.func (.func f) #[] #[]:=by
         have:=hv c
         rw[Tw] at this
         obtain⟨vs,he,hl',_⟩:=this.lS
         rw[he]
         have:vs=#[]:=by simpa using hl'
         rw[this]
        have hrun:=C1 (w:=w) dP ho hc
        obtain⟨ds',kW,eM,hrd⟩:=toEAll_rd (w:=w) (ρ:=ρ) (vs:=(args.map a.eval).toList) hxs (by simp) (fun i v s fQ hs'=>by
         simp only[Array.toList_map,A0v,A0b] at fQ hs'
         obtain⟨x,hx',rfl⟩:=fQ
         obtain⟨y,hy',rfl⟩:=hs'
         rw[hx'] at hy'
         cases hy'
         exact hv x)
        split at hs
        ·split at hs
         ·cases hs
         ·rename_i hro
          cases hs
          simp only[BU] at ht
          obtain⟨ks,hks,ht⟩:=A0c.1 ht
          obtain⟨t',ht',rfl⟩:=A0b.1 ht
          obtain⟨st,ds,oo,h',rQ,bz,hspec,J8⟩:=eb
          rw[h1,h2] at rQ
          cases rQ
          rw[bz] at kW
          cases kW
          refine fN (K:=K) hnd ?_ fun _ _ h=>h
          rw[hrun]
          refine⟨fun e=>(by cases e),callsIn_wide.2 ?_⟩
          refine(hspec w ρ.S ρ.an bs (args.map a.eval) rfl h3 (hr.ju bW) (eC hr bW) hr.cells (by simpa using eM) (fun i v x hv hx'=>hrd i v x (by simpa using hv) hx')).mono ?_
          rintro e w' ⟨v,S',bf,bs',c_,rfl,cL,hk,hS,hos,Ey,hout,hsz,oY,hf',Bs,CL⟩
          cases oo with
          | ret d=>
           obtain⟨rfl,kE⟩:=c_
           have hpre:=prefix_append env [.aM [d,.st bs']]
           have bQ:(E.sym env.length).eval (env++[.aM [d,.st bs']])=some (.aM [d,.st bs']):=by simp[E.eval]
           have aG:=(hr.env hpre).eI (x':=.au 1 (.sym env.length)) bW (by simpa using hro) (by simp only[E.eval] at bQ ⊢;rw[bQ];rfl) cL hk hS hos Ey hout hsz oY hf' Bs CL
           have iX:jG σ (.au 1 (.sym env.length))=σ.setObj aO (some (.store cf (.au 1 (.sym env.length)))):=by unfold jG;rw[nK]
           refine hK _ _ t' _ _ _ hpre (by rw[A0t];exact ht') J8.2 (iX ▸ aG.put (dst:=o.dst) (by rw[af.aA];exact hd) (iF (by simp only[E.eval] at bQ ⊢;rw[bQ];rfl) kE J8.1)) ?_ ?_
           ·rw[iX];cases o.dst <;> simp[af.ep,af.aA]
           ·rw[iX];cases o.dst <;> simp[af.ep,af.ei]
          | dI d=>
           obtain⟨rfl,kE⟩:=c_
           have aG:=(hr.env (prefix_append env [.st bs'])).eI (x':=.sym env.length) bW (by simpa using hro) (by simp[E.eval]) cL hk hS hos Ey hout hsz oY hf' Bs CL
           obtain⟨kd,Ke,hq⟩:=J8
           have Nb:gH (σ.setObj aO (some (.store cf (.sym env.length))))=gH σ:=by
            unfold gH
            rw[nK]
            simp[af.d_]
           have hke:qX (σ.setObj aO (some (.store cf (.sym env.length))))=some ks:=by
            unfold qX at hks ⊢
            rw[Nb]
            rw[←hks]
            congr 1
           exact hp w' a _ _ _ v d bs' aG kE cL ⟨cf,_,by rw[af.dQ (.inl rfl),if_pos rfl]⟩ ⟨kd,nc aG hke Ke (prefix_append env _),by rw[Nb];exact hq⟩
        ·cases hs
         simp only[BU] at ht
         obtain⟨ks,hks,ht⟩:=A0c.1 ht
         obtain⟨t',ht',rfl⟩:=A0b.1 ht
         obtain⟨st,ds,oo,rQ,bz,hspec,J8⟩:=eb
         rw[h1,h2] at rQ
         cases rQ
         rw[bz] at kW
         cases kW
         refine fN (K:=K) hnd ?_ fun _ _ h=>h
         rw[hrun]
         refine⟨fun e=>(by cases e),callsIn_wide.2 ?_⟩
         refine(hspec w ρ.S ρ.an bs (args.map a.eval) rfl h3 (hr.ju bW) (eC hr bW) hr.cells (by simpa using eM) (fun i v x hv hx'=>hrd i v x (by simpa using hv) hx')).mono ?_
         rintro e w' ⟨v,S',c_,rS,hs1,FE,jH,Df⟩
         have aG:=hr.behind rS hs1 FE jH Df
         cases oo with
         | ret d=>
          obtain⟨rfl,kE⟩:=c_
          have hpre:=prefix_append env [d]
          exact hK _ _ t' _ _ _ hpre (by rw[A0t];exact ht') J8.2 ((aG.env hpre).put (dst:=o.dst) hd (iF (by simp[E.eval]) kE J8.1)) (tj _).1 (tj _).2
         | dI d=>
          obtain⟨rfl,kE⟩:=c_
          obtain⟨gi,h4,h5,_⟩:=aG.cn _ _ bW
          rw[h2] at h4
          cases h4
          obtain⟨kd,Ke,hq⟩:=J8
          exact hp w' a _ _ _ v d bs aG kE h5 ⟨cf,_,bW⟩ ⟨kd,nc aG hks Ke (List.prefix_refl _),hq⟩
      ·cases hs
     ·cases hs
    ·cases hs
   ·rename_i xe sb cf hE Tw nK
    split at hs
    ·split at hs
     ·rename_i rs xs jE hxs
      split at hs
      ·cases hs
      ·rename_i hro
       cases hs
       obtain⟨h1,bW,bs,h2,h3⟩:=lD hr nK
       have qB:=hv c
       rw[Tw] at qB
       obtain⟨dc,hdc,hrc,_⟩:=qB.gj
       obtain⟨ds',kW,eM,hrd⟩:=toEAll_rd (w:=w) (ρ:=ρ) (vs:=(args.map a.eval).toList) hxs (by simp) (fun i v s fQ hs'=>by
        simp only[Array.toList_map,A0v,A0b] at fQ hs'
        obtain⟨x,hx',rfl⟩:=fQ
        obtain⟨y,hy',rfl⟩:=hs'
        rw[hx'] at hy'
        cases hy'
        exact hv x)
       simp only[BU] at ht
       obtain⟨ks,hks,ht⟩:=A0c.1 ht
       obtain⟨t',ht',rfl⟩:=A0b.1 ht
       obtain⟨f,us,cs,st,ds,oo,h',wV,dP,rQ,bz,hspec,J8⟩:=eb
       rw[hdc] at wV
       cases wV
       rw[h1,h2] at rQ
       cases rQ
       rw[bz] at kW
       cases kW
       generalize hvc:a.eval c=vc at hrc
       cases hrc with
       | @fn _ uv cv _ _ Bp Nq G1 Np=>
       have hrun:(execOp a.eval o).run P w=.ok (.enter f (uv++args.map a.eval++cv)) w:=by
        unfold bu at dP
        split at dP
        ·rename_i fn hf
         simp only[A0g,Bool.not_eq_true',Option.isSome_iff_ne_none] at dP
         have I8:fn.body.isNone=false:=by
          cases hb:fn.body with
          | none=>exact absurd hb dP.2
          | some _=>rfl
         unfold execOp
         simp only[ho,resolve,hvc,Deferred.ofValue,invoke,A0k,A0n,A0e,callFunc,run_program,hf,dP.1,I8,B0f,if_false]
        ·cases dP
       refine fN (K:=K) hnd ?_ fun _ _ h=>h
       rw[hrun]
       refine⟨fun e=>(by cases e),callsIn_wide.2 ?_⟩
       refine(hspec w ρ.S ρ.an bs _ rfl h3 (hr.ju bW) (eC hr bW) hr.cells (by simp at eM;simp[Bp,Nq,eM]) (fun i v x hv hx'=>NG (us:=uv.toList) (vs:=(args.map a.eval).toList) (ws:=cv.toList) (R:=fun v x=>aZ w ρ.S v x) (by simpa using Bp) eM (fun i u x hu hx=>G1 i u x (by simpa using hu) hx) hrd (fun i u x hu hx=>Np i u x (by simpa using hu) hx) i v x (by rw[←Array.toList_append,←Array.toList_append,Array.getElem?_toList];exact hv) hx')).mono ?_
       rintro e w' ⟨v,S',bf,bs',c_,rfl,cL,hk,hS,hos,Ey,hout,hsz,oY,hf',Bs,CL⟩
       cases oo with
       | ret d=>
        obtain⟨rfl,kE⟩:=c_
        have hpre:=prefix_append env [.aM [d,.st bs']]
        have bQ:(E.sym env.length).eval (env++[.aM [d,.st bs']])=some (.aM [d,.st bs']):=by simp[E.eval]
        have aG:=(hr.env hpre).eI (x':=.au 1 (.sym env.length)) bW (by simpa using hro) (by simp only[E.eval] at bQ ⊢;rw[bQ];rfl) cL hk hS hos Ey hout hsz oY hf' Bs CL
        have iX:jG σ (.au 1 (.sym env.length))=σ.setObj aO (some (.store cf (.au 1 (.sym env.length)))):=by unfold jG;rw[nK]
        refine hK _ _ t' _ _ _ hpre (by rw[A0t];exact ht') J8.2 (iX ▸ aG.put (dst:=o.dst) (by rw[af.aA];exact hd) (iF (by simp only[E.eval] at bQ ⊢;rw[bQ];rfl) kE J8.1)) ?_ ?_
        ·rw[iX];cases o.dst <;> simp[af.ep,af.aA]
        ·rw[iX];cases o.dst <;> simp[af.ep,af.ei]
       | dI d=>
        obtain⟨rfl,kE⟩:=c_
        have aG:=(hr.env (prefix_append env [.st bs'])).eI (x':=.sym env.length) bW (by simpa using hro) (by simp[E.eval]) cL hk hS hos Ey hout hsz oY hf' Bs CL
        obtain⟨kd,Ke,hq⟩:=J8
        have Nb:gH (σ.setObj aO (some (.store cf (.sym env.length))))=gH σ:=by
         unfold gH
         rw[nK]
         simp[af.d_]
        have hke:qX (σ.setObj aO (some (.store cf (.sym env.length))))=some ks:=by
         unfold qX at hks ⊢
         rw[Nb]
         rw[←hks]
         congr 1
        exact hp w' a _ _ _ v d bs' aG kE cL ⟨cf,_,by rw[af.dQ (.inl rfl),if_pos rfl]⟩ ⟨kd,nc aG hke Ke (prefix_append env _),by rw[Nb];exact hq⟩
     ·cases hs
    ·cases hs
   ·cases hs
  ·cases hs
 ·cases hs

theorem KC {b:Bind}{t:T}{env:List D}{Q:eV→Prop}(h:den P (.bind b t) env Q):∃d,den P t (env++[d]) Q∧aY P (env++[d]) env.length (some b):=by
 obtain⟨ds,hl,h1,h2⟩:=qE (bs:=[b]) (t:=t) h
 match ds,hl with
 | [d],_=>exact⟨d,h1,h2 0 b rfl⟩

theorem xF {rd:Option Nat} {nd:Nat} {ops:Array Oper} {Q:eV→Prop} {Q':Exit→Act→World→Prop} {k:Jm} (hp:Ux w0 X Q Q') {N:Nat}
  (hsz:∀(j d:Nat),(ops[j]?).bind (fun(o:Oper)=>o.dst)=some d→d<N) :
  ∀{l:List Oper} {σ:af} {t:T} {env:List D} {a:Act} {w:World} {ρ:cr},DA P ops l σ env.length k=some t→den P t env Q→bE w0 X w a σ env ρ→σ.tmps.length=N→σ.mem.length=N →
   (∀(σ':af) (env':List D) (t':T) (a':Act) (w':World) (ρ':cr),env <+: env'→k σ' env'.length=some t'→den P t' env' Q→bE w0 X w' a' σ' env' ρ'→σ'.tmps.length=N→σ'.mem.length=N→Q' .normal a' w')→wpListIn (FW rd) nd P ops Q' l a w
 | [],σ,t,env,a,w,ρ,hs,hd,hr,h1,h2,hQ=>hQ σ env t a w ρ (List.prefix_refl _) hs hd hr h1 h2
 | o :: r,σ,t,env,a,w,ρ,hs,hd,hr,h1,h2,hQ=>by
  simp only[DA] at hs
  have next:∀{σ':af} {env':List D} {t':T} {a':Act} {w':World} {ρ':cr},env <+: env'→DA P ops r σ' env'.length k=some t'→den P t' env' Q→bE w0 X w' a' σ' env' ρ'→σ'.tmps.length=N→σ'.mem.length=N→wpListIn (FW rd) nd P ops Q' r a' w':=by
   intro σ' env' t' a' w' ρ' hpre hs' dY hr' h1' h2'
   exact xF hp hsz hs' dY hr' h1' h2' fun σ2 aW t2 a2 w2 ρ2 PV=>hQ σ2 aW t2 a2 w2 ρ2 (hpre.trans PV)
  split at hs
  ·rename_i s UM
   split at hs
   ·rename_i fu
    obtain⟨hw,hwp⟩:=A5 (ops:=ops) UM (qd fu) (rZ fu) hs hd hr hp (K:=wpListIn (FW rd) nd P ops Q' r) fun σ' env' t' a' w' ρ' hpre hk dY hr' e1 e2=>next hpre hk dY hr' (e1.trans h1) (e2.trans h2)
    unfold wpListIn
    rw[if_pos hw]
    exact hwp
   ·cases hs
  ·have go:∀{σ':af} {b:Option Bind} {env':List D} {t':T},kx P ops o σ env.length=some (σ',b)→env <+: env'→aY P env' env.length b→DA P ops r σ' env'.length k=some t'→den P t' env' Q→wpListIn (FW rd) nd P ops Q' (o :: r) a w:=by
    intro σ' b env' t' hst hpre hb hs' dY
    have hlen:=JA hst
    unfold wpListIn
    rcases vv (hr.env hpre) (by rw[h1,h2]) (List.IsPrefix.length_le hpre) (fun j d X8=>by rw[h1];exact hsz j d X8) hst hb with⟨hw,hok⟩ | ⟨hw,ρ'',aG⟩
    ·rw[if_pos hw]
     refine fN (vw hst) (hok Q') ?_
     rintro a' w' ⟨ρ',aG⟩
     exact next hpre hs' dY aG (hlen.1.trans h1) (hlen.2.trans h2)
    ·rw[if_neg (by rw[hw];simp)]
     refine⟨fun _ _=>trivial,?_⟩
     exact next hpre hs' dY aG (hlen.1.trans h1) (hlen.2.trans h2)
   split at hs
   ·rename_i σ' hst
    exact go hst (List.prefix_refl _) trivial hs hd
   ·rename_i σ' b hst
    obtain⟨t',hs',rfl⟩:=A0b.1 hs
    obtain⟨d,dY,hb⟩:=KC hd
    exact go hst (prefix_append env [d]) hb (by rw[A0t];exact hs') dY
   ·cases hs

/-! ## a region whose order is drawn,with a special operation at pV end -/

theorem Oper.FL {F:Fence}{n:Nat}{o:Oper}{a:Act}{w:World}{K:Act→World→Prop}{Q1 Q2:Exit→Act→World→Prop}(h1:∀c a w,Q1 (.panic c) a w→Q2 (.panic c) a w)(h2:∀a w,Q1 .outgrown a w→Q2 .outgrown a w)(h:o.wpIn F n P a w K Q1):o.wpIn F n P a w K Q2:=by
 unfold Oper.wpIn at *
 refine⟨h.1,?_⟩
 have h:=h.2
 have hl:LetsOut Q1→LetsOut Q2:=fun⟨a,w,h⟩=>⟨a,w,h2 a w h⟩
 generalize(o.semAt F.round a.eval).run P w=r at *
 cases r with
 | ok n w'=>
  cases n <;> simp only[Oper.uponIn] at h ⊢ <;>
   first
    | exact h
    | exact⟨h.1,CallsIn.mono h.2 (fun e w'' he=>by cases e <;> first | exact he | exact h1 _ _ _ he | exact hl he)⟩
    | exact⟨h.1,RowsIn.mono h.2 (fun _ _ he=>he)⟩
    | exact⟨h.1,RoundIn.mono h.2 (fun e w'' he=>by cases e <;> first | exact he | exact h1 _ _ _ he | exact hl he)⟩
 | halt x w'=>cases x <;> simp only[Oper.uponIn] at h ⊢ <;> first | exact h1 _ _ _ h | exact h

def yL (ops:Array Oper):Bool:=
 (List.range (ops.size-1)).all (fun j=>((iH ops.toList []).getD (ops.size-1) 0).testBit j)&&(List.range ops.size).all fun i=>match ops[i]? with
  | some o=>(i==ops.size-1||match o.guard with | some (j,_)=>decide (j<ops.size-1) | none=>true)&&o.after.all fun e=>!Region.binds .any e||decide (e.on<i)
  | none=>false

theorem Dk {ops:Array Oper}{tmps:Array Value}{j:Nat}(hj:j<ops.size-1):yielded ops.pop tmps j=yielded ops tmps j:=by
 unfold yielded
 rw[Array.getElem?_pop]
 simp[hj]

theorem FM {F:Fence}{n:Nat}{ops:Array Oper}{Q:Exit→Act→World→Prop}(h0:0<ops.size)(hl:yL ops=true) :
  ∀(fuel:Nat) (listed:Array Bool) (a:Act) (w:World),listed.size=ops.size-1→gK ops (cP listed) →
   wpAnyIn F n P .any ops.pop (fun e a w=>match e with | .normal=>wpOpIn F n P ops Q (ops.size-1) (Q .normal) a w | e=>Q e a w) fuel listed a w→wpAnyIn F n P .any ops Q (fuel+1) (listed.push false) a w:=by
 simp only[yL,A0g,A0z,List.mem_range] at hl
 obtain⟨tu,hall⟩:=hl
 have nr:∀(i:Nat) (o:Oper),ops[i]? = some o→(i<ops.size-1→∀j b,o.guard=some (j,b)→j<ops.size-1)∧∀e,e∈o.after→Region.binds .any e=true→e.on<i:=by
  intro i o ho
  have:=hall i (A0h.1 ho).1
  rw[ho] at this
  simp only[A0g,Bool.or_eq_true,beq_iff_eq] at this
  refine⟨fun hi j b hg=>?_,fun e he hb=>?_⟩
  ·have h1:=this.1.resolve_left (by omega)
   rw[hg] at h1
   simpa using h1
  ·have:=Array.all_eq_true'.1 this.2 e he
   simpa[hb] using this
 have iY:∀(listed:Array Bool) (j:Nat),listed.size=ops.size-1→j<ops.size-1→∀d,(listed.push false).getD j d=listed.getD j false:=by
  intro listed j hs hj d
  simp only[A0p]
  rw[Array.getElem?_push_lt (by omega)]
  simp[show j<listed.size by omega]
 have RA:∀(listed:Array Bool),listed.size=ops.size-1→∀d,(listed.push false).getD (ops.size-1) d=false:=by
  intro listed hs d
  simp only[A0p,←hs,Array.getElem?_push_size]
  rfl
 have XS:∀i,i<ops.size-1→ops.pop[i]? = ops[i]?:=fun i hi=>by rw[Array.getElem?_pop];simp[hi]
 have step:∀(fuel:Nat) (listed:Array Bool) (a:Act) (w:World),listed.size=ops.size-1→gK ops (cP listed) →
   wpAnyIn F n P .any ops.pop (fun e a w=>match e with | .normal=>wpOpIn F n P ops Q (ops.size-1) (Q .normal) a w | e=>Q e a w) fuel listed a w →
   (∀f,fuel=f+1→∀(listed:Array Bool) (a:Act) (w:World),listed.size=ops.size-1→gK ops (cP listed) →
    wpAnyIn F n P .any ops.pop (fun e a w=>match e with | .normal=>wpOpIn F n P ops Q (ops.size-1) (Q .normal) a w | e=>Q e a w) f listed a w→wpAnyIn F n P .any ops Q (f+1) (listed.push false) a w) →
   wpAnyIn F n P .any ops Q (fuel+1) (listed.push false) a w:=by
  intro fuel listed a w hs dP h ih
  have hgd:∀(j:Nat),j<ops.size-1→listed.getD j true=listed.getD j false:=fun j hj=>by
   simp only[A0p]
   simp[show j<listed.size by omega]
  refine⟨fun kV=>?_,fun i hi=>?_⟩
  ·exfalso
   have hdone:∀j,j<ops.size→(listed.push false).getD j false=true:=by
    intro j
    induction j using Nat.strongRecOn with
    | _ j ihj=>
     intro hj
     refine Classical.byContradiction fun hnd=>?_
     have hmem:j∈Region.ready .any ops (listed.push false):=by
      refine mem_ready.2 ⟨?_,ops[j],A0o hj,fun e he hb=>?_⟩
      ·rcases Nat.lt_or_ge j (ops.size-1) with hlt | hge
       ·rw[iY listed j hs hlt] at hnd ⊢
        simpa using hnd
       ·have:j=ops.size-1:=by omega
        rw[this,RA listed hs]
      ·have:=(nr j ops[j] (A0o hj)).2 e he hb
       exact ihj e.on this (by omega)
     rw[kV] at hmem
     cases hmem
   have:=hdone (ops.size-1) (by omega)
   rw[RA listed hs] at this
   cases this
  ·obtain⟨h1,o,ho,ha⟩:=mem_ready.1 hi
   have hin:=(A0h.1 ho).1
   rcases Nat.lt_or_ge i (ops.size-1) with hlt | hge
   ·have hia:∀e,e∈o.after→Region.binds .any e=true→listed.getD e.on false=true:=fun e he hb=>by
     have h2:=ha e he hb
     have h3:=(nr i o ho).2 e he hb
     rwa [iY listed e.on hs (by omega)] at h2
    have hi':i∈Region.ready .any ops.pop listed:=by
     refine mem_ready.2 ⟨?_,o,by rw[XS i hlt];exact ho,hia⟩
     rw[iY listed i hs hlt] at h1
     rw[hgd i hlt]
     exact h1
    cases fuel with
    | zero=>rw[h.1] at hi';cases hi'
    | succ f=>
     have h2:=h.2 i hi'
     have iX:(listed.push false).setIfInBounds i true=(listed.setIfInBounds i true).push false:=by
      apply Array.ext'
      rw[Array.toList_setIfInBounds,Array.toList_push,Array.toList_push,Array.toList_setIfInBounds,List.set_append_left _ _ (by simpa using(by omega:i<listed.size))]
     have Nr:gK ops (cP (listed.setIfInBounds i true)):=by
      intro k ok hk hok e he hb
      simp only[cP,A0p,Array.getElem?_setIfInBounds] at hk ⊢
      by_cases hki:i=k
      ·subst hki
       rw[ho] at hok
       cases hok
       have:=hia e he hb
       simp only[A0p] at this
       split
       ·rename_i hh;simp[show i<listed.size by omega]
       ·exact this
      ·rw[if_neg hki] at hk
       have:=dP k ok (by simpa[cP,A0p] using hk) hok e he hb
       simp only[cP,A0p] at this
       split
       ·simp[show i<listed.size by omega]
       ·exact this
     have hnext:=ih f rfl
     unfold wpOpIn at h2 ⊢
     rw[XS i hlt,ho] at h2
     rw[ho]
     simp only at h2 ⊢
     have tg:Region.wanted o (yielded ops.pop a.tmps)=Region.wanted o (yielded ops a.tmps):=by
      unfold Region.wanted
      cases hg:o.guard with
      | none=>rfl
      | some g=>
       obtain⟨j,b⟩:=g
       simp only
       rw[Dk ((nr i o ho).1 hlt j b hg)]
     rw[tg] at h2
     have fin:∀a' w',wpAnyIn F n P .any ops.pop (fun e a w=>match e with | .normal=>wpOpIn F n P ops Q (ops.size-1) (Q .normal) a w | e=>Q e a w) f (listed.setIfInBounds i true) a' w'→wpAnyIn F n P .any ops Q (f+1) ((listed.push false).setIfInBounds i true) a' w':=by
      intro a' w' h3
      rw[iX]
      exact hnext _ a' w' (by simp[hs]) Nr h3
     split
     ·rename_i hw
      rw[if_pos hw] at h2
      exact Oper.wpIn_mono fin (Oper.FL (fun _ _ _ h=>h) (fun _ _ h=>h) h2)
     ·rename_i hw
      rw[if_neg hw] at h2
      exact⟨h2.1,fin _ _ h2.2⟩
   ·obtain rfl:i=ops.size-1:=by omega
    have hia:∀e,e∈o.after→Region.binds .any e=true→cP listed e.on=true:=fun e he hb=>by
     have h2:=ha e he hb
     have h3:=(nr _ o ho).2 e he hb
     rwa [iY listed e.on hs h3] at h2
    have hdone:∀j,j<ops.size-1→cP listed j=true:=fun j hj=>rJ dP ho hia (tu j hj)
    have kV:Region.ready .any ops.pop listed=[]:=by
     cases hr:Region.ready .any ops.pop listed with
     | nil=>rfl
     | cons j l=>
      have hmem:j∈Region.ready .any ops.pop listed:=by rw[hr];simp
      obtain⟨h3,o',ho',_⟩:=mem_ready.1 hmem
      have hj:j<ops.size-1:=by simpa using(A0h.1 ho').1
      rw[hgd j hj] at h3
      have:=hdone j hj
      simp only[cP] at this
      rw[this] at h3
      cases h3
    have hq:wpOpIn F n P ops Q (ops.size-1) (Q .normal) a w:=by
     cases fuel with
     | zero=>exact h.2
     | succ f=>exact h.1 kV
    refine wpOpIn_mono (fun a' w' G5=>?_) hq
    have Nz:Region.ready .any ops ((listed.push false).setIfInBounds (ops.size-1) true)=[]:=by
     cases hr:Region.ready .any ops ((listed.push false).setIfInBounds (ops.size-1) true) with
     | nil=>rfl
     | cons j l=>
      have hmem:j∈Region.ready .any ops ((listed.push false).setIfInBounds (ops.size-1) true):=by rw[hr];simp
      obtain⟨h3,o',ho',_⟩:=mem_ready.1 hmem
      have hj:j<ops.size:=(A0h.1 ho').1
      simp only[A0p,Array.getElem?_setIfInBounds] at h3
      split at h3
      ·simp[hs] at h3
      ·rename_i hne
       have hj':j<ops.size-1:=by omega
       have:=hdone j hj'
       have h4:=iY listed j hs hj' true
       simp only[A0p] at h4
       rw[h4] at h3
       simp only[cP,A0p] at this
       rw[this] at h3
       cases h3
    cases fuel with
    | zero=>exact⟨Nz,G5⟩
    | succ f=>exact⟨fun _=>G5,fun j hj=>by rw[Nz] at hj;cases hj⟩
 have hgd:∀(listed:Array Bool) (j:Nat),listed.size=ops.size-1→j<ops.size-1→listed.getD j true=listed.getD j false:=fun listed j hs hj=>by
  simp only[A0p]
  simp[show j<listed.size by omega]
 intro fuel
 induction fuel with
 | zero=>
  intro listed a w hs dP h
  exact step 0 listed a w hs dP h fun f hf=>by omega
 | succ fuel ih=>
  intro listed a w hs dP h
  exact step (fuel+1) listed a w hs dP h fun f hf=>by
   obtain rfl:f=fuel:=by omega
   exact ih

end
end
end

section
noncomputable section

def E.upto (n:Nat):E→Bool
 | .sym k=>decide (k<n)
 | .const _ | .nil | .ai=>true
 | .bin _ _ a b | .idx a b | .qK _ a b | .cons a b | .app _ _ a b | .bP a b | .dO _ a b | .guard a _ b | .ah a b | .mm _ a b | .av _ a b | .ld _ _ a b | .fK _ _ a b | .dR _ _ a b | .cY a b | .qL _ a b | .qM a b=>a.upto n&&b.upto n
 | .un _ a | .conv _ a | .bD a | .fP a | .aV a | .cell _ a | .cells _ _ a | .br _ a | .one a | .au _ a | .rep _ a _ | .deref a | .fq _ a | .dL a | .aD _ a | .nn a | .aC a=>a.upto n
 | .sub _ a b c | .ite a b c | .eY _ a b c | .fC _ _ _ a b c | .apps a b c=>a.upto n&&b.upto n&&c.upto n
 | .set a b _ c=>a.upto n&&b.upto n&&c.upto n
 | .m4 _ a b c d=>a.upto n&&b.upto n&&c.upto n&&d.upto n

theorem E.jY {n : Nat} {env env' : List D} (h : ∀ k, k < n → env[k]? = env'[k]?) : ∀ {x : E}, x.upto n = true → x.eval env = x.eval env' := by
 intro x
 induction x <;> intro hb <;> simp only [E.upto, A0g, decide_eq_true_eq] at hb <;> simp only [E.eval]
 case sym k => exact h k hb
 all_goals first
  | rfl
  | (rename_i ih; rw [ih hb])
  | (rename_i i1 i2; rw [i1 hb.1, i2 hb.2])
  | (rename_i i1 i2 i3; rw [i1 hb.1.1, i2 hb.1.2, i3 hb.2])
  | (rename_i i1 i2 i3 i4; rw [i1 hb.1.1.1, i2 hb.1.1.2, i3 hb.1.2, i4 hb.2])

mutual
def SV.upto (n:Nat):SV→Bool
 | .bS | .addr _ _ | .kF _=>true
 | .e x _ | .av _ x _ _ | .fT x _ | .own x _=>x.upto n
 | .agg cs | .aM cs=>SV.l6 n cs
 | .func _ cs=>SV.l6 n cs
 | .cond act sv=>act.all (fun p=>p.1.upto n)&&sv.upto n
def SV.l6 (n:Nat):List SV→Bool
 | []=>true
 | s :: r=>s.upto n&&SV.l6 n r
end

theorem SV.l5 {n:Nat}:∀{cs:List SV} {i:Nat} {c:SV},SV.l6 n cs=true→cs[i]? = some c→c.upto n=true
 | [],i,c,_,h=>by simp at h
 | s :: r,0,c,h,hi=>by simp[SV.l6] at h hi;exact hi ▸ h.1
 | s :: r,i+1,c,h,hi=>by simp[SV.l6] at h hi;exact SV.l5 h.2 hi

theorem cu.cut {w:World}{ρ:cr}{n:Nat}{env env':List D}{v:Value}{sv:SV}(h:cu w ρ env v sv)(he:∀k,k<n→env[k]? = env'[k]?)(hb:sv.upto n=true):cu w ρ env' v sv:=by
 induction h with
 | bS=>exact .bS
 | e hx h h1=>exact .e ((E.jY he (by simpa[SV.upto] using hb)) ▸ hx) h h1
 | agg hl ho _ ih=>exact .agg hl ho fun i v c hv hc=>ih i v c hv hc (SV.l5 (by simpa[SV.upto] using hb) hc)
 | aM hl _ ih=>exact .aM hl fun i v c hv hc=>ih i v c hv hc (SV.l5 (by simpa[SV.upto] using hb) hc)
 | addr=>exact .addr
 | av hx=>exact .av ((E.jY he (by simpa[SV.upto] using hb)) ▸ hx)
 | fT hx h=>exact .fT ((E.jY he (by simpa[SV.upto] using hb)) ▸ hx) h
 | own hx h hv=>exact .own ((E.jY he (by simpa[SV.upto] using hb)) ▸ hx) h hv
 | kF=>exact .kF
 | func hl _ ih=>exact .func hl fun i v c hv hc=>ih i v c hv hc (SV.l5 (by simpa[SV.upto] using hb) hc)
 | @cond v act sv hd _ hn ih=>
  simp only[SV.upto,A0g,A0z] at hb
  have bz:∀p,p∈act→p.1.eval env=p.1.eval env':=fun p hp=>E.jY he (hb.1 p hp)
  have hact:aQ env act↔aQ env' act:=⟨fun h p hp=>(bz p hp) ▸ h p hp,fun h p hp=>(bz p hp).symm ▸ h p hp⟩
  exact .cond (fun p hp=>let ⟨d,h⟩:=hd p hp;⟨d,(bz p hp) ▸ h⟩) (fun ha=>ih (hact.2 ha) hb.2) fun ha=>hn fun h=>ha (hact.1 h)

def Bn (base n:Nat):E→Bool
 | .sym k=>decide (k=base+n)
 | _=>false

mutual
def fA (base:Nat):SV→SV→List E→Option (List E)
 | .bS,_,acc=>some acc
 | .e x s,sv,acc=>
  if Bn base acc.length x then(match s,sv with
   | true,.e y true=>some (acc++[y])
   | true,.own y _=>some (acc++[y])
   | false,sv=>sv.toE.map fun y=>acc++[y]
   | _,_=>none)
  else if(SV.e x s).same sv&&x.upto base then some acc else none
 | .own x k,sv,acc=>
  if Bn base acc.length x then(match sv with
   | .own y k'=>if k=k' then some (acc++[y]) else none
   | _=>none)
  else if(SV.own x k).same sv&&x.upto base then some acc else none
 | .agg ts,sv,acc=>match sv with
  | .agg cs=>gX base ts cs acc
  | _=>none
 | .aM ts,sv,acc=>if(SV.aM ts).same sv&&SV.l6 base ts then some acc else none
 | .addr o f,sv,acc=>if(SV.addr o f).same sv then some acc else none
 | .av o x s f,sv,acc=>if(SV.av o x s f).same sv&&x.upto base then some acc else none
 | .fT x f,sv,acc=>if(SV.fT x f).same sv&&x.upto base then some acc else none
 | .kF o,sv,acc=>if(SV.kF o).same sv then some acc else none
 | .func fn ts,sv,acc=>if(SV.func fn ts).same sv&&SV.l6 base ts then some acc else none
 | .cond _ _,_,_=>none
def gX (base:Nat):List SV→List SV→List E→Option (List E)
 | [],[],acc=>some acc
 | t :: ts,s :: ss,acc=>(fA base t s acc).bind fun acc=>gX base ts ss acc
 | _,_,_=>none
end

def m6 (base:Nat):aE→aE→List E→Option (List E)
 | .box ts,.box cs,acc=>gX base ts cs acc
 | .row x sz,.row y sz',acc=>if sz=sz' then(if Bn base acc.length x then some (acc++[y]) else if x.same y&&x.upto base then some acc else none) else none
 | .tok e sz,.tok e' sz',acc=>if e=e'∧sz=sz' then some acc else none
 | .store cf x,.store tP y,acc=>if cf=tP then(if Bn base acc.length x then some (acc++[y]) else if x.same y&&x.upto base then some acc else none) else none
 | _,_,_=>none

def eL (base:Nat):List (Option aE)→List (Option aE)→List E→Option (List E)
 | [],[],acc=>some acc
 | none :: ts,_ :: ss,acc=>eL base ts ss acc
 | some t :: ts,some s :: ss,acc=>(m6 base t s acc).bind fun acc=>eL base ts ss acc
 | _,_,_=>none

def Cd (base:Nat):Option aE→Option aE→List E→Option (List E)
 | none,_,acc=>some acc
 | some t,some s,acc=>m6 base t s acc
 | _,_,_=>none

def Gx (base:Nat)(tm σ:af):Option (List E):=if aO<tm.mem.length then none else
 (gX base tm.tmps σ.tmps []).bind fun acc=>(eL base tm.mem σ.mem acc).bind fun acc=>Cd base tm.hs σ.hs acc

section
variable {w w0:World} {X:gB} {a:Act} {env:List D} {ρ:cr}

theorem lT:∀{l m:List E} {ds:List D},aq env (l++m)=some ds→∃d1 d2,aq env l=some d1∧aq env m=some d2∧ds=d1++d2
 | [],m,ds,h=>⟨[],ds,rfl,h,rfl⟩
 | x :: r,m,ds,h=>by
  simp only[A0q,aq,A0c,A0b] at h
  obtain⟨d,h1,ds',h2,rfl⟩:=h
  obtain⟨d1,d2,h3,h4,rfl⟩:=lT h2
  exact⟨d :: d1,d2,by simp[aq,h1,h3],h4,rfl⟩

theorem p9:∀{l:List E} {ds:List D},aq env l=some ds→ds.length=l.length
 | [],ds,h=>by simp[aq] at h;simp[←h]
 | x :: r,ds,h=>by
  simp only[aq,A0c,A0b] at h
  obtain⟨d,_,ds',h2,rfl⟩:=h
  simp[p9 h2]

abbrev jA (env:List D)(base:Nat)(ds:List D):List D:=env.take base++ds

theorem r6 {base:Nat}{ds:List D}(hb:base≤env.length):∀k,k<base→env[k]? = (jA env base ds)[k]?:=by
 intro k hk
 rw[A0j (by simp;omega),B0c,if_pos hk]

theorem mV {base:Nat}{acc tY:List E}{y x:E}{ds:List D}(hb:base≤env.length)(hx:Bn base acc.length x=true)(hp:acc++[y] <+: tY)(hd:aq env tY=some ds):x.eval (jA env base ds)=y.eval env:=by
 obtain⟨r,rfl⟩:=hp
 obtain⟨d1,d2,h1,_,rfl⟩:=lT hd
 obtain⟨d3,d4,h3,h4,rfl⟩:=lT h1
 simp only[aq,A0c,A0y,A0u] at h4
 obtain⟨d,hy,rfl⟩:=h4
 unfold Bn at hx
 split at hx
 ·simp only[decide_eq_true_eq] at hx
  subst hx
  have hl:=p9 h3
  simp only[E.eval,jA,hy]
  rw[A0l (by simp;omega)]
  simp only[B0s,Nat.min_eq_left hb,Nat.add_sub_cancel_left,B0b]
  rw[←hl]
  simp
 ·cases hx

theorem ga {α:Type}(a b:List α):a <+: a++b:=⟨b,rfl⟩

mutual
theorem DW {base:Nat}:∀{t sv:SV} {acc acc':List E},fA base t sv acc=some acc'→acc <+: acc'
 | .bS,sv,acc,acc',h=>by simp[fA] at h;subst h;exact⟨[],by simp⟩
 | .e x s,sv,acc,acc',h=>by
  simp only[fA] at h
  split at h
  ·split at h
   ·cases h;exact ga _ _
   ·cases h;exact ga _ _
   ·obtain⟨y,_,rfl⟩:=A0b.1 h;exact ga _ _
   ·cases h
  ·split at h
   ·cases h;exact⟨[],by simp⟩
   ·cases h
 | .own x k,sv,acc,acc',h=>by
  simp only[fA] at h
  split at h
  ·split at h
   ·split at h
    ·cases h;exact ga _ _
    ·cases h
   ·cases h
  ·split at h
   ·cases h;exact⟨[],by simp⟩
   ·cases h
 | .agg ts,sv,acc,acc',h=>by
  simp only[fA] at h
  split at h
  ·exact kT h
  ·cases h
 | .aM ts,sv,acc,acc',h | .addr _ _,sv,acc,acc',h | .av _ _ _ _,sv,acc,acc',h | .fT _ _,sv,acc,acc',h | .kF _,sv,acc,acc',h | .func _ _,sv,acc,acc',h=>by
  simp only[fA] at h
  split at h
  ·cases h;exact⟨[],by simp⟩
  ·cases h
 | .cond _ _,sv,acc,acc',h=>by simp[fA] at h
theorem kT {base:Nat}:∀{ts ss:List SV} {acc acc':List E},gX base ts ss acc=some acc'→acc <+: acc'
 | [],[],acc,acc',h=>by simp[gX] at h;subst h;exact⟨[],by simp⟩
 | t :: ts,s :: ss,acc,acc',h=>by
  simp only[gX,A0c] at h
  obtain⟨C9,h1,h2⟩:=h
  exact(DW h1).trans (kT h2)
 | [],_ :: _,_,_,h | _ :: _,[],_,_,h=>by simp[gX] at h
end


theorem cu.mh {base:Nat}{ds:List D}{t sv:SV}{v:Value}(hb:base≤env.length)(h:t.same sv=true)(hu:t.upto base=true)(hr:cu w ρ env v sv):cu w ρ (jA env base ds) v t:=by
 have e:=SV.b_ h
 subst e
 exact hr.cut (r6 hb) hu

mutual
theorem Gw {base:Nat}{tY:List E}{ds:List D}(hb:base≤env.length)(hd:aq env tY=some ds):∀{t sv:SV} {acc acc':List E} {v:Value},fA base t sv acc=some acc'→acc' <+: tY→cu w ρ env v sv→cu w ρ (jA env base ds) v t
 | .bS,sv,acc,acc',v,h,hp,hr=>.bS
 | .e x s,sv,acc,acc',v,h,hp,hr=>by
  simp only[fA] at h
  split at h
  ·rename_i hx
   split at h
   ·cases h
    obtain⟨d,dY,hrd,h1⟩:=hr.gj
    exact .e ((mV hb hx hp hd).trans dY) hrd h1
   ·cases h
    obtain⟨es,dY,hrd,_⟩:=hr.sP
    exact .e ((mV hb hx hp hd).trans dY) hrd fun _=>rfl
   ·obtain⟨y,hy,rfl⟩:=A0b.1 h
    obtain⟨d,dY,hrd⟩:=SV.toE_rd hy hr
    exact .e ((mV hb hx hp hd).trans dY) hrd (by simp)
   ·cases h
  ·split at h
   ·rename_i hc
    simp only[A0g] at hc
    exact hr.mh hb hc.1 (by simpa[SV.upto] using hc.2)
   ·cases h
 | .own x k,sv,acc,acc',v,h,hp,hr=>by
  simp only[fA] at h
  split at h
  ·rename_i hx
   split at h
   ·split at h
    ·rename_i hk
     cases h
     subst hk
     obtain⟨es,dY,hrd,h1⟩:=hr.sP
     exact .own ((mV hb hx hp hd).trans dY) hrd h1
    ·cases h
   ·cases h
  ·split at h
   ·rename_i hc
    simp only[A0g] at hc
    exact hr.mh hb hc.1 (by simpa[SV.upto] using hc.2)
   ·cases h
 | .agg ts,sv,acc,acc',v,h,hp,hr=>by
  simp only[fA] at h
  split at h
  ·obtain⟨vs,rfl,hl,ho,hh⟩:=hr.iT
   obtain⟨hlen,hall⟩:=mq (vs:=vs.toList) hb hd h hp (by simpa using hl) (fun i v c hv hc=>hh i v c (by simpa using hv) hc)
   exact .agg (by rw[hl,hlen]) ho fun i v c hv hc=>hall i v c (by simpa using hv) hc
  ·cases h
 | .aM ts,sv,acc,acc',v,h,hp,hr=>by
  simp only[fA] at h
  split at h
  ·rename_i hc
   simp only[A0g] at hc
   exact hr.mh hb hc.1 (by simpa[SV.upto] using hc.2)
  ·cases h
 | .addr o f,sv,acc,acc',v,h,hp,hr=>by
  simp only[fA] at h
  split at h
  ·rename_i hc
   exact hr.mh hb hc (by simp[SV.upto])
  ·cases h
 | .av o x s f,sv,acc,acc',v,h,hp,hr=>by
  simp only[fA] at h
  split at h
  ·rename_i hc
   simp only[A0g] at hc
   exact hr.mh hb hc.1 (by simpa[SV.upto] using hc.2)
  ·cases h
 | .fT x f,sv,acc,acc',v,h,hp,hr=>by
  simp only[fA] at h
  split at h
  ·rename_i hc
   simp only[A0g] at hc
   exact hr.mh hb hc.1 (by simpa[SV.upto] using hc.2)
  ·cases h
 | .kF o,sv,acc,acc',v,h,hp,hr=>by
  simp only[fA] at h
  split at h
  ·rename_i hc
   exact hr.mh hb hc (by simp[SV.upto])
  ·cases h
 | .func fn ts,sv,acc,acc',v,h,hp,hr=>by
  simp only[fA] at h
  split at h
  ·rename_i hc
   simp only[A0g] at hc
   exact hr.mh hb hc.1 (by simpa[SV.upto] using hc.2)
  ·cases h
 | .cond _ _,sv,acc,acc',v,h,hp,hr=>by simp[fA] at h
theorem mq {base:Nat}{tY:List E}{ds:List D}(hb:base≤env.length)(hd:aq env tY=some ds):∀{ts ss:List SV} {acc acc':List E} {vs:List Value},gX base ts ss acc=some acc'→acc' <+: tY→vs.length=ss.length →
  (∀(i:Nat) (v:Value) (c:SV),vs[i]? = some v→ss[i]? = some c→cu w ρ env v c)→ss.length=ts.length∧∀(i:Nat) (v:Value) (c:SV),vs[i]? = some v→ts[i]? = some c→cu w ρ (jA env base ds) v c
 | [],[],acc,acc',vs,h,hp,hl,hh=>⟨rfl,by simp⟩
 | t :: ts,s :: ss,acc,acc',vs,h,hp,hl,hh=>by
  match vs,hl with
  | v :: vs,hl=>
   simp only[gX,A0c] at h
   obtain⟨C9,h1,h2⟩:=h
   have hr:=Gw hb hd h1 ((kT h2).trans hp) (hh 0 v s rfl rfl)
   obtain⟨hlen,hall⟩:=mq (vs:=vs) hb hd h2 hp (by simpa using hl) (fun i v c hv hc=>hh (i+1) v c (by simpa using hv) (by simpa using hc))
   refine⟨by simp[hlen],fun i v' c hv hc=>?_⟩
   cases i with
   | zero=>simp at hv hc;subst hv hc;exact hr
   | succ i=>exact hall i v' c (by simpa using hv) (by simpa using hc)
 | [],_ :: _,_,_,_,h,_,_,_ | _ :: _,[],_,_,_,h,_,_,_=>by simp[gX] at h
end

theorem sX {base:Nat}{t s:aE}{acc C9:List E}(h1:m6 base t s acc=some C9):acc <+: C9:=by
 unfold m6 at h1
 split at h1
 ·exact kT h1
 ·split at h1
  ·split at h1
   ·cases h1;exact ga _ _
   ·split at h1
    ·cases h1;exact⟨[],by simp⟩
    ·cases h1
  ·cases h1
 ·split at h1
  ·cases h1;exact⟨[],by simp⟩
  ·cases h1
 ·split at h1
  ·split at h1
   ·cases h1;exact ga _ _
   ·split at h1
    ·cases h1;exact⟨[],by simp⟩
    ·cases h1
  ·cases h1
 ·cases h1

theorem ym {base:Nat}{t s:Option aE}{acc C9:List E}(h1:Cd base t s acc=some C9):acc <+: C9:=by
 unfold Cd at h1
 split at h1
 ·cases h1;exact⟨[],by simp⟩
 ·exact sX h1
 ·cases h1

theorem kU {base:Nat}:∀{ts ss:List (Option aE)} {acc acc':List E},eL base ts ss acc=some acc'→acc <+: acc'
 | [],[],acc,acc',h=>by simp[eL] at h;subst h;exact⟨[],by simp⟩
 | none :: ts,_ :: ss,acc,acc',h=>by simp only[eL] at h;exact kU h
 | some t :: ts,some s :: ss,acc,acc',h=>by
  simp only[eL,A0c] at h
  obtain⟨C9,h1,h2⟩:=h
  exact List.IsPrefix.trans (sX h1) (kU h2)
 | some _ :: _,none :: _,_,_,h | [],_ :: _,_,_,h | some _ :: _,[],_,_,h | none :: _,[],_,_,h=>by simp[eL] at h

theorem vC {base o:Nat}{tY:List E}{ds:List D}(hb:base≤env.length)(hd:aq env tY=some ds){t s:aE}{acc acc':List E}(h:m6 base t s acc=some acc')(hp:acc' <+: tY)(hok:fI w ρ env o s) :
  fI w ρ (jA env base ds) o t∧bw ρ o t=bw ρ o s∧t.ro=s.ro:=by
 unfold m6 at h
 split at h
 ·obtain⟨vs,ty,h1,h2,h3,h4,h5⟩:=hok
  obtain⟨hlen,hall⟩:=mq (w:=w) (ρ:=ρ) (vs:=vs.toList) hb hd h hp (by simpa using h2) (fun i v c hv hc=>h4 i v c (by simpa using hv) hc)
  exact⟨⟨vs,ty,h1,by omega,h3,fun i v c hv hc=>hall i v c (by simpa using hv) hc,h5⟩,rfl,rfl⟩
 ·obtain⟨vs,ty,es,h1,h2,h3⟩:=hok
  split at h
  ·rename_i hsz
   subst hsz
   split at h
   ·rename_i hx
    cases h
    exact⟨⟨vs,ty,es,h1,(mV hb hx hp hd).trans h2,h3⟩,rfl,rfl⟩
   ·split at h
    ·rename_i hc
     simp only[A0g] at hc
     cases h
     have e:=E.b_ hc.1
     subst e
     exact⟨⟨vs,ty,es,h1,(E.jY (r6 hb) hc.2) ▸ h2,h3⟩,rfl,rfl⟩
    ·cases h
  ·cases h
 ·split at h
  ·rename_i hc
   obtain⟨rfl,rfl⟩:=hc
   exact⟨hok,rfl,rfl⟩
  ·cases h
 ·obtain⟨bs,h2,h3⟩:=hok
  split at h
  ·rename_i hsz
   subst hsz
   split at h
   ·rename_i hx
    cases h
    exact⟨⟨bs,(mV hb hx hp hd).trans h2,h3⟩,rfl,rfl⟩
   ·split at h
    ·rename_i hc
     simp only[A0g] at hc
     cases h
     have e:=E.b_ hc.1
     subst e
     exact⟨⟨bs,(E.jY (r6 hb) hc.2) ▸ h2,h3⟩,rfl,rfl⟩
    ·cases h
  ·cases h
 ·cases h

theorem pR {base:Nat}{tY:List E}{ds:List D}(hb:base≤env.length)(hd:aq env tY=some ds):∀{ts ss:List (Option aE)} {acc acc':List E} {k:Nat},eL base ts ss acc=some acc'→acc' <+: tY →
  (∀i s,ss[i]? = some (some s)→fI w ρ env (k+i) s)→ss.length=ts.length∧∀i t,ts[i]? = some (some t)→∃s,ss[i]? = some (some s)∧fI w ρ (jA env base ds) (k+i) t∧bw ρ (k+i) t=bw ρ (k+i) s∧t.ro=s.ro
 | [],[],acc,acc',k,h,hp,hok=>⟨rfl,by simp⟩
 | none :: ts,s :: ss,acc,acc',k,h,hp,hok=>by
  simp only[eL] at h
  obtain⟨hl,hall⟩:=pR (k:=k+1) hb hd h hp fun i s' hs=>by
   have:=hok (i+1) s' (by simpa using hs)
   rwa [show k+(i+1)=k+1+i from by omega] at this
  refine⟨by simp[hl],fun i t ht=>?_⟩
  cases i with
  | zero=>simp at ht
  | succ i=>
   obtain⟨s',h1,h2⟩:=hall i t (by simpa using ht)
   rw[show k+(i+1)=k+1+i from by omega]
   exact⟨s',by simpa using h1,h2⟩
 | some t :: ts,some s :: ss,acc,acc',k,h,hp,hok=>by
  simp only[eL,A0c] at h
  obtain⟨C9,h1,h2⟩:=h
  have h0:=vC (w:=w) (ρ:=ρ) (o:=k) hb hd h1 ((kU h2).trans hp) (by simpa using hok 0 s rfl)
  obtain⟨hl,hall⟩:=pR (k:=k+1) hb hd h2 hp fun i s' hs=>by
   have:=hok (i+1) s' (by simpa using hs)
   rwa [show k+(i+1)=k+1+i from by omega] at this
  refine⟨by simp[hl],fun i t' ht=>?_⟩
  cases i with
  | zero=>simp at ht;subst ht;exact⟨s,rfl,h0⟩
  | succ i=>
   obtain⟨s',h3,h4⟩:=hall i t' (by simpa using ht)
   rw[show k+(i+1)=k+1+i from by omega]
   exact⟨s',by simpa using h3,h4⟩
 | some _ :: _,none :: _,_,_,_,h,_,_ | [],_ :: _,_,_,_,h,_,_ | some _ :: _,[],_,_,_,h,_,_ | none :: _,[],_,_,_,h,_,_=>by simp[eL] at h

theorem Gv {base:Nat}{tm σ:af}{args:List E}{ds:List D}(h:bE w0 X w a σ env ρ)(hb:base≤env.length)(hm:Gx base tm σ=some args)(hd:aq env args=some ds):bE w0 X w a tm (jA env base ds) ρ∧σ.tmps.length=tm.tmps.length∧σ.mem.length=tm.mem.length:=by
 unfold Gx at hm
 split at hm
 ·cases hm
 rename_i hlen
 simp only[A0c] at hm
 obtain⟨acc,h1,akE,h2,h2'⟩:=hm
 have hsz:=h.size
 obtain⟨K6,Yo⟩:=mq (w:=w) (ρ:=ρ) (vs:=a.tmps.toList) hb hd h1 ((kU h2).trans (ym h2')) (by simpa using hsz) (fun i v c hv hc=>by
  have:=h.tmps i
  rw[show σ.tmp i=c by simp[af.eH,hc]] at this
  rwa [show a.tmps.getD i undef=v by simpa using congrArg (·.getD undef) hv] at this)
 have agM:σ.mem.length=tm.mem.length:=by
  have go:∀{ts ss:List (Option aE)} {acc acc':List E},eL base ts ss acc=some acc'→ss.length=ts.length:=by
   intro ts
   induction ts with
   | nil=>intro ss acc acc' h;cases ss with | nil=>rfl | cons _ _=>simp[eL] at h
   | cons t ts ih=>
    intro ss acc acc' h
    cases ss with
    | nil=>cases t <;> simp[eL] at h
    | cons s ss=>
     cases t with
     | none=>simp only[eL] at h;simp[ih h]
     | some t=>
      cases s with
      | none=>simp[eL] at h
      | some s=>
       simp only[eL,A0c] at h
       obtain⟨_,_,h⟩:=h
       simp[ih h]
  exact go h2
 obtain⟨pg,EL⟩:=pR (w:=w) (ρ:=ρ) (k:=0) hb hd h2 (ym h2') (fun i s hs=>by
  rw[B0k]
  have hi:=(A0a.1 hs).1
  refine h.cn i s ?_
  simp only[af.cK]
  rw[if_neg (by omega)]
  simp[hs])
 have ea:∀o x,tm.obj o=some x→∃s,σ.obj o=some s∧fI w ρ (jA env base ds) o x∧bw ρ o x=bw ρ o s∧x.ro=s.ro:=by
  intro o x hx
  simp only[af.cK] at hx
  split at hx
  ·rename_i ho
   subst ho
   rw[hx] at h2'
   unfold Cd at h2'
   split at h2'
   ·rename_i e;cases e
   ·rename_i t s e hs
    cases e
    have UM:σ.obj aO=some s:=by rw[af.cK,if_pos rfl];exact hs
    exact⟨s,UM,vC hb hd h2' ⟨[],by simp⟩ (h.cn aO s UM)⟩
   ·cases h2'
  ·rename_i ho
   have hx':tm.mem[o]? = some (some x):=by
    simp only[A0i] at hx
    cases hto:tm.mem[o]? with
    | none=>rw[hto] at hx;cases hx
    | some y=>rw[hto] at hx;simp at hx;rw[hx]
   obtain⟨s,h3,h4,h5⟩:=EL o x hx'
   rw[B0k] at h4 h5
   refine⟨s,?_,h4,h5⟩
   simp only[af.cK]
   rw[if_neg ho]
   simp[h3]
 refine⟨⟨by omega,fun t=>?_,fun o x hx=>(ea o x hx).choose_spec.2.1,?_,?_,h.cells,h.os,h.tape,h.output,h.grown,h.old,h.sub,h.new,h.su,h.hold⟩,K6,pg⟩
 ·simp only[af.eH]
  rw[A0i]
  cases ht:tm.tmps[t]? with
  | none=>exact .bS
  | some c=>
   have S_:t<a.tmps.size:=by have:=(A0a.1 ht).1;omega
   refine Yo t _ c ?_ ht
   simp only[Array.getElem?_toList]
   exact zn S_
 ·intro o o' x x' b h3 h4 h5 h6
  obtain⟨s,hs,_,e,_⟩:=ea o x h3
  obtain⟨s',hs',_,e',_⟩:=ea o' x' h4
  exact h.inj o o' s s' b hs hs' (e ▸ h5) (e' ▸ h6)
 ·intro o x b h3 h4
  obtain⟨s,hs,_,e,er⟩:=ea o x h3
  rw[er]
  exact h.own o s b hs (e ▸ h4)

end
end
end

section
noncomputable section

mutual
def SV.ud (k' k:Nat):SV→SV
 | .own x o=>if o=k' then .own x k else .own x o
 | .agg cs=>.agg (SV.qJ k' k cs)
 | .aM cs=>.aM (SV.qJ k' k cs)
 | .func fn cs=>.func fn (SV.qJ k' k cs)
 | .cond act sv=>.cond act (sv.ud k' k)
 | .bS=>.bS
 | .e x s=>.e x s
 | .fT x f=>.fT x f
 | .addr o f=>.addr o f
 | .av o x s f=>.av o x s f
 | .kF o=>.kF o
def SV.qJ (k' k:Nat):List SV→List SV
 | []=>[]
 | s :: r=>s.ud k' k :: SV.qJ k' k r
end

theorem SV.pO {k' k:Nat}:∀{cs:List SV} {i:Nat} {c:SV},(SV.qJ k' k cs)[i]? = some c→∃c',cs[i]? = some c'∧c=c'.ud k' k
 | [],i,c,h=>by simp[SV.qJ] at h
 | s :: r,0,c,h=>by simp[SV.qJ] at h;exact⟨s,rfl,h.symm⟩
 | s :: r,i+1,c,h=>by
  simp[SV.qJ] at h
  obtain⟨c',h1,h2⟩:=SV.pO h
  exact⟨c',by simpa using h1,h2⟩

theorem SV.gT {k' k:Nat}:∀(cs:List SV),(SV.qJ k' k cs).length=cs.length
 | []=>rfl
 | _ :: r=>by simp[SV.qJ,SV.gT r]

def cr.fZ (ρ:cr)(k' k:Nat):cr:={ ρ with val:=fun x=>if x=k then ρ.val k' else ρ.val x }

theorem cu.ud {w:World}{ρ:cr}{env:List D}{v:Value}{sv:SV}{k' k:Nat}(h:cu w ρ env v sv)(ha:sv.aB k=true):cu w (ρ.fZ k' k) env v (sv.ud k' k):=by
 induction h with
 | bS=>exact .bS
 | e hx h h1=>exact .e hx h h1
 | agg hl ho _ ih=>exact .agg (by rw[SV.gT];exact hl) ho fun i v c hv hc=>by obtain⟨c',h1,rfl⟩:=SV.pO hc;exact ih i v c' hv h1 (SV.dV (by simpa[SV.aB] using ha) h1)
 | aM hl _ ih=>exact .aM (by rw[SV.gT];exact hl) fun i v c hv hc=>by obtain⟨c',h1,rfl⟩:=SV.pO hc;exact ih i v c' hv h1 (SV.dV (by simpa[SV.aB] using ha) h1)
 | @addr o off=>
  have:(.pointer (some ⟨ρ.bh o,off,none⟩):Value)=.pointer (some ⟨(ρ.fZ k' k).bh o,off,none⟩):=rfl
  rw[this];exact .addr
 | @av o size off n x kd hx=>
  have:(.pointer (some ⟨ρ.bh o,n*size+off,none⟩):Value)=.pointer (some ⟨(ρ.fZ k' k).bh o,n*size+off,none⟩):=rfl
  rw[this];exact .av hx
 | fT hx h=>exact .fT hx h
 | @own v x o es hx h hv=>
  have hne:o≠k:=by simpa[SV.aB] using ha
  simp only[SV.ud]
  split
  ·rename_i e;subst e
   exact .own hx h (by simp[cr.fZ,hv])
  ·exact .own hx h (by simp[cr.fZ,hne,hv])
 | @kF o=>
  have hne:o≠k:=by simpa[SV.aB] using ha
  have:ρ.val o=(ρ.fZ k' k).val o:=by simp[cr.fZ,hne]
  rw[this];exact .kF
 | func hl _ ih=>exact .func (by rw[SV.gT];exact hl) fun i v c hv hc=>by obtain⟨c',h1,rfl⟩:=SV.pO hc;exact ih i v c' hv h1 (SV.dV (by simpa[SV.aB] using ha) h1)
 | cond hd _ hn ih=>exact .cond hd (fun hh=>ih hh (by simpa[SV.aB] using ha)) hn

def aE.ud (k' k:Nat):aE→aE
 | .box cs=>.box (SV.qJ k' k cs)
 | x=>x

def af.ud (k' k:Nat)(σ:af)(x:aE):af:={ tmps:=SV.qJ k' k σ.tmps,mem:=((σ.mem.map fun x=>x.map (aE.ud k' k)).set k' none).set k (some x),hs:=σ.hs.map (aE.ud k' k) }

def af.fZ (σ:af)(k' k:Nat):af:=
 if k'=k∨¬k<σ.mem.length∨k=aO∨k'=aO then σ else match(σ.down k).obj k' with
  | some (.tok e s)=>(σ.down k).ud k' k (.tok e s)
  | _=>σ

section
variable {w w0:World} {X:gB} {a:Act} {σ:af} {env:List D} {ρ:cr}

theorem af.wJ {k' k o:Nat}{x y:aE}(hk:k<σ.mem.length)(K7:k≠aO)(Kf:k'≠aO)(h:(σ.ud k' k x).obj o=some y):(o=k∧y=x)∨(o≠k∧o≠k'∧∃z,σ.obj o=some z∧y=z.ud k' k):=by
 simp only[af.cK,af.ud] at h ⊢
 by_cases hH:o=aO
 ·subst hH
  simp only[if_true] at h
  obtain⟨z,hz,rfl⟩:=A0b.1 h
  exact .inr ⟨Ne.symm K7,Ne.symm Kf,z,by simpa using hz,rfl⟩
 rw[if_neg hH] at h
 rw[if_neg hH]
 simp only[A0i,A0x,List.length_set,A0v,List.length_map] at h ⊢
 by_cases h1:k=o
 ·subst h1
  simp[hk] at h
  exact .inl ⟨rfl,h.symm⟩
 ·rw[if_neg h1] at h
  by_cases h2:k'=o
  ·rw[if_pos h2] at h
   split at h <;> simp at h
  ·rw[if_neg h2] at h
   refine .inr ⟨fun e=>h1 e.symm,fun e=>h2 e.symm,?_⟩
   cases ho:σ.mem[o]? with
   | none=>rw[ho] at h;simp at h
   | some z=>
    rw[ho] at h
    cases z with
    | none=>simp at h
    | some z=>simp at h;exact⟨z,rfl,h.symm⟩

theorem af.Pc {k' k:Nat}{x:aE}(t:Nat):(σ.ud k' k x).tmp t=(σ.tmp t).ud k' k:=by
 have go:∀(l:List SV) (t:Nat),(SV.qJ k' k l).getD t .bS=(l.getD t .bS).ud k' k:=by
  intro l
  induction l with
  | nil=>intro t;simp[SV.qJ,SV.ud]
  | cons s r ih=>
   intro t
   cases t with
   | zero=>simp[SV.qJ]
   | succ t=>simpa[SV.qJ] using ih t
 rw[af.eH,af.eH];exact go σ.tmps t

theorem bE.ud (h:bE w0 X w a σ env ρ){k' k:Nat}{e:TypeId}{s:Nat}(hne:k'≠k)(hk:k<σ.mem.length)(K7:k≠aO)(Kf:k'≠aO)(kN:σ.aB k)(ho:σ.obj k'=some (.tok e s)):bE w0 X w a (σ.ud k' k (.tok e s)) env (ρ.fZ k' k):=by
 have jj:∀(o:Nat) (z:aE),o≠k→bw (ρ.fZ k' k) o (z.ud k' k)=bw ρ o z:=by
  intro o z hok
  funext b
  cases z <;> simp[bw,cr.fZ,aE.ud,hok]
 have Nv:bw (ρ.fZ k' k) k (.tok e s)=bw ρ k' (.tok e s):=by funext b;simp[bw,cr.fZ]
 refine⟨by simpa[af.ud,SV.gT] using h.size,fun t=>by rw[af.Pc];exact(h.tmps t).ud (kN.1 t),?_,?_,?_,h.cells,h.os,h.tape,h.output,h.grown,h.old,h.sub,h.new,h.su,h.hold⟩
 ·intro o y hy
  rcases af.wJ hk K7 Kf hy with⟨rfl,rfl⟩ | ⟨h1,h2,z,hz,rfl⟩
  ·obtain⟨n,xs,h3,h4⟩:=h.cn k' _ ho
   exact⟨n,xs,by simpa[cr.fZ] using h3,by simpa[cr.fZ] using h4⟩
  ·have hok:=h.cn o z hz
   cases z with
   | box cs=>
    obtain⟨vs,ty,h3,h4,h5,h6,h7⟩:=hok
    exact⟨vs,ty,h3,by rw[SV.gT];exact h4,h5,fun i v c hv hc=>by obtain⟨c',h8,rfl⟩:=SV.pO hc;exact(h6 i v c' hv h8).ud (SV.dV (by simpa[aE.aB] using kN.2 o _ hz) h8),h7⟩
   | row y sz=>
    obtain⟨vs,ty,es,h3,h4,h5,h6,h7,h8,h9⟩:=hok
    exact⟨vs,ty,es,h3,h4,h5,h6,h7,by simpa[cr.fZ,h1] using h8,h9⟩
   | tok e' sz=>
    obtain⟨n,xs,h3,h4⟩:=hok
    exact⟨n,xs,by simpa[cr.fZ,h1] using h3,by simpa[cr.fZ,h1] using h4⟩
   | store cf x=>exact hok
 ·intro o o' y y' b h1 h2 h3 h4
  rcases af.wJ hk K7 Kf h1 with⟨rfl,rfl⟩ | ⟨e1,e2,z,hz,rfl⟩ <;> rcases af.wJ hk K7 Kf h2 with⟨rfl,rfl⟩ | ⟨e3,e4,z',Rh,rfl⟩
  ·rfl
  ·rw[Nv] at h3
   rw[jj o' z' e3] at h4
   exact absurd (h.inj k' o' _ z' b ho Rh h3 h4).symm e4
  ·rw[Nv] at h4
   rw[jj o z e1] at h3
   exact absurd (h.inj o k' z _ b hz ho h3 h4) e2
  ·rw[jj o z e1] at h3
   rw[jj o' z' e3] at h4
   exact h.inj o o' z z' b hz Rh h3 h4
 ·intro o y b h1 h2
  rcases af.wJ hk K7 Kf h1 with⟨rfl,rfl⟩ | ⟨e1,e2,z,hz,rfl⟩
  ·rw[Nv] at h2
   exact h.own k' _ b ho h2
  ·rw[jj o z e1] at h2
   (have:=h.own o z b hz h2;cases z <;> simpa[aE.ud,aE.ro] using this)

theorem bE.fZ (h:bE w0 X w a σ env ρ)(k' k:Nat):∃ρ',bE w0 X w a (σ.fZ k' k) env ρ':=by
 unfold af.fZ
 split
 ·exact⟨ρ,h⟩
 ·rename_i hc
  simp only[not_or,Decidable.not_not] at hc
  split
  ·rename_i e s ho
   exact⟨_,(h.down k).ud hc.1 (by rw[(σ.tL k).2];exact hc.2.1) hc.2.2.1 hc.2.2.2 (σ.g_ k) ho⟩
  ·exact⟨ρ,h⟩

theorem af.JE (σ:af)(k' k:Nat):(σ.fZ k' k).tmps.length=σ.tmps.length∧(σ.fZ k' k).mem.length=σ.mem.length:=by
 unfold af.fZ
 split
 ·exact⟨rfl,rfl⟩
 ·split
  ·simp[af.ud,SV.gT,(σ.tL k).1,(σ.tL k).2]
  ·exact⟨rfl,rfl⟩

end
end
end
end Go.Am
